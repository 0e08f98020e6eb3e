/-
  'gantletlaw22.LayoutWays' holds: whatever its argument, the call returns true and the argument reads behind it as it did. No further condition.
-/
import Derived.Test.YtidihpmjndfbgaaRows
import Derived.Test.YtidihpmjndfbgaaC18
set_option linter.unusedSimpArgs false
set_option linter.unusedVariables false
set_option linter.unusedVariables false
namespace Go.Proofs.Ytidihpmjndfbgaa.layoutWays
open Go.ChangeShapes Go.WideShapes Go.ChangeAt Go.RowKit Go.Ev Go.La

theorem own : ownKnob Try.prog.godebug = none := by kernel_rfl
theorem shaped : argK Try.prog 9 24 = some shapesA := by kernel_rfl
theorem roomy : roomK Try.prog 9 24 = true := by kernel_rfl
theorem structA : isStructT Try.prog 24 = true := by kernel_rfl
theorem bool4 : Try.prog.underlying 4 = some .bool := by kernel_rfl
theorem laid : laidOutB Try.prog = true := by kernel_rfl
theorem readable : Try.prog.readableRec 24 = true := by kernel_rfl
theorem inTypes : 24 < Try.prog.types.size := of_decide_eq_true (by kernel_rfl)

attribute [local irreducible] evalF in
theorem goes (al : List AD) (h : adsIs shapesA al) (hz : adsSmall al) : ∃ E, CallsOk E Try.prog ∧ LoopsOk E Try.prog Try.f7 (bodyOf Try.f7) 0 ∧ ∃ l, (evalF E Try.prog 7 [.agg (svs al 0)] (heapOf al 0) base).bare = .ret (.bool l true) [] := by
  obtain ⟨x, q, e1, e2, hx⟩ := ask_it al h hz
  rw [e1, e2]
  exact law7 x q hx

set_option maxRecDepth 100000 in
attribute [local irreducible] evalF in
theorem lifted (os : Os) (started : os.Started) (H : Type) (enc : TypeId × Value → H) :
    ReturnsInHanded {} Try.checked os 7 .any (Rows.layoutWaysSpec.pre6 enc Try.prog Try.f7 Rows.layoutWaysRow.domain false) (Rows.layoutWaysSpec.post enc Try.prog Try.f7 false true false false) := by
  refine returnsInHanded_of_change_sized (C := Try.checked) own started (by kernel_rfl) fn7
    (ChangeSpec.witness6 (enc := enc) (C := Try.checked) false ⟨#[], #[.agg #[.int .i64 0, .slice none 0 0]], []⟩ 8 (by kernel_rfl) (by kernel_rfl) (by kernel_rfl) (by kernel_rfl)) ?_
  intro W base args ds gs before hval hW _ hz _
  obtain ⟨p, q, hA, hV, rfl, hfz, hnd⟩ := id hW
  have hA : DataW.TrodAll enc Try.prog W 0 (fun _ => true) true [24] args.toList ds p := hA
  obtain ⟨v, d, rfl, rfl, htrod⟩ := trodAll_one hA
  have hz : (d.weights Try.prog 24).all (· ≤ reachBytes) = true := weightsEach_all hz 0 24 d rfl rfl
  refine (law_runsE mixed fn7 b7 structA shaped roomy (by decide) goes (hval 0 24 v rfl rfl) htrod hz).mono fun e W' ⟨he, hb⟩ => ⟨_, he, ?_⟩
  exact law_post (t := 24) (rb := 4) rfl rfl bool4 rfl (fun _ => rfl) laid readable inTypes hW hb

set_option maxRecDepth 100000 in
theorem holds : Rows.LayoutWaysSaid :=
  OpenClaim.holds_of_wide 7 Try.f7 rfl rfl rfl rfl rfl rfl rfl ⟨rfl, rfl, rfl, rfl, rfl⟩ rfl rfl rfl rfl rfl (by kernel_rfl) fn7 (by kernel_rfl)
    (of_decide_eq_true (by kernel_rfl)) (by unfold Func.isWrapper; first | (rw [if_pos (by decide +kernel)]; kernel_rfl) | (rw [if_neg (by decide +kernel)]; exact ⟨rfl, rfl⟩))
    (fun os started H enc _ => lifted os started H enc)

end Go.Proofs.Ytidihpmjndfbgaa.layoutWays
