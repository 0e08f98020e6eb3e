/-
  'gantletlaw19.RvmRuns' holds: whatever its argument, the call returns true and the argument reads behind it as it did. No further condition.
-/
import Derived.Test.YtngponflocmgiaaRows
import Derived.Test.YtngponflocmgiaaC21
set_option linter.unusedSimpArgs false
set_option linter.unusedVariables false
set_option linter.unusedVariables false
namespace Go.Proofs.Ytngponflocmgiaa.rvmRuns
open Go.ChangeShapes Go.WideShapes Go.ChangeAt Go.RowKit Go.Ev Go.Rv

theorem own : ownKnob Try.prog.godebug = none := by kernel_rfl
theorem shaped : argK Try.prog 9 29 = some shapesR := by kernel_rfl
theorem roomy : roomK Try.prog 9 29 = true := by kernel_rfl
theorem structA : isStructT Try.prog 29 = true := by kernel_rfl
theorem bool4 : Try.prog.underlying 4 = some .bool := by kernel_rfl
theorem laid : laidOutB Try.prog = true := by kernel_rfl
theorem readable : Try.prog.readableRec 29 = true := by kernel_rfl
theorem inTypes : 29 < Try.prog.types.size := of_decide_eq_true (by kernel_rfl)

attribute [local irreducible] evalF in
theorem goes (al : List AD) (h : adsIs shapesR al) (hz : adsSmall al) : ∃ l, (evalF E4R Try.prog 4 [.agg (svs al 0)] (heapOf al 0) base).bare = .ret (.bool l true) [] := by
  obtain ⟨p, e1, e2, hp⟩ := ask_pa al h hz
  rw [e1, e2]
  exact ⟨_, law4R hp⟩

set_option maxRecDepth 100000 in
attribute [local irreducible] evalF in
theorem lifted (os : Os) (started : os.Started) (H : Type) (enc : TypeId × Value → H) :
    ReturnsInHanded {} Try.checked os 4 .any (Rows.rvmRunsSpec.pre6 enc Try.prog Try.f4 Rows.rvmRunsRow.domain false) (Rows.rvmRunsSpec.post enc Try.prog Try.f4 false true false false) := by
  refine returnsInHanded_of_change_sized (C := Try.checked) own started (by kernel_rfl) fn4R
    (ChangeSpec.witness6 (enc := enc) (C := Try.checked) false ⟨#[], #[.agg #[.slice none 0 0, .slice none 0 0, .slice none 0 0, .slice none 0 0, .int .i64 0, .slice none 0 0, .int .i64 0, .bool false]], []⟩ 8 (by kernel_rfl) (by kernel_rfl) (by kernel_rfl) (by kernel_rfl)) ?_
  intro W base args ds gs before hval hW _ hz _
  obtain ⟨p, q, hA, hV, rfl, hfz, hnd⟩ := id hW
  have hA : DataW.TrodAll enc Try.prog W 0 (fun _ => true) true [29] args.toList ds p := hA
  obtain ⟨v, d, rfl, rfl, htrod⟩ := trodAll_one hA
  have hz : (d.weights Try.prog 29).all (· ≤ reachBytes) = true := weightsEach_all hz 0 29 d rfl rfl
  refine (law_runsZ e4r_calls mixed fn4R b4R loops4R structA shaped roomy (by decide) goes (hval 0 29 v rfl rfl) htrod hz).mono fun e W' ⟨he, hb⟩ => ⟨_, he, ?_⟩
  exact law_post (t := 29) (rb := 4) rfl rfl bool4 rfl (fun _ => rfl) laid readable inTypes hW hb

set_option maxRecDepth 100000 in
theorem holds : Rows.RvmRunsSaid :=
  OpenClaim.holds_of_wide 4 Try.f4 rfl rfl rfl rfl rfl rfl rfl ⟨rfl, rfl, rfl, rfl, rfl⟩ rfl rfl rfl rfl rfl (by kernel_rfl) fn4R (by kernel_rfl)
    (of_decide_eq_true (by kernel_rfl)) (by unfold Func.isWrapper; first | (rw [if_pos (by decide +kernel)]; kernel_rfl) | (rw [if_neg (by decide +kernel)]; exact ⟨rfl, rfl⟩))
    (fun os started H enc _ => lifted os started H enc)

end Go.Proofs.Ytngponflocmgiaa.rvmRuns
