/-
  'gantletlaw21.XmJumps' holds: whatever its argument, the call returns true and the argument reads behind it as it did. No further condition.
-/
import Derived.Test.YtihfbhoodofhoaaGreatRows
import Derived.Test.YtihfbhoodofhoaaGreatC18
set_option linter.unusedSimpArgs false
set_option linter.unusedVariables false
set_option linter.unusedVariables false
namespace Go.Proofs.YtihfbhoodofhoaaGreat.xmJumps
open Go.ChangeShapes Go.WideShapes Go.ChangeAt Go.RowKit Go.Ev Go.Rv

theorem own : ownKnob Tryz.prog.godebug = none := by kernel_rfl
theorem shaped : argK Tryz.prog 9 35 = some shapesQ := by kernel_rfl
theorem roomy : roomK Tryz.prog 9 35 = true := by kernel_rfl
theorem structA : isStructT Tryz.prog 35 = true := by kernel_rfl
theorem bool4 : Tryz.prog.underlying 4 = some .bool := by kernel_rfl
theorem laid : laidOutB Tryz.prog = true := by kernel_rfl
theorem readable : Tryz.prog.readableRec 35 = true := by kernel_rfl
theorem inTypes : 35 < Tryz.prog.types.size := of_decide_eq_true (by kernel_rfl)

attribute [local irreducible] evalF in
theorem goes (al : List AD) (h : adsIs shapesQ al) (hz : adsSmall al) (hs : adsStr al) : ∃ l, (evalF EOp Tryz.prog 14 [.agg (svs al 0)] (heapOf al 0) base).bare = .ret (.bool l true) [] := by
  obtain ⟨k, p, F, e1, e2, hk, hp⟩ := ask_qa al h hz hs
  rw [e1, e2]
  exact ⟨_, lawOp14 F hk hp⟩

set_option maxRecDepth 100000 in
attribute [local irreducible] evalF in
theorem lifted (os : Os) (started : os.Started) (H : Type) (enc : TypeId × Value → H) :
    ReturnsInHanded {} Tryz.checked os 14 .any (Rows.xmJumpsSpec.pre6 enc Tryz.prog Tryz.f14 Rows.xmJumpsRow.domain false) (Rows.xmJumpsSpec.post enc Tryz.prog Tryz.f14 false true false false) := by
  refine returnsInHanded_of_change_sized (C := Tryz.checked) own started (by kernel_rfl) fnOp14
    (ChangeSpec.witness6 (enc := enc) (C := Tryz.checked) false ⟨#[], #[.agg #[.slice none 0 0, .slice none 0 0, .slice none 0 0, .slice none 0 0, .slice none 0 0, .slice none 0 0, .int .i64 0, .slice none 0 0, .int .i64 0, .bool false, .int .i64 0]], []⟩ 8 (by kernel_rfl) (by kernel_rfl) (by kernel_rfl) (by kernel_rfl)) ?_
  intro W base args ds gs before hval hW _ hz _
  obtain ⟨p, q, hA, hV, rfl, hfz, hnd⟩ := id hW
  have hA : DataW.TrodAll enc Tryz.prog W 0 (fun _ => true) true [35] args.toList ds p := hA
  obtain ⟨v, d, rfl, rfl, htrod⟩ := trodAll_one hA
  have hz : (d.weights Tryz.prog 35).all (· ≤ reachBytes) = true := weightsEach_all hz 0 35 d rfl rfl
  refine (law_runsS eop_calls mixed fnOp14 bOp14 loopsOp14 structA shaped roomy (by decide) goes (hval 0 35 v rfl rfl) htrod hz).mono fun e W' ⟨he, hb⟩ => ⟨_, he, ?_⟩
  exact law_post (t := 35) (rb := 4) rfl rfl bool4 rfl (fun _ => rfl) laid readable inTypes hW hb

set_option maxRecDepth 100000 in
theorem holds : Rows.XmJumpsSaid :=
  OpenClaim.holds_of_wide 14 Tryz.f14 rfl rfl rfl rfl rfl rfl rfl ⟨rfl, rfl, rfl, rfl, rfl⟩ rfl rfl rfl rfl rfl (by kernel_rfl) fnOp14 (by kernel_rfl)
    (of_decide_eq_true (by kernel_rfl)) (by unfold Func.isWrapper; first | (rw [if_pos (by decide +kernel)]; kernel_rfl) | (rw [if_neg (by decide +kernel)]; exact ⟨rfl, rfl⟩))
    (fun os started H enc _ => lifted os started H enc)

end Go.Proofs.YtihfbhoodofhoaaGreat.xmJumps
