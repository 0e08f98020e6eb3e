/-
  'gantletlaw20.X86Forms' holds: whatever its argument, the call returns true and the argument reads behind it as it did. No further condition.
-/
import Derived.Test.YtdmhlhggkldnoaaRows
import Derived.Test.YtdmhlhggkldnoaaC12
import Derived.Test.YtdmhlhggkldnoaaB13
set_option linter.unusedSimpArgs false
set_option linter.unusedVariables false
set_option linter.unusedVariables false
namespace Go.Proofs.Ytdmhlhggkldnoaa.x86Forms
open Go.ChangeShapes Go.WideShapes Go.ChangeAt Go.RowKit Go.Ev Go.X

theorem own : ownKnob Try.prog.godebug = none := by kernel_rfl

def shapes : List AK := [.slice [.int .i64, .int .i64, .int .i64, .int .i64, .int .i64], .slice [.str]]
theorem shaped : argK Try.prog 9 25 = some shapes := by kernel_rfl
theorem struct25 : isStructT Try.prog 25 = true := by kernel_rfl
theorem bool4 : Try.prog.underlying 4 = some .bool := by kernel_rfl
theorem laid : laidOutB Try.prog = true := by kernel_rfl
theorem readable : Try.prog.readableRec 25 = true := by kernel_rfl
theorem inTypes : 25 < Try.prog.types.size := of_decide_eq_true (by kernel_rfl)

attribute [local irreducible] evalF in
theorem goes (al : List AD) (h : adsIs shapes al) : ∃ l, (evalF E5L Try.prog 5 [.agg (svs al 0)] (heapOf al 0) base).bare = .ret (.bool l true) [] := by
  unfold shapes at h
  obtain ⟨a0, al, rfl, h0, h⟩ := adsIs_cons h
  obtain ⟨a1, al, rfl, h1, h⟩ := adsIs_cons h
  obtain rfl := adsIs_nil h
  obtain ⟨nL, cols, rfl, _, hc⟩ := adIs_slice h0
  obtain ⟨c0, cols, rfl, _, hc⟩ := colsIs_int hc
  obtain ⟨c1, cols, rfl, _, hc⟩ := colsIs_int hc
  obtain ⟨c2, cols, rfl, _, hc⟩ := colsIs_int hc
  obtain ⟨c3, cols, rfl, _, hc⟩ := colsIs_int hc
  obtain ⟨c4, cols, rfl, h4, hc⟩ := colsIs_int hc
  obtain rfl := colsIs_nil hc
  obtain ⟨nS, cols, rfl, hS, hc⟩ := adIs_slice h1
  obtain ⟨cs, cols, rfl, _, hc⟩ := colsIs_str hc
  obtain rfl := colsIs_nil hc
  refine ⟨false, ?_⟩
  have := t5 nL nS c0 c1 c2 c3 c4 cs
  have hg : cm .geq (nL : Int) 0 = true := by rw [cm_geq']; exact decide_eq_true (by omega)
  simp only [Nat.beq_refl, cond_true, hg] at this
  exact this

set_option maxRecDepth 100000 in
attribute [local irreducible] evalF in
theorem lifted (os : Os) (started : os.Started) (H : Type) (enc : TypeId × Value → H) :
    ReturnsInHanded {} Try.checked os 5 .any (Rows.x86FormsSpec.pre6 enc Try.prog Try.f5 Rows.x86FormsRow.domain false) (Rows.x86FormsSpec.post enc Try.prog Try.f5 false true false false) := by
  refine returnsInHanded_of_change (C := Try.checked) own started (by kernel_rfl) fn5
    (ChangeSpec.witness6 (enc := enc) (C := Try.checked) false ⟨#[], #[.agg #[.slice none 0 0, .slice none 0 0]], []⟩ 8 (by kernel_rfl) (by kernel_rfl) (by kernel_rfl) (by kernel_rfl)) ?_
  intro W base args ds gs before hval hW _ _
  obtain ⟨p, q, hA, hV, rfl, hfz, hnd⟩ := id hW
  have hA : DataW.TrodAll enc Try.prog W 0 (fun _ => true) true [25] args.toList ds p := hA
  obtain ⟨v, d, rfl, rfl, htrod⟩ := trodAll_one hA
  refine (law_runs e5l_calls mixed fn5 b5 loops5 struct25 shaped (by decide) goes (hval 0 25 v rfl rfl) htrod).mono fun e W' ⟨he, hb⟩ => ⟨_, he, ?_⟩
  exact law_post (t := 25) (rb := 4) rfl rfl bool4 rfl (fun _ => rfl) laid readable inTypes hW hb

set_option maxRecDepth 100000 in
theorem holds : Rows.X86FormsSaid :=
  OpenClaim.holds_of_wide 5 Try.f5 rfl rfl rfl rfl rfl rfl rfl ⟨rfl, rfl, rfl, rfl, rfl⟩ rfl rfl rfl rfl rfl (by kernel_rfl) fn5 (by kernel_rfl)
    (of_decide_eq_true (by kernel_rfl)) (by unfold Func.isWrapper; first | (rw [if_pos (by decide +kernel)]; kernel_rfl) | (rw [if_neg (by decide +kernel)]; exact ⟨rfl, rfl⟩))
    (fun os started H enc _ => lifted os started H enc)

end Go.Proofs.Ytdmhlhggkldnoaa.x86Forms
