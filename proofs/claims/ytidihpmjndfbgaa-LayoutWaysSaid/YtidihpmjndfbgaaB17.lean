/-
  A law of one struct, whose environment hangs on the argument.
-/
import Derived.Test.YtidihpmjndfbgaaB15
set_option linter.unusedSimpArgs false
set_option linter.unusedVariables false
namespace Go.Ev
open Go.ChangeShapes Go.WideShapes Go.ChangeAt Go.RowKit
variable {P : Program}

theorem law_runsE (hm : P.follows .mixedOrders = true) {f : FuncId} {fn : Func} {c : Code} (hf : P.funcs[f]? = some fn) (hb : fn.body = some c)
    {t : TypeId} {n : Nat} {ks : List AK} (hst : isStructT P t = true) (hk : argK P n t = some ks) (hroom : roomK P n t = true) (hsmall : ks.length ≤ base)
    (hgo : ∀ as, adsIs ks as → adsSmall as → ∃ E, CallsOk E P ∧ LoopsOk E P fn c 0 ∧ ∃ l, (evalF E P f [.agg (svs as 0)] (heapOf as 0) base).bare = .ret (.bool l true) [])
    {H : Type} {enc : TypeId × Value → H} {W : World} {b0 b1 : Nat} {v : Value} {d : DataW H} {ps : List MemPlace} {sp : Nat → Bool} {held : Bool} {r : Reach}
    (hval : Value.okWide P W r b1 t v) (htrod : DataW.Trod enc P W b0 sp held t v d ps) (hw : (d.weights P t).all (· ≤ reachBytes) = true) :
    Calls P f #[v] W fun e W' => e = .returned (.bool true) ∧ Below W.heap.size W W' := by
  obtain ⟨fs, ht⟩ : ∃ fs, P.underlying t = some (.struct fs) := by
    unfold isStructT at hst
    split at hst
    · rename_i fs ht; exact ⟨fs, ht⟩
    · cases hst
  obtain ⟨cs, rfl⟩ : ∃ cs, v = .agg cs := by
    unfold Value.okWide at hval
    rw [ht] at hval
    obtain ⟨cs, h, _⟩ := hval
    exact ⟨cs, h⟩
  obtain ⟨fuel, htrod⟩ := htrod
  have hcs : (Value.agg cs).cells.toList = cs.toList := rfl
  rw [hcs] at htrod
  obtain ⟨h1, h2⟩ := arg_trod n t ks hk fuel cs.toList _ htrod
  have hsm := arg_small n t ks hk hroom fuel cs.toList _ htrod hw
  obtain ⟨as, ents, h3, h4⟩ := build_args W ks cs.toList 0 h1 h2 (val_spot hval)
  obtain ⟨h5, h6⟩ := h4 ents fun _ _ => rfl
  have hs : HSat ents (heapOf as 0) W := ⟨h6, fun k b k' b' hk ho => by
    have := heapOf_rw as 0 k b hk
    exact (Blk.ow_false this ho).elim⟩
  obtain ⟨E, hE, hL, l, hl⟩ := hgo as h3 (adsSmall_of as 0 cs.toList h5 hsm)
  rw [bare_leaf] at hl
  generalize hlf : (evalF E P f [.agg (svs as 0)] (heapOf as 0) base).leaf = lf at hl
  cases lf with
  | ret v' H' =>
    simp only [Lf.bare, Lf.ret.injEq, and_true] at hl
    subst hl
    have hnames : ∀ (as : List AD) (i : Nat), SV.alL (lt (i + as.length)) (svs as i) = true ∧ Ev.hal (lt (i + as.length)) (heapOf as i) = true := by
      intro as
      induction as with
      | nil => intro i; exact ⟨rfl, rfl⟩
      | cons a as ih =>
        intro i
        have e : i + (a :: as).length = (i + 1) + as.length := by simp; omega
        cases a with
        | int k n =>
          obtain ⟨g1, g2⟩ := ih i
          exact ⟨by simp only [svs, SV.alL, SV.al, Bool.true_and]; exact SV.alL_mono (lt_mono (by simp)) _ g1, hal_mono (lt_mono (by simp)) _ g2⟩
        | bool b =>
          obtain ⟨g1, g2⟩ := ih i
          exact ⟨by simp only [svs, SV.alL, SV.al, Bool.true_and]; exact SV.alL_mono (lt_mono (by simp)) _ g1, hal_mono (lt_mono (by simp)) _ g2⟩
        | str s =>
          obtain ⟨g1, g2⟩ := ih i
          exact ⟨by simp only [svs, SV.alL, SV.al, Bool.true_and]; exact SV.alL_mono (lt_mono (by simp)) _ g1, hal_mono (lt_mono (by simp)) _ g2⟩
        | tab n cols =>
          obtain ⟨g1, g2⟩ := ih (i + 1)
          rw [e]
          have hi : lt (i + 1 + as.length) i = true := by simp only [lt, Nat.blt_eq]; omega
          exact ⟨by simp only [svs, SV.alL, SV.al, hi, g1, Bool.and_self], by simp only [heapOf, Ev.hal, hi, Blk.al, g2, Bool.and_self]⟩
    obtain ⟨g1, g2⟩ := hnames as 0
    have hle : 0 + as.length ≤ base := by rw [adsIs_length ks as h3]; omega
    have hargs : (denL ents [SV.agg (svs as 0)]).toArray = #[Value.agg cs] := by
      simp only [denL, den, h5]
    have := evalF_calls hE hm hf hb hL hs (hal_mono (lt_mono hle) _ g2) (by simp only [SV.alL, SV.al, Bool.and_true]; exact SV.alL_mono (lt_mono hle) _ g1) (Nat.le_refl _) hlf (R := fun e W' => e = .returned (.bool true) ∧ Below W.heap.size W W') fun σ' w' _ hwd => by
      refine ⟨by simp only [den], hwd.os, hwd.tape, hwd.output, hwd.size, fun j hj => hwd.old j hj ?_⟩
      rintro ⟨k, b, hk, ho, _⟩
      exact Blk.ow_false (heapOf_rw as 0 k b hk) ho
    rwa [hargs] at this
  | norm _ => simp [Lf.bare] at hl
  | exit _ _ => simp [Lf.bare] at hl
  | bad => simp [Lf.bare] at hl

end Go.Ev
