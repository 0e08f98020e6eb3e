/-
  layout: one target: contract, laws of a target.
-/
import Derived.Test.YtidihpmjndfbgaaC12
import Derived.Test.YtidihpmjndfbgaaB13
set_option linter.unusedSimpArgs false
set_option linter.unusedVariables false
section
set_option linter.unusedVariables false
open Go Go.Ev Go.Proofs Go.ChangeShapes Go.WideShapes Go.ChangeAt Go.RowKit
namespace Go.La

/-! nothing is the same as nothing -/
theorem lp13N_round : ∀ {E : Env} {P : Program} {res : List ResultVar} {c : Code} {n : Nat} {l : List SV} {H : Heap}, evalB E P res c n lp13N l H = evalB E P res c n lk13 l H := rfl
attribute [local irreducible] evalB Tr.view in
theorem loop13N : LoopOk E13N Try.prog Try.f13 0 (loopOf Try.f13 0) :=
  loop_okE mixed (fun S => rfl) (by decide) (fun _ : Unit => True) (fun _ => 0) (fun _ => v13N 0) (fun _ => []) (fun _ => .exit 0 26 [.any, .any, .any] [])
    (fun l H T h hb => by
      replace h : get13N l H = some T := h
      unfold get13N at h
      split at h
      · rename_i _ i
        simp only [Option.some.injEq] at h
        subst h
        obtain ⟨hn, he⟩ := needs_ne hb
        rw [he]
        simp only [allB, Bool.and_true, decide_eq_true_eq] at hn
        subst hn
        refine ⟨(), [], trivial, ⟨rfl, ⟨rfl, rfl, ⟨rfl, rfl⟩, trivial⟩, trivial, rfl, rfl⟩, ?_⟩
        simp only [exitT_leaf]
        rfl
      · cases h)
    fun x _ => ⟨EN, en_calls, loops_noLoop en_loop _ _, by
      rw [lp13N_round, show lp13N.ks = [0, 1, 5] from rfl, r13N]
      exact ⟨rfl, [.any, .any, .any], [], [], rfl, rfl, ⟨trivial, trivial, trivial, trivial⟩, trivial, rfl, rfl⟩⟩
theorem loops13N : LoopsOk E13N Try.prog Try.f13 (bodyOf Try.f13) 0 := loops1 nl13 fun a ha => by
  rw [nth13] at ha; simp only [Option.some.injEq] at ha; subst ha; exact loop13N
theorem e13N_calls : CallsOk E13N Try.prog := fun f args H nm r h hn => en_calls f args H nm r h hn
attribute [local irreducible] evalF Lf.gives in
theorem spec13N : SpecOk Try.prog 13 (specOf g13N) := spec_okA false e13N_calls mixed fn13 b13 n13 loops13N g13N fun a0 H0 r hg hn => by
  unfold g13N at hg
  split at hg
  · simp only [Option.some.injEq] at hg
    subst hg
    refine ⟨_, id, fun _ => rfl, ?_⟩
    show GivesD _ (evalF E13N Try.prog 13 [.val (.slice none 0 0), .val (.slice none 0 0)] [] 1024).leaf
    refine gives_giv (gives_tree t13N ?_)
    exact gives_ret fun σ σ' => rfl
  · cases hg

theorem e16H_calls : CallsOk E16H Try.prog := (SpecsOk.cons (spec8 true) SpecsOk.nil).calls noLoop
theorem e16T_calls : CallsOk E16T Try.prog := (inlF_calls ((SpecsOk.cons (spec8 false) (SpecsOk.cons spec9T (SpecsOk.cons spec10T (SpecsOk.cons (spec11 true) (SpecsOk.cons spec13 (SpecsOk.cons spec15 SpecsOk.nil)))))).calls noLoop) mixed named12 rfl rfl 3).1
theorem e16R_calls : CallsOk E16R Try.prog := (inlF_calls ((SpecsOk.cons (spec8 false) (SpecsOk.cons spec9R (SpecsOk.cons spec10T (SpecsOk.cons (spec11 false) (SpecsOk.cons spec13N (SpecsOk.cons spec15 SpecsOk.nil)))))).calls noLoop) mixed named12 rfl rfl 3).1
theorem e16F_calls : CallsOk E16F Try.prog := (inlF_calls ((SpecsOk.cons (spec8 false) (SpecsOk.cons spec9F (SpecsOk.cons spec10F (SpecsOk.cons spec13N (SpecsOk.cons spec15 SpecsOk.nil))))).calls noLoop) mixed named12 rfl rfl 3).1
theorem e16H_loop : E16H.loop = noLoop := rfl
theorem e16T_loop : E16T.loop = noLoop := rfl
theorem e16R_loop : E16R.loop = noLoop := rfl
theorem e16F_loop : E16F.loop = noLoop := rfl
theorem fn16 : Try.prog.funcs[16]? = some Try.f16 := by kernel_rfl
theorem b16 : Try.f16.body = some (bodyOf Try.f16) := by kernel_rfl
theorem n16 : (Try.f16.name == "runtime.NumGoroutine") = false := by kernel_rfl
theorem fit_far {x : It} {t : Int} (h : fitB x t = false) : farB x t = true := by
  refine cls_t ?_
  have : ¬ endN x t ≤ 258048 := fun h' => by rw [fitB, cls_t h'] at h; cases h
  omega
def g16 : List SV → Heap → Option R
  | [.agg [.int false .i64 q, .sl k n], .int false .i64 t], [(j0, .tab n1 [.ints .i64 kd, .strs bs, .ints .i64 N, .ints .i64 op, .ints .i64 r1, .ints .i64 r2] _)] => match Nat.beq k 0 && Nat.beq j0 0 with
    | true => some ⟨[Nat.beq n n1, Nat.ble n1 4611686018427387904], .bool true true, []⟩
    | false => none
  | _, _ => none
attribute [local irreducible] evalF Lf.gives outB yL in
theorem spec16 : SpecOk Try.prog 16 (specOf g16) := spec_okB false mixed fn16 b16 n16 g16 fun a0 H0 r hg hn => by
  unfold g16 at hg
  split at hg
  · rename_i q k n t j0 n1 kd bs N op r1 r2 _
    split at hg
    · rename_i hk
      simp only [Bool.and_eq_true, Nat.beq_eq] at hk
      obtain ⟨rfl, rfl⟩ := hk
      simp only [Option.some.injEq] at hg
      subst hg
      simp only [allB, Bool.and_eq_true, Bool.and_true, Nat.beq_eq] at hn
      obtain ⟨rfl, hs⟩ := hn
      generalize hx : (⟨n, kd, bs, N, op, r1, r2⟩ : It) = x
      cases hh : heavyP x with
      | true =>
        have hv : hvB x true = true := cls_t hh
        refine ⟨E16H, [.agg [.int false .i64 q, .sl 0 n], .int false .i64 t], e16H_calls, loops_noLoop e16H_loop _ _, id, fun _ => rfl, ?_⟩
        show GivesD _ (evalF E16H Try.prog 16 [.agg [.int false .i64 q, .sl 0 n], .int false .i64 t] (hI ⟨n, kd, bs, N, op, r1, r2⟩) 1024).leaf
        refine gives_giv (gives_tree (t16H ⟨n, kd, bs, N, op, r1, r2⟩ t q) ?_)
        rw [hx, hv]
        simp only [beq_t, hs, show x.n = n by rw [← hx], cond_true]
        exact gives_ret fun σ σ' => rfl
      | false =>
        have hv : hvB x false = true := cls_t hh
        by_cases hok : okP t x
        · have e1 : okB t x = true := cls_t hok
          have hn2 : n ≤ 32000 := by have := hok.1; rw [← hx] at this; exact this
          cases hf : fitB x t with
          | true =>
            refine ⟨E16T, [.agg [.int false .i64 q, .sl 0 n], .int false .i64 t], e16T_calls, loops_noLoop e16T_loop _ _, id, fun _ => rfl, ?_⟩
            show GivesD _ (evalF E16T Try.prog 16 [.agg [.int false .i64 q, .sl 0 n], .int false .i64 t] (hI ⟨n, kd, bs, N, op, r1, r2⟩) 1024).leaf
            refine gives_giv (gives_tree (t16T ⟨n, kd, bs, N, op, r1, r2⟩ t q) ?_)
            rw [hx, hv, e1, hf]
            simp only [beq_t, hs, show x.n = n by rw [← hx], cond_true, seq_self, cls_t, allB, eqA_iff.2 fun _ _ => rfl, ble_t (show n ≤ 100000000 by omega), Bool.and_self]
            exact gives_ret fun σ σ' => rfl
          | false =>
            refine ⟨E16R, [.agg [.int false .i64 q, .sl 0 n], .int false .i64 t], e16R_calls, loops_noLoop e16R_loop _ _, id, fun _ => rfl, ?_⟩
            show GivesD _ (evalF E16R Try.prog 16 [.agg [.int false .i64 q, .sl 0 n], .int false .i64 t] (hI ⟨n, kd, bs, N, op, r1, r2⟩) 1024).leaf
            refine gives_giv (gives_tree (t16R ⟨n, kd, bs, N, op, r1, r2⟩ t q) ?_)
            rw [hx, hv, e1, fit_far hf, hf]
            simp only [beq_t, hs, show x.n = n by rw [← hx], cond_true, cls_t]
            exact gives_ret fun σ σ' => rfl
        · have e1 : noB t x = true := cls_t hok
          refine ⟨E16F, [.agg [.int false .i64 q, .sl 0 n], .int false .i64 t], e16F_calls, loops_noLoop e16F_loop _ _, id, fun _ => rfl, ?_⟩
          show GivesD _ (evalF E16F Try.prog 16 [.agg [.int false .i64 q, .sl 0 n], .int false .i64 t] (hI ⟨n, kd, bs, N, op, r1, r2⟩) 1024).leaf
          refine gives_giv (gives_tree (t16F ⟨n, kd, bs, N, op, r1, r2⟩ t q) ?_)
          rw [hx, hv, e1]
          simp only [beq_t, hs, show x.n = n by rw [← hx], cond_true]
          exact gives_ret fun σ σ' => rfl
    · cases hg
  · cases hg

/-! the laws of a target -/
noncomputable def E5 : Env := envOf [(16, specOf g16)] noLoop
theorem fn5 : Try.prog.funcs[5]? = some Try.f5 := by kernel_rfl
theorem b5 : Try.f5.body = some (bodyOf Try.f5) := by kernel_rfl
theorem fn6 : Try.prog.funcs[6]? = some Try.f6 := by kernel_rfl
theorem b6 : Try.f6.body = some (bodyOf Try.f6) := by kernel_rfl
/-- an argument is an ask -/
def shapesA : List AK := [.flat (.int .i64), .slice [.int .i64, .str, .int .i64, .int .i64, .int .i64, .int .i64]]
def vA (x : It) (q : Int) : List SV := [.int false .i64 q, .sl 0 x.n]
theorem ask_it (al : List AD) (h : adsIs shapesA al) (hz : adsSmall al) : ∃ (x : It) (q : Int), svs al 0 = vA x q ∧ heapOf al 0 = hI x ∧ x.n ≤ reachBytes := by
  unfold shapesA at h
  obtain ⟨a0, al, rfl, h0, h⟩ := adsIs_cons h
  obtain ⟨a1, al, rfl, h1, h⟩ := adsIs_cons h
  obtain rfl := adsIs_nil h
  obtain ⟨q, rfl, _⟩ := adIs_int h0
  obtain ⟨n, cols, rfl, _, hc⟩ := adIs_slice h1
  obtain ⟨c0, cols, rfl, _, hc⟩ := colsIs_int hc
  obtain ⟨c1, cols, rfl, _, hc⟩ := colsIs_str hc
  obtain ⟨c2, cols, rfl, _, hc⟩ := colsIs_int hc
  obtain ⟨c3, cols, rfl, _, hc⟩ := colsIs_int hc
  obtain ⟨c4, cols, rfl, _, hc⟩ := colsIs_int hc
  obtain ⟨c5, cols, rfl, _, hc⟩ := colsIs_int hc
  obtain rfl := colsIs_nil hc
  simp only [adsSmall, and_true] at hz
  exact ⟨⟨n, c0, c1, c2, c3, c4, c5⟩, q, rfl, rfl, hz⟩
--LEAVES

theorem t5 (x : It) (q : Int) : (evalF E5 Try.prog 5 [SV.agg (vA x q)] (hI x) 1024).bare =
    (bif (Nat.beq (x.n) (x.n)) then
      bif (Nat.ble (x.n) (4611686018427387904)) then
        .ret (.bool true true) []
      else .bad
    else .bad) := by kernel_rfl

theorem t6 (x : It) (q : Int) : (evalF E5 Try.prog 6 [SV.agg (vA x q)] (hI x) 1024).bare =
    (bif (Nat.beq (x.n) (x.n)) then
      bif (Nat.ble (x.n) (4611686018427387904)) then
        .ret (.bool true true) []
      else .bad
    else .bad) := by kernel_rfl

end Go.La
end

section
set_option linter.unusedVariables false
open Go Go.Ev Go.Proofs Go.ChangeShapes Go.WideShapes Go.ChangeAt Go.RowKit
namespace Go.La

theorem e5_calls : CallsOk E5 Try.prog := (SpecsOk.cons spec16 SpecsOk.nil).calls noLoop
theorem e5_loop : E5.loop = noLoop := rfl
theorem loops5 : LoopsOk E5 Try.prog Try.f5 (bodyOf Try.f5) 0 := loops_noLoop e5_loop _ _
theorem loops6 : LoopsOk E5 Try.prog Try.f6 (bodyOf Try.f6) 0 := loops_noLoop e5_loop _ _
theorem reach_le {n : Nat} (h : n ≤ reachBytes) : Nat.ble n 4611686018427387904 = true := ble_t (Nat.le_trans h (by decide))
attribute [local irreducible] evalF in
theorem law5 (x : It) (q : Int) (h : x.n ≤ reachBytes) : (evalF E5 Try.prog 5 [.agg (vA x q)] (hI x) 1024).bare = .ret (.bool true true) [] := by
  rw [t5, beq_t, reach_le h]; rfl
attribute [local irreducible] evalF in
theorem law6 (x : It) (q : Int) (h : x.n ≤ reachBytes) : (evalF E5 Try.prog 6 [.agg (vA x q)] (hI x) 1024).bare = .ret (.bool true true) [] := by
  rw [t6, beq_t, reach_le h]; rfl

end Go.La
end
