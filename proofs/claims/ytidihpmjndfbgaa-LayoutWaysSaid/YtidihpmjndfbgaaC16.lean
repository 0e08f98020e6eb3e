/-
  layout: one target: contract, laws of a target.
-/
import Derived.Test.YtidihpmjndfbgaaC14
import Derived.Test.YtidihpmjndfbgaaB15
set_option linter.unusedSimpArgs false
set_option linter.unusedVariables false
section
set_option linter.unusedVariables false
open Go Go.Ev Go.Proofs Go.ChangeShapes Go.WideShapes Go.ChangeAt Go.RowKit
namespace Go.La

/-! nothing is the same as nothing -/
theorem lp13N_round : ∀ {E : Env} {P : Program} {res : List ResultVar} {c : Code} {n : Nat} {l : List SV} {H : Heap}, evalB E P res c n lp13N l H = evalB E P res c n lk13 l H := rfl
attribute [local irreducible] evalB Tr.view in
theorem loop13N : LoopOk E13N Try.prog Try.f13 0 (loopOf Try.f13 0) :=
  loop_okE mixed (fun S => rfl) (by decide) (fun _ : Unit => True) (fun _ => 0) (fun _ => v13N 0) (fun _ => []) (fun _ => .exit 0 26 [.any, .any, .any] [])
    (fun l H T h hb => by
      replace h : get13N l H = some T := h
      unfold get13N at h
      split at h
      · rename_i _ i
        simp only [Option.some.injEq] at h
        subst h
        obtain ⟨hn, he⟩ := needs_ne hb
        rw [he]
        simp only [allB, Bool.and_true, decide_eq_true_eq] at hn
        subst hn
        refine ⟨(), [], trivial, ⟨rfl, ⟨rfl, rfl, ⟨rfl, rfl⟩, trivial⟩, trivial, rfl, rfl⟩, ?_⟩
        simp only [exitT_leaf]
        rfl
      · cases h)
    fun x _ => ⟨EN, en_calls, loops_noLoop en_loop _ _, by
      rw [lp13N_round, show lp13N.ks = [0, 1, 5] from rfl, r13N]
      exact ⟨rfl, [.any, .any, .any], [], [], rfl, rfl, ⟨trivial, trivial, trivial, trivial⟩, trivial, rfl, rfl⟩⟩
theorem loops13N : LoopsOk E13N Try.prog Try.f13 (bodyOf Try.f13) 0 := loops1 nl13 fun a ha => by
  rw [nth13] at ha; simp only [Option.some.injEq] at ha; subst ha; exact loop13N
theorem e13N_calls : CallsOk E13N Try.prog := fun f args H nm r h hn => en_calls f args H nm r h hn
attribute [local irreducible] evalF Lf.gives in
theorem spec13N : SpecOk Try.prog 13 (specOf g13N) := spec_okA false e13N_calls mixed fn13 b13 n13 loops13N g13N fun a0 H0 r hg hn => by
  unfold g13N at hg
  split at hg
  · simp only [Option.some.injEq] at hg
    subst hg
    refine ⟨_, id, fun _ => rfl, ?_⟩
    show GivesD _ (evalF E13N Try.prog 13 [.val (.slice none 0 0), .val (.slice none 0 0)] [] 1024).leaf
    refine gives_giv (gives_tree t13N ?_)
    exact gives_ret fun σ σ' => rfl
  · cases hg

theorem e16H_calls : CallsOk E16H Try.prog := (SpecsOk.cons (spec8 true) SpecsOk.nil).calls noLoop
theorem e16T_calls : CallsOk E16T Try.prog := (inlF_calls ((SpecsOk.cons (spec8 false) (SpecsOk.cons spec9T (SpecsOk.cons spec10T (SpecsOk.cons (spec11 true) (SpecsOk.cons spec13 (SpecsOk.cons spec15 SpecsOk.nil)))))).calls noLoop) mixed named12 rfl rfl 3).1
theorem e16R_calls : CallsOk E16R Try.prog := (inlF_calls ((SpecsOk.cons (spec8 false) (SpecsOk.cons spec9R (SpecsOk.cons spec10T (SpecsOk.cons (spec11 false) (SpecsOk.cons spec13N (SpecsOk.cons spec15 SpecsOk.nil)))))).calls noLoop) mixed named12 rfl rfl 3).1
theorem e16F_calls : CallsOk E16F Try.prog := (inlF_calls ((SpecsOk.cons (spec8 false) (SpecsOk.cons spec9F (SpecsOk.cons spec10F (SpecsOk.cons spec13N (SpecsOk.cons spec15 SpecsOk.nil))))).calls noLoop) mixed named12 rfl rfl 3).1
theorem e16H_loop : E16H.loop = noLoop := rfl
theorem e16T_loop : E16T.loop = noLoop := rfl
theorem e16R_loop : E16R.loop = noLoop := rfl
theorem e16F_loop : E16F.loop = noLoop := rfl
theorem fn16 : Try.prog.funcs[16]? = some Try.f16 := by kernel_rfl
theorem b16 : Try.f16.body = some (bodyOf Try.f16) := by kernel_rfl
theorem n16 : (Try.f16.name == "runtime.NumGoroutine") = false := by kernel_rfl
theorem fit_far {x : It} {t : Int} (h : fitB x t = false) : farB x t = true := by
  refine cls_t ?_
  have : ¬ endN x t ≤ 258048 := fun h' => by rw [fitB, cls_t h'] at h; cases h
  omega
def g16 : List SV → Heap → Option R
  | [.agg [.int false .i64 q, .sl k n], .int false .i64 t], [(j0, .tab n1 [.ints .i64 kd, .strs bs, .ints .i64 N, .ints .i64 op, .ints .i64 r1, .ints .i64 r2] _)] => match Nat.beq k 0 && Nat.beq j0 0 with
    | true => some ⟨[Nat.beq n n1, Nat.ble n1 4611686018427387904], .bool true true, []⟩
    | false => none
  | _, _ => none
attribute [local irreducible] evalF Lf.gives outB yL in
theorem spec16 : SpecOk Try.prog 16 (specOf g16) := spec_okB false mixed fn16 b16 n16 g16 fun a0 H0 r hg hn => by
  unfold g16 at hg
  split at hg
  · rename_i q k n t j0 n1 kd bs N op r1 r2 _
    split at hg
    · rename_i hk
      simp only [Bool.and_eq_true, Nat.beq_eq] at hk
      obtain ⟨rfl, rfl⟩ := hk
      simp only [Option.some.injEq] at hg
      subst hg
      simp only [allB, Bool.and_eq_true, Bool.and_true, Nat.beq_eq] at hn
      obtain ⟨rfl, hs⟩ := hn
      generalize hx : (⟨n, kd, bs, N, op, r1, r2⟩ : It) = x
      cases hh : heavyP x with
      | true =>
        have hv : hvB x true = true := cls_t hh
        refine ⟨E16H, [.agg [.int false .i64 q, .sl 0 n], .int false .i64 t], e16H_calls, loops_noLoop e16H_loop _ _, id, fun _ => rfl, ?_⟩
        show GivesD _ (evalF E16H Try.prog 16 [.agg [.int false .i64 q, .sl 0 n], .int false .i64 t] (hI ⟨n, kd, bs, N, op, r1, r2⟩) 1024).leaf
        refine gives_giv (gives_tree (t16H ⟨n, kd, bs, N, op, r1, r2⟩ t q) ?_)
        rw [hx, hv]
        simp only [beq_t, hs, show x.n = n by rw [← hx], cond_true]
        exact gives_ret fun σ σ' => rfl
      | false =>
        have hv : hvB x false = true := cls_t hh
        by_cases hok : okP t x
        · have e1 : okB t x = true := cls_t hok
          have hn2 : n ≤ 32000 := by have := hok.1; rw [← hx] at this; exact this
          cases hf : fitB x t with
          | true =>
            refine ⟨E16T, [.agg [.int false .i64 q, .sl 0 n], .int false .i64 t], e16T_calls, loops_noLoop e16T_loop _ _, id, fun _ => rfl, ?_⟩
            show GivesD _ (evalF E16T Try.prog 16 [.agg [.int false .i64 q, .sl 0 n], .int false .i64 t] (hI ⟨n, kd, bs, N, op, r1, r2⟩) 1024).leaf
            refine gives_giv (gives_tree (t16T ⟨n, kd, bs, N, op, r1, r2⟩ t q) ?_)
            rw [hx, hv, e1, hf]
            simp only [beq_t, hs, show x.n = n by rw [← hx], cond_true, seq_self, cls_t, allB, eqA_iff.2 fun _ _ => rfl, ble_t (show n ≤ 100000000 by omega), Bool.and_self]
            exact gives_ret fun σ σ' => rfl
          | false =>
            refine ⟨E16R, [.agg [.int false .i64 q, .sl 0 n], .int false .i64 t], e16R_calls, loops_noLoop e16R_loop _ _, id, fun _ => rfl, ?_⟩
            show GivesD _ (evalF E16R Try.prog 16 [.agg [.int false .i64 q, .sl 0 n], .int false .i64 t] (hI ⟨n, kd, bs, N, op, r1, r2⟩) 1024).leaf
            refine gives_giv (gives_tree (t16R ⟨n, kd, bs, N, op, r1, r2⟩ t q) ?_)
            rw [hx, hv, e1, fit_far hf, hf]
            simp only [beq_t, hs, show x.n = n by rw [← hx], cond_true, cls_t]
            exact gives_ret fun σ σ' => rfl
        · have e1 : noB t x = true := cls_t hok
          refine ⟨E16F, [.agg [.int false .i64 q, .sl 0 n], .int false .i64 t], e16F_calls, loops_noLoop e16F_loop _ _, id, fun _ => rfl, ?_⟩
          show GivesD _ (evalF E16F Try.prog 16 [.agg [.int false .i64 q, .sl 0 n], .int false .i64 t] (hI ⟨n, kd, bs, N, op, r1, r2⟩) 1024).leaf
          refine gives_giv (gives_tree (t16F ⟨n, kd, bs, N, op, r1, r2⟩ t q) ?_)
          rw [hx, hv, e1]
          simp only [beq_t, hs, show x.n = n by rw [← hx], cond_true]
          exact gives_ret fun σ σ' => rfl
    · cases hg
  · cases hg

/-! the laws of a target -/
noncomputable def E5 : Env := envOf [(16, specOf g16)] noLoop
theorem fn5 : Try.prog.funcs[5]? = some Try.f5 := by kernel_rfl
theorem b5 : Try.f5.body = some (bodyOf Try.f5) := by kernel_rfl
theorem fn6 : Try.prog.funcs[6]? = some Try.f6 := by kernel_rfl
theorem b6 : Try.f6.body = some (bodyOf Try.f6) := by kernel_rfl
/-- an argument is an ask -/
def shapesA : List AK := [.flat (.int .i64), .slice [.int .i64, .str, .int .i64, .int .i64, .int .i64, .int .i64]]
def vA (x : It) (q : Int) : List SV := [.int false .i64 q, .sl 0 x.n]
theorem ask_it (al : List AD) (h : adsIs shapesA al) (hz : adsSmall al) : ∃ (x : It) (q : Int), svs al 0 = vA x q ∧ heapOf al 0 = hI x ∧ x.n ≤ reachBytes := by
  unfold shapesA at h
  obtain ⟨a0, al, rfl, h0, h⟩ := adsIs_cons h
  obtain ⟨a1, al, rfl, h1, h⟩ := adsIs_cons h
  obtain rfl := adsIs_nil h
  obtain ⟨q, rfl, _⟩ := adIs_int h0
  obtain ⟨n, cols, rfl, _, hc⟩ := adIs_slice h1
  obtain ⟨c0, cols, rfl, _, hc⟩ := colsIs_int hc
  obtain ⟨c1, cols, rfl, _, hc⟩ := colsIs_str hc
  obtain ⟨c2, cols, rfl, _, hc⟩ := colsIs_int hc
  obtain ⟨c3, cols, rfl, _, hc⟩ := colsIs_int hc
  obtain ⟨c4, cols, rfl, _, hc⟩ := colsIs_int hc
  obtain ⟨c5, cols, rfl, _, hc⟩ := colsIs_int hc
  obtain rfl := colsIs_nil hc
  simp only [adsSmall, and_true] at hz
  exact ⟨⟨n, c0, c1, c2, c3, c4, c5⟩, q, rfl, rfl, hz⟩
--LEAVES

theorem t5 (x : It) (q : Int) : (evalF E5 Try.prog 5 [SV.agg (vA x q)] (hI x) 1024).bare =
    (bif (Nat.beq (x.n) (x.n)) then
      bif (Nat.ble (x.n) (4611686018427387904)) then
        .ret (.bool true true) []
      else .bad
    else .bad) := by kernel_rfl

theorem t6 (x : It) (q : Int) : (evalF E5 Try.prog 6 [SV.agg (vA x q)] (hI x) 1024).bare =
    (bif (Nat.beq (x.n) (x.n)) then
      bif (Nat.ble (x.n) (4611686018427387904)) then
        .ret (.bool true true) []
      else .bad
    else .bad) := by kernel_rfl

end Go.La
end

section
set_option linter.unusedVariables false
open Go Go.Ev Go.Proofs Go.ChangeShapes Go.WideShapes Go.ChangeAt Go.RowKit
namespace Go.La

theorem e5_calls : CallsOk E5 Try.prog := (SpecsOk.cons spec16 SpecsOk.nil).calls noLoop
theorem e5_loop : E5.loop = noLoop := rfl
theorem loops5 : LoopsOk E5 Try.prog Try.f5 (bodyOf Try.f5) 0 := loops_noLoop e5_loop _ _
theorem loops6 : LoopsOk E5 Try.prog Try.f6 (bodyOf Try.f6) 0 := loops_noLoop e5_loop _ _
theorem reach_le {n : Nat} (h : n ≤ reachBytes) : Nat.ble n 4611686018427387904 = true := ble_t (Nat.le_trans h (by decide))
attribute [local irreducible] evalF in
theorem law5 (x : It) (q : Int) (h : x.n ≤ reachBytes) : (evalF E5 Try.prog 5 [.agg (vA x q)] (hI x) 1024).bare = .ret (.bool true true) [] := by
  rw [t5, beq_t, reach_le h]; rfl
attribute [local irreducible] evalF in
theorem law6 (x : It) (q : Int) (h : x.n ≤ reachBytes) : (evalF E5 Try.prog 6 [.agg (vA x q)] (hI x) 1024).bare = .ret (.bool true true) [] := by
  rw [t6, beq_t, reach_le h]; rfl

end Go.La
end

section
set_option linter.unusedVariables false
open Go Go.Ev Go.Proofs
namespace Go.La

/-- is it heavy, told by itself -/
noncomputable def g8S : List SV → Heap → Option R
  | [.agg [.int false .i64 t, .sl k n]], [(j0, .tab n1 [.ints .i64 kd, .strs bs, .ints .i64 N, .ints .i64 op, .ints .i64 r1, .ints .i64 r2] _)] => match Nat.beq k 0 && Nat.beq j0 0 with
    | true => some ⟨[Nat.beq n n1, Nat.ble n1 4611686018427387904], .bool false (heavyP ⟨n1, kd, bs, N, op, r1, r2⟩), []⟩
    | false => none
  | _, _ => none
attribute [local irreducible] evalF Lf.gives in
theorem spec8S : SpecOk Try.prog 8 (specOf g8S) := spec_okA false e8_calls mixed fn8 b8 n8 loops8 g8S fun a0 H0 r hg hn => by
  unfold g8S at hg
  split at hg
  · rename_i t k n j0 n1 kd bs N op r1 r2 _
    split at hg
    · rename_i hk
      simp only [Bool.and_eq_true, Nat.beq_eq] at hk
      obtain ⟨rfl, rfl⟩ := hk
      simp only [Option.some.injEq] at hg
      subst hg
      simp only [allB, Bool.and_eq_true, Bool.and_true, Nat.beq_eq] at hn
      obtain ⟨rfl, hs⟩ := hn
      refine ⟨_, id, fun _ => rfl, ?_⟩
      show GivesD _ (evalF E8 Try.prog 8 [.agg [.int false .i64 t, .sl 0 n]] (hI ⟨n, kd, bs, N, op, r1, r2⟩) 1024).leaf
      refine gives_giv (gives_tree (t8 ⟨n, kd, bs, N, op, r1, r2⟩ t) ?_)
      simp only [beq_t, hs, decide_true, cond_true]
      exact gives_ret fun σ σ' => rfl
    · cases hg
  · cases hg

/-- a copy -/
def xz (x : It) : It := ⟨0 + x.n, cat 0 (fun _ => 0) x.kd, cat 0 (fun _ => ByteArray.empty) x.bs, cat 0 (fun _ => 0) x.N, cat 0 (fun _ => 0) x.op, cat 0 (fun _ => 0) x.r1, cat 0 (fun _ => 0) x.r2⟩
def h3 (x : It) (q : Int) : Heap := [(0, .tab x.n x.cols false), (1024, .cells [.int false .i64 q, .sl 0 x.n])]
/-! are the items as they were -/
def v3b (x : It) (t i : Int) : List SV := [.ptr 1024 0 0, .int false .i64 t, .sl 1216 x.n, .int false .i64 i]
def h3b (x : It) (q : Int) : Heap := [(0, .tab x.n x.cols false), (1024, .cells [.int false .i64 q, .sl 0 x.n]), (1216, .tab x.n x.cols false)]
def lk3b : Lp := ⟨88, [1, 3, 4, 12], 2600, fun _ _ => none⟩
noncomputable def get3b : List SV → Heap → Option Tr
  | [.ptr k r c, .int _ .i64 t, .sl kn nn, .int _ .i64 i], (j0, .tab n1 [.ints .i64 kd, .strs bs, .ints .i64 N, .ints .i64 op, .ints .i64 r1, .ints .i64 r2] _) :: (j1, .cells [.int _ .i64 q, .sl k0 n0]) :: (jd, _) :: (j2, .tab n2 [.ints .i64 kd', .strs bs', .ints .i64 N', .ints .i64 op', .ints .i64 r1', .ints .i64 r2'] _) :: _ =>
    some (Tr.needs [Nat.beq k 1024, Nat.beq r 0, Nat.beq c 0, Nat.beq kn 1216, Nat.beq nn n1, decide (i = 0), Nat.beq j0 0, Nat.beq j1 1024, Nat.beq jd 1168, Nat.beq j2 1216, Nat.beq k0 0, Nat.beq n0 n1, clsB ((⟨n2, kd', bs', N', op', r1', r2'⟩ : It) = ⟨n1, kd, bs, N, op, r1, r2⟩), Nat.ble n1 4611686018427387904]
      (exitT lk3b 2 [.ptr 1024 0 0, .int false .i64 t, .any, .any] (h3 ⟨n1, kd, bs, N, op, r1, r2⟩ q)))
  | _, _ => none
noncomputable def lq3b : Lp := { lk3b with get := get3b }
noncomputable def E3T0 : Env := inlF Try.prog (envOf [(9, specOf g9T), (10, specOf g10T), (11, specOf (g11 true)), (13, specOf g13)] noLoop) [12] [] [] 3
noncomputable def E3R0 : Env := inlF Try.prog (envOf [(9, specOf g9R), (10, specOf g10T), (11, specOf (g11 false)), (13, specOf g13N)] noLoop) [12] [] [] 3
noncomputable def E3F0 : Env := inlF Try.prog (envOf [(9, specOf g9F), (10, specOf g10F), (13, specOf g13N)] noLoop) [12] [] [] 3
noncomputable def E3T : Env := ⟨E3T0.call, loopEnv [(1, lq3b)]⟩
noncomputable def E3R : Env := ⟨E3R0.call, loopEnv [(1, lq3b)]⟩
noncomputable def E3F : Env := ⟨E3F0.call, loopEnv [(1, lq3b)]⟩
/-! target by target -/
def v3 (t : Int) : List SV := [.ptr 1024 0 0, .int false .i64 t]
def lk3 : Lp := ⟨88, [1, 3], 1136, fun _ _ => none⟩
noncomputable def get3 : List SV → Heap → Option Tr
  | [.ptr k r c, .int _ .i64 t], [(j0, .tab n1 [.ints .i64 kd, .strs bs, .ints .i64 N, .ints .i64 op, .ints .i64 r1, .ints .i64 r2] _), (j1, .cells [.int _ .i64 q, .sl k0 n0])] =>
    some (Tr.needs [Nat.beq k 1024, Nat.beq r 0, Nat.beq c 0, decide (t = 0), Nat.beq j0 0, Nat.beq j1 1024, Nat.beq k0 0, Nat.beq n0 n1, clsB (n1 ≤ 1048576)] (exitT lk3 0 [.any, .any] []))
  | _, _ => none
noncomputable def lq3 : Lp := { lk3 with get := get3 }
noncomputable def E3a : Env := inlF Try.prog (envOf [(8, specOf g8S), (15, specOf g15)] noLoop) [14] [] [] 3
noncomputable def E3 : Env := ⟨E3a.call, loopEnv [(0, lq3)]⟩
--LEAVES

theorem r3b (x : It) (q : Int) (t : Int) (i : Int) : (evalB EI Try.prog Try.f3.results.toList (loopOf Try.f3 1) 2 lk3b (v3b x t i) (h3b x q)).view [1, 3, 4, 12] =
    (bif (cm .lss i (↑x.n : Int)) then
      bif (decide (0 ≤ i)) then
        bif (decide (i < (↑x.n : Int))) then
          bif (Nat.blt (i.toNat) (x.n)) then
            bif (Nat.blt (i.toNat) (x.n)) then
              bif (decide (0 ≤ i)) then
                bif (decide (i < (↑x.n : Int))) then
                  bif (Nat.blt (i.toNat) (x.n)) then
                    bif (Nat.blt (i.toNat) (x.n)) then
                      bif (!(x.kd i.toNat == x.kd i.toNat && (seq (x.bs i.toNat) (x.bs i.toNat) && (x.N i.toNat == x.N i.toNat && (x.op i.toNat == x.op i.toNat && (x.r1 i.toNat == x.r1 i.toNat && (x.r2 i.toNat == x.r2 i.toNat && true))))))) then
                        .ret (.bool true false) [(0, .tab (x.n) [.ints .i64 (x.kd), .strs (x.bs), .ints .i64 (x.N), .ints .i64 (x.op), .ints .i64 (x.r1), .ints .i64 (x.r2)] false), (1024, .cells [(.int false .i64 (q)), (.sl 0 (x.n))]), (1216, .tab (x.n) [.ints .i64 (x.kd), .strs (x.bs), .ints .i64 (x.N), .ints .i64 (x.op), .ints .i64 (x.r1), .ints .i64 (x.r2)] false)]
                      else
                        .norm 88 [(.ptr 1024 0 0), (.int false .i64 (t)), (.sl 1216 (x.n)), (.int false .i64 (ar .add .i64 i 1))] [(0, .tab (x.n) [.ints .i64 (x.kd), .strs (x.bs), .ints .i64 (x.N), .ints .i64 (x.op), .ints .i64 (x.r1), .ints .i64 (x.r2)] false), (1024, .cells [(.int false .i64 (q)), (.sl 0 (x.n))]), (1216, .tab (x.n) [.ints .i64 (x.kd), .strs (x.bs), .ints .i64 (x.N), .ints .i64 (x.op), .ints .i64 (x.r1), .ints .i64 (x.r2)] false)]
                    else .bad
                  else .bad
                else .bad
              else .bad
            else .bad
          else .bad
        else .bad
      else .bad
    else
      .exit 2 88 [(.ptr 1024 0 0), (.int false .i64 (t)), (.sl 1216 (x.n)), (.int false .i64 (i))] [(0, .tab (x.n) [.ints .i64 (x.kd), .strs (x.bs), .ints .i64 (x.N), .ints .i64 (x.op), .ints .i64 (x.r1), .ints .i64 (x.r2)] false), (1024, .cells [(.int false .i64 (q)), (.sl 0 (x.n))]), (1216, .tab (x.n) [.ints .i64 (x.kd), .strs (x.bs), .ints .i64 (x.N), .ints .i64 (x.op), .ints .i64 (x.r1), .ints .i64 (x.r2)] false)]) := by kernel_rfl

theorem r3T (x : It) (q : Int) (t : Int) : (evalB E3T Try.prog Try.f3.results.toList (loopOf Try.f3 0) 1 lk3 (v3 t) (h3 x q)).view [1, 3] =
    (bif (cm .leq t 3) then
      bif (Nat.ble (x.n) (x.n)) then
        bif (Nat.ble ((0 + x.n) * 56) (1099511627776)) then
          bif (Nat.beq (0 + x.n) (0 + x.n)) then
            bif (okB t (xz x)) then
              bif (fitB (xz x) t) then
                bif (Nat.beq (x.n) (x.n)) then
                  bif (okB t x) then
                    bif (Nat.beq (x.n) (x.n)) then
                      bif (okB t x) then
                        bif (clsB (fitB x t = true)) then
                          bif (bif !seq (outB (xz x) t) (outB x t) then true else allB [(0 + x.n).beq x.n, (0 + x.n).beq (0 + x.n), (0 + x.n).beq x.n, eqA (0 + x.n) (yL (xz x) t).pos (yL x t).pos, (0 + x.n).ble 100000000]) then
                            bif (bif !seq (outB (xz x) t) (outB x t) then true else cm .neq (↑(0 + x.n) : Int) (↑x.n : Int)) then
                              .ret (.bool true false) [(0, .tab (x.n) [.ints .i64 (x.kd), .strs (x.bs), .ints .i64 (x.N), .ints .i64 (x.op), .ints .i64 (x.r1), .ints .i64 (x.r2)] false), (1024, .cells [(.int false .i64 (q)), (.sl 0 (x.n))]), (1168, .dead), (1216, .tab (0 + x.n) [.ints .i64 (cat 0 (fun x => 0) x.kd), .strs (cat 0 (fun x => ByteArray.empty) x.bs), .ints .i64 (cat 0 (fun x => 0) x.N), .ints .i64 (cat 0 (fun x => 0) x.op), .ints .i64 (cat 0 (fun x => 0) x.r1), .ints .i64 (cat 0 (fun x => 0) x.r2)] false), (1280, .tab (0 + x.n) [.ints .i64 ((yL (xz x) t).pos)] false), (1600, .tab (x.n) [.ints .i64 ((yL x t).pos)] true)]
                            else
                              bif (Nat.beq (0 + x.n) (x.n)) then
                                bif (Nat.beq (x.n) (x.n)) then
                                  bif (clsB ((xz x) = x)) then
                                    bif (Nat.ble (x.n) (4611686018427387904)) then
                                      .norm 88 [(.ptr 1024 0 0), (.int false .i64 (ar .add .i64 t 1))] [(0, .tab (x.n) [.ints .i64 (x.kd), .strs (x.bs), .ints .i64 (x.N), .ints .i64 (x.op), .ints .i64 (x.r1), .ints .i64 (x.r2)] false), (1024, .cells [(.int false .i64 (q)), (.sl 0 (x.n))])]
                                    else .bad
                                  else .bad
                                else .bad
                              else .bad
                          else .bad
                        else .bad
                      else .bad
                    else .bad
                  else .bad
                else .bad
              else .bad
            else .bad
          else .bad
        else .bad
      else .bad
    else
      .exit 0 88 [(.ptr 1024 0 0), (.int false .i64 (t))] [(0, .tab (x.n) [.ints .i64 (x.kd), .strs (x.bs), .ints .i64 (x.N), .ints .i64 (x.op), .ints .i64 (x.r1), .ints .i64 (x.r2)] false), (1024, .cells [(.int false .i64 (q)), (.sl 0 (x.n))])]) := by kernel_rfl

theorem r3R (x : It) (q : Int) (t : Int) : (evalB E3R Try.prog Try.f3.results.toList (loopOf Try.f3 0) 1 lk3 (v3 t) (h3 x q)).view [1, 3] =
    (bif (cm .leq t 3) then
      bif (Nat.ble (x.n) (x.n)) then
        bif (Nat.ble ((0 + x.n) * 56) (1099511627776)) then
          bif (Nat.beq (0 + x.n) (0 + x.n)) then
            bif (okB t (xz x)) then
              bif (farB (xz x) t) then
                bif (Nat.beq (x.n) (x.n)) then
                  bif (okB t x) then
                    bif (Nat.beq (x.n) (x.n)) then
                      bif (okB t x) then
                        bif (clsB (fitB x t = false)) then
                          bif (bif false then true else cm .neq (↑(0 + x.n) : Int) (↑x.n : Int)) then
                            .ret (.bool true false) [(0, .tab (x.n) [.ints .i64 (x.kd), .strs (x.bs), .ints .i64 (x.N), .ints .i64 (x.op), .ints .i64 (x.r1), .ints .i64 (x.r2)] false), (1024, .cells [(.int false .i64 (q)), (.sl 0 (x.n))]), (1168, .dead), (1216, .tab (0 + x.n) [.ints .i64 (cat 0 (fun x => 0) x.kd), .strs (cat 0 (fun x => ByteArray.empty) x.bs), .ints .i64 (cat 0 (fun x => 0) x.N), .ints .i64 (cat 0 (fun x => 0) x.op), .ints .i64 (cat 0 (fun x => 0) x.r1), .ints .i64 (cat 0 (fun x => 0) x.r2)] true), (1600, .tab (x.n) [.ints .i64 ((yL x t).pos)] true)]
                          else
                            bif (Nat.beq (0 + x.n) (x.n)) then
                              bif (Nat.beq (x.n) (x.n)) then
                                bif (clsB ((xz x) = x)) then
                                  bif (Nat.ble (x.n) (4611686018427387904)) then
                                    .norm 88 [(.ptr 1024 0 0), (.int false .i64 (ar .add .i64 t 1))] [(0, .tab (x.n) [.ints .i64 (x.kd), .strs (x.bs), .ints .i64 (x.N), .ints .i64 (x.op), .ints .i64 (x.r1), .ints .i64 (x.r2)] false), (1024, .cells [(.int false .i64 (q)), (.sl 0 (x.n))])]
                                  else .bad
                                else .bad
                              else .bad
                            else .bad
                        else .bad
                      else .bad
                    else .bad
                  else .bad
                else .bad
              else .bad
            else .bad
          else .bad
        else .bad
      else .bad
    else
      .exit 0 88 [(.ptr 1024 0 0), (.int false .i64 (t))] [(0, .tab (x.n) [.ints .i64 (x.kd), .strs (x.bs), .ints .i64 (x.N), .ints .i64 (x.op), .ints .i64 (x.r1), .ints .i64 (x.r2)] false), (1024, .cells [(.int false .i64 (q)), (.sl 0 (x.n))])]) := by kernel_rfl

theorem r3F (x : It) (q : Int) (t : Int) : (evalB E3F Try.prog Try.f3.results.toList (loopOf Try.f3 0) 1 lk3 (v3 t) (h3 x q)).view [1, 3] =
    (bif (cm .leq t 3) then
      bif (Nat.ble (x.n) (x.n)) then
        bif (Nat.ble ((0 + x.n) * 56) (1099511627776)) then
          bif (Nat.beq (0 + x.n) (0 + x.n)) then
            bif (Nat.ble (0 + x.n) (4611686018427387904)) then
              bif (noB t (xz x)) then
                bif (Nat.beq (x.n) (x.n)) then
                  bif (noB t x) then
                    bif (bif false then true else cm .neq (↑(0 + x.n) : Int) (↑x.n : Int)) then
                      .ret (.bool true false) [(0, .tab (x.n) [.ints .i64 (x.kd), .strs (x.bs), .ints .i64 (x.N), .ints .i64 (x.op), .ints .i64 (x.r1), .ints .i64 (x.r2)] false), (1024, .cells [(.int false .i64 (q)), (.sl 0 (x.n))]), (1168, .dead), (1216, .tab (0 + x.n) [.ints .i64 (cat 0 (fun x => 0) x.kd), .strs (cat 0 (fun x => ByteArray.empty) x.bs), .ints .i64 (cat 0 (fun x => 0) x.N), .ints .i64 (cat 0 (fun x => 0) x.op), .ints .i64 (cat 0 (fun x => 0) x.r1), .ints .i64 (cat 0 (fun x => 0) x.r2)] true)]
                    else
                      bif (Nat.beq (0 + x.n) (x.n)) then
                        bif (Nat.beq (x.n) (x.n)) then
                          bif (clsB ((xz x) = x)) then
                            bif (Nat.ble (x.n) (4611686018427387904)) then
                              .norm 88 [(.ptr 1024 0 0), (.int false .i64 (ar .add .i64 t 1))] [(0, .tab (x.n) [.ints .i64 (x.kd), .strs (x.bs), .ints .i64 (x.N), .ints .i64 (x.op), .ints .i64 (x.r1), .ints .i64 (x.r2)] false), (1024, .cells [(.int false .i64 (q)), (.sl 0 (x.n))])]
                            else .bad
                          else .bad
                        else .bad
                      else .bad
                  else .bad
                else .bad
              else .bad
            else .bad
          else .bad
        else .bad
      else .bad
    else
      .exit 0 88 [(.ptr 1024 0 0), (.int false .i64 (t))] [(0, .tab (x.n) [.ints .i64 (x.kd), .strs (x.bs), .ints .i64 (x.N), .ints .i64 (x.op), .ints .i64 (x.r1), .ints .i64 (x.r2)] false), (1024, .cells [(.int false .i64 (q)), (.sl 0 (x.n))])]) := by kernel_rfl

theorem t3 (x : It) (q : Int) : (evalF E3 Try.prog 3 [SV.agg (vA x q)] (hI x) 1024).bare =
    (bif (Nat.beq (x.n) (x.n)) then
      bif (Nat.ble (x.n) (4611686018427387904)) then
        bif (heavyP x) then
          .ret (.bool true true) []
        else
          bif (Nat.beq (x.n) (x.n)) then
            bif (clsB (x.n ≤ 1048576)) then
              .ret (.bool true true) []
            else .bad
          else .bad
      else .bad
    else .bad) := by kernel_rfl

end Go.La
end

section
set_option linter.unusedVariables false
open Go Go.Ev Go.Proofs
namespace Go.La

/-- where the label that is named last begins -/
noncomputable def toK (x : It) (t c : Int) (k : Nat) : Int := bif domK x k c then (yL x t).pos (lbK x k c).toNat else 0
noncomputable def h7 (x : It) (q : Int) : Heap := [(0, .tab x.n x.cols false), (1024, .cells [.int false .i64 q, .sl 0 x.n]), (1280, .tab x.n [.ints .i64 (yL x q).pos] false)]
def itL (kd : Int) (bs : ByteArray) (N op r1 r2 : Int) : List SV := [.int false .i64 kd, .str bs, .int false .i64 N, .int false .i64 op, .int false .i64 r1, .int false .i64 r2]
noncomputable def h7b (x : It) (q : Int) (kd : Int) (bs : ByteArray) (N op r1 r2 : Int) : Heap := [(0, .tab x.n x.cols false), (1024, .cells [.int false .i64 q, .sl 0 x.n]), (1280, .tab x.n [.ints .i64 (yL x q).pos] false), (1808, .cells (itL kd bs N op r1 r2))]
def v7b (x : It) (s : ByteArray) (i to k : Int) : List SV := [.ptr 1024 0 0, .str s, .sl 1280 x.n, .int false .i64 i, .ptr 1808 0 0, .int false .i64 to, .int false .i64 k]
def lk7b : Lp := ⟨155, [1, 3, 4, 6, 7, 8, 9], 2080, fun _ _ => none⟩
noncomputable def get7b : List SV → Heap → Option Tr
  | [.ptr k r c, .str s, .sl ka na, .int _ .i64 i, .ptr k2 r2' c2, .int _ .i64 to, .int _ .i64 kk], [(j0, .tab n1 [.ints .i64 kd, .strs bs, .ints .i64 N, .ints .i64 op, .ints .i64 r1, .ints .i64 r2] _), (j1, .cells [.int _ .i64 q, .sl k0 n0]), (j2, .tab n2 [.ints .i64 pos] _), (j3, .cells [.int _ .i64 kd', .str bs', .int _ .i64 N', .int _ .i64 op', .int _ .i64 r1', .int _ .i64 r2''])] =>
    some (Tr.needs [Nat.beq k 1024, Nat.beq r 0, Nat.beq c 0, Nat.beq ka 1280, Nat.beq na n1, Nat.beq k2 1808, Nat.beq r2' 0, Nat.beq c2 0, decide (to = 0), decide (kk = 0), Nat.beq j0 0, Nat.beq j1 1024, Nat.beq j2 1280, Nat.beq j3 1808, Nat.beq k0 0, Nat.beq n0 n1, Nat.beq n2 n1, clsB (pos = (yL ⟨n1, kd, bs, N, op, r1, r2⟩ q).pos), smB n1]
      (exitT lk7b 2 [.ptr 1024 0 0, .str s, .sl 1280 n1, .int false .i64 i, .ptr 1808 0 0, .int false .i64 (toK ⟨n1, kd, bs, N, op, r1, r2⟩ q N' n1), .any] (h7b ⟨n1, kd, bs, N, op, r1, r2⟩ q kd' bs' N' op' r1' r2'')))
  | _, _ => none
noncomputable def lq7b : Lp := { lk7b with get := get7b }
noncomputable def E7c : Env := inlF Try.prog (envOf [(19, specOf g19)] noLoop) [17, 18] [] [] 3
noncomputable def E7d : Env := ⟨E7c.call, loopEnv [(1, lq7b)]⟩
noncomputable def v7 (x : It) (q i : Int) : List SV := [.ptr 1024 0 0, .str (outB x q), .sl 1280 x.n, .int false .i64 i]
def lk7 : Lp := ⟨155, [1, 3, 4, 6], 1648, fun _ _ => none⟩
noncomputable def get7 : List SV → Heap → Option Tr
  | [.ptr k r c, .str s, .sl ka na, .int _ .i64 i], [(j0, .tab n1 [.ints .i64 kd, .strs bs, .ints .i64 N, .ints .i64 op, .ints .i64 r1, .ints .i64 r2] _), (j1, .cells [.int _ .i64 q, .sl k0 n0]), (j2, .tab n2 [.ints .i64 pos] _)] =>
    some (Tr.needs [Nat.beq k 1024, Nat.beq r 0, Nat.beq c 0, Nat.beq ka 1280, Nat.beq na n1, decide (i = 0), Nat.beq j0 0, Nat.beq j1 1024, Nat.beq j2 1280, Nat.beq k0 0, Nat.beq n0 n1, Nat.beq n2 n1, clsB (s = outB ⟨n1, kd, bs, N, op, r1, r2⟩ q), clsB (pos = (yL ⟨n1, kd, bs, N, op, r1, r2⟩ q).pos), okB q ⟨n1, kd, bs, N, op, r1, r2⟩, fitB ⟨n1, kd, bs, N, op, r1, r2⟩ q]
      (exitT lk7 0 [.any, .any, .any, .any] []))
  | _, _ => none
noncomputable def lq7 : Lp := { lk7 with get := get7 }
noncomputable def E7T0 : Env := inlF Try.prog (envOf [(8, specOf g8S), (10, specOf g10T), (9, specOf g9T), (15, specOf g15)] noLoop) [12] [] [] 3
noncomputable def E7T : Env := ⟨E7T0.call, loopEnv [(0, lq7)]⟩
noncomputable def E7R : Env := inlF Try.prog (envOf [(8, specOf g8S), (10, specOf g10T), (9, specOf g9R)] noLoop) [12] [] [] 3
noncomputable def E7F : Env := inlF Try.prog (envOf [(8, specOf g8S), (10, specOf g10F)] noLoop) [12] [] [] 3
--LEAVES

theorem r7b (x : It) (s : ByteArray) (q : Int) (i : Int) (to : Int) (k : Int) (kd : Int) (bs : ByteArray) (N : Int) (op : Int) (r1 : Int) (r2 : Int) : (evalB EI Try.prog Try.f7.results.toList (loopOf Try.f7 1) 2 lk7b (v7b x s i to k) (h7b x q kd bs N op r1 r2)).view [1, 3, 4, 6, 7, 8, 9] =
    (bif (cm .lss k (↑x.n : Int)) then
      bif (decide (0 ≤ k)) then
        bif (decide (k < (↑x.n : Int))) then
          bif (Nat.blt (k.toNat) (x.n)) then
            bif (Nat.blt (k.toNat) (x.n)) then
              bif (bif cm .eql (x.kd k.toNat) 2 then allB [decide (0 ≤ k), decide (k < (↑x.n : Int)), k.toNat.blt x.n, k.toNat.blt x.n] else true) then
                bif (bif cm .eql (x.kd k.toNat) 2 then cm .eql (x.N k.toNat) N else false) then
                  bif (decide (0 ≤ k)) then
                    bif (decide (k < (↑x.n : Int))) then
                      bif (Nat.blt (k.toNat) (x.n)) then
                        bif (Nat.blt (k.toNat) (x.n)) then
                          .norm 155 [(.ptr 1024 0 0), (.str (s)), (.sl 1280 (x.n)), (.int false .i64 (i)), (.ptr 1808 0 0), (.int false .i64 ((yL x q).pos k.toNat)), (.int false .i64 (ar .add .i64 k 1))] [(0, .tab (x.n) [.ints .i64 (x.kd), .strs (x.bs), .ints .i64 (x.N), .ints .i64 (x.op), .ints .i64 (x.r1), .ints .i64 (x.r2)] false), (1024, .cells [(.int false .i64 (q)), (.sl 0 (x.n))]), (1280, .tab (x.n) [.ints .i64 ((yL x q).pos)] false), (1808, .cells [(.int false .i64 (kd)), (.str (bs)), (.int false .i64 (N)), (.int false .i64 (op)), (.int false .i64 (r1)), (.int false .i64 (r2))])]
                        else .bad
                      else .bad
                    else .bad
                  else .bad
                else
                  .norm 155 [(.ptr 1024 0 0), (.str (s)), (.sl 1280 (x.n)), (.int false .i64 (i)), (.ptr 1808 0 0), (.int false .i64 (to)), (.int false .i64 (ar .add .i64 k 1))] [(0, .tab (x.n) [.ints .i64 (x.kd), .strs (x.bs), .ints .i64 (x.N), .ints .i64 (x.op), .ints .i64 (x.r1), .ints .i64 (x.r2)] false), (1024, .cells [(.int false .i64 (q)), (.sl 0 (x.n))]), (1280, .tab (x.n) [.ints .i64 ((yL x q).pos)] false), (1808, .cells [(.int false .i64 (kd)), (.str (bs)), (.int false .i64 (N)), (.int false .i64 (op)), (.int false .i64 (r1)), (.int false .i64 (r2))])]
              else .bad
            else .bad
          else .bad
        else .bad
      else .bad
    else
      .exit 2 155 [(.ptr 1024 0 0), (.str (s)), (.sl 1280 (x.n)), (.int false .i64 (i)), (.ptr 1808 0 0), (.int false .i64 (to)), (.int false .i64 (k))] [(0, .tab (x.n) [.ints .i64 (x.kd), .strs (x.bs), .ints .i64 (x.N), .ints .i64 (x.op), .ints .i64 (x.r1), .ints .i64 (x.r2)] false), (1024, .cells [(.int false .i64 (q)), (.sl 0 (x.n))]), (1280, .tab (x.n) [.ints .i64 ((yL x q).pos)] false), (1808, .cells [(.int false .i64 (kd)), (.str (bs)), (.int false .i64 (N)), (.int false .i64 (op)), (.int false .i64 (r1)), (.int false .i64 (r2))])]) := by kernel_rfl

theorem r7 (x : It) (q : Int) (i : Int) : (evalB E7d Try.prog Try.f7.results.toList (loopOf Try.f7 0) 1 lk7 (v7 x q i) (h7 x q)).view [1, 3, 4, 6] =
    (bif (cm .lss i (↑x.n : Int)) then
      bif (decide (0 ≤ i)) then
        bif (decide (i < (↑x.n : Int))) then
          bif (Nat.blt (i.toNat) (x.n)) then
            bif (Nat.blt (i.toNat) (x.n)) then
              bif (bif cm .neq (x.kd i.toNat) 3 then bif cm .neq (x.kd i.toNat) 4 then cm .neq (x.kd i.toNat) 5 else false else false) then
                .norm 155 [(.ptr 1024 0 0), (.str (outB x q)), (.sl 1280 (x.n)), (.int false .i64 (ar .add .i64 i 1))] [(0, .tab (x.n) [.ints .i64 (x.kd), .strs (x.bs), .ints .i64 (x.N), .ints .i64 (x.op), .ints .i64 (x.r1), .ints .i64 (x.r2)] false), (1024, .cells [(.int false .i64 (q)), (.sl 0 (x.n))]), (1280, .tab (x.n) [.ints .i64 ((yL x q).pos)] false), (1808, .cells [(.int false .i64 (x.kd i.toNat)), (.str (x.bs i.toNat)), (.int false .i64 (x.N i.toNat)), (.int false .i64 (x.op i.toNat)), (.int false .i64 (x.r1 i.toNat)), (.int false .i64 (x.r2 i.toNat))])]
              else
                bif (Nat.beq (x.n) (x.n)) then
                  bif (Nat.beq (x.n) (x.n)) then
                    bif (Nat.beq (x.n) (x.n)) then
                      bif (clsB ((yL x q).pos = (yL x q).pos)) then
                        bif (smB x.n) then
                          bif (decide (0 ≤ i)) then
                            bif (decide (i < (↑x.n : Int))) then
                              bif (Nat.blt (i.toNat) (x.n)) then
                                bif (Nat.blt (i.toNat) (x.n)) then
                                  bif (!bif cm .geq ((yL x q).pos i.toNat) 0 then cm .leq ((yL x q).pos i.toNat) (↑(outB x q).size : Int) else false) then
                                    .ret (.bool true false) [(0, .tab (x.n) [.ints .i64 (x.kd), .strs (x.bs), .ints .i64 (x.N), .ints .i64 (x.op), .ints .i64 (x.r1), .ints .i64 (x.r2)] false), (1024, .cells [(.int false .i64 (q)), (.sl 0 (x.n))]), (1280, .tab (x.n) [.ints .i64 ((yL x q).pos)] false), (1808, .cells [(.int false .i64 (x.kd i.toNat)), (.str (x.bs i.toNat)), (.int false .i64 (x.N i.toNat)), (.int false .i64 (x.op i.toNat)), (.int false .i64 (x.r1 i.toNat)), (.int false .i64 (x.r2 i.toNat))])]
                                  else
                                    bif (cm .lss (ar .add .i64 i 1) (↑x.n : Int)) then
                                      bif (decide (0 ≤ ar .add .i64 i 1)) then
                                        bif (decide (ar .add .i64 i 1 < (↑x.n : Int))) then
                                          bif (Nat.blt ((ar .add .i64 i 1).toNat) (x.n)) then
                                            bif (Nat.blt ((ar .add .i64 i 1).toNat) (x.n)) then
                                              bif (decide (0 ≤ i)) then
                                                bif (decide (i < (↑x.n : Int))) then
                                                  bif (Nat.blt (i.toNat) (x.n)) then
                                                    bif (Nat.blt (i.toNat) (x.n)) then
                                                      bif (!bif cm .geq ((yL x q).pos (ar .add .i64 i 1).toNat) ((yL x q).pos i.toNat) then cm .leq ((yL x q).pos (ar .add .i64 i 1).toNat) (↑(outB x q).size : Int) else false) then
                                                        .ret (.bool true false) [(0, .tab (x.n) [.ints .i64 (x.kd), .strs (x.bs), .ints .i64 (x.N), .ints .i64 (x.op), .ints .i64 (x.r1), .ints .i64 (x.r2)] false), (1024, .cells [(.int false .i64 (q)), (.sl 0 (x.n))]), (1280, .tab (x.n) [.ints .i64 ((yL x q).pos)] false), (1808, .cells [(.int false .i64 (x.kd i.toNat)), (.str (x.bs i.toNat)), (.int false .i64 (x.N i.toNat)), (.int false .i64 (x.op i.toNat)), (.int false .i64 (x.r1 i.toNat)), (.int false .i64 (x.r2 i.toNat))])]
                                                      else
                                                        bif (decide (0 ≤ i)) then
                                                          bif (decide (i < (↑x.n : Int))) then
                                                            bif (Nat.blt (i.toNat) (x.n)) then
                                                              bif (Nat.blt (i.toNat) (x.n)) then
                                                                bif (decide (0 ≤ (yL x q).pos i.toNat)) then
                                                                  bif (decide (0 ≤ (yL x q).pos (ar .add .i64 i 1).toNat)) then
                                                                    bif (Nat.ble (((yL x q).pos i.toNat).toNat) (((yL x q).pos (ar .add .i64 i 1).toNat).toNat)) then
                                                                      bif (Nat.ble (((yL x q).pos (ar .add .i64 i 1).toNat).toNat) ((outB x q).size)) then
                                                                        bif (wayS q ((outB x q).extract ((yL x q).pos i.toNat).toNat ((yL x q).pos (ar .add .i64 i 1).toNat).toNat)) then
                                                                          bif (bif false then true else allB [decide (0 ≤ i), decide (i < (↑x.n : Int)), i.toNat.blt x.n, i.toNat.blt x.n]) then
                                                                            bif (bif false then true else cm .neq (ar .add .i64 ((yL x q).pos i.toNat) (ldE q ((outB x q).extract ((yL x q).pos i.toNat).toNat ((yL x q).pos (ar .add .i64 i 1).toNat).toNat))) (toK x q (x.N i.toNat) x.n)) then
                                                                              .ret (.bool true false) [(0, .tab (x.n) [.ints .i64 (x.kd), .strs (x.bs), .ints .i64 (x.N), .ints .i64 (x.op), .ints .i64 (x.r1), .ints .i64 (x.r2)] false), (1024, .cells [(.int false .i64 (q)), (.sl 0 (x.n))]), (1280, .tab (x.n) [.ints .i64 ((yL x q).pos)] false), (1808, .cells [(.int false .i64 (x.kd i.toNat)), (.str (x.bs i.toNat)), (.int false .i64 (x.N i.toNat)), (.int false .i64 (x.op i.toNat)), (.int false .i64 (x.r1 i.toNat)), (.int false .i64 (x.r2 i.toNat))])]
                                                                            else
                                                                              .norm 155 [(.ptr 1024 0 0), (.str (outB x q)), (.sl 1280 (x.n)), (.int false .i64 (ar .add .i64 i 1))] [(0, .tab (x.n) [.ints .i64 (x.kd), .strs (x.bs), .ints .i64 (x.N), .ints .i64 (x.op), .ints .i64 (x.r1), .ints .i64 (x.r2)] false), (1024, .cells [(.int false .i64 (q)), (.sl 0 (x.n))]), (1280, .tab (x.n) [.ints .i64 ((yL x q).pos)] false), (1808, .cells [(.int false .i64 (x.kd i.toNat)), (.str (x.bs i.toNat)), (.int false .i64 (x.N i.toNat)), (.int false .i64 (x.op i.toNat)), (.int false .i64 (x.r1 i.toNat)), (.int false .i64 (x.r2 i.toNat))])]
                                                                          else .bad
                                                                        else .bad
                                                                      else .bad
                                                                    else .bad
                                                                  else .bad
                                                                else .bad
                                                              else .bad
                                                            else .bad
                                                          else .bad
                                                        else .bad
                                                    else .bad
                                                  else .bad
                                                else .bad
                                              else .bad
                                            else .bad
                                          else .bad
                                        else .bad
                                      else .bad
                                    else
                                      bif (decide (0 ≤ i)) then
                                        bif (decide (i < (↑x.n : Int))) then
                                          bif (Nat.blt (i.toNat) (x.n)) then
                                            bif (Nat.blt (i.toNat) (x.n)) then
                                              bif (!bif cm .geq (↑(outB x q).size : Int) ((yL x q).pos i.toNat) then cm .leq (↑(outB x q).size : Int) (↑(outB x q).size : Int) else false) then
                                                .ret (.bool true false) [(0, .tab (x.n) [.ints .i64 (x.kd), .strs (x.bs), .ints .i64 (x.N), .ints .i64 (x.op), .ints .i64 (x.r1), .ints .i64 (x.r2)] false), (1024, .cells [(.int false .i64 (q)), (.sl 0 (x.n))]), (1280, .tab (x.n) [.ints .i64 ((yL x q).pos)] false), (1808, .cells [(.int false .i64 (x.kd i.toNat)), (.str (x.bs i.toNat)), (.int false .i64 (x.N i.toNat)), (.int false .i64 (x.op i.toNat)), (.int false .i64 (x.r1 i.toNat)), (.int false .i64 (x.r2 i.toNat))])]
                                              else
                                                bif (decide (0 ≤ i)) then
                                                  bif (decide (i < (↑x.n : Int))) then
                                                    bif (Nat.blt (i.toNat) (x.n)) then
                                                      bif (Nat.blt (i.toNat) (x.n)) then
                                                        bif (decide (0 ≤ (yL x q).pos i.toNat)) then
                                                          bif (decide (0 ≤ (↑(outB x q).size : Int))) then
                                                            bif (Nat.ble (((yL x q).pos i.toNat).toNat) ((↑(outB x q).size : Int).toNat)) then
                                                              bif (Nat.ble ((↑(outB x q).size : Int).toNat) ((outB x q).size)) then
                                                                bif (wayS q ((outB x q).extract ((yL x q).pos i.toNat).toNat (↑(outB x q).size : Int).toNat)) then
                                                                  bif (bif false then true else allB [decide (0 ≤ i), decide (i < (↑x.n : Int)), i.toNat.blt x.n, i.toNat.blt x.n]) then
                                                                    bif (bif false then true else cm .neq (ar .add .i64 ((yL x q).pos i.toNat) (ldE q ((outB x q).extract ((yL x q).pos i.toNat).toNat (↑(outB x q).size : Int).toNat))) (toK x q (x.N i.toNat) x.n)) then
                                                                      .ret (.bool true false) [(0, .tab (x.n) [.ints .i64 (x.kd), .strs (x.bs), .ints .i64 (x.N), .ints .i64 (x.op), .ints .i64 (x.r1), .ints .i64 (x.r2)] false), (1024, .cells [(.int false .i64 (q)), (.sl 0 (x.n))]), (1280, .tab (x.n) [.ints .i64 ((yL x q).pos)] false), (1808, .cells [(.int false .i64 (x.kd i.toNat)), (.str (x.bs i.toNat)), (.int false .i64 (x.N i.toNat)), (.int false .i64 (x.op i.toNat)), (.int false .i64 (x.r1 i.toNat)), (.int false .i64 (x.r2 i.toNat))])]
                                                                    else
                                                                      .norm 155 [(.ptr 1024 0 0), (.str (outB x q)), (.sl 1280 (x.n)), (.int false .i64 (ar .add .i64 i 1))] [(0, .tab (x.n) [.ints .i64 (x.kd), .strs (x.bs), .ints .i64 (x.N), .ints .i64 (x.op), .ints .i64 (x.r1), .ints .i64 (x.r2)] false), (1024, .cells [(.int false .i64 (q)), (.sl 0 (x.n))]), (1280, .tab (x.n) [.ints .i64 ((yL x q).pos)] false), (1808, .cells [(.int false .i64 (x.kd i.toNat)), (.str (x.bs i.toNat)), (.int false .i64 (x.N i.toNat)), (.int false .i64 (x.op i.toNat)), (.int false .i64 (x.r1 i.toNat)), (.int false .i64 (x.r2 i.toNat))])]
                                                                  else .bad
                                                                else .bad
                                                              else .bad
                                                            else .bad
                                                          else .bad
                                                        else .bad
                                                      else .bad
                                                    else .bad
                                                  else .bad
                                                else .bad
                                            else .bad
                                          else .bad
                                        else .bad
                                      else .bad
                                else .bad
                              else .bad
                            else .bad
                          else .bad
                        else .bad
                      else .bad
                    else .bad
                  else .bad
                else .bad
            else .bad
          else .bad
        else .bad
      else .bad
    else
      .exit 0 155 [(.ptr 1024 0 0), (.str (outB x q)), (.sl 1280 (x.n)), (.int false .i64 (i))] [(0, .tab (x.n) [.ints .i64 (x.kd), .strs (x.bs), .ints .i64 (x.N), .ints .i64 (x.op), .ints .i64 (x.r1), .ints .i64 (x.r2)] false), (1024, .cells [(.int false .i64 (q)), (.sl 0 (x.n))]), (1280, .tab (x.n) [.ints .i64 ((yL x q).pos)] false)]) := by kernel_rfl

theorem t7T (x : It) (q : Int) : (evalF E7T Try.prog 7 [SV.agg (vA x q)] (hI x) 1024).bare =
    (bif (Nat.beq (x.n) (x.n)) then
      bif (Nat.ble (x.n) (4611686018427387904)) then
        bif (bif heavyP x then true else allB [x.n.beq x.n, okB q x]) then
          bif (bif heavyP x then true else false) then
            .ret (.bool true true) []
          else
            bif (Nat.beq (x.n) (x.n)) then
              bif (okB q x) then
                bif (fitB x q) then
                  bif (cm .neq (↑x.n : Int) (↑x.n : Int)) then
                    .ret (.bool true false) []
                  else
                    bif (Nat.beq (x.n) (x.n)) then
                      bif (Nat.beq (x.n) (x.n)) then
                        bif (Nat.beq (x.n) (x.n)) then
                          bif (clsB (outB x q = outB x q)) then
                            bif (clsB ((yL x q).pos = (yL x q).pos)) then
                              bif (okB q x) then
                                bif (fitB x q) then
                                  .ret (.bool true true) []
                                else .bad
                              else .bad
                            else .bad
                          else .bad
                        else .bad
                      else .bad
                    else .bad
                else .bad
              else .bad
            else .bad
        else .bad
      else .bad
    else .bad) := by kernel_rfl

theorem t7R (x : It) (q : Int) : (evalF E7R Try.prog 7 [SV.agg (vA x q)] (hI x) 1024).bare =
    (bif (Nat.beq (x.n) (x.n)) then
      bif (Nat.ble (x.n) (4611686018427387904)) then
        bif (bif heavyP x then true else allB [x.n.beq x.n, okB q x]) then
          bif (bif heavyP x then true else false) then
            .ret (.bool true true) []
          else
            bif (Nat.beq (x.n) (x.n)) then
              bif (okB q x) then
                bif (farB x q) then
                  .ret (.bool true true) []
                else .bad
              else .bad
            else .bad
        else .bad
      else .bad
    else .bad) := by kernel_rfl

theorem t7F (x : It) (q : Int) : (evalF E7F Try.prog 7 [SV.agg (vA x q)] (hI x) 1024).bare =
    (bif (Nat.beq (x.n) (x.n)) then
      bif (Nat.ble (x.n) (4611686018427387904)) then
        bif (bif heavyP x then true else allB [x.n.beq x.n, noB q x]) then
          bif (bif heavyP x then true else true) then
            .ret (.bool true true) []
          else .bad
        else .bad
      else .bad
    else .bad) := by kernel_rfl

end Go.La
end

section
set_option linter.unusedVariables false
open Go Go.Ev Go.Proofs Go.ChangeShapes Go.WideShapes Go.ChangeAt Go.RowKit
namespace Go.La

theorem Round_t {α : Type} {s : Lp} {ok : α → Prop} {μ : α → Nat} {vs : α → List SV} {hp : α → Heap} {out : α → Vw} {x : α} {b : Bool} {p q : Vw} (hb : b = true) (h : Round s ok μ vs hp out x p) : Round s ok μ vs hp out x (bif b then p else q) := by
  rw [hb]; exact h
theorem Round_f {α : Type} {s : Lp} {ok : α → Prop} {μ : α → Nat} {vs : α → List SV} {hp : α → Heap} {out : α → Vw} {x : α} {b : Bool} {p q : Vw} (hb : b = false) (h : Round s ok μ vs hp out x q) : Round s ok μ vs hp out x (bif b then p else q) := by
  rw [hb]; exact h

theorem toK_succ (x : It) (t c : Int) (k : Nat) : toK x t c (k + 1) = bif (bif cm .eql (x.kd k) 2 then cm .eql (x.N k) c else false) then (yL x t).pos k else toK x t c k := by
  simp only [toK, domK, lbK, cm_eql']
  cases h2 : decide (x.kd k = 2) with
  | false => simp only [cond_false]
  | true =>
    simp only [cond_true, updI]
    by_cases hc : x.N k = c
    · rw [hc, decide_eq_true rfl]
      simp
    · have : (c == x.N k) = false := beq_eq_false_iff_ne.2 fun e => hc e.symm
      rw [this, decide_eq_false hc]
      rfl
theorem toK_zero (x : It) (t c : Int) : toK x t c 0 = 0 := rfl

structure X7b where
  x : It
  s : ByteArray
  q : Int
  i : Int
  kd : Int
  bs : ByteArray
  N : Int
  op : Int
  r1 : Int
  r2 : Int
  k : Nat
def ok7b (z : X7b) : Prop := z.k ≤ z.x.n ∧ z.x.n ≤ 32000
noncomputable def vs7b (z : X7b) : List SV := v7b z.x z.s z.i (toK z.x z.q z.N z.k) z.k
noncomputable def hp7b (z : X7b) : Heap := h7b z.x z.q z.kd z.bs z.N z.op z.r1 z.r2
noncomputable def out7b (z : X7b) : Vw := .exit 2 155 [.ptr 1024 0 0, .str z.s, .sl 1280 z.x.n, .int false .i64 z.i, .ptr 1808 0 0, .int false .i64 (toK z.x z.q z.N z.x.n), .any] (hp7b z)
theorem h7b_wk (x : It) (q kd : Int) (bs : ByteArray) (N op r1 r2 : Int) {f g l l1 l2 l3 l4 l5 : Bool} {more : Heap} : wkH (rmap []) ((0, .tab x.n x.cols f) :: (1024, .cells [.int l .i64 q, .sl 0 x.n]) :: (1280, .tab x.n [.ints .i64 (yL x q).pos] g) :: (1808, .cells [.int l1 .i64 kd, .str bs, .int l2 .i64 N, .int l3 .i64 op, .int l4 .i64 r1, .int l5 .i64 r2]) :: more) (h7b x q kd bs N op r1 r2) := by
  simp [h7b, itL, wkH, wkB, wkCs, wkC, simL, sim, rmap, rlook, Ev.look, It.cols]
theorem h7_wk (x : It) (q : Int) {f g l : Bool} {more : Heap} : wkH (rmap []) ((0, .tab x.n x.cols f) :: (1024, .cells [.int l .i64 q, .sl 0 x.n]) :: (1280, .tab x.n [.ints .i64 (yL x q).pos] g) :: more) (h7 x q) := by
  simp [h7, wkH, wkB, wkCs, wkC, simL, sim, rmap, rlook, Ev.look, It.cols]
attribute [local irreducible] yL toK in
theorem entry7b (l : List SV) (H : Heap) (T : Tr) (h : lq7b.get l H = some T) (hb : T.leaf ≠ .bad) : ∃ x r, ok7b x ∧ WkV r lq7b.nm l H (vs7b x) (hp7b x) ∧ T.leaf = toLf lq7b (out7b x) := by
  replace h : get7b l H = some T := h
  unfold get7b at h
  split at h
  · rename_i k r c s ka na _ i k2 r2' c2 _ to _ kk j0 n1 kd bs N op r1 r2 _ j1 _ q k0 n0 j2 n2 pos _ j3 _ kd' bs' _ N' _ op' _ r1' _ r2''
    simp only [Option.some.injEq] at h
    subst h
    obtain ⟨hn, he⟩ := needs_ne hb
    rw [he]
    simp only [allB, Bool.and_eq_true, Bool.and_true, decide_eq_true_eq, Nat.beq_eq, clsB_iff, smB_iff] at hn
    obtain ⟨rfl, rfl, rfl, rfl, rfl, rfl, rfl, rfl, rfl, rfl, rfl, rfl, rfl, rfl, rfl, rfl, rfl, rfl, hs⟩ := hn
    refine ⟨⟨⟨_, kd, bs, N, op, r1, r2⟩, s, q, i, kd', bs', N', op', r1', r2'', 0⟩, [], ⟨Nat.zero_le _, hs⟩, ?_, ?_⟩
    · refine ⟨rfl, ⟨⟨rfl, rfl, rfl⟩, rfl, ⟨rfl, rfl⟩, ⟨rfl, rfl⟩, ⟨rfl, rfl, rfl⟩, ⟨rfl, (toK_zero _ _ _).symm⟩, ⟨rfl, rfl⟩, trivial⟩, ?_, rfl, rfl⟩
      exact h7b_wk _ q kd' bs' N' op' r1' r2'' (more := [])
    · simp only [exitT_leaf, out7b]
      rfl
  · cases h
theorem lq_7b {E : Env} {P : Program} {res : List ResultVar} {c : Code} {n : Nat} {l : List SV} {H : Heap} : evalB E P res c n lq7b l H = evalB E P res c n lk7b l H := rfl
attribute [local irreducible] evalB Tr.view yL toK in
theorem round7b (z : X7b) (hx : ok7b z) : Round lq7b ok7b (fun z => z.x.n - z.k) vs7b hp7b out7b z ((evalB EI Try.prog Try.f7.results.toList (loopOf Try.f7 1) (1 + 1) lk7b (vs7b z) (hp7b z)).view lq7b.ks) := by
  obtain ⟨x, s, q, i, kd, bs, N, op, r1, r2, k⟩ := z
  obtain ⟨h0, hs⟩ := hx
  simp only at h0 hs
  have hr := r7b x s q i (toK x q N k) k kd bs N op r1 r2
  rw [show evalB EI Try.prog Try.f7.results.toList (loopOf Try.f7 1) (1 + 1) lk7b (vs7b ⟨x, s, q, i, kd, bs, N, op, r1, r2, k⟩) (hp7b ⟨x, s, q, i, kd, bs, N, op, r1, r2, k⟩) = evalB EI Try.prog Try.f7.results.toList (loopOf Try.f7 1) 2 lk7b (v7b x s i (toK x q N k) k) (h7b x q kd bs N op r1 r2) from rfl, show lq7b.ks = [1, 3, 4, 6, 7, 8, 9] from rfl, hr]
  by_cases hi : k < x.n
  · have e1 : cm .lss (k : Int) (x.n : Int) = true := by rw [cm_lss']; exact decide_eq_true (by omega)
    have e2 : decide (0 ≤ (k : Int)) = true := decide_eq_true (by omega)
    have e3 : decide ((k : Int) < (x.n : Int)) = true := decide_eq_true (by omega)
    have e4 : (bif cm .eql (x.kd k) 2 then allB [true, true, true, true] else true) = true := by cases cm .eql (x.kd k) 2 <;> rfl
    simp only [e1, e2, e3, blt_t hi, cond_true, Int.toNat_natCast, addOne (show k < 9223372036854775807 by omega), e4]
    refine Round_cond (fun hc => ?_) (fun hc => ?_)
    · refine ⟨rfl, ⟨x, s, q, i, kd, bs, N, op, r1, r2, k + 1⟩, [], ⟨hi, hs⟩, by show x.n - (k + 1) < x.n - k; omega, rfl, rfl, ?_, ?_, rfl, rfl⟩
      · refine ⟨⟨rfl, rfl, rfl⟩, rfl, ⟨rfl, rfl⟩, ⟨rfl, rfl⟩, ⟨rfl, rfl, rfl⟩, ⟨rfl, ?_⟩, ⟨rfl, rfl⟩, trivial⟩
        show (yL x q).pos k = toK x q N (k + 1)
        rw [toK_succ, hc]; rfl
      · exact h7b_wk x q kd bs N op r1 r2 (more := [])
    · refine ⟨rfl, ⟨x, s, q, i, kd, bs, N, op, r1, r2, k + 1⟩, [], ⟨hi, hs⟩, by show x.n - (k + 1) < x.n - k; omega, rfl, rfl, ?_, ?_, rfl, rfl⟩
      · refine ⟨⟨rfl, rfl, rfl⟩, rfl, ⟨rfl, rfl⟩, ⟨rfl, rfl⟩, ⟨rfl, rfl, rfl⟩, ⟨rfl, ?_⟩, ⟨rfl, rfl⟩, trivial⟩
        show toK x q N k = toK x q N (k + 1)
        rw [toK_succ, hc]; rfl
      · exact h7b_wk x q kd bs N op r1 r2 (more := [])
  · obtain rfl : k = x.n := by omega
    have e1 : cm .lss (x.n : Int) (x.n : Int) = false := by simp [cm]
    simp only [e1, cond_false]
    refine ⟨rfl, [.ptr 1024 0 0, .str s, .sl 1280 x.n, .int false .i64 i, .ptr 1808 0 0, .int false .i64 (toK x q N x.n), .any], _, [], rfl, rfl, ?_, ?_, rfl, rfl⟩
    · exact ⟨⟨rfl, rfl, rfl⟩, rfl, ⟨rfl, rfl⟩, ⟨rfl, rfl⟩, ⟨rfl, rfl, rfl⟩, ⟨rfl, rfl⟩, trivial, trivial⟩
    · exact h7b_wk x q kd bs N op r1 r2 (more := [])
attribute [local irreducible] evalB Tr.view in
theorem loop7b {E : Env} (hl : ∀ S, E.loop 1 S = runLp lq7b S) : LoopOk E Try.prog Try.f7 1 (loopOf Try.f7 1) :=
  loop_okE mixed hl (by decide) ok7b (fun z => z.x.n - z.k) vs7b hp7b out7b entry7b fun x hx => ⟨EI, ei_calls, loops_noLoop ei_loop _ _, by rw [lq_7b]; exact round7b x hx⟩
theorem nl7a : Code.loops (loopOf Try.f7 0) = 1 := by kernel_rfl
theorem nth7b : nthLoop (loopOf Try.f7 0) 0 = some (loopOf Try.f7 1) := by kernel_rfl
theorem loops7a {E : Env} (hl : ∀ S, E.loop 1 S = runLp lq7b S) : LoopsOk E Try.prog Try.f7 (loopOf Try.f7 0) 1 := loopsOk_of _ 1 fun m a hm ha => by
  rw [nl7a] at hm
  obtain rfl : m = 0 := by omega
  rw [nth7b] at ha; simp only [Option.some.injEq] at ha; subst ha; exact loop7b hl
theorem named1718 : named Try.prog [17, 18] = true := by kernel_rfl
theorem e7c_calls : CallsOk E7c Try.prog := (inlF_calls ((SpecsOk.cons spec19 SpecsOk.nil).calls noLoop) mixed named1718 rfl rfl 3).1
theorem e7d_calls : CallsOk E7d Try.prog := fun f args H nm r h hn => e7c_calls f args H nm r h hn

/-! item by item -/
structure X7 where
  x : It
  q : Int
  i : Nat
def ok7 (z : X7) : Prop := z.i ≤ z.x.n ∧ okP z.q z.x ∧ endN z.x z.q ≤ 258048
noncomputable def vs7 (z : X7) : List SV := v7 z.x z.q z.i
noncomputable def hp7 (z : X7) : Heap := h7 z.x z.q
def out7 (z : X7) : Vw := .exit 0 155 [.any, .any, .any, .any] []
attribute [local irreducible] yL outB in
theorem entry7 (l : List SV) (H : Heap) (T : Tr) (h : lq7.get l H = some T) (hb : T.leaf ≠ .bad) : ∃ x r, ok7 x ∧ WkV r lq7.nm l H (vs7 x) (hp7 x) ∧ T.leaf = toLf lq7 (out7 x) := by
  replace h : get7 l H = some T := h
  unfold get7 at h
  split at h
  · rename_i k r c s ka na _ i j0 n1 kd bs N op r1 r2 _ j1 _ q k0 n0 j2 n2 pos _
    simp only [Option.some.injEq] at h
    subst h
    obtain ⟨hn, he⟩ := needs_ne hb
    rw [he]
    simp only [allB, Bool.and_eq_true, Bool.and_true, decide_eq_true_eq, Nat.beq_eq, clsB_iff, okB, fitB] at hn
    obtain ⟨rfl, rfl, rfl, rfl, rfl, rfl, rfl, rfl, rfl, rfl, rfl, rfl, rfl, rfl, ho, hf⟩ := hn
    refine ⟨⟨⟨_, kd, bs, N, op, r1, r2⟩, q, 0⟩, [], ⟨Nat.zero_le _, ho, hf⟩, ?_, ?_⟩
    · refine ⟨rfl, ⟨⟨rfl, rfl, rfl⟩, rfl, ⟨rfl, rfl⟩, ⟨rfl, rfl⟩, trivial⟩, ?_, rfl, rfl⟩
      exact h7_wk _ q (more := [])
    · simp only [exitT_leaf, out7]
      rfl
  · cases h
theorem lq_7 {E : Env} {P : Program} {res : List ResultVar} {c : Code} {n : Nat} {l : List SV} {H : Heap} : evalB E P res c n lq7 l H = evalB E P res c n lk7 l H := rfl
attribute [local irreducible] yL outB in
theorem next7 {x : It} {q : Int} {i : Nat} {f g : Bool} {more : Heap} (hi : i < x.n) (ho : okP q x) (hf : endN x q ≤ 258048) : Round lq7 ok7 (fun z => z.x.n - z.i) vs7 hp7 out7 ⟨x, q, i⟩ (.norm 155 [.ptr 1024 0 0, .str (outB x q), .sl 1280 x.n, .int false .i64 ((i + 1 : Nat) : Int)] ((0, .tab x.n x.cols f) :: (1024, .cells [.int false .i64 q, .sl 0 x.n]) :: (1280, .tab x.n [.ints .i64 (yL x q).pos] g) :: more)) := by
  refine ⟨rfl, ⟨x, q, i + 1⟩, [], ⟨hi, ho, hf⟩, by show x.n - (i + 1) < x.n - i; omega, rfl, rfl, ?_, ?_, rfl, rfl⟩
  · exact ⟨⟨rfl, rfl, rfl⟩, rfl, ⟨rfl, rfl⟩, ⟨rfl, rfl⟩, trivial⟩
  · exact h7_wk x q (more := more)
/-- where the label of a way begins -/
theorem to_way {x : It} {t : Int} (h : okP t x) {i : Nat} (hi : i < x.n) (hk : x.kd i = 3 ∨ x.kd i = 4 ∨ x.kd i = 5) : toK x t (x.N i) x.n = (yL x t).pos (lbK x x.n (x.N i)).toNat := by
  have := h.2.2.2 i hi
  have hc : (decide (x.kd i = 3) || (decide (x.kd i = 4) || decide (x.kd i = 5))) = true := by
    simp only [Bool.or_eq_true, decide_eq_true_eq]; exact hk
  unfold toB at this
  rw [hc, cond_true] at this
  unfold toK
  rw [this, cond_true]

end Go.La
end
