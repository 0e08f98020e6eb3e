/-
  layout: one target: contract, laws of a target.
-/
import Derived.Test.YtidihpmjndfbgaaC12
import Derived.Test.YtidihpmjndfbgaaB13
set_option linter.unusedSimpArgs false
set_option linter.unusedVariables false
section
set_option linter.unusedVariables false
open Go Go.Ev Go.Proofs Go.ChangeShapes Go.WideShapes Go.ChangeAt Go.RowKit
namespace Go.La

/-! nothing is the same as nothing -/
theorem lp13N_round : ∀ {E : Env} {P : Program} {res : List ResultVar} {c : Code} {n : Nat} {l : List SV} {H : Heap}, evalB E P res c n lp13N l H = evalB E P res c n lk13 l H := rfl
attribute [local irreducible] evalB Tr.view in
theorem loop13N : LoopOk E13N Try.prog Try.f13 0 (loopOf Try.f13 0) :=
  loop_okE mixed (fun S => rfl) (by decide) (fun _ : Unit => True) (fun _ => 0) (fun _ => v13N 0) (fun _ => []) (fun _ => .exit 0 26 [.any, .any, .any] [])
    (fun l H T h hb => by
      replace h : get13N l H = some T := h
      unfold get13N at h
      split at h
      · rename_i _ i
        simp only [Option.some.injEq] at h
        subst h
        obtain ⟨hn, he⟩ := needs_ne hb
        rw [he]
        simp only [allB, Bool.and_true, decide_eq_true_eq] at hn
        subst hn
        refine ⟨(), [], trivial, ⟨rfl, ⟨rfl, rfl, ⟨rfl, rfl⟩, trivial⟩, trivial, rfl, rfl⟩, ?_⟩
        simp only [exitT_leaf]
        rfl
      · cases h)
    fun x _ => ⟨EN, en_calls, loops_noLoop en_loop _ _, by
      rw [lp13N_round, show lp13N.ks = [0, 1, 5] from rfl, r13N]
      exact ⟨rfl, [.any, .any, .any], [], [], rfl, rfl, ⟨trivial, trivial, trivial, trivial⟩, trivial, rfl, rfl⟩⟩
theorem loops13N : LoopsOk E13N Try.prog Try.f13 (bodyOf Try.f13) 0 := loops1 nl13 fun a ha => by
  rw [nth13] at ha; simp only [Option.some.injEq] at ha; subst ha; exact loop13N
theorem e13N_calls : CallsOk E13N Try.prog := fun f args H nm r h hn => en_calls f args H nm r h hn
attribute [local irreducible] evalF Lf.gives in
theorem spec13N : SpecOk Try.prog 13 (specOf g13N) := spec_okA false e13N_calls mixed fn13 b13 n13 loops13N g13N fun a0 H0 r hg hn => by
  unfold g13N at hg
  split at hg
  · simp only [Option.some.injEq] at hg
    subst hg
    refine ⟨_, id, fun _ => rfl, ?_⟩
    show GivesD _ (evalF E13N Try.prog 13 [.val (.slice none 0 0), .val (.slice none 0 0)] [] 1024).leaf
    refine gives_giv (gives_tree t13N ?_)
    exact gives_ret fun σ σ' => rfl
  · cases hg

theorem e16H_calls : CallsOk E16H Try.prog := (SpecsOk.cons (spec8 true) SpecsOk.nil).calls noLoop
theorem e16T_calls : CallsOk E16T Try.prog := (inlF_calls ((SpecsOk.cons (spec8 false) (SpecsOk.cons spec9T (SpecsOk.cons spec10T (SpecsOk.cons (spec11 true) (SpecsOk.cons spec13 (SpecsOk.cons spec15 SpecsOk.nil)))))).calls noLoop) mixed named12 rfl rfl 3).1
theorem e16R_calls : CallsOk E16R Try.prog := (inlF_calls ((SpecsOk.cons (spec8 false) (SpecsOk.cons spec9R (SpecsOk.cons spec10T (SpecsOk.cons (spec11 false) (SpecsOk.cons spec13N (SpecsOk.cons spec15 SpecsOk.nil)))))).calls noLoop) mixed named12 rfl rfl 3).1
theorem e16F_calls : CallsOk E16F Try.prog := (inlF_calls ((SpecsOk.cons (spec8 false) (SpecsOk.cons spec9F (SpecsOk.cons spec10F (SpecsOk.cons spec13N (SpecsOk.cons spec15 SpecsOk.nil))))).calls noLoop) mixed named12 rfl rfl 3).1
theorem e16H_loop : E16H.loop = noLoop := rfl
theorem e16T_loop : E16T.loop = noLoop := rfl
theorem e16R_loop : E16R.loop = noLoop := rfl
theorem e16F_loop : E16F.loop = noLoop := rfl
theorem fn16 : Try.prog.funcs[16]? = some Try.f16 := by kernel_rfl
theorem b16 : Try.f16.body = some (bodyOf Try.f16) := by kernel_rfl
theorem n16 : (Try.f16.name == "runtime.NumGoroutine") = false := by kernel_rfl
theorem fit_far {x : It} {t : Int} (h : fitB x t = false) : farB x t = true := by
  refine cls_t ?_
  have : ¬ endN x t ≤ 258048 := fun h' => by rw [fitB, cls_t h'] at h; cases h
  omega
def g16 : List SV → Heap → Option R
  | [.agg [.int false .i64 q, .sl k n], .int false .i64 t], [(j0, .tab n1 [.ints .i64 kd, .strs bs, .ints .i64 N, .ints .i64 op, .ints .i64 r1, .ints .i64 r2] _)] => match Nat.beq k 0 && Nat.beq j0 0 with
    | true => some ⟨[Nat.beq n n1, Nat.ble n1 4611686018427387904], .bool true true, []⟩
    | false => none
  | _, _ => none
attribute [local irreducible] evalF Lf.gives outB yL in
theorem spec16 : SpecOk Try.prog 16 (specOf g16) := spec_okB false mixed fn16 b16 n16 g16 fun a0 H0 r hg hn => by
  unfold g16 at hg
  split at hg
  · rename_i q k n t j0 n1 kd bs N op r1 r2 _
    split at hg
    · rename_i hk
      simp only [Bool.and_eq_true, Nat.beq_eq] at hk
      obtain ⟨rfl, rfl⟩ := hk
      simp only [Option.some.injEq] at hg
      subst hg
      simp only [allB, Bool.and_eq_true, Bool.and_true, Nat.beq_eq] at hn
      obtain ⟨rfl, hs⟩ := hn
      generalize hx : (⟨n, kd, bs, N, op, r1, r2⟩ : It) = x
      cases hh : heavyP x with
      | true =>
        have hv : hvB x true = true := cls_t hh
        refine ⟨E16H, [.agg [.int false .i64 q, .sl 0 n], .int false .i64 t], e16H_calls, loops_noLoop e16H_loop _ _, id, fun _ => rfl, ?_⟩
        show GivesD _ (evalF E16H Try.prog 16 [.agg [.int false .i64 q, .sl 0 n], .int false .i64 t] (hI ⟨n, kd, bs, N, op, r1, r2⟩) 1024).leaf
        refine gives_giv (gives_tree (t16H ⟨n, kd, bs, N, op, r1, r2⟩ t q) ?_)
        rw [hx, hv]
        simp only [beq_t, hs, show x.n = n by rw [← hx], cond_true]
        exact gives_ret fun σ σ' => rfl
      | false =>
        have hv : hvB x false = true := cls_t hh
        by_cases hok : okP t x
        · have e1 : okB t x = true := cls_t hok
          have hn2 : n ≤ 32000 := by have := hok.1; rw [← hx] at this; exact this
          cases hf : fitB x t with
          | true =>
            refine ⟨E16T, [.agg [.int false .i64 q, .sl 0 n], .int false .i64 t], e16T_calls, loops_noLoop e16T_loop _ _, id, fun _ => rfl, ?_⟩
            show GivesD _ (evalF E16T Try.prog 16 [.agg [.int false .i64 q, .sl 0 n], .int false .i64 t] (hI ⟨n, kd, bs, N, op, r1, r2⟩) 1024).leaf
            refine gives_giv (gives_tree (t16T ⟨n, kd, bs, N, op, r1, r2⟩ t q) ?_)
            rw [hx, hv, e1, hf]
            simp only [beq_t, hs, show x.n = n by rw [← hx], cond_true, seq_self, cls_t, allB, eqA_iff.2 fun _ _ => rfl, ble_t (show n ≤ 100000000 by omega), Bool.and_self]
            exact gives_ret fun σ σ' => rfl
          | false =>
            refine ⟨E16R, [.agg [.int false .i64 q, .sl 0 n], .int false .i64 t], e16R_calls, loops_noLoop e16R_loop _ _, id, fun _ => rfl, ?_⟩
            show GivesD _ (evalF E16R Try.prog 16 [.agg [.int false .i64 q, .sl 0 n], .int false .i64 t] (hI ⟨n, kd, bs, N, op, r1, r2⟩) 1024).leaf
            refine gives_giv (gives_tree (t16R ⟨n, kd, bs, N, op, r1, r2⟩ t q) ?_)
            rw [hx, hv, e1, fit_far hf, hf]
            simp only [beq_t, hs, show x.n = n by rw [← hx], cond_true, cls_t]
            exact gives_ret fun σ σ' => rfl
        · have e1 : noB t x = true := cls_t hok
          refine ⟨E16F, [.agg [.int false .i64 q, .sl 0 n], .int false .i64 t], e16F_calls, loops_noLoop e16F_loop _ _, id, fun _ => rfl, ?_⟩
          show GivesD _ (evalF E16F Try.prog 16 [.agg [.int false .i64 q, .sl 0 n], .int false .i64 t] (hI ⟨n, kd, bs, N, op, r1, r2⟩) 1024).leaf
          refine gives_giv (gives_tree (t16F ⟨n, kd, bs, N, op, r1, r2⟩ t q) ?_)
          rw [hx, hv, e1]
          simp only [beq_t, hs, show x.n = n by rw [← hx], cond_true]
          exact gives_ret fun σ σ' => rfl
    · cases hg
  · cases hg

/-! the laws of a target -/
noncomputable def E5 : Env := envOf [(16, specOf g16)] noLoop
theorem fn5 : Try.prog.funcs[5]? = some Try.f5 := by kernel_rfl
theorem b5 : Try.f5.body = some (bodyOf Try.f5) := by kernel_rfl
theorem fn6 : Try.prog.funcs[6]? = some Try.f6 := by kernel_rfl
theorem b6 : Try.f6.body = some (bodyOf Try.f6) := by kernel_rfl
/-- an argument is an ask -/
def shapesA : List AK := [.flat (.int .i64), .slice [.int .i64, .str, .int .i64, .int .i64, .int .i64, .int .i64]]
def vA (x : It) (q : Int) : List SV := [.int false .i64 q, .sl 0 x.n]
theorem ask_it (al : List AD) (h : adsIs shapesA al) (hz : adsSmall al) : ∃ (x : It) (q : Int), svs al 0 = vA x q ∧ heapOf al 0 = hI x ∧ x.n ≤ reachBytes := by
  unfold shapesA at h
  obtain ⟨a0, al, rfl, h0, h⟩ := adsIs_cons h
  obtain ⟨a1, al, rfl, h1, h⟩ := adsIs_cons h
  obtain rfl := adsIs_nil h
  obtain ⟨q, rfl, _⟩ := adIs_int h0
  obtain ⟨n, cols, rfl, _, hc⟩ := adIs_slice h1
  obtain ⟨c0, cols, rfl, _, hc⟩ := colsIs_int hc
  obtain ⟨c1, cols, rfl, _, hc⟩ := colsIs_str hc
  obtain ⟨c2, cols, rfl, _, hc⟩ := colsIs_int hc
  obtain ⟨c3, cols, rfl, _, hc⟩ := colsIs_int hc
  obtain ⟨c4, cols, rfl, _, hc⟩ := colsIs_int hc
  obtain ⟨c5, cols, rfl, _, hc⟩ := colsIs_int hc
  obtain rfl := colsIs_nil hc
  simp only [adsSmall, and_true] at hz
  exact ⟨⟨n, c0, c1, c2, c3, c4, c5⟩, q, rfl, rfl, hz⟩
--LEAVES

theorem t5 (x : It) (q : Int) : (evalF E5 Try.prog 5 [SV.agg (vA x q)] (hI x) 1024).bare =
    (bif (Nat.beq (x.n) (x.n)) then
      bif (Nat.ble (x.n) (4611686018427387904)) then
        .ret (.bool true true) []
      else .bad
    else .bad) := by kernel_rfl

theorem t6 (x : It) (q : Int) : (evalF E5 Try.prog 6 [SV.agg (vA x q)] (hI x) 1024).bare =
    (bif (Nat.beq (x.n) (x.n)) then
      bif (Nat.ble (x.n) (4611686018427387904)) then
        .ret (.bool true true) []
      else .bad
    else .bad) := by kernel_rfl

end Go.La
end

section
set_option linter.unusedVariables false
open Go Go.Ev Go.Proofs Go.ChangeShapes Go.WideShapes Go.ChangeAt Go.RowKit
namespace Go.La

theorem e5_calls : CallsOk E5 Try.prog := (SpecsOk.cons spec16 SpecsOk.nil).calls noLoop
theorem e5_loop : E5.loop = noLoop := rfl
theorem loops5 : LoopsOk E5 Try.prog Try.f5 (bodyOf Try.f5) 0 := loops_noLoop e5_loop _ _
theorem loops6 : LoopsOk E5 Try.prog Try.f6 (bodyOf Try.f6) 0 := loops_noLoop e5_loop _ _
theorem reach_le {n : Nat} (h : n ≤ reachBytes) : Nat.ble n 4611686018427387904 = true := ble_t (Nat.le_trans h (by decide))
attribute [local irreducible] evalF in
theorem law5 (x : It) (q : Int) (h : x.n ≤ reachBytes) : (evalF E5 Try.prog 5 [.agg (vA x q)] (hI x) 1024).bare = .ret (.bool true true) [] := by
  rw [t5, beq_t, reach_le h]; rfl
attribute [local irreducible] evalF in
theorem law6 (x : It) (q : Int) (h : x.n ≤ reachBytes) : (evalF E5 Try.prog 6 [.agg (vA x q)] (hI x) 1024).bare = .ret (.bool true true) [] := by
  rw [t6, beq_t, reach_le h]; rfl

end Go.La
end

section
set_option linter.unusedVariables false
open Go Go.Ev Go.Proofs
namespace Go.La

/-- is it heavy, told by itself -/
noncomputable def g8S : List SV → Heap → Option R
  | [.agg [.int false .i64 t, .sl k n]], [(j0, .tab n1 [.ints .i64 kd, .strs bs, .ints .i64 N, .ints .i64 op, .ints .i64 r1, .ints .i64 r2] _)] => match Nat.beq k 0 && Nat.beq j0 0 with
    | true => some ⟨[Nat.beq n n1, Nat.ble n1 4611686018427387904], .bool false (heavyP ⟨n1, kd, bs, N, op, r1, r2⟩), []⟩
    | false => none
  | _, _ => none
attribute [local irreducible] evalF Lf.gives in
theorem spec8S : SpecOk Try.prog 8 (specOf g8S) := spec_okA false e8_calls mixed fn8 b8 n8 loops8 g8S fun a0 H0 r hg hn => by
  unfold g8S at hg
  split at hg
  · rename_i t k n j0 n1 kd bs N op r1 r2 _
    split at hg
    · rename_i hk
      simp only [Bool.and_eq_true, Nat.beq_eq] at hk
      obtain ⟨rfl, rfl⟩ := hk
      simp only [Option.some.injEq] at hg
      subst hg
      simp only [allB, Bool.and_eq_true, Bool.and_true, Nat.beq_eq] at hn
      obtain ⟨rfl, hs⟩ := hn
      refine ⟨_, id, fun _ => rfl, ?_⟩
      show GivesD _ (evalF E8 Try.prog 8 [.agg [.int false .i64 t, .sl 0 n]] (hI ⟨n, kd, bs, N, op, r1, r2⟩) 1024).leaf
      refine gives_giv (gives_tree (t8 ⟨n, kd, bs, N, op, r1, r2⟩ t) ?_)
      simp only [beq_t, hs, decide_true, cond_true]
      exact gives_ret fun σ σ' => rfl
    · cases hg
  · cases hg

/-- a copy -/
def xz (x : It) : It := ⟨0 + x.n, cat 0 (fun _ => 0) x.kd, cat 0 (fun _ => ByteArray.empty) x.bs, cat 0 (fun _ => 0) x.N, cat 0 (fun _ => 0) x.op, cat 0 (fun _ => 0) x.r1, cat 0 (fun _ => 0) x.r2⟩
def h3 (x : It) (q : Int) : Heap := [(0, .tab x.n x.cols false), (1024, .cells [.int false .i64 q, .sl 0 x.n])]
/-! are the items as they were -/
def v3b (x : It) (t i : Int) : List SV := [.ptr 1024 0 0, .int false .i64 t, .sl 1216 x.n, .int false .i64 i]
def h3b (x : It) (q : Int) : Heap := [(0, .tab x.n x.cols false), (1024, .cells [.int false .i64 q, .sl 0 x.n]), (1216, .tab x.n x.cols false)]
def lk3b : Lp := ⟨88, [1, 3, 4, 12], 2600, fun _ _ => none⟩
noncomputable def get3b : List SV → Heap → Option Tr
  | [.ptr k r c, .int _ .i64 t, .sl kn nn, .int _ .i64 i], (j0, .tab n1 [.ints .i64 kd, .strs bs, .ints .i64 N, .ints .i64 op, .ints .i64 r1, .ints .i64 r2] _) :: (j1, .cells [.int _ .i64 q, .sl k0 n0]) :: (jd, _) :: (j2, .tab n2 [.ints .i64 kd', .strs bs', .ints .i64 N', .ints .i64 op', .ints .i64 r1', .ints .i64 r2'] _) :: _ =>
    some (Tr.needs [Nat.beq k 1024, Nat.beq r 0, Nat.beq c 0, Nat.beq kn 1216, Nat.beq nn n1, decide (i = 0), Nat.beq j0 0, Nat.beq j1 1024, Nat.beq jd 1168, Nat.beq j2 1216, Nat.beq k0 0, Nat.beq n0 n1, clsB ((⟨n2, kd', bs', N', op', r1', r2'⟩ : It) = ⟨n1, kd, bs, N, op, r1, r2⟩), Nat.ble n1 4611686018427387904]
      (exitT lk3b 2 [.ptr 1024 0 0, .int false .i64 t, .any, .any] (h3 ⟨n1, kd, bs, N, op, r1, r2⟩ q)))
  | _, _ => none
noncomputable def lq3b : Lp := { lk3b with get := get3b }
noncomputable def E3T0 : Env := inlF Try.prog (envOf [(9, specOf g9T), (10, specOf g10T), (11, specOf (g11 true)), (13, specOf g13)] noLoop) [12] [] [] 3
noncomputable def E3R0 : Env := inlF Try.prog (envOf [(9, specOf g9R), (10, specOf g10T), (11, specOf (g11 false)), (13, specOf g13N)] noLoop) [12] [] [] 3
noncomputable def E3F0 : Env := inlF Try.prog (envOf [(9, specOf g9F), (10, specOf g10F), (13, specOf g13N)] noLoop) [12] [] [] 3
noncomputable def E3T : Env := ⟨E3T0.call, loopEnv [(1, lq3b)]⟩
noncomputable def E3R : Env := ⟨E3R0.call, loopEnv [(1, lq3b)]⟩
noncomputable def E3F : Env := ⟨E3F0.call, loopEnv [(1, lq3b)]⟩
/-! target by target -/
def v3 (t : Int) : List SV := [.ptr 1024 0 0, .int false .i64 t]
def lk3 : Lp := ⟨88, [1, 3], 1136, fun _ _ => none⟩
noncomputable def get3 : List SV → Heap → Option Tr
  | [.ptr k r c, .int _ .i64 t], [(j0, .tab n1 [.ints .i64 kd, .strs bs, .ints .i64 N, .ints .i64 op, .ints .i64 r1, .ints .i64 r2] _), (j1, .cells [.int _ .i64 q, .sl k0 n0])] =>
    some (Tr.needs [Nat.beq k 1024, Nat.beq r 0, Nat.beq c 0, decide (t = 0), Nat.beq j0 0, Nat.beq j1 1024, Nat.beq k0 0, Nat.beq n0 n1, clsB (n1 ≤ 1048576)] (exitT lk3 0 [.any, .any] []))
  | _, _ => none
noncomputable def lq3 : Lp := { lk3 with get := get3 }
noncomputable def E3a : Env := inlF Try.prog (envOf [(8, specOf g8S), (15, specOf g15)] noLoop) [14] [] [] 3
noncomputable def E3 : Env := ⟨E3a.call, loopEnv [(0, lq3)]⟩
--LEAVES

theorem r3b (x : It) (q : Int) (t : Int) (i : Int) : (evalB EI Try.prog Try.f3.results.toList (loopOf Try.f3 1) 2 lk3b (v3b x t i) (h3b x q)).view [1, 3, 4, 12] =
    (bif (cm .lss i (↑x.n : Int)) then
      bif (decide (0 ≤ i)) then
        bif (decide (i < (↑x.n : Int))) then
          bif (Nat.blt (i.toNat) (x.n)) then
            bif (Nat.blt (i.toNat) (x.n)) then
              bif (decide (0 ≤ i)) then
                bif (decide (i < (↑x.n : Int))) then
                  bif (Nat.blt (i.toNat) (x.n)) then
                    bif (Nat.blt (i.toNat) (x.n)) then
                      bif (!(x.kd i.toNat == x.kd i.toNat && (seq (x.bs i.toNat) (x.bs i.toNat) && (x.N i.toNat == x.N i.toNat && (x.op i.toNat == x.op i.toNat && (x.r1 i.toNat == x.r1 i.toNat && (x.r2 i.toNat == x.r2 i.toNat && true))))))) then
                        .ret (.bool true false) [(0, .tab (x.n) [.ints .i64 (x.kd), .strs (x.bs), .ints .i64 (x.N), .ints .i64 (x.op), .ints .i64 (x.r1), .ints .i64 (x.r2)] false), (1024, .cells [(.int false .i64 (q)), (.sl 0 (x.n))]), (1216, .tab (x.n) [.ints .i64 (x.kd), .strs (x.bs), .ints .i64 (x.N), .ints .i64 (x.op), .ints .i64 (x.r1), .ints .i64 (x.r2)] false)]
                      else
                        .norm 88 [(.ptr 1024 0 0), (.int false .i64 (t)), (.sl 1216 (x.n)), (.int false .i64 (ar .add .i64 i 1))] [(0, .tab (x.n) [.ints .i64 (x.kd), .strs (x.bs), .ints .i64 (x.N), .ints .i64 (x.op), .ints .i64 (x.r1), .ints .i64 (x.r2)] false), (1024, .cells [(.int false .i64 (q)), (.sl 0 (x.n))]), (1216, .tab (x.n) [.ints .i64 (x.kd), .strs (x.bs), .ints .i64 (x.N), .ints .i64 (x.op), .ints .i64 (x.r1), .ints .i64 (x.r2)] false)]
                    else .bad
                  else .bad
                else .bad
              else .bad
            else .bad
          else .bad
        else .bad
      else .bad
    else
      .exit 2 88 [(.ptr 1024 0 0), (.int false .i64 (t)), (.sl 1216 (x.n)), (.int false .i64 (i))] [(0, .tab (x.n) [.ints .i64 (x.kd), .strs (x.bs), .ints .i64 (x.N), .ints .i64 (x.op), .ints .i64 (x.r1), .ints .i64 (x.r2)] false), (1024, .cells [(.int false .i64 (q)), (.sl 0 (x.n))]), (1216, .tab (x.n) [.ints .i64 (x.kd), .strs (x.bs), .ints .i64 (x.N), .ints .i64 (x.op), .ints .i64 (x.r1), .ints .i64 (x.r2)] false)]) := by kernel_rfl

theorem r3T (x : It) (q : Int) (t : Int) : (evalB E3T Try.prog Try.f3.results.toList (loopOf Try.f3 0) 1 lk3 (v3 t) (h3 x q)).view [1, 3] =
    (bif (cm .leq t 3) then
      bif (Nat.ble (x.n) (x.n)) then
        bif (Nat.ble ((0 + x.n) * 56) (1099511627776)) then
          bif (Nat.beq (0 + x.n) (0 + x.n)) then
            bif (okB t (xz x)) then
              bif (fitB (xz x) t) then
                bif (Nat.beq (x.n) (x.n)) then
                  bif (okB t x) then
                    bif (Nat.beq (x.n) (x.n)) then
                      bif (okB t x) then
                        bif (clsB (fitB x t = true)) then
                          bif (bif !seq (outB (xz x) t) (outB x t) then true else allB [(0 + x.n).beq x.n, (0 + x.n).beq (0 + x.n), (0 + x.n).beq x.n, eqA (0 + x.n) (yL (xz x) t).pos (yL x t).pos, (0 + x.n).ble 100000000]) then
                            bif (bif !seq (outB (xz x) t) (outB x t) then true else cm .neq (↑(0 + x.n) : Int) (↑x.n : Int)) then
                              .ret (.bool true false) [(0, .tab (x.n) [.ints .i64 (x.kd), .strs (x.bs), .ints .i64 (x.N), .ints .i64 (x.op), .ints .i64 (x.r1), .ints .i64 (x.r2)] false), (1024, .cells [(.int false .i64 (q)), (.sl 0 (x.n))]), (1168, .dead), (1216, .tab (0 + x.n) [.ints .i64 (cat 0 (fun x => 0) x.kd), .strs (cat 0 (fun x => ByteArray.empty) x.bs), .ints .i64 (cat 0 (fun x => 0) x.N), .ints .i64 (cat 0 (fun x => 0) x.op), .ints .i64 (cat 0 (fun x => 0) x.r1), .ints .i64 (cat 0 (fun x => 0) x.r2)] false), (1280, .tab (0 + x.n) [.ints .i64 ((yL (xz x) t).pos)] false), (1600, .tab (x.n) [.ints .i64 ((yL x t).pos)] true)]
                            else
                              bif (Nat.beq (0 + x.n) (x.n)) then
                                bif (Nat.beq (x.n) (x.n)) then
                                  bif (clsB ((xz x) = x)) then
                                    bif (Nat.ble (x.n) (4611686018427387904)) then
                                      .norm 88 [(.ptr 1024 0 0), (.int false .i64 (ar .add .i64 t 1))] [(0, .tab (x.n) [.ints .i64 (x.kd), .strs (x.bs), .ints .i64 (x.N), .ints .i64 (x.op), .ints .i64 (x.r1), .ints .i64 (x.r2)] false), (1024, .cells [(.int false .i64 (q)), (.sl 0 (x.n))])]
                                    else .bad
                                  else .bad
                                else .bad
                              else .bad
                          else .bad
                        else .bad
                      else .bad
                    else .bad
                  else .bad
                else .bad
              else .bad
            else .bad
          else .bad
        else .bad
      else .bad
    else
      .exit 0 88 [(.ptr 1024 0 0), (.int false .i64 (t))] [(0, .tab (x.n) [.ints .i64 (x.kd), .strs (x.bs), .ints .i64 (x.N), .ints .i64 (x.op), .ints .i64 (x.r1), .ints .i64 (x.r2)] false), (1024, .cells [(.int false .i64 (q)), (.sl 0 (x.n))])]) := by kernel_rfl

theorem r3R (x : It) (q : Int) (t : Int) : (evalB E3R Try.prog Try.f3.results.toList (loopOf Try.f3 0) 1 lk3 (v3 t) (h3 x q)).view [1, 3] =
    (bif (cm .leq t 3) then
      bif (Nat.ble (x.n) (x.n)) then
        bif (Nat.ble ((0 + x.n) * 56) (1099511627776)) then
          bif (Nat.beq (0 + x.n) (0 + x.n)) then
            bif (okB t (xz x)) then
              bif (farB (xz x) t) then
                bif (Nat.beq (x.n) (x.n)) then
                  bif (okB t x) then
                    bif (Nat.beq (x.n) (x.n)) then
                      bif (okB t x) then
                        bif (clsB (fitB x t = false)) then
                          bif (bif false then true else cm .neq (↑(0 + x.n) : Int) (↑x.n : Int)) then
                            .ret (.bool true false) [(0, .tab (x.n) [.ints .i64 (x.kd), .strs (x.bs), .ints .i64 (x.N), .ints .i64 (x.op), .ints .i64 (x.r1), .ints .i64 (x.r2)] false), (1024, .cells [(.int false .i64 (q)), (.sl 0 (x.n))]), (1168, .dead), (1216, .tab (0 + x.n) [.ints .i64 (cat 0 (fun x => 0) x.kd), .strs (cat 0 (fun x => ByteArray.empty) x.bs), .ints .i64 (cat 0 (fun x => 0) x.N), .ints .i64 (cat 0 (fun x => 0) x.op), .ints .i64 (cat 0 (fun x => 0) x.r1), .ints .i64 (cat 0 (fun x => 0) x.r2)] true), (1600, .tab (x.n) [.ints .i64 ((yL x t).pos)] true)]
                          else
                            bif (Nat.beq (0 + x.n) (x.n)) then
                              bif (Nat.beq (x.n) (x.n)) then
                                bif (clsB ((xz x) = x)) then
                                  bif (Nat.ble (x.n) (4611686018427387904)) then
                                    .norm 88 [(.ptr 1024 0 0), (.int false .i64 (ar .add .i64 t 1))] [(0, .tab (x.n) [.ints .i64 (x.kd), .strs (x.bs), .ints .i64 (x.N), .ints .i64 (x.op), .ints .i64 (x.r1), .ints .i64 (x.r2)] false), (1024, .cells [(.int false .i64 (q)), (.sl 0 (x.n))])]
                                  else .bad
                                else .bad
                              else .bad
                            else .bad
                        else .bad
                      else .bad
                    else .bad
                  else .bad
                else .bad
              else .bad
            else .bad
          else .bad
        else .bad
      else .bad
    else
      .exit 0 88 [(.ptr 1024 0 0), (.int false .i64 (t))] [(0, .tab (x.n) [.ints .i64 (x.kd), .strs (x.bs), .ints .i64 (x.N), .ints .i64 (x.op), .ints .i64 (x.r1), .ints .i64 (x.r2)] false), (1024, .cells [(.int false .i64 (q)), (.sl 0 (x.n))])]) := by kernel_rfl

theorem r3F (x : It) (q : Int) (t : Int) : (evalB E3F Try.prog Try.f3.results.toList (loopOf Try.f3 0) 1 lk3 (v3 t) (h3 x q)).view [1, 3] =
    (bif (cm .leq t 3) then
      bif (Nat.ble (x.n) (x.n)) then
        bif (Nat.ble ((0 + x.n) * 56) (1099511627776)) then
          bif (Nat.beq (0 + x.n) (0 + x.n)) then
            bif (Nat.ble (0 + x.n) (4611686018427387904)) then
              bif (noB t (xz x)) then
                bif (Nat.beq (x.n) (x.n)) then
                  bif (noB t x) then
                    bif (bif false then true else cm .neq (↑(0 + x.n) : Int) (↑x.n : Int)) then
                      .ret (.bool true false) [(0, .tab (x.n) [.ints .i64 (x.kd), .strs (x.bs), .ints .i64 (x.N), .ints .i64 (x.op), .ints .i64 (x.r1), .ints .i64 (x.r2)] false), (1024, .cells [(.int false .i64 (q)), (.sl 0 (x.n))]), (1168, .dead), (1216, .tab (0 + x.n) [.ints .i64 (cat 0 (fun x => 0) x.kd), .strs (cat 0 (fun x => ByteArray.empty) x.bs), .ints .i64 (cat 0 (fun x => 0) x.N), .ints .i64 (cat 0 (fun x => 0) x.op), .ints .i64 (cat 0 (fun x => 0) x.r1), .ints .i64 (cat 0 (fun x => 0) x.r2)] true)]
                    else
                      bif (Nat.beq (0 + x.n) (x.n)) then
                        bif (Nat.beq (x.n) (x.n)) then
                          bif (clsB ((xz x) = x)) then
                            bif (Nat.ble (x.n) (4611686018427387904)) then
                              .norm 88 [(.ptr 1024 0 0), (.int false .i64 (ar .add .i64 t 1))] [(0, .tab (x.n) [.ints .i64 (x.kd), .strs (x.bs), .ints .i64 (x.N), .ints .i64 (x.op), .ints .i64 (x.r1), .ints .i64 (x.r2)] false), (1024, .cells [(.int false .i64 (q)), (.sl 0 (x.n))])]
                            else .bad
                          else .bad
                        else .bad
                      else .bad
                  else .bad
                else .bad
              else .bad
            else .bad
          else .bad
        else .bad
      else .bad
    else
      .exit 0 88 [(.ptr 1024 0 0), (.int false .i64 (t))] [(0, .tab (x.n) [.ints .i64 (x.kd), .strs (x.bs), .ints .i64 (x.N), .ints .i64 (x.op), .ints .i64 (x.r1), .ints .i64 (x.r2)] false), (1024, .cells [(.int false .i64 (q)), (.sl 0 (x.n))])]) := by kernel_rfl

theorem t3 (x : It) (q : Int) : (evalF E3 Try.prog 3 [SV.agg (vA x q)] (hI x) 1024).bare =
    (bif (Nat.beq (x.n) (x.n)) then
      bif (Nat.ble (x.n) (4611686018427387904)) then
        bif (heavyP x) then
          .ret (.bool true true) []
        else
          bif (Nat.beq (x.n) (x.n)) then
            bif (clsB (x.n ≤ 1048576)) then
              .ret (.bool true true) []
            else .bad
          else .bad
      else .bad
    else .bad) := by kernel_rfl

end Go.La
end

section
set_option linter.unusedVariables false
open Go Go.Ev Go.Proofs Go.ChangeShapes Go.WideShapes Go.ChangeAt Go.RowKit
namespace Go.La

theorem xz_eq (x : It) : xz x = x := by
  unfold xz
  rw [Nat.zero_add]
  rfl
theorem not_heavy {x : It} (h : heavyP x = false) : x.n ≤ 1048576 := by
  by_cases hs : x.n < 1048576
  · omega
  · exfalso
    obtain ⟨f, hf⟩ : ∃ f, x.n = f + 1 := ⟨x.n - 1, by omega⟩
    have e : hvN x = (x.n : Int) := by
      have : ∀ f, hvF x f 0 (x.n : Int) = (x.n : Int) := fun f => by
        cases f with
        | zero => rfl
        | succ f => simp only [hvF, decide_eq_false (show ¬ (x.n : Int) < 1048576 by omega), Bool.and_false, cond_false]
      exact this _
    unfold heavyP at h
    rw [e] at h
    have := of_decide_eq_false h
    omega

structure X3b where
  x : It
  q : Int
  t : Int
  i : Nat
def ok3b (s : X3b) : Prop := s.i ≤ s.x.n ∧ s.x.n ≤ 4611686018427387904
def vs3b (s : X3b) : List SV := v3b s.x s.t s.i
def hp3b (s : X3b) : Heap := h3b s.x s.q
def out3b (s : X3b) : Vw := .exit 2 88 [.ptr 1024 0 0, .int false .i64 s.t, .any, .any] (h3 s.x s.q)
theorem h3b_wk (x : It) (q : Int) {f g l : Bool} {b : Blk} {more : Heap} : wkH (rmap []) ((0, .tab x.n x.cols f) :: (1024, .cells [.int l .i64 q, .sl 0 x.n]) :: (1168, b) :: (1216, .tab x.n x.cols g) :: more) (h3b x q) := by
  simp [h3b, wkH, wkB, wkCs, wkC, simL, sim, rmap, rlook, Ev.look, It.cols]
theorem h3b_wk2 (x : It) (q : Int) : wkH (rmap []) [(0, .tab x.n x.cols false), (1024, .cells [.int false .i64 q, .sl 0 x.n]), (1216, .tab x.n x.cols false)] (h3b x q) := by
  simp [h3b, wkH, wkB, wkCs, wkC, simL, sim, rmap, rlook, Ev.look, It.cols]
theorem h3_wk (x : It) (q : Int) {f l : Bool} {more : Heap} : wkH (rmap []) ((0, .tab x.n x.cols f) :: (1024, .cells [.int l .i64 q, .sl 0 x.n]) :: more) (h3 x q) := by
  simp [h3, wkH, wkB, wkCs, wkC, simL, sim, rmap, rlook, Ev.look, It.cols]
theorem entry3b (l : List SV) (H : Heap) (T : Tr) (h : lq3b.get l H = some T) (hb : T.leaf ≠ .bad) : ∃ x r, ok3b x ∧ WkV r lq3b.nm l H (vs3b x) (hp3b x) ∧ T.leaf = toLf lq3b (out3b x) := by
  replace h : get3b l H = some T := h
  unfold get3b at h
  split at h
  · rename_i k r c _ t kn nn _ i j0 n1 kd bs N op r1 r2 _ j1 _ q k0 n0 jd _ j2 n2 kd' bs' N' op' r1' r2' _ _
    simp only [Option.some.injEq] at h
    subst h
    obtain ⟨hn, he⟩ := needs_ne hb
    rw [he]
    simp only [allB, Bool.and_eq_true, Bool.and_true, decide_eq_true_eq, Nat.beq_eq, clsB_iff, It.mk.injEq, Nat.ble_eq] at hn
    obtain ⟨rfl, rfl, rfl, rfl, rfl, rfl, rfl, rfl, rfl, rfl, rfl, rfl, ⟨rfl, rfl, rfl, rfl, rfl, rfl, rfl⟩, hs⟩ := hn
    refine ⟨⟨⟨n2, kd', bs', N', op', r1', r2'⟩, q, t, 0⟩, [], ⟨Nat.zero_le _, hs⟩, ?_, ?_⟩
    · exact ⟨rfl, ⟨⟨rfl, rfl, rfl⟩, ⟨rfl, rfl⟩, ⟨rfl, rfl⟩, ⟨rfl, rfl⟩, trivial⟩, h3b_wk ⟨n2, kd', bs', N', op', r1', r2'⟩ q, rfl, rfl⟩
    · simp only [exitT_leaf, out3b]
      rfl
  · cases h
theorem lq_3b {E : Env} {P : Program} {res : List ResultVar} {c : Code} {n : Nat} {l : List SV} {H : Heap} : evalB E P res c n lq3b l H = evalB E P res c n lk3b l H := rfl
attribute [local irreducible] evalB Tr.view in
theorem round3b (s : X3b) (hx : ok3b s) : Round lq3b ok3b (fun s => s.x.n - s.i) vs3b hp3b out3b s ((evalB EI Try.prog Try.f3.results.toList (loopOf Try.f3 1) (1 + 1) lk3b (vs3b s) (hp3b s)).view lq3b.ks) := by
  obtain ⟨x, q, t, i⟩ := s
  obtain ⟨h0, hs⟩ := hx
  simp only at h0 hs
  have hr := r3b x q t i
  rw [show evalB EI Try.prog Try.f3.results.toList (loopOf Try.f3 1) (1 + 1) lk3b (vs3b ⟨x, q, t, i⟩) (hp3b ⟨x, q, t, i⟩) = evalB EI Try.prog Try.f3.results.toList (loopOf Try.f3 1) 2 lk3b (v3b x t i) (h3b x q) from rfl, show lq3b.ks = [1, 3, 4, 12] from rfl, hr]
  by_cases hi : i < x.n
  · have e1 : cm .lss (i : Int) (x.n : Int) = true := by rw [cm_lss']; exact decide_eq_true (by omega)
    have e2 : decide (0 ≤ (i : Int)) = true := decide_eq_true (by omega)
    have e3 : decide ((i : Int) < (x.n : Int)) = true := decide_eq_true (by omega)
    simp only [e1, e2, e3, blt_t hi, cond_true, Int.toNat_natCast, addOne (show i < 9223372036854775807 by omega), eqI, seq_self, decide_true, Bool.and_self, Bool.not_true, cond_false]
    refine ⟨rfl, ⟨x, q, t, i + 1⟩, [], ⟨hi, hs⟩, by show x.n - (i + 1) < x.n - i; omega, rfl, rfl, ?_, ?_, rfl, rfl⟩
    · exact ⟨⟨rfl, rfl, rfl⟩, ⟨rfl, rfl⟩, ⟨rfl, rfl⟩, ⟨rfl, rfl⟩, trivial⟩
    · exact h3b_wk2 x q
  · obtain rfl : i = x.n := by omega
    have e1 : cm .lss (x.n : Int) (x.n : Int) = false := by simp [cm]
    simp only [e1, cond_false]
    refine ⟨rfl, [.ptr 1024 0 0, .int false .i64 t, .any, .any], _, [], rfl, rfl, ?_, ?_, rfl, rfl⟩
    · exact ⟨⟨rfl, rfl, rfl⟩, ⟨rfl, rfl⟩, trivial, trivial, trivial⟩
    · exact h3_wk x q
attribute [local irreducible] evalB Tr.view in
theorem loop3b {E : Env} (hl : ∀ S, E.loop 1 S = runLp lq3b S) : LoopOk E Try.prog Try.f3 1 (loopOf Try.f3 1) :=
  loop_okE mixed hl (by decide) ok3b (fun s => s.x.n - s.i) vs3b hp3b out3b entry3b fun x hx => ⟨EI, ei_calls, loops_noLoop ei_loop _ _, by rw [lq_3b]; exact round3b x hx⟩
theorem nl3a : Code.loops (loopOf Try.f3 0) = 1 := by kernel_rfl
theorem nth3b : nthLoop (loopOf Try.f3 0) 0 = some (loopOf Try.f3 1) := by kernel_rfl
theorem loops3a {E : Env} (hl : ∀ S, E.loop 1 S = runLp lq3b S) : LoopsOk E Try.prog Try.f3 (loopOf Try.f3 0) 1 := loopsOk_of _ 1 fun m a hm ha => by
  rw [nl3a] at hm
  obtain rfl : m = 0 := by omega
  rw [nth3b] at ha; simp only [Option.some.injEq] at ha; subst ha; exact loop3b hl

theorem e3T0_calls : CallsOk E3T0 Try.prog := (inlF_calls ((SpecsOk.cons spec9T (SpecsOk.cons spec10T (SpecsOk.cons (spec11 true) (SpecsOk.cons spec13 SpecsOk.nil)))).calls noLoop) mixed named12 rfl rfl 3).1
theorem e3R0_calls : CallsOk E3R0 Try.prog := (inlF_calls ((SpecsOk.cons spec9R (SpecsOk.cons spec10T (SpecsOk.cons (spec11 false) (SpecsOk.cons spec13N SpecsOk.nil)))).calls noLoop) mixed named12 rfl rfl 3).1
theorem e3F0_calls : CallsOk E3F0 Try.prog := (inlF_calls ((SpecsOk.cons spec9F (SpecsOk.cons spec10F (SpecsOk.cons spec13N SpecsOk.nil))).calls noLoop) mixed named12 rfl rfl 3).1
theorem e3T_calls : CallsOk E3T Try.prog := fun f args H nm r h hn => e3T0_calls f args H nm r h hn
theorem e3R_calls : CallsOk E3R Try.prog := fun f args H nm r h hn => e3R0_calls f args H nm r h hn
theorem e3F_calls : CallsOk E3F Try.prog := fun f args H nm r h hn => e3F0_calls f args H nm r h hn

structure X3 where
  x : It
  q : Int
  t : Nat
def ok3 (s : X3) : Prop := s.t ≤ 4 ∧ s.x.n ≤ 1048576
def vs3 (s : X3) : List SV := v3 s.t
def hp3 (s : X3) : Heap := h3 s.x s.q
def out3 (s : X3) : Vw := .exit 0 88 [.any, .any] []
theorem entry3 (l : List SV) (H : Heap) (T : Tr) (h : lq3.get l H = some T) (hb : T.leaf ≠ .bad) : ∃ x r, ok3 x ∧ WkV r lq3.nm l H (vs3 x) (hp3 x) ∧ T.leaf = toLf lq3 (out3 x) := by
  replace h : get3 l H = some T := h
  unfold get3 at h
  split at h
  · rename_i k r c _ t j0 n1 kd bs N op r1 r2 _ j1 _ q k0 n0
    simp only [Option.some.injEq] at h
    subst h
    obtain ⟨hn, he⟩ := needs_ne hb
    rw [he]
    simp only [allB, Bool.and_eq_true, Bool.and_true, decide_eq_true_eq, Nat.beq_eq, clsB_iff] at hn
    obtain ⟨rfl, rfl, rfl, rfl, rfl, rfl, rfl, rfl, hs⟩ := hn
    refine ⟨⟨⟨n0, kd, bs, N, op, r1, r2⟩, q, 0⟩, [], ⟨Nat.zero_le _, hs⟩, ?_, ?_⟩
    · exact ⟨rfl, ⟨⟨rfl, rfl, rfl⟩, ⟨rfl, rfl⟩, trivial⟩, h3_wk ⟨n0, kd, bs, N, op, r1, r2⟩ q (more := []), rfl, rfl⟩
    · simp only [exitT_leaf, out3]
      rfl
  · cases h
theorem lq_3 {E : Env} {P : Program} {res : List ResultVar} {c : Code} {n : Nat} {l : List SV} {H : Heap} : evalB E P res c n lq3 l H = evalB E P res c n lk3 l H := rfl
theorem next3 {x : It} {q : Int} {t : Nat} {f : Bool} (ht : t < 4) (hs : x.n ≤ 1048576) : Round lq3 ok3 (fun s => 4 - s.t) vs3 hp3 out3 ⟨x, q, t⟩ (.norm 88 [.ptr 1024 0 0, .int false .i64 ((t + 1 : Nat) : Int)] [(0, .tab x.n x.cols f), (1024, .cells [.int false .i64 q, .sl 0 x.n])]) := by
  refine ⟨rfl, ⟨x, q, t + 1⟩, [], ⟨ht, hs⟩, by show 4 - (t + 1) < 4 - t; omega, rfl, rfl, ?_, ?_, rfl, rfl⟩
  · exact ⟨⟨rfl, rfl, rfl⟩, ⟨rfl, rfl⟩, trivial⟩
  · exact h3_wk x q (more := [])
theorem last3 {x : It} {q : Int} {H : Heap} {l : List SV} : Round lq3 ok3 (fun s => 4 - s.t) vs3 hp3 out3 ⟨x, q, 4⟩ (.exit 0 88 [.ptr 1024 0 0, .int false .i64 ((4 : Nat) : Int)] H) :=
  ⟨rfl, [.any, .any], [], [], rfl, rfl, ⟨trivial, trivial, trivial⟩, trivial, rfl, rfl⟩
attribute [local irreducible] evalB Tr.view outB yL in
theorem round3 (s : X3) (hx : ok3 s) : ∃ E' : Env, CallsOk E' Try.prog ∧ LoopsOk E' Try.prog Try.f3 (loopOf Try.f3 0) (0 + 1) ∧ Round lq3 ok3 (fun s => 4 - s.t) vs3 hp3 out3 s ((evalB E' Try.prog Try.f3.results.toList (loopOf Try.f3 0) (0 + 1) lq3 (vs3 s) (hp3 s)).view lq3.ks) := by
  obtain ⟨x, q, t⟩ := s
  obtain ⟨h0, hs⟩ := hx
  simp only at h0 hs
  have hz := xz_eq x
  have hc : cm .neq ((0 + x.n : Nat) : Int) (x.n : Int) = false := by rw [Nat.zero_add]; simp [cm]
  have hl : t < 4 → cm .leq (t : Int) 3 = true := fun h => by rw [cm_leq']; exact decide_eq_true (by omega)
  have a1 : Nat.ble ((0 + x.n) * 56) 1099511627776 = true := ble_t (by omega)
  have a2 : Nat.beq (0 + x.n) x.n = true := by rw [Nat.zero_add]; exact beq_t _
  have a3 : clsB (xz x = x) = true := cls_t hz
  have a4 : Nat.ble x.n 4611686018427387904 = true := ble_t (by omega)
  have a5 : Nat.ble (0 + x.n) 4611686018427387904 = true := ble_t (by omega)
  have a6 : Nat.ble (0 + x.n) 100000000 = true := ble_t (by omega)
  have ht1 : t < 4 → ar .add .i64 (t : Int) 1 = ((t + 1 : Nat) : Int) := fun h => addOne (by omega)
  have hend : ¬ t < 4 → t = 4 := fun h => by omega
  by_cases hok : okP t x
  · have e1 : okB t x = true := cls_t hok
    cases hf : fitB x t with
    | true =>
      refine ⟨E3T, e3T_calls, loops3a fun _ => rfl, ?_⟩
      rw [lq_3, show evalB E3T Try.prog Try.f3.results.toList (loopOf Try.f3 0) (0 + 1) lk3 (vs3 ⟨x, q, t⟩) (hp3 ⟨x, q, t⟩) = evalB E3T Try.prog Try.f3.results.toList (loopOf Try.f3 0) 1 lk3 (v3 t) (h3 x q) from rfl, show lq3.ks = [1, 3] from rfl, r3T]
      by_cases h4 : t < 4
      · simp only [hl h4, a1, a2, a3, a4, a5, a6, hz, e1, hf, hc, ht1 h4, beq_t, ble_t (Nat.le_refl x.n), seq_self, cls_t, allB, eqA_iff.2 fun _ _ => rfl, Bool.not_true, Bool.and_self, cond_true, cond_false]
        exact next3 h4 hs
      · obtain rfl := hend h4
        exact last3 (l := [])
    | false =>
      refine ⟨E3R, e3R_calls, loops3a fun _ => rfl, ?_⟩
      rw [lq_3, show evalB E3R Try.prog Try.f3.results.toList (loopOf Try.f3 0) (0 + 1) lk3 (vs3 ⟨x, q, t⟩) (hp3 ⟨x, q, t⟩) = evalB E3R Try.prog Try.f3.results.toList (loopOf Try.f3 0) 1 lk3 (v3 t) (h3 x q) from rfl, show lq3.ks = [1, 3] from rfl, r3R]
      by_cases h4 : t < 4
      · simp only [hl h4, a1, a2, a3, a4, a5, a6, hz, e1, hf, fit_far hf, hc, ht1 h4, beq_t, ble_t (Nat.le_refl x.n), seq_self, cls_t, allB, Bool.not_true, Bool.and_self, cond_true, cond_false]
        exact next3 h4 hs
      · obtain rfl := hend h4
        exact last3 (l := [])
  · have e1 : noB t x = true := cls_t hok
    refine ⟨E3F, e3F_calls, loops3a fun _ => rfl, ?_⟩
    rw [lq_3, show evalB E3F Try.prog Try.f3.results.toList (loopOf Try.f3 0) (0 + 1) lk3 (vs3 ⟨x, q, t⟩) (hp3 ⟨x, q, t⟩) = evalB E3F Try.prog Try.f3.results.toList (loopOf Try.f3 0) 1 lk3 (v3 t) (h3 x q) from rfl, show lq3.ks = [1, 3] from rfl, r3F]
    by_cases h4 : t < 4
    · simp only [hl h4, a1, a2, a3, a4, a5, a6, hz, e1, hc, ht1 h4, beq_t, ble_t (Nat.le_refl x.n), seq_self, cls_t, allB, Bool.not_true, Bool.and_self, cond_true, cond_false]
      exact next3 h4 hs
    · obtain rfl := hend h4
      exact last3 (l := [])

theorem named14 : named Try.prog [14] = true := by kernel_rfl
theorem e3a_calls : CallsOk E3a Try.prog := (inlF_calls ((SpecsOk.cons spec8S (SpecsOk.cons spec15 SpecsOk.nil)).calls noLoop) mixed named14 rfl rfl 3).1
theorem e3_calls : CallsOk E3 Try.prog := fun f args H nm r h hn => e3a_calls f args H nm r h hn
attribute [local irreducible] evalB Tr.view in
theorem loop3 : LoopOk E3 Try.prog Try.f3 0 (loopOf Try.f3 0) :=
  loop_okE mixed (fun S => rfl) (by decide) ok3 (fun s => 4 - s.t) vs3 hp3 out3 entry3 round3
theorem fn3 : Try.prog.funcs[3]? = some Try.f3 := by kernel_rfl
theorem b3 : Try.f3.body = some (bodyOf Try.f3) := by kernel_rfl
theorem n3 : (Try.f3.name == "runtime.NumGoroutine") = false := by kernel_rfl
theorem nl3 : Code.loops (bodyOf Try.f3) = 2 := by kernel_rfl
theorem nth3 : nthLoop (bodyOf Try.f3) 0 = some (loopOf Try.f3 0) := by kernel_rfl
theorem loops3 : LoopsOk E3 Try.prog Try.f3 (bodyOf Try.f3) 0 := loopsOk_of _ 0 fun m a hm ha => by
  rw [nl3] at hm
  rcases m with _ | _ | m
  · rw [nth3] at ha; simp only [Option.some.injEq] at ha; subst ha; exact loop3
  · exact fun S T hT => by cases hT
  · omega
attribute [local irreducible] evalF in
theorem law3 (x : It) (q : Int) (h : x.n ≤ reachBytes) : (evalF E3 Try.prog 3 [.agg (vA x q)] (hI x) 1024).bare = .ret (.bool true true) [] := by
  rw [t3, beq_t, reach_le h]
  cases hh : heavyP x with
  | true => rfl
  | false => rw [cls_t (not_heavy hh)]; rfl

end Go.La
end

section
set_option linter.unusedVariables false
open Go Go.Ev Go.Proofs
namespace Go.La

def zs (m : Nat) : ByteArray := strOf (fun _ => 0) m
/-- a jump over three strings -/
def x5 (m : Nat) : It := ⟨5, nth [3, 1, 1, 1, 2] 0, nth [⟨#[]⟩, zs 64, zs m, zs 8, ⟨#[]⟩] ByteArray.empty, nth [1, 0, 0, 0, 1] 0, nth [0, 0, 0, 0, 0] 0, nth [0, 0, 0, 0, 0] 0, nth [0, 0, 0, 0, 0] 0⟩
noncomputable def E4a : Env := inlF Try.prog (envOf [(9, specOf g9T), (15, specOf g15)] noLoop) [12] [] [] 3
def v4 (n : Int) : List SV := [.ptr 1024 0 0, .int false .i64 n]
def lk4 : Lp := ⟨136, [1, 3], 1136, fun _ _ => none⟩
noncomputable def get4 : List SV → Heap → Option Tr
  | [.ptr k r c, .int _ .i64 n], [(j0, .tab n1 [.ints .i64 kd, .strs bs, .ints .i64 N, .ints .i64 op, .ints .i64 r1, .ints .i64 r2] _), (j1, .cells [.int _ .i64 q, .sl k0 n0])] =>
    some (Tr.needs [Nat.beq k 1024, Nat.beq r 0, Nat.beq c 0, decide (n = 124), Nat.beq j0 0, Nat.beq j1 1024, Nat.beq k0 0, Nat.beq n0 n1] (exitT lk4 0 [.ptr 1024 0 0, .any] (h3 ⟨n1, kd, bs, N, op, r1, r2⟩ q)))
  | _, _ => none
noncomputable def lq4 : Lp := { lk4 with get := get4 }
/-! a branch and strings -/
def fk (a b : Int) : Nat → Int := fun r => bif Nat.beq r 0 then a else b
def fs : Nat → ByteArray := fun r => bif Nat.beq r 0 then ⟨#[]⟩ else zs 64
def x66 : It := { n := 66, kd := cat 65 (fk 4 1) (nth [2] 0), bs := cat 65 fs (nth [⟨#[]⟩] ByteArray.empty), N := cat 65 (fk 1 0) (nth [1] 0), op := cat 65 (fk 7 0) (nth [0] 0), r1 := cat 65 (fk 3 0) (nth [0] 0), r2 := cat 65 (fk 4 0) (nth [0] 0) }
def x65 : It := { n := 65, kd := cat 64 (cat 0 (fun x => 0) (from_ 0 (cat 65 (fk 4 1) (nth [2] 0)))) (nth [2] 0), bs := cat 64 (cat 0 (fun x => ByteArray.empty) (from_ 0 (cat 65 fs (nth [⟨#[]⟩] ByteArray.empty)))) (nth [x66.bs 65] ByteArray.empty), N := cat 64 (cat 0 (fun x => 0) (from_ 0 (cat 65 (fk 1 0) (nth [1] 0)))) (nth [1] 0), op := cat 64 (cat 0 (fun x => 0) (from_ 0 (cat 65 (fk 7 0) (nth [0] 0)))) (nth [0] 0), r1 := cat 64 (cat 0 (fun x => 0) (from_ 0 (cat 65 (fk 3 0) (nth [0] 0)))) (nth [0] 0), r2 := cat 64 (cat 0 (fun x => 0) (from_ 0 (cat 65 (fk 4 0) (nth [0] 0)))) (nth [0] 0) }
def colsF : List Col := [.ints .i64 (fk 4 1), .strs fs, .ints .i64 (fk 1 0), .ints .i64 (fk 7 0), .ints .i64 (fk 3 0), .ints .i64 (fk 4 0)]
def v4b (i : Nat) : List SV := [.ptr 1024 0 0, .sl 1152 (i + 1), .int false .i64 (i : Int)]
def h4b (x : It) (q : Int) (i : Nat) : Heap := [(0, .tab x.n x.cols false), (1024, .cells [.int false .i64 q, .sl 0 x.n]), (1152, .tab (i + 1) colsF true)]
def lk4b : Lp := ⟨136, [1, 9, 10], 1200, fun _ _ => none⟩
noncomputable def get4b : List SV → Heap → Option Tr
  | [.ptr k r c, .sl k2 n, .int _ .i64 i], [(j0, .tab n2 [.ints .i64 kd', .strs bs', .ints .i64 N', .ints .i64 op', .ints .i64 r1', .ints .i64 r2'] _), (j1, .cells [.int _ .i64 q, .sl k0 n0]), (j, .tab n1 [.ints .i64 kd, .strs bs, .ints .i64 N, .ints .i64 op, .ints .i64 r1, .ints .i64 r2] true)] =>
    some (Tr.needs [Nat.beq k 1024, Nat.beq r 0, Nat.beq c 0, Nat.beq j0 0, Nat.beq j1 1024, Nat.beq k0 0, Nat.beq n0 n2, Nat.beq k2 1152, Nat.beq n 1, decide (i = 0), Nat.beq j 1152, Nat.beq n1 1, clsB (kd 0 = 4), clsB (bs 0 = ⟨#[]⟩), clsB (N 0 = 1), clsB (op 0 = 7), clsB (r1 0 = 3), clsB (r2 0 = 4)]
      (exitT lk4b 2 [.ptr 1024 0 0, .sl 1152 65, .any] (h4b ⟨n2, kd', bs', N', op', r1', r2'⟩ q 64)))
  | _, _ => none
noncomputable def lq4b : Lp := { lk4b with get := get4b }
/-- the contract of Lay, with any name for its bytes: so they are not reckoned -/
noncomputable def g9S (S : It → Int → ByteArray) : List SV → Heap → Option R
  | [.int false .i64 t, .sl k n], [(j0, .tab n1 [.ints .i64 kd, .strs bs, .ints .i64 N, .ints .i64 op, .ints .i64 r1, .ints .i64 r2] _)] => match Nat.beq k 0 && Nat.beq j0 0 with
    | true => some ⟨[Nat.beq n n1, okB t ⟨n1, kd, bs, N, op, r1, r2⟩, fitB ⟨n1, kd, bs, N, op, r1, r2⟩ t], .tup [.str (S ⟨n1, kd, bs, N, op, r1, r2⟩ t), .sl 1024 n1, .int true .i64 0],
        [(0, .tab n1 (It.cols ⟨n1, kd, bs, N, op, r1, r2⟩) false), (1024, .tab n1 [.ints .i64 (yL ⟨n1, kd, bs, N, op, r1, r2⟩ t).pos] false)]⟩
    | false => none
  | _, _ => none
noncomputable def E4S (S : It → Int → ByteArray) : Env := ⟨(inlF Try.prog (envOf [(9, specOf (g9S S)), (15, specOf g15)] noLoop) [12] [] [] 3).call, loopEnv [(0, lq4), (1, lq4b)]⟩
--LEAVES

theorem r4 (x : It) (q : Int) (n : Int) : (evalB E4a Try.prog Try.f4.results.toList (loopOf Try.f4 0) 1 lk4 (v4 n) (h3 x q)).view [1, 3] =
    (bif (cm .leq n 130) then
      bif (decide (0 ≤ ar .sub .i64 (ar .sub .i64 n 64) 8)) then
        bif (decide (ar .sub .i64 (ar .sub .i64 n 64) 8 ≤ ar .sub .i64 (ar .sub .i64 n 64) 8)) then
          bif (Nat.ble ((ar .sub .i64 (ar .sub .i64 n 64) 8).toNat * 1) (140737488355328)) then
            bif (Nat.ble ((ar .sub .i64 (ar .sub .i64 n 64) 8).toNat) (140737488355328)) then
              bif (Nat.ble ((ar .sub .i64 (ar .sub .i64 n 64) 8).toNat) ((ar .sub .i64 (ar .sub .i64 n 64) 8).toNat)) then
                bif (cm .gtr (ar .sub .i64 (ar .sub .i64 n 64) 8) 64) then
                  .ret (.bool true false) [(0, .tab (x.n) [.ints .i64 (x.kd), .strs (x.bs), .ints .i64 (x.N), .ints .i64 (x.op), .ints .i64 (x.r1), .ints .i64 (x.r2)] false), (1024, .cells [(.int false .i64 (q)), (.sl 0 (x.n))]), (1184, .tab 64 [.ints .u8 (fun x => 0)] true), (1280, .tab ((ar .sub .i64 (ar .sub .i64 n 64) 8).toNat) [.ints .u8 (fun x => 0)] true), (1328, .tab 8 [.ints .u8 (fun x => 0)] true), (1392, .tab 5 [.ints .i64 (nth [3, 1, 1, 1, 2] 0), .strs (nth [(ByteArray.mk #[]), strOf (fun x => 0) 64, strOf (fun x => 0) (ar .sub .i64 (ar .sub .i64 n 64) 8).toNat, strOf (fun x => 0) 8, (ByteArray.mk #[])] ByteArray.empty), .ints .i64 (nth [1, 0, 0, 0, 1] 0), .ints .i64 (nth [0, 0, 0, 0, 0] 0), .ints .i64 (nth [0, 0, 0, 0, 0] 0), .ints .i64 (nth [0, 0, 0, 0, 0] 0)] true)]
                else
                  bif (okB 2 (x5 (ar .sub .i64 (ar .sub .i64 n 64) 8).toNat)) then
                    bif (fitB (x5 (ar .sub .i64 (ar .sub .i64 n 64) 8).toNat) 2) then
                      bif (cm .gtr n 127) then
                        bif (bif cm .neq (↑(outB (x5 (ar .sub .i64 (ar .sub .i64 n 64) 8).toNat) 2).size : Int) (ar .add .i64 5 n) then true else true) then
                          bif (bif cm .neq (↑(outB (x5 (ar .sub .i64 (ar .sub .i64 n 64) 8).toNat) 2).size : Int) (ar .add .i64 5 n) then true else bif false then true else cm .neq ((yL (x5 (ar .sub .i64 (ar .sub .i64 n 64) 8).toNat) 2).pos 4) (ar .add .i64 5 n)) then
                            .ret (.bool true false) [(0, .tab (x.n) [.ints .i64 (x.kd), .strs (x.bs), .ints .i64 (x.N), .ints .i64 (x.op), .ints .i64 (x.r1), .ints .i64 (x.r2)] false), (1024, .cells [(.int false .i64 (q)), (.sl 0 (x.n))]), (1184, .tab 64 [.ints .u8 (fun x => 0)] true), (1280, .tab ((ar .sub .i64 (ar .sub .i64 n 64) 8).toNat) [.ints .u8 (fun x => 0)] true), (1328, .tab 8 [.ints .u8 (fun x => 0)] true), (1392, .tab 5 [.ints .i64 (nth [3, 1, 1, 1, 2] 0), .strs (nth [(ByteArray.mk #[]), strOf (fun x => 0) 64, strOf (fun x => 0) (ar .sub .i64 (ar .sub .i64 n 64) 8).toNat, strOf (fun x => 0) 8, (ByteArray.mk #[])] ByteArray.empty), .ints .i64 (nth [1, 0, 0, 0, 1] 0), .ints .i64 (nth [0, 0, 0, 0, 0] 0), .ints .i64 (nth [0, 0, 0, 0, 0] 0), .ints .i64 (nth [0, 0, 0, 0, 0] 0)] false), (1504, .tab 5 [.ints .i64 ((yL (x5 (ar .sub .i64 (ar .sub .i64 n 64) 8).toNat) 2).pos)] false)]
                          else
                            .norm 136 [(.ptr 1024 0 0), (.int false .i64 (ar .add .i64 n 1))] [(0, .tab (x.n) [.ints .i64 (x.kd), .strs (x.bs), .ints .i64 (x.N), .ints .i64 (x.op), .ints .i64 (x.r1), .ints .i64 (x.r2)] false), (1024, .cells [(.int false .i64 (q)), (.sl 0 (x.n))]), (1184, .tab 64 [.ints .u8 (fun x => 0)] true), (1280, .tab ((ar .sub .i64 (ar .sub .i64 n 64) 8).toNat) [.ints .u8 (fun x => 0)] true), (1328, .tab 8 [.ints .u8 (fun x => 0)] true), (1392, .tab 5 [.ints .i64 (nth [3, 1, 1, 1, 2] 0), .strs (nth [(ByteArray.mk #[]), strOf (fun x => 0) 64, strOf (fun x => 0) (ar .sub .i64 (ar .sub .i64 n 64) 8).toNat, strOf (fun x => 0) 8, (ByteArray.mk #[])] ByteArray.empty), .ints .i64 (nth [1, 0, 0, 0, 1] 0), .ints .i64 (nth [0, 0, 0, 0, 0] 0), .ints .i64 (nth [0, 0, 0, 0, 0] 0), .ints .i64 (nth [0, 0, 0, 0, 0] 0)] false), (1504, .tab 5 [.ints .i64 ((yL (x5 (ar .sub .i64 (ar .sub .i64 n 64) 8).toNat) 2).pos)] false)]
                        else .bad
                      else
                        bif (bif cm .neq (↑(outB (x5 (ar .sub .i64 (ar .sub .i64 n 64) 8).toNat) 2).size : Int) (ar .add .i64 2 n) then true else true) then
                          bif (bif cm .neq (↑(outB (x5 (ar .sub .i64 (ar .sub .i64 n 64) 8).toNat) 2).size : Int) (ar .add .i64 2 n) then true else bif false then true else cm .neq ((yL (x5 (ar .sub .i64 (ar .sub .i64 n 64) 8).toNat) 2).pos 4) (ar .add .i64 2 n)) then
                            .ret (.bool true false) [(0, .tab (x.n) [.ints .i64 (x.kd), .strs (x.bs), .ints .i64 (x.N), .ints .i64 (x.op), .ints .i64 (x.r1), .ints .i64 (x.r2)] false), (1024, .cells [(.int false .i64 (q)), (.sl 0 (x.n))]), (1184, .tab 64 [.ints .u8 (fun x => 0)] true), (1280, .tab ((ar .sub .i64 (ar .sub .i64 n 64) 8).toNat) [.ints .u8 (fun x => 0)] true), (1328, .tab 8 [.ints .u8 (fun x => 0)] true), (1392, .tab 5 [.ints .i64 (nth [3, 1, 1, 1, 2] 0), .strs (nth [(ByteArray.mk #[]), strOf (fun x => 0) 64, strOf (fun x => 0) (ar .sub .i64 (ar .sub .i64 n 64) 8).toNat, strOf (fun x => 0) 8, (ByteArray.mk #[])] ByteArray.empty), .ints .i64 (nth [1, 0, 0, 0, 1] 0), .ints .i64 (nth [0, 0, 0, 0, 0] 0), .ints .i64 (nth [0, 0, 0, 0, 0] 0), .ints .i64 (nth [0, 0, 0, 0, 0] 0)] false), (1504, .tab 5 [.ints .i64 ((yL (x5 (ar .sub .i64 (ar .sub .i64 n 64) 8).toNat) 2).pos)] false)]
                          else
                            .norm 136 [(.ptr 1024 0 0), (.int false .i64 (ar .add .i64 n 1))] [(0, .tab (x.n) [.ints .i64 (x.kd), .strs (x.bs), .ints .i64 (x.N), .ints .i64 (x.op), .ints .i64 (x.r1), .ints .i64 (x.r2)] false), (1024, .cells [(.int false .i64 (q)), (.sl 0 (x.n))]), (1184, .tab 64 [.ints .u8 (fun x => 0)] true), (1280, .tab ((ar .sub .i64 (ar .sub .i64 n 64) 8).toNat) [.ints .u8 (fun x => 0)] true), (1328, .tab 8 [.ints .u8 (fun x => 0)] true), (1392, .tab 5 [.ints .i64 (nth [3, 1, 1, 1, 2] 0), .strs (nth [(ByteArray.mk #[]), strOf (fun x => 0) 64, strOf (fun x => 0) (ar .sub .i64 (ar .sub .i64 n 64) 8).toNat, strOf (fun x => 0) 8, (ByteArray.mk #[])] ByteArray.empty), .ints .i64 (nth [1, 0, 0, 0, 1] 0), .ints .i64 (nth [0, 0, 0, 0, 0] 0), .ints .i64 (nth [0, 0, 0, 0, 0] 0), .ints .i64 (nth [0, 0, 0, 0, 0] 0)] false), (1504, .tab 5 [.ints .i64 ((yL (x5 (ar .sub .i64 (ar .sub .i64 n 64) 8).toNat) 2).pos)] false)]
                        else .bad
                    else .bad
                  else .bad
              else .bad
            else .bad
          else .bad
        else .bad
      else .bad
    else
      .exit 0 136 [(.ptr 1024 0 0), (.int false .i64 (n))] [(0, .tab (x.n) [.ints .i64 (x.kd), .strs (x.bs), .ints .i64 (x.N), .ints .i64 (x.op), .ints .i64 (x.r1), .ints .i64 (x.r2)] false), (1024, .cells [(.int false .i64 (q)), (.sl 0 (x.n))])]) := by kernel_rfl

theorem r4b (x : It) (q : Int) (i : Nat) : (evalB E4a Try.prog Try.f4.results.toList (loopOf Try.f4 1) 2 lk4b (v4b i) (h4b x q i)).view [1, 9, 10] =
    (bif (cm .lss (↑i : Int) 64) then
      bif (Nat.ble (i + 1) (i + 1)) then
        bif (Nat.ble ((i + 1 + 1) * 56) (1099511627776)) then
          .norm 136 [(.ptr 1024 0 0), (.sl 1312 (i + 1 + 1)), (.int false .i64 (ar .add .i64 (↑i : Int) 1))] [(0, .tab (x.n) [.ints .i64 (x.kd), .strs (x.bs), .ints .i64 (x.N), .ints .i64 (x.op), .ints .i64 (x.r1), .ints .i64 (x.r2)] false), (1024, .cells [(.int false .i64 (q)), (.sl 0 (x.n))]), (1152, .dead), (1248, .tab 64 [.ints .u8 (fun x => 0)] true), (1296, .tab 1 [.ints .i64 (nth [1] 0), .strs (nth [strOf (fun x => 0) 64] ByteArray.empty), .ints .i64 (nth [0] 0), .ints .i64 (nth [0] 0), .ints .i64 (nth [0] 0), .ints .i64 (nth [0] 0)] true), (1312, .tab (i + 1 + 1) [.ints .i64 (cat (i + 1) (fk 4 1) (nth [1] 0)), .strs (cat (i + 1) fs (nth [strOf (fun x => 0) 64] ByteArray.empty)), .ints .i64 (cat (i + 1) (fk 1 0) (nth [0] 0)), .ints .i64 (cat (i + 1) (fk 7 0) (nth [0] 0)), .ints .i64 (cat (i + 1) (fk 3 0) (nth [0] 0)), .ints .i64 (cat (i + 1) (fk 4 0) (nth [0] 0))] true)]
        else .bad
      else .bad
    else
      .exit 2 136 [(.ptr 1024 0 0), (.sl 1152 (i + 1)), (.int false .i64 ((↑i : Int)))] [(0, .tab (x.n) [.ints .i64 (x.kd), .strs (x.bs), .ints .i64 (x.N), .ints .i64 (x.op), .ints .i64 (x.r1), .ints .i64 (x.r2)] false), (1024, .cells [(.int false .i64 (q)), (.sl 0 (x.n))]), (1152, .tab (i + 1) [.ints .i64 (fk 4 1), .strs (fs), .ints .i64 (fk 1 0), .ints .i64 (fk 7 0), .ints .i64 (fk 3 0), .ints .i64 (fk 4 0)] true)]) := by kernel_rfl

theorem t4 (x : It) (q : Int) (S : It → Int → ByteArray) : (evalF (E4S S) Try.prog 4 [SV.agg (vA x q)] (hI x) 1024).bare =
    (bif (Nat.beq (x.n) (x.n)) then
      bif (Nat.beq (x.n) (x.n)) then
        bif (clsB ((4 : Int) = 4)) then
          bif (clsB (nth [(ByteArray.mk #[])] ByteArray.empty 0 = (ByteArray.mk #[]))) then
            bif (clsB ((1 : Int) = 1)) then
              bif (clsB ((7 : Int) = 7)) then
                bif (clsB ((3 : Int) = 3)) then
                  bif (clsB ((4 : Int) = 4)) then
                    bif (okB 1 x66) then
                      bif (fitB x66 1) then
                        bif (okB 1 x65) then
                          bif (fitB x65 1) then
                            .ret (.bool false (bif cm .eql (↑(S x66 1).size : Int) 4104 then bif cm .eql (↑(S x65 1).size : Int) 4036 then bif cm .geq (↑x.n : Int) 0 then true else false else false else false)) []
                          else .bad
                        else .bad
                      else .bad
                    else .bad
                  else .bad
                else .bad
              else .bad
            else .bad
          else .bad
        else .bad
      else .bad
    else .bad) := by kernel_rfl

end Go.La
end

section
set_option linter.unusedVariables false
open Go Go.Ev Go.Proofs Go.ChangeShapes Go.WideShapes Go.ChangeAt Go.RowKit
namespace Go.La

/-! ways of each length -/
def okL (t : Int) (x : It) : Bool := Nat.ble x.n 32000 && (valK t x x.n && (List.range x.n).all fun i => toB x (domK x x.n) i)
theorem okL_ok {t : Int} {x : It} (h : okL t x = true) (ht : t = 1 ∨ t = 2) : okP t x := by
  simp only [okL, Bool.and_eq_true, Nat.ble_eq, List.all_eq_true, List.mem_range] at h
  exact ⟨h.1, ht, h.2.1, h.2.2⟩
/-- what the law asks of a length -/
def chk5 (m : Nat) : Bool := okL 2 (x5 (52 + m)) && (decide (endN (x5 (52 + m)) 2 = (bif Nat.blt 3 m then 129 else 126) + (m : Int)) && decide ((yL (x5 (52 + m)) 2).pos 4 = (bif Nat.blt 3 m then 129 else 126) + (m : Int)))
theorem chk5_all : (List.range 7).all chk5 = true := by kernel_rfl
structure X4 where
  x : It
  q : Int
  m : Nat
def ok4 (s : X4) : Prop := s.m ≤ 7
def vs4 (s : X4) : List SV := v4 ((124 + s.m : Nat) : Int)
def hp4 (s : X4) : Heap := h3 s.x s.q
def out4 (s : X4) : Vw := .exit 0 136 [.ptr 1024 0 0, .any] (h3 s.x s.q)
theorem entry4 (l : List SV) (H : Heap) (T : Tr) (h : lq4.get l H = some T) (hb : T.leaf ≠ .bad) : ∃ x r, ok4 x ∧ WkV r lq4.nm l H (vs4 x) (hp4 x) ∧ T.leaf = toLf lq4 (out4 x) := by
  replace h : get4 l H = some T := h
  unfold get4 at h
  split at h
  · rename_i k r c _ n j0 n1 kd bs N op r1 r2 _ j1 _ q k0 n0
    simp only [Option.some.injEq] at h
    subst h
    obtain ⟨hn, he⟩ := needs_ne hb
    rw [he]
    simp only [allB, Bool.and_eq_true, Bool.and_true, decide_eq_true_eq, Nat.beq_eq] at hn
    obtain ⟨rfl, rfl, rfl, rfl, rfl, rfl, rfl, rfl⟩ := hn
    refine ⟨⟨⟨n0, kd, bs, N, op, r1, r2⟩, q, 0⟩, [], Nat.zero_le _, ?_, ?_⟩
    · exact ⟨rfl, ⟨⟨rfl, rfl, rfl⟩, ⟨rfl, rfl⟩, trivial⟩, h3_wk ⟨n0, kd, bs, N, op, r1, r2⟩ q (more := []), rfl, rfl⟩
    · simp only [exitT_leaf, out4]
      rfl
  · cases h
theorem lq_4 {E : Env} {P : Program} {res : List ResultVar} {c : Code} {n : Nat} {l : List SV} {H : Heap} : evalB E P res c n lq4 l H = evalB E P res c n lk4 l H := rfl
attribute [local irreducible] evalB Tr.view outB yL in
theorem round4 (s : X4) (hx : ok4 s) : Round lq4 ok4 (fun s => 7 - s.m) vs4 hp4 out4 s ((evalB E4a Try.prog Try.f4.results.toList (loopOf Try.f4 0) (0 + 1) lk4 (vs4 s) (hp4 s)).view lq4.ks) := by
  obtain ⟨x, q, m⟩ := s
  have h0 : m ≤ 7 := hx
  rw [show evalB E4a Try.prog Try.f4.results.toList (loopOf Try.f4 0) (0 + 1) lk4 (vs4 ⟨x, q, m⟩) (hp4 ⟨x, q, m⟩) = evalB E4a Try.prog Try.f4.results.toList (loopOf Try.f4 0) 1 lk4 (v4 ((124 + m : Nat) : Int)) (h3 x q) from rfl, show lq4.ks = [1, 3] from rfl, r4]
  by_cases hm : m < 7
  · have hc := List.all_eq_true.1 chk5_all m (List.mem_range.2 hm)
    simp only [chk5, Bool.and_eq_true, decide_eq_true_eq] at hc
    obtain ⟨hok, hend, hpos⟩ := hc
    have hP := okL_ok hok (.inr rfl)
    have hsz : ((outB (x5 (52 + m)) 2).size : Int) = (bif Nat.blt 3 m then 129 else 126) + (m : Int) := by rw [out_end hP, hend]
    have e1 : cm .leq ((124 + m : Nat) : Int) 130 = true := by rw [cm_leq']; exact decide_eq_true (by omega)
    have e2 : ar .sub .i64 (ar .sub .i64 ((124 + m : Nat) : Int) 64) 8 = ((52 + m : Nat) : Int) := by simp only [ar, IntKind.wrap_i64]; omega
    have e3 : cm .gtr ((52 + m : Nat) : Int) 64 = false := decide_eq_false (by omega)
    have e4 : okB 2 (x5 (52 + m)) = true := cls_t hP
    have e5 : fitB (x5 (52 + m)) 2 = true := cls_t (by rw [hend]; cases Nat.blt 3 m <;> simp <;> omega)
    have e6 : ar .add .i64 ((124 + m : Nat) : Int) 1 = ((124 + (m + 1) : Nat) : Int) := by simp only [ar, IntKind.wrap_i64]; omega
    have e7 : ar .add .i64 5 ((124 + m : Nat) : Int) = 129 + (m : Int) := by simp only [ar, IntKind.wrap_i64]; omega
    have e8 : ar .add .i64 2 ((124 + m : Nat) : Int) = 126 + (m : Int) := by simp only [ar, IntKind.wrap_i64]; omega
    have hnext : ∀ (more : Heap) (f : Bool), Round lq4 ok4 (fun s => 7 - s.m) vs4 hp4 out4 ⟨x, q, m⟩ (.norm 136 [.ptr 1024 0 0, .int false .i64 ((124 + (m + 1) : Nat) : Int)] ((0, .tab x.n x.cols f) :: (1024, .cells [.int false .i64 q, .sl 0 x.n]) :: more)) := fun more f => by
      refine ⟨rfl, ⟨x, q, m + 1⟩, [], hm, by show 7 - (m + 1) < 7 - m; omega, rfl, rfl, ?_, ?_, rfl, rfl⟩
      · exact ⟨⟨rfl, rfl, rfl⟩, ⟨rfl, rfl⟩, trivial⟩
      · exact h3_wk x q
    have hneq : ∀ a : Int, cm .neq a a = false := fun a => by simp [cm]
    simp only [e1, e2, e3, e4, e5, e6, e7, e8, Int.toNat_natCast, decide_eq_true (show (0 : Int) ≤ ((52 + m : Nat) : Int) by omega), decide_eq_true (show ((52 + m : Nat) : Int) ≤ ((52 + m : Nat) : Int) by omega), ble_t (show (52 + m) * 1 ≤ 140737488355328 by omega), ble_t (show (52 + m) ≤ 140737488355328 by omega), ble_t (Nat.le_refl (52 + m)), cond_true, cond_false]
    by_cases h3 : 3 < m
    · rw [blt_t h3, cond_true] at hsz hpos
      simp only [show cm .gtr ((124 + m : Nat) : Int) 127 = true from decide_eq_true (by omega), hsz, hpos, hneq, cond_true, cond_false]
      exact hnext _ _
    · rw [show Nat.blt 3 m = false by rw [Bool.eq_false_iff, ne_eq, Nat.blt_eq]; exact h3, cond_false] at hsz hpos
      simp only [show cm .gtr ((124 + m : Nat) : Int) 127 = false from decide_eq_false (by omega), hsz, hpos, hneq, cond_true, cond_false]
      exact hnext _ _
  · obtain rfl : m = 7 := by omega
    have e1 : cm .leq ((124 + 7 : Nat) : Int) 130 = false := rfl
    simp only [e1, cond_false]
    refine ⟨rfl, [.ptr 1024 0 0, .any], _, [], rfl, rfl, ?_, ?_, rfl, rfl⟩
    · exact ⟨⟨rfl, rfl, rfl⟩, trivial, trivial⟩
    · exact h3_wk x q (more := [])

/-! a branch and strings -/
structure X4b where
  x : It
  q : Int
  i : Nat
def ok4b (s : X4b) : Prop := s.i ≤ 64
def vs4b (s : X4b) : List SV := v4b s.i
def hp4b (s : X4b) : Heap := h4b s.x s.q s.i
def out4b (s : X4b) : Vw := .exit 2 136 [.ptr 1024 0 0, .sl 1152 65, .any] (h4b s.x s.q 64)
theorem one0 {r : Nat} (h : r < 1) : r = 0 := by omega
theorem entry4b (l : List SV) (H : Heap) (T : Tr) (h : lq4b.get l H = some T) (hb : T.leaf ≠ .bad) : ∃ x r, ok4b x ∧ WkV r lq4b.nm l H (vs4b x) (hp4b x) ∧ T.leaf = toLf lq4b (out4b x) := by
  replace h : get4b l H = some T := h
  unfold get4b at h
  split at h
  · rename_i k r c k2 n _ i j0 n2 kd' bs' N' op' r1' r2' _ j1 _ q k0 n0 j n1 kd bs N op r1 r2
    simp only [Option.some.injEq] at h
    subst h
    obtain ⟨hn, he⟩ := needs_ne hb
    rw [he]
    simp only [allB, Bool.and_eq_true, Bool.and_true, decide_eq_true_eq, Nat.beq_eq, clsB_iff] at hn
    obtain ⟨rfl, rfl, rfl, rfl, rfl, rfl, rfl, rfl, rfl, rfl, rfl, rfl, q0, q1, q2, q3, q4, q5⟩ := hn
    refine ⟨⟨⟨n0, kd', bs', N', op', r1', r2'⟩, q, 0⟩, [], Nat.zero_le _, ?_, ?_⟩
    · refine ⟨rfl, ⟨⟨rfl, rfl, rfl⟩, ⟨rfl, rfl⟩, ⟨rfl, rfl⟩, trivial⟩, ?_, rfl, rfl⟩
      simp [hp4b, h4b, wkH, wkB, wkCs, wkC, simL, sim, rmap, rlook, Ev.look, It.cols, colsF]
      exact ⟨q0, q1, q2, q3, q4, q5⟩
    · simp only [exitT_leaf, out4b]
      rfl
  · cases h
theorem cat_fk {a b : Int} {i r : Nat} (h : r < i + 1 + 1) : cat (i + 1) (fk a b) (nth [b] 0) r = fk a b r := by
  unfold cat
  by_cases hr : r < i + 1
  · rw [blt_t hr]; rfl
  · obtain rfl : r = i + 1 := by omega
    rw [blt_f (by omega), cond_false, Nat.sub_self]
    rfl
theorem cat_fs {i r : Nat} (h : r < i + 1 + 1) : cat (i + 1) fs (nth [zs 64] ByteArray.empty) r = fs r := by
  unfold cat
  by_cases hr : r < i + 1
  · rw [blt_t hr]; rfl
  · obtain rfl : r = i + 1 := by omega
    rw [blt_f (by omega), cond_false, Nat.sub_self]
    rfl
theorem lq_4b {E : Env} {P : Program} {res : List ResultVar} {c : Code} {n : Nat} {l : List SV} {H : Heap} : evalB E P res c n lq4b l H = evalB E P res c n lk4b l H := rfl
attribute [local irreducible] evalB Tr.view in
theorem round4b (s : X4b) (hx : ok4b s) : Round lq4b ok4b (fun s => 64 - s.i) vs4b hp4b out4b s ((evalB E4a Try.prog Try.f4.results.toList (loopOf Try.f4 1) (1 + 1) lk4b (vs4b s) (hp4b s)).view lq4b.ks) := by
  obtain ⟨x, q, i⟩ := s
  have h0 : i ≤ 64 := hx
  rw [show evalB E4a Try.prog Try.f4.results.toList (loopOf Try.f4 1) (1 + 1) lk4b (vs4b ⟨x, q, i⟩) (hp4b ⟨x, q, i⟩) = evalB E4a Try.prog Try.f4.results.toList (loopOf Try.f4 1) 2 lk4b (v4b i) (h4b x q i) from rfl, show lq4b.ks = [1, 9, 10] from rfl, r4b]
  by_cases hi : i < 64
  · have e1 : cm .lss (i : Int) 64 = true := by rw [cm_lss']; exact decide_eq_true (by omega)
    simp only [e1, ble_t (Nat.le_refl (i + 1)), ble_t (show (i + 1 + 1) * 56 ≤ 1099511627776 by omega), addOne (show i < 9223372036854775807 by omega), cond_true]
    refine ⟨rfl, ⟨x, q, i + 1⟩, [(1152, .old 1312)], hi, by show 64 - (i + 1) < 64 - i; omega, rfl, rfl, ?_, ?_, rfl, rfl⟩
    · exact ⟨⟨rfl, rfl, rfl⟩, ⟨rfl, rfl⟩, ⟨rfl, rfl⟩, trivial⟩
    · simp [hp4b, h4b, wkH, wkB, wkCs, wkC, simL, sim, rmap, rlook, Ev.look, It.cols, colsF]
      exact ⟨fun _ h => cat_fk h, fun _ h => cat_fs h, fun _ h => cat_fk h, fun _ h => cat_fk h, fun _ h => cat_fk h, fun _ h => cat_fk h⟩
  · obtain rfl : i = 64 := by omega
    have e1 : cm .lss ((64 : Nat) : Int) 64 = false := rfl
    simp only [e1, cond_false]
    refine ⟨rfl, [.ptr 1024 0 0, .sl 1152 65, .any], _, [], rfl, rfl, ?_, ?_, rfl, rfl⟩
    · exact ⟨⟨rfl, rfl, rfl⟩, ⟨rfl, rfl⟩, trivial, trivial⟩
    · simp [h4b, wkH, wkB, wkCs, wkC, simL, sim, rmap, rlook, Ev.look, It.cols, colsF]

theorem e4a_calls : CallsOk E4a Try.prog := (inlF_calls ((SpecsOk.cons spec9T (SpecsOk.cons spec15 SpecsOk.nil)).calls noLoop) mixed named12 rfl rfl 3).1
theorem e4a_loop : E4a.loop = noLoop := rfl
noncomputable def E4 : Env := E4S outB
theorem e4s_calls : CallsOk (inlF Try.prog (envOf [(9, specOf (g9S outB)), (15, specOf g15)] noLoop) [12] [] [] 3) Try.prog := e4a_calls
theorem e4_calls : CallsOk E4 Try.prog := fun f args H nm r h hn => e4s_calls f args H nm r h hn
attribute [local irreducible] evalB Tr.view in
theorem loop4 : LoopOk E4 Try.prog Try.f4 0 (loopOf Try.f4 0) :=
  loop_okE mixed (fun S => rfl) (by decide) ok4 (fun s => 7 - s.m) vs4 hp4 out4 entry4 fun x hx => ⟨E4a, e4a_calls, loops_noLoop e4a_loop _ _, by rw [lq_4]; exact round4 x hx⟩
attribute [local irreducible] evalB Tr.view in
theorem loop4b : LoopOk E4 Try.prog Try.f4 1 (loopOf Try.f4 1) :=
  loop_okE mixed (fun S => rfl) (by decide) ok4b (fun s => 64 - s.i) vs4b hp4b out4b entry4b fun x hx => ⟨E4a, e4a_calls, loops_noLoop e4a_loop _ _, by rw [lq_4b]; exact round4b x hx⟩
theorem fn4 : Try.prog.funcs[4]? = some Try.f4 := by kernel_rfl
theorem b4 : Try.f4.body = some (bodyOf Try.f4) := by kernel_rfl
theorem nl4 : Code.loops (bodyOf Try.f4) = 2 := by kernel_rfl
theorem nth4a : nthLoop (bodyOf Try.f4) 0 = some (loopOf Try.f4 0) := by kernel_rfl
theorem nth4b : nthLoop (bodyOf Try.f4) 1 = some (loopOf Try.f4 1) := by kernel_rfl
theorem loops4 : LoopsOk E4 Try.prog Try.f4 (bodyOf Try.f4) 0 := loops2 nl4
  (fun a ha => by rw [nth4a] at ha; simp only [Option.some.injEq] at ha; subst ha; exact loop4)
  (fun a ha => by rw [nth4b] at ha; simp only [Option.some.injEq] at ha; subst ha; exact loop4b)
theorem ok66 : okL 1 x66 = true := by kernel_rfl
theorem ok65 : okL 1 x65 = true := by kernel_rfl
theorem end66 : decide (endN x66 1 ≤ 258048) = true := by kernel_rfl
theorem end65 : decide (endN x65 1 ≤ 258048) = true := by kernel_rfl
theorem n66 : endN x66 1 = 4104 := by kernel_rfl
theorem n65 : endN x65 1 = 4036 := by kernel_rfl
attribute [local irreducible] evalF x66 x65 outB in
theorem law4 (x : It) (q : Int) (h : x.n ≤ reachBytes) : (evalF E4 Try.prog 4 [.agg (vA x q)] (hI x) 1024).bare = .ret (.bool false true) [] := by
  have e1 : okB 1 x66 = true := cls_t (okL_ok ok66 (.inl rfl))
  have e2 : okB 1 x65 = true := cls_t (okL_ok ok65 (.inl rfl))
  have e3 : fitB x66 1 = true := cls_t (of_decide_eq_true end66)
  have e4 : fitB x65 1 = true := cls_t (of_decide_eq_true end65)
  have e5 : cm .geq (x.n : Int) 0 = true := by rw [cm_geq']; exact decide_eq_true (by omega)
  have e6 : cm .eql ((outB x66 1).size : Int) 4104 = true := by rw [out_end (okL_ok ok66 (.inl rfl)), n66]; rfl
  have e7 : cm .eql ((outB x65 1).size : Int) 4036 = true := by rw [out_end (okL_ok ok65 (.inl rfl)), n65]; rfl
  show (evalF (E4S outB) Try.prog 4 [.agg (vA x q)] (hI x) 1024).bare = _
  rw [t4, beq_t, e1, e2, e3, e4, e5, e6, e7]
  simp only [cls_t, cond_true]
  rw [cls_t (show nth [ByteArray.mk #[]] ByteArray.empty 0 = ByteArray.mk #[] from rfl), cond_true]

end Go.La
end
