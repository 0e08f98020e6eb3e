/-
  layout: one target: contract, laws of a target.
-/
import Derived.Test.YtidihpmjndfbgaaC12
import Derived.Test.YtidihpmjndfbgaaB13
set_option linter.unusedSimpArgs false
set_option linter.unusedVariables false
section
set_option linter.unusedVariables false
open Go Go.Ev Go.Proofs Go.ChangeShapes Go.WideShapes Go.ChangeAt Go.RowKit
namespace Go.La

/-! nothing is the same as nothing -/
theorem lp13N_round : ∀ {E : Env} {P : Program} {res : List ResultVar} {c : Code} {n : Nat} {l : List SV} {H : Heap}, evalB E P res c n lp13N l H = evalB E P res c n lk13 l H := rfl
attribute [local irreducible] evalB Tr.view in
theorem loop13N : LoopOk E13N Try.prog Try.f13 0 (loopOf Try.f13 0) :=
  loop_okE mixed (fun S => rfl) (by decide) (fun _ : Unit => True) (fun _ => 0) (fun _ => v13N 0) (fun _ => []) (fun _ => .exit 0 26 [.any, .any, .any] [])
    (fun l H T h hb => by
      replace h : get13N l H = some T := h
      unfold get13N at h
      split at h
      · rename_i _ i
        simp only [Option.some.injEq] at h
        subst h
        obtain ⟨hn, he⟩ := needs_ne hb
        rw [he]
        simp only [allB, Bool.and_true, decide_eq_true_eq] at hn
        subst hn
        refine ⟨(), [], trivial, ⟨rfl, ⟨rfl, rfl, ⟨rfl, rfl⟩, trivial⟩, trivial, rfl, rfl⟩, ?_⟩
        simp only [exitT_leaf]
        rfl
      · cases h)
    fun x _ => ⟨EN, en_calls, loops_noLoop en_loop _ _, by
      rw [lp13N_round, show lp13N.ks = [0, 1, 5] from rfl, r13N]
      exact ⟨rfl, [.any, .any, .any], [], [], rfl, rfl, ⟨trivial, trivial, trivial, trivial⟩, trivial, rfl, rfl⟩⟩
theorem loops13N : LoopsOk E13N Try.prog Try.f13 (bodyOf Try.f13) 0 := loops1 nl13 fun a ha => by
  rw [nth13] at ha; simp only [Option.some.injEq] at ha; subst ha; exact loop13N
theorem e13N_calls : CallsOk E13N Try.prog := fun f args H nm r h hn => en_calls f args H nm r h hn
attribute [local irreducible] evalF Lf.gives in
theorem spec13N : SpecOk Try.prog 13 (specOf g13N) := spec_okA false e13N_calls mixed fn13 b13 n13 loops13N g13N fun a0 H0 r hg hn => by
  unfold g13N at hg
  split at hg
  · simp only [Option.some.injEq] at hg
    subst hg
    refine ⟨_, id, fun _ => rfl, ?_⟩
    show GivesD _ (evalF E13N Try.prog 13 [.val (.slice none 0 0), .val (.slice none 0 0)] [] 1024).leaf
    refine gives_giv (gives_tree t13N ?_)
    exact gives_ret fun σ σ' => rfl
  · cases hg

theorem e16H_calls : CallsOk E16H Try.prog := (SpecsOk.cons (spec8 true) SpecsOk.nil).calls noLoop
theorem e16T_calls : CallsOk E16T Try.prog := (inlF_calls ((SpecsOk.cons (spec8 false) (SpecsOk.cons spec9T (SpecsOk.cons spec10T (SpecsOk.cons (spec11 true) (SpecsOk.cons spec13 (SpecsOk.cons spec15 SpecsOk.nil)))))).calls noLoop) mixed named12 rfl rfl 3).1
theorem e16R_calls : CallsOk E16R Try.prog := (inlF_calls ((SpecsOk.cons (spec8 false) (SpecsOk.cons spec9R (SpecsOk.cons spec10T (SpecsOk.cons (spec11 false) (SpecsOk.cons spec13N (SpecsOk.cons spec15 SpecsOk.nil)))))).calls noLoop) mixed named12 rfl rfl 3).1
theorem e16F_calls : CallsOk E16F Try.prog := (inlF_calls ((SpecsOk.cons (spec8 false) (SpecsOk.cons spec9F (SpecsOk.cons spec10F (SpecsOk.cons spec13N (SpecsOk.cons spec15 SpecsOk.nil))))).calls noLoop) mixed named12 rfl rfl 3).1
theorem e16H_loop : E16H.loop = noLoop := rfl
theorem e16T_loop : E16T.loop = noLoop := rfl
theorem e16R_loop : E16R.loop = noLoop := rfl
theorem e16F_loop : E16F.loop = noLoop := rfl
theorem fn16 : Try.prog.funcs[16]? = some Try.f16 := by kernel_rfl
theorem b16 : Try.f16.body = some (bodyOf Try.f16) := by kernel_rfl
theorem n16 : (Try.f16.name == "runtime.NumGoroutine") = false := by kernel_rfl
theorem fit_far {x : It} {t : Int} (h : fitB x t = false) : farB x t = true := by
  refine cls_t ?_
  have : ¬ endN x t ≤ 258048 := fun h' => by rw [fitB, cls_t h'] at h; cases h
  omega
def g16 : List SV → Heap → Option R
  | [.agg [.int false .i64 q, .sl k n], .int false .i64 t], [(j0, .tab n1 [.ints .i64 kd, .strs bs, .ints .i64 N, .ints .i64 op, .ints .i64 r1, .ints .i64 r2] _)] => match Nat.beq k 0 && Nat.beq j0 0 with
    | true => some ⟨[Nat.beq n n1, Nat.ble n1 4611686018427387904], .bool true true, []⟩
    | false => none
  | _, _ => none
attribute [local irreducible] evalF Lf.gives outB yL in
theorem spec16 : SpecOk Try.prog 16 (specOf g16) := spec_okB false mixed fn16 b16 n16 g16 fun a0 H0 r hg hn => by
  unfold g16 at hg
  split at hg
  · rename_i q k n t j0 n1 kd bs N op r1 r2 _
    split at hg
    · rename_i hk
      simp only [Bool.and_eq_true, Nat.beq_eq] at hk
      obtain ⟨rfl, rfl⟩ := hk
      simp only [Option.some.injEq] at hg
      subst hg
      simp only [allB, Bool.and_eq_true, Bool.and_true, Nat.beq_eq] at hn
      obtain ⟨rfl, hs⟩ := hn
      generalize hx : (⟨n, kd, bs, N, op, r1, r2⟩ : It) = x
      cases hh : heavyP x with
      | true =>
        have hv : hvB x true = true := cls_t hh
        refine ⟨E16H, [.agg [.int false .i64 q, .sl 0 n], .int false .i64 t], e16H_calls, loops_noLoop e16H_loop _ _, id, fun _ => rfl, ?_⟩
        show GivesD _ (evalF E16H Try.prog 16 [.agg [.int false .i64 q, .sl 0 n], .int false .i64 t] (hI ⟨n, kd, bs, N, op, r1, r2⟩) 1024).leaf
        refine gives_giv (gives_tree (t16H ⟨n, kd, bs, N, op, r1, r2⟩ t q) ?_)
        rw [hx, hv]
        simp only [beq_t, hs, show x.n = n by rw [← hx], cond_true]
        exact gives_ret fun σ σ' => rfl
      | false =>
        have hv : hvB x false = true := cls_t hh
        by_cases hok : okP t x
        · have e1 : okB t x = true := cls_t hok
          have hn2 : n ≤ 32000 := by have := hok.1; rw [← hx] at this; exact this
          cases hf : fitB x t with
          | true =>
            refine ⟨E16T, [.agg [.int false .i64 q, .sl 0 n], .int false .i64 t], e16T_calls, loops_noLoop e16T_loop _ _, id, fun _ => rfl, ?_⟩
            show GivesD _ (evalF E16T Try.prog 16 [.agg [.int false .i64 q, .sl 0 n], .int false .i64 t] (hI ⟨n, kd, bs, N, op, r1, r2⟩) 1024).leaf
            refine gives_giv (gives_tree (t16T ⟨n, kd, bs, N, op, r1, r2⟩ t q) ?_)
            rw [hx, hv, e1, hf]
            simp only [beq_t, hs, show x.n = n by rw [← hx], cond_true, seq_self, cls_t, allB, eqA_iff.2 fun _ _ => rfl, ble_t (show n ≤ 100000000 by omega), Bool.and_self]
            exact gives_ret fun σ σ' => rfl
          | false =>
            refine ⟨E16R, [.agg [.int false .i64 q, .sl 0 n], .int false .i64 t], e16R_calls, loops_noLoop e16R_loop _ _, id, fun _ => rfl, ?_⟩
            show GivesD _ (evalF E16R Try.prog 16 [.agg [.int false .i64 q, .sl 0 n], .int false .i64 t] (hI ⟨n, kd, bs, N, op, r1, r2⟩) 1024).leaf
            refine gives_giv (gives_tree (t16R ⟨n, kd, bs, N, op, r1, r2⟩ t q) ?_)
            rw [hx, hv, e1, fit_far hf, hf]
            simp only [beq_t, hs, show x.n = n by rw [← hx], cond_true, cls_t]
            exact gives_ret fun σ σ' => rfl
        · have e1 : noB t x = true := cls_t hok
          refine ⟨E16F, [.agg [.int false .i64 q, .sl 0 n], .int false .i64 t], e16F_calls, loops_noLoop e16F_loop _ _, id, fun _ => rfl, ?_⟩
          show GivesD _ (evalF E16F Try.prog 16 [.agg [.int false .i64 q, .sl 0 n], .int false .i64 t] (hI ⟨n, kd, bs, N, op, r1, r2⟩) 1024).leaf
          refine gives_giv (gives_tree (t16F ⟨n, kd, bs, N, op, r1, r2⟩ t q) ?_)
          rw [hx, hv, e1]
          simp only [beq_t, hs, show x.n = n by rw [← hx], cond_true]
          exact gives_ret fun σ σ' => rfl
    · cases hg
  · cases hg

/-! the laws of a target -/
noncomputable def E5 : Env := envOf [(16, specOf g16)] noLoop
theorem fn5 : Try.prog.funcs[5]? = some Try.f5 := by kernel_rfl
theorem b5 : Try.f5.body = some (bodyOf Try.f5) := by kernel_rfl
theorem fn6 : Try.prog.funcs[6]? = some Try.f6 := by kernel_rfl
theorem b6 : Try.f6.body = some (bodyOf Try.f6) := by kernel_rfl
/-- an argument is an ask -/
def shapesA : List AK := [.flat (.int .i64), .slice [.int .i64, .str, .int .i64, .int .i64, .int .i64, .int .i64]]
def vA (x : It) (q : Int) : List SV := [.int false .i64 q, .sl 0 x.n]
theorem ask_it (al : List AD) (h : adsIs shapesA al) (hz : adsSmall al) : ∃ (x : It) (q : Int), svs al 0 = vA x q ∧ heapOf al 0 = hI x ∧ x.n ≤ reachBytes := by
  unfold shapesA at h
  obtain ⟨a0, al, rfl, h0, h⟩ := adsIs_cons h
  obtain ⟨a1, al, rfl, h1, h⟩ := adsIs_cons h
  obtain rfl := adsIs_nil h
  obtain ⟨q, rfl, _⟩ := adIs_int h0
  obtain ⟨n, cols, rfl, _, hc⟩ := adIs_slice h1
  obtain ⟨c0, cols, rfl, _, hc⟩ := colsIs_int hc
  obtain ⟨c1, cols, rfl, _, hc⟩ := colsIs_str hc
  obtain ⟨c2, cols, rfl, _, hc⟩ := colsIs_int hc
  obtain ⟨c3, cols, rfl, _, hc⟩ := colsIs_int hc
  obtain ⟨c4, cols, rfl, _, hc⟩ := colsIs_int hc
  obtain ⟨c5, cols, rfl, _, hc⟩ := colsIs_int hc
  obtain rfl := colsIs_nil hc
  simp only [adsSmall, and_true] at hz
  exact ⟨⟨n, c0, c1, c2, c3, c4, c5⟩, q, rfl, rfl, hz⟩
--LEAVES

theorem t5 (x : It) (q : Int) : (evalF E5 Try.prog 5 [SV.agg (vA x q)] (hI x) 1024).bare =
    (bif (Nat.beq (x.n) (x.n)) then
      bif (Nat.ble (x.n) (4611686018427387904)) then
        .ret (.bool true true) []
      else .bad
    else .bad) := by kernel_rfl

theorem t6 (x : It) (q : Int) : (evalF E5 Try.prog 6 [SV.agg (vA x q)] (hI x) 1024).bare =
    (bif (Nat.beq (x.n) (x.n)) then
      bif (Nat.ble (x.n) (4611686018427387904)) then
        .ret (.bool true true) []
      else .bad
    else .bad) := by kernel_rfl

end Go.La
end

section
set_option linter.unusedVariables false
open Go Go.Ev Go.Proofs Go.ChangeShapes Go.WideShapes Go.ChangeAt Go.RowKit
namespace Go.La

theorem e5_calls : CallsOk E5 Try.prog := (SpecsOk.cons spec16 SpecsOk.nil).calls noLoop
theorem e5_loop : E5.loop = noLoop := rfl
theorem loops5 : LoopsOk E5 Try.prog Try.f5 (bodyOf Try.f5) 0 := loops_noLoop e5_loop _ _
theorem loops6 : LoopsOk E5 Try.prog Try.f6 (bodyOf Try.f6) 0 := loops_noLoop e5_loop _ _
theorem reach_le {n : Nat} (h : n ≤ reachBytes) : Nat.ble n 4611686018427387904 = true := ble_t (Nat.le_trans h (by decide))
attribute [local irreducible] evalF in
theorem law5 (x : It) (q : Int) (h : x.n ≤ reachBytes) : (evalF E5 Try.prog 5 [.agg (vA x q)] (hI x) 1024).bare = .ret (.bool true true) [] := by
  rw [t5, beq_t, reach_le h]; rfl
attribute [local irreducible] evalF in
theorem law6 (x : It) (q : Int) (h : x.n ≤ reachBytes) : (evalF E5 Try.prog 6 [.agg (vA x q)] (hI x) 1024).bare = .ret (.bool true true) [] := by
  rw [t6, beq_t, reach_le h]; rfl

end Go.La
end

section
set_option linter.unusedVariables false
open Go Go.Ev Go.Proofs
namespace Go.La

/-- is it heavy, told by itself -/
noncomputable def g8S : List SV → Heap → Option R
  | [.agg [.int false .i64 t, .sl k n]], [(j0, .tab n1 [.ints .i64 kd, .strs bs, .ints .i64 N, .ints .i64 op, .ints .i64 r1, .ints .i64 r2] _)] => match Nat.beq k 0 && Nat.beq j0 0 with
    | true => some ⟨[Nat.beq n n1, Nat.ble n1 4611686018427387904], .bool false (heavyP ⟨n1, kd, bs, N, op, r1, r2⟩), []⟩
    | false => none
  | _, _ => none
attribute [local irreducible] evalF Lf.gives in
theorem spec8S : SpecOk Try.prog 8 (specOf g8S) := spec_okA false e8_calls mixed fn8 b8 n8 loops8 g8S fun a0 H0 r hg hn => by
  unfold g8S at hg
  split at hg
  · rename_i t k n j0 n1 kd bs N op r1 r2 _
    split at hg
    · rename_i hk
      simp only [Bool.and_eq_true, Nat.beq_eq] at hk
      obtain ⟨rfl, rfl⟩ := hk
      simp only [Option.some.injEq] at hg
      subst hg
      simp only [allB, Bool.and_eq_true, Bool.and_true, Nat.beq_eq] at hn
      obtain ⟨rfl, hs⟩ := hn
      refine ⟨_, id, fun _ => rfl, ?_⟩
      show GivesD _ (evalF E8 Try.prog 8 [.agg [.int false .i64 t, .sl 0 n]] (hI ⟨n, kd, bs, N, op, r1, r2⟩) 1024).leaf
      refine gives_giv (gives_tree (t8 ⟨n, kd, bs, N, op, r1, r2⟩ t) ?_)
      simp only [beq_t, hs, decide_true, cond_true]
      exact gives_ret fun σ σ' => rfl
    · cases hg
  · cases hg

/-- a copy -/
def xz (x : It) : It := ⟨0 + x.n, cat 0 (fun _ => 0) x.kd, cat 0 (fun _ => ByteArray.empty) x.bs, cat 0 (fun _ => 0) x.N, cat 0 (fun _ => 0) x.op, cat 0 (fun _ => 0) x.r1, cat 0 (fun _ => 0) x.r2⟩
def h3 (x : It) (q : Int) : Heap := [(0, .tab x.n x.cols false), (1024, .cells [.int false .i64 q, .sl 0 x.n])]
/-! are the items as they were -/
def v3b (x : It) (t i : Int) : List SV := [.ptr 1024 0 0, .int false .i64 t, .sl 1216 x.n, .int false .i64 i]
def h3b (x : It) (q : Int) : Heap := [(0, .tab x.n x.cols false), (1024, .cells [.int false .i64 q, .sl 0 x.n]), (1216, .tab x.n x.cols false)]
def lk3b : Lp := ⟨88, [1, 3, 4, 12], 2600, fun _ _ => none⟩
noncomputable def get3b : List SV → Heap → Option Tr
  | [.ptr k r c, .int _ .i64 t, .sl kn nn, .int _ .i64 i], (j0, .tab n1 [.ints .i64 kd, .strs bs, .ints .i64 N, .ints .i64 op, .ints .i64 r1, .ints .i64 r2] _) :: (j1, .cells [.int _ .i64 q, .sl k0 n0]) :: (jd, _) :: (j2, .tab n2 [.ints .i64 kd', .strs bs', .ints .i64 N', .ints .i64 op', .ints .i64 r1', .ints .i64 r2'] _) :: _ =>
    some (Tr.needs [Nat.beq k 1024, Nat.beq r 0, Nat.beq c 0, Nat.beq kn 1216, Nat.beq nn n1, decide (i = 0), Nat.beq j0 0, Nat.beq j1 1024, Nat.beq jd 1168, Nat.beq j2 1216, Nat.beq k0 0, Nat.beq n0 n1, clsB ((⟨n2, kd', bs', N', op', r1', r2'⟩ : It) = ⟨n1, kd, bs, N, op, r1, r2⟩), Nat.ble n1 4611686018427387904]
      (exitT lk3b 2 [.ptr 1024 0 0, .int false .i64 t, .any, .any] (h3 ⟨n1, kd, bs, N, op, r1, r2⟩ q)))
  | _, _ => none
noncomputable def lq3b : Lp := { lk3b with get := get3b }
noncomputable def E3T0 : Env := inlF Try.prog (envOf [(9, specOf g9T), (10, specOf g10T), (11, specOf (g11 true)), (13, specOf g13)] noLoop) [12] [] [] 3
noncomputable def E3R0 : Env := inlF Try.prog (envOf [(9, specOf g9R), (10, specOf g10T), (11, specOf (g11 false)), (13, specOf g13N)] noLoop) [12] [] [] 3
noncomputable def E3F0 : Env := inlF Try.prog (envOf [(9, specOf g9F), (10, specOf g10F), (13, specOf g13N)] noLoop) [12] [] [] 3
noncomputable def E3T : Env := ⟨E3T0.call, loopEnv [(1, lq3b)]⟩
noncomputable def E3R : Env := ⟨E3R0.call, loopEnv [(1, lq3b)]⟩
noncomputable def E3F : Env := ⟨E3F0.call, loopEnv [(1, lq3b)]⟩
/-! target by target -/
def v3 (t : Int) : List SV := [.ptr 1024 0 0, .int false .i64 t]
def lk3 : Lp := ⟨88, [1, 3], 1136, fun _ _ => none⟩
noncomputable def get3 : List SV → Heap → Option Tr
  | [.ptr k r c, .int _ .i64 t], [(j0, .tab n1 [.ints .i64 kd, .strs bs, .ints .i64 N, .ints .i64 op, .ints .i64 r1, .ints .i64 r2] _), (j1, .cells [.int _ .i64 q, .sl k0 n0])] =>
    some (Tr.needs [Nat.beq k 1024, Nat.beq r 0, Nat.beq c 0, decide (t = 0), Nat.beq j0 0, Nat.beq j1 1024, Nat.beq k0 0, Nat.beq n0 n1, clsB (n1 ≤ 1048576)] (exitT lk3 0 [.any, .any] []))
  | _, _ => none
noncomputable def lq3 : Lp := { lk3 with get := get3 }
noncomputable def E3a : Env := inlF Try.prog (envOf [(8, specOf g8S), (15, specOf g15)] noLoop) [14] [] [] 3
noncomputable def E3 : Env := ⟨E3a.call, loopEnv [(0, lq3)]⟩
--LEAVES

theorem r3b (x : It) (q : Int) (t : Int) (i : Int) : (evalB EI Try.prog Try.f3.results.toList (loopOf Try.f3 1) 2 lk3b (v3b x t i) (h3b x q)).view [1, 3, 4, 12] =
    (bif (cm .lss i (↑x.n : Int)) then
      bif (decide (0 ≤ i)) then
        bif (decide (i < (↑x.n : Int))) then
          bif (Nat.blt (i.toNat) (x.n)) then
            bif (Nat.blt (i.toNat) (x.n)) then
              bif (decide (0 ≤ i)) then
                bif (decide (i < (↑x.n : Int))) then
                  bif (Nat.blt (i.toNat) (x.n)) then
                    bif (Nat.blt (i.toNat) (x.n)) then
                      bif (!(x.kd i.toNat == x.kd i.toNat && (seq (x.bs i.toNat) (x.bs i.toNat) && (x.N i.toNat == x.N i.toNat && (x.op i.toNat == x.op i.toNat && (x.r1 i.toNat == x.r1 i.toNat && (x.r2 i.toNat == x.r2 i.toNat && true))))))) then
                        .ret (.bool true false) [(0, .tab (x.n) [.ints .i64 (x.kd), .strs (x.bs), .ints .i64 (x.N), .ints .i64 (x.op), .ints .i64 (x.r1), .ints .i64 (x.r2)] false), (1024, .cells [(.int false .i64 (q)), (.sl 0 (x.n))]), (1216, .tab (x.n) [.ints .i64 (x.kd), .strs (x.bs), .ints .i64 (x.N), .ints .i64 (x.op), .ints .i64 (x.r1), .ints .i64 (x.r2)] false)]
                      else
                        .norm 88 [(.ptr 1024 0 0), (.int false .i64 (t)), (.sl 1216 (x.n)), (.int false .i64 (ar .add .i64 i 1))] [(0, .tab (x.n) [.ints .i64 (x.kd), .strs (x.bs), .ints .i64 (x.N), .ints .i64 (x.op), .ints .i64 (x.r1), .ints .i64 (x.r2)] false), (1024, .cells [(.int false .i64 (q)), (.sl 0 (x.n))]), (1216, .tab (x.n) [.ints .i64 (x.kd), .strs (x.bs), .ints .i64 (x.N), .ints .i64 (x.op), .ints .i64 (x.r1), .ints .i64 (x.r2)] false)]
                    else .bad
                  else .bad
                else .bad
              else .bad
            else .bad
          else .bad
        else .bad
      else .bad
    else
      .exit 2 88 [(.ptr 1024 0 0), (.int false .i64 (t)), (.sl 1216 (x.n)), (.int false .i64 (i))] [(0, .tab (x.n) [.ints .i64 (x.kd), .strs (x.bs), .ints .i64 (x.N), .ints .i64 (x.op), .ints .i64 (x.r1), .ints .i64 (x.r2)] false), (1024, .cells [(.int false .i64 (q)), (.sl 0 (x.n))]), (1216, .tab (x.n) [.ints .i64 (x.kd), .strs (x.bs), .ints .i64 (x.N), .ints .i64 (x.op), .ints .i64 (x.r1), .ints .i64 (x.r2)] false)]) := by kernel_rfl

theorem r3T (x : It) (q : Int) (t : Int) : (evalB E3T Try.prog Try.f3.results.toList (loopOf Try.f3 0) 1 lk3 (v3 t) (h3 x q)).view [1, 3] =
    (bif (cm .leq t 3) then
      bif (Nat.ble (x.n) (x.n)) then
        bif (Nat.ble ((0 + x.n) * 56) (1099511627776)) then
          bif (Nat.beq (0 + x.n) (0 + x.n)) then
            bif (okB t (xz x)) then
              bif (fitB (xz x) t) then
                bif (Nat.beq (x.n) (x.n)) then
                  bif (okB t x) then
                    bif (Nat.beq (x.n) (x.n)) then
                      bif (okB t x) then
                        bif (clsB (fitB x t = true)) then
                          bif (bif !seq (outB (xz x) t) (outB x t) then true else allB [(0 + x.n).beq x.n, (0 + x.n).beq (0 + x.n), (0 + x.n).beq x.n, eqA (0 + x.n) (yL (xz x) t).pos (yL x t).pos, (0 + x.n).ble 100000000]) then
                            bif (bif !seq (outB (xz x) t) (outB x t) then true else cm .neq (↑(0 + x.n) : Int) (↑x.n : Int)) then
                              .ret (.bool true false) [(0, .tab (x.n) [.ints .i64 (x.kd), .strs (x.bs), .ints .i64 (x.N), .ints .i64 (x.op), .ints .i64 (x.r1), .ints .i64 (x.r2)] false), (1024, .cells [(.int false .i64 (q)), (.sl 0 (x.n))]), (1168, .dead), (1216, .tab (0 + x.n) [.ints .i64 (cat 0 (fun x => 0) x.kd), .strs (cat 0 (fun x => ByteArray.empty) x.bs), .ints .i64 (cat 0 (fun x => 0) x.N), .ints .i64 (cat 0 (fun x => 0) x.op), .ints .i64 (cat 0 (fun x => 0) x.r1), .ints .i64 (cat 0 (fun x => 0) x.r2)] false), (1280, .tab (0 + x.n) [.ints .i64 ((yL (xz x) t).pos)] false), (1600, .tab (x.n) [.ints .i64 ((yL x t).pos)] true)]
                            else
                              bif (Nat.beq (0 + x.n) (x.n)) then
                                bif (Nat.beq (x.n) (x.n)) then
                                  bif (clsB ((xz x) = x)) then
                                    bif (Nat.ble (x.n) (4611686018427387904)) then
                                      .norm 88 [(.ptr 1024 0 0), (.int false .i64 (ar .add .i64 t 1))] [(0, .tab (x.n) [.ints .i64 (x.kd), .strs (x.bs), .ints .i64 (x.N), .ints .i64 (x.op), .ints .i64 (x.r1), .ints .i64 (x.r2)] false), (1024, .cells [(.int false .i64 (q)), (.sl 0 (x.n))])]
                                    else .bad
                                  else .bad
                                else .bad
                              else .bad
                          else .bad
                        else .bad
                      else .bad
                    else .bad
                  else .bad
                else .bad
              else .bad
            else .bad
          else .bad
        else .bad
      else .bad
    else
      .exit 0 88 [(.ptr 1024 0 0), (.int false .i64 (t))] [(0, .tab (x.n) [.ints .i64 (x.kd), .strs (x.bs), .ints .i64 (x.N), .ints .i64 (x.op), .ints .i64 (x.r1), .ints .i64 (x.r2)] false), (1024, .cells [(.int false .i64 (q)), (.sl 0 (x.n))])]) := by kernel_rfl

theorem r3R (x : It) (q : Int) (t : Int) : (evalB E3R Try.prog Try.f3.results.toList (loopOf Try.f3 0) 1 lk3 (v3 t) (h3 x q)).view [1, 3] =
    (bif (cm .leq t 3) then
      bif (Nat.ble (x.n) (x.n)) then
        bif (Nat.ble ((0 + x.n) * 56) (1099511627776)) then
          bif (Nat.beq (0 + x.n) (0 + x.n)) then
            bif (okB t (xz x)) then
              bif (farB (xz x) t) then
                bif (Nat.beq (x.n) (x.n)) then
                  bif (okB t x) then
                    bif (Nat.beq (x.n) (x.n)) then
                      bif (okB t x) then
                        bif (clsB (fitB x t = false)) then
                          bif (bif false then true else cm .neq (↑(0 + x.n) : Int) (↑x.n : Int)) then
                            .ret (.bool true false) [(0, .tab (x.n) [.ints .i64 (x.kd), .strs (x.bs), .ints .i64 (x.N), .ints .i64 (x.op), .ints .i64 (x.r1), .ints .i64 (x.r2)] false), (1024, .cells [(.int false .i64 (q)), (.sl 0 (x.n))]), (1168, .dead), (1216, .tab (0 + x.n) [.ints .i64 (cat 0 (fun x => 0) x.kd), .strs (cat 0 (fun x => ByteArray.empty) x.bs), .ints .i64 (cat 0 (fun x => 0) x.N), .ints .i64 (cat 0 (fun x => 0) x.op), .ints .i64 (cat 0 (fun x => 0) x.r1), .ints .i64 (cat 0 (fun x => 0) x.r2)] true), (1600, .tab (x.n) [.ints .i64 ((yL x t).pos)] true)]
                          else
                            bif (Nat.beq (0 + x.n) (x.n)) then
                              bif (Nat.beq (x.n) (x.n)) then
                                bif (clsB ((xz x) = x)) then
                                  bif (Nat.ble (x.n) (4611686018427387904)) then
                                    .norm 88 [(.ptr 1024 0 0), (.int false .i64 (ar .add .i64 t 1))] [(0, .tab (x.n) [.ints .i64 (x.kd), .strs (x.bs), .ints .i64 (x.N), .ints .i64 (x.op), .ints .i64 (x.r1), .ints .i64 (x.r2)] false), (1024, .cells [(.int false .i64 (q)), (.sl 0 (x.n))])]
                                  else .bad
                                else .bad
                              else .bad
                            else .bad
                        else .bad
                      else .bad
                    else .bad
                  else .bad
                else .bad
              else .bad
            else .bad
          else .bad
        else .bad
      else .bad
    else
      .exit 0 88 [(.ptr 1024 0 0), (.int false .i64 (t))] [(0, .tab (x.n) [.ints .i64 (x.kd), .strs (x.bs), .ints .i64 (x.N), .ints .i64 (x.op), .ints .i64 (x.r1), .ints .i64 (x.r2)] false), (1024, .cells [(.int false .i64 (q)), (.sl 0 (x.n))])]) := by kernel_rfl

theorem r3F (x : It) (q : Int) (t : Int) : (evalB E3F Try.prog Try.f3.results.toList (loopOf Try.f3 0) 1 lk3 (v3 t) (h3 x q)).view [1, 3] =
    (bif (cm .leq t 3) then
      bif (Nat.ble (x.n) (x.n)) then
        bif (Nat.ble ((0 + x.n) * 56) (1099511627776)) then
          bif (Nat.beq (0 + x.n) (0 + x.n)) then
            bif (Nat.ble (0 + x.n) (4611686018427387904)) then
              bif (noB t (xz x)) then
                bif (Nat.beq (x.n) (x.n)) then
                  bif (noB t x) then
                    bif (bif false then true else cm .neq (↑(0 + x.n) : Int) (↑x.n : Int)) then
                      .ret (.bool true false) [(0, .tab (x.n) [.ints .i64 (x.kd), .strs (x.bs), .ints .i64 (x.N), .ints .i64 (x.op), .ints .i64 (x.r1), .ints .i64 (x.r2)] false), (1024, .cells [(.int false .i64 (q)), (.sl 0 (x.n))]), (1168, .dead), (1216, .tab (0 + x.n) [.ints .i64 (cat 0 (fun x => 0) x.kd), .strs (cat 0 (fun x => ByteArray.empty) x.bs), .ints .i64 (cat 0 (fun x => 0) x.N), .ints .i64 (cat 0 (fun x => 0) x.op), .ints .i64 (cat 0 (fun x => 0) x.r1), .ints .i64 (cat 0 (fun x => 0) x.r2)] true)]
                    else
                      bif (Nat.beq (0 + x.n) (x.n)) then
                        bif (Nat.beq (x.n) (x.n)) then
                          bif (clsB ((xz x) = x)) then
                            bif (Nat.ble (x.n) (4611686018427387904)) then
                              .norm 88 [(.ptr 1024 0 0), (.int false .i64 (ar .add .i64 t 1))] [(0, .tab (x.n) [.ints .i64 (x.kd), .strs (x.bs), .ints .i64 (x.N), .ints .i64 (x.op), .ints .i64 (x.r1), .ints .i64 (x.r2)] false), (1024, .cells [(.int false .i64 (q)), (.sl 0 (x.n))])]
                            else .bad
                          else .bad
                        else .bad
                      else .bad
                  else .bad
                else .bad
              else .bad
            else .bad
          else .bad
        else .bad
      else .bad
    else
      .exit 0 88 [(.ptr 1024 0 0), (.int false .i64 (t))] [(0, .tab (x.n) [.ints .i64 (x.kd), .strs (x.bs), .ints .i64 (x.N), .ints .i64 (x.op), .ints .i64 (x.r1), .ints .i64 (x.r2)] false), (1024, .cells [(.int false .i64 (q)), (.sl 0 (x.n))])]) := by kernel_rfl

theorem t3 (x : It) (q : Int) : (evalF E3 Try.prog 3 [SV.agg (vA x q)] (hI x) 1024).bare =
    (bif (Nat.beq (x.n) (x.n)) then
      bif (Nat.ble (x.n) (4611686018427387904)) then
        bif (heavyP x) then
          .ret (.bool true true) []
        else
          bif (Nat.beq (x.n) (x.n)) then
            bif (clsB (x.n ≤ 1048576)) then
              .ret (.bool true true) []
            else .bad
          else .bad
      else .bad
    else .bad) := by kernel_rfl

end Go.La
end

section
set_option linter.unusedVariables false
open Go Go.Ev Go.Proofs Go.ChangeShapes Go.WideShapes Go.ChangeAt Go.RowKit
namespace Go.La

theorem xz_eq (x : It) : xz x = x := by
  unfold xz
  rw [Nat.zero_add]
  rfl
theorem not_heavy {x : It} (h : heavyP x = false) : x.n ≤ 1048576 := by
  by_cases hs : x.n < 1048576
  · omega
  · exfalso
    obtain ⟨f, hf⟩ : ∃ f, x.n = f + 1 := ⟨x.n - 1, by omega⟩
    have e : hvN x = (x.n : Int) := by
      have : ∀ f, hvF x f 0 (x.n : Int) = (x.n : Int) := fun f => by
        cases f with
        | zero => rfl
        | succ f => simp only [hvF, decide_eq_false (show ¬ (x.n : Int) < 1048576 by omega), Bool.and_false, cond_false]
      exact this _
    unfold heavyP at h
    rw [e] at h
    have := of_decide_eq_false h
    omega

structure X3b where
  x : It
  q : Int
  t : Int
  i : Nat
def ok3b (s : X3b) : Prop := s.i ≤ s.x.n ∧ s.x.n ≤ 4611686018427387904
def vs3b (s : X3b) : List SV := v3b s.x s.t s.i
def hp3b (s : X3b) : Heap := h3b s.x s.q
def out3b (s : X3b) : Vw := .exit 2 88 [.ptr 1024 0 0, .int false .i64 s.t, .any, .any] (h3 s.x s.q)
theorem h3b_wk (x : It) (q : Int) {f g l : Bool} {b : Blk} {more : Heap} : wkH (rmap []) ((0, .tab x.n x.cols f) :: (1024, .cells [.int l .i64 q, .sl 0 x.n]) :: (1168, b) :: (1216, .tab x.n x.cols g) :: more) (h3b x q) := by
  simp [h3b, wkH, wkB, wkCs, wkC, simL, sim, rmap, rlook, Ev.look, It.cols]
theorem h3b_wk2 (x : It) (q : Int) : wkH (rmap []) [(0, .tab x.n x.cols false), (1024, .cells [.int false .i64 q, .sl 0 x.n]), (1216, .tab x.n x.cols false)] (h3b x q) := by
  simp [h3b, wkH, wkB, wkCs, wkC, simL, sim, rmap, rlook, Ev.look, It.cols]
theorem h3_wk (x : It) (q : Int) {f l : Bool} {more : Heap} : wkH (rmap []) ((0, .tab x.n x.cols f) :: (1024, .cells [.int l .i64 q, .sl 0 x.n]) :: more) (h3 x q) := by
  simp [h3, wkH, wkB, wkCs, wkC, simL, sim, rmap, rlook, Ev.look, It.cols]
theorem entry3b (l : List SV) (H : Heap) (T : Tr) (h : lq3b.get l H = some T) (hb : T.leaf ≠ .bad) : ∃ x r, ok3b x ∧ WkV r lq3b.nm l H (vs3b x) (hp3b x) ∧ T.leaf = toLf lq3b (out3b x) := by
  replace h : get3b l H = some T := h
  unfold get3b at h
  split at h
  · rename_i k r c _ t kn nn _ i j0 n1 kd bs N op r1 r2 _ j1 _ q k0 n0 jd _ j2 n2 kd' bs' N' op' r1' r2' _ _
    simp only [Option.some.injEq] at h
    subst h
    obtain ⟨hn, he⟩ := needs_ne hb
    rw [he]
    simp only [allB, Bool.and_eq_true, Bool.and_true, decide_eq_true_eq, Nat.beq_eq, clsB_iff, It.mk.injEq, Nat.ble_eq] at hn
    obtain ⟨rfl, rfl, rfl, rfl, rfl, rfl, rfl, rfl, rfl, rfl, rfl, rfl, ⟨rfl, rfl, rfl, rfl, rfl, rfl, rfl⟩, hs⟩ := hn
    refine ⟨⟨⟨n2, kd', bs', N', op', r1', r2'⟩, q, t, 0⟩, [], ⟨Nat.zero_le _, hs⟩, ?_, ?_⟩
    · exact ⟨rfl, ⟨⟨rfl, rfl, rfl⟩, ⟨rfl, rfl⟩, ⟨rfl, rfl⟩, ⟨rfl, rfl⟩, trivial⟩, h3b_wk ⟨n2, kd', bs', N', op', r1', r2'⟩ q, rfl, rfl⟩
    · simp only [exitT_leaf, out3b]
      rfl
  · cases h
theorem lq_3b {E : Env} {P : Program} {res : List ResultVar} {c : Code} {n : Nat} {l : List SV} {H : Heap} : evalB E P res c n lq3b l H = evalB E P res c n lk3b l H := rfl
attribute [local irreducible] evalB Tr.view in
theorem round3b (s : X3b) (hx : ok3b s) : Round lq3b ok3b (fun s => s.x.n - s.i) vs3b hp3b out3b s ((evalB EI Try.prog Try.f3.results.toList (loopOf Try.f3 1) (1 + 1) lk3b (vs3b s) (hp3b s)).view lq3b.ks) := by
  obtain ⟨x, q, t, i⟩ := s
  obtain ⟨h0, hs⟩ := hx
  simp only at h0 hs
  have hr := r3b x q t i
  rw [show evalB EI Try.prog Try.f3.results.toList (loopOf Try.f3 1) (1 + 1) lk3b (vs3b ⟨x, q, t, i⟩) (hp3b ⟨x, q, t, i⟩) = evalB EI Try.prog Try.f3.results.toList (loopOf Try.f3 1) 2 lk3b (v3b x t i) (h3b x q) from rfl, show lq3b.ks = [1, 3, 4, 12] from rfl, hr]
  by_cases hi : i < x.n
  · have e1 : cm .lss (i : Int) (x.n : Int) = true := by rw [cm_lss']; exact decide_eq_true (by omega)
    have e2 : decide (0 ≤ (i : Int)) = true := decide_eq_true (by omega)
    have e3 : decide ((i : Int) < (x.n : Int)) = true := decide_eq_true (by omega)
    simp only [e1, e2, e3, blt_t hi, cond_true, Int.toNat_natCast, addOne (show i < 9223372036854775807 by omega), eqI, seq_self, decide_true, Bool.and_self, Bool.not_true, cond_false]
    refine ⟨rfl, ⟨x, q, t, i + 1⟩, [], ⟨hi, hs⟩, by show x.n - (i + 1) < x.n - i; omega, rfl, rfl, ?_, ?_, rfl, rfl⟩
    · exact ⟨⟨rfl, rfl, rfl⟩, ⟨rfl, rfl⟩, ⟨rfl, rfl⟩, ⟨rfl, rfl⟩, trivial⟩
    · exact h3b_wk2 x q
  · obtain rfl : i = x.n := by omega
    have e1 : cm .lss (x.n : Int) (x.n : Int) = false := by simp [cm]
    simp only [e1, cond_false]
    refine ⟨rfl, [.ptr 1024 0 0, .int false .i64 t, .any, .any], _, [], rfl, rfl, ?_, ?_, rfl, rfl⟩
    · exact ⟨⟨rfl, rfl, rfl⟩, ⟨rfl, rfl⟩, trivial, trivial, trivial⟩
    · exact h3_wk x q
attribute [local irreducible] evalB Tr.view in
theorem loop3b {E : Env} (hl : ∀ S, E.loop 1 S = runLp lq3b S) : LoopOk E Try.prog Try.f3 1 (loopOf Try.f3 1) :=
  loop_okE mixed hl (by decide) ok3b (fun s => s.x.n - s.i) vs3b hp3b out3b entry3b fun x hx => ⟨EI, ei_calls, loops_noLoop ei_loop _ _, by rw [lq_3b]; exact round3b x hx⟩
theorem nl3a : Code.loops (loopOf Try.f3 0) = 1 := by kernel_rfl
theorem nth3b : nthLoop (loopOf Try.f3 0) 0 = some (loopOf Try.f3 1) := by kernel_rfl
theorem loops3a {E : Env} (hl : ∀ S, E.loop 1 S = runLp lq3b S) : LoopsOk E Try.prog Try.f3 (loopOf Try.f3 0) 1 := loopsOk_of _ 1 fun m a hm ha => by
  rw [nl3a] at hm
  obtain rfl : m = 0 := by omega
  rw [nth3b] at ha; simp only [Option.some.injEq] at ha; subst ha; exact loop3b hl

theorem e3T0_calls : CallsOk E3T0 Try.prog := (inlF_calls ((SpecsOk.cons spec9T (SpecsOk.cons spec10T (SpecsOk.cons (spec11 true) (SpecsOk.cons spec13 SpecsOk.nil)))).calls noLoop) mixed named12 rfl rfl 3).1
theorem e3R0_calls : CallsOk E3R0 Try.prog := (inlF_calls ((SpecsOk.cons spec9R (SpecsOk.cons spec10T (SpecsOk.cons (spec11 false) (SpecsOk.cons spec13N SpecsOk.nil)))).calls noLoop) mixed named12 rfl rfl 3).1
theorem e3F0_calls : CallsOk E3F0 Try.prog := (inlF_calls ((SpecsOk.cons spec9F (SpecsOk.cons spec10F (SpecsOk.cons spec13N SpecsOk.nil))).calls noLoop) mixed named12 rfl rfl 3).1
theorem e3T_calls : CallsOk E3T Try.prog := fun f args H nm r h hn => e3T0_calls f args H nm r h hn
theorem e3R_calls : CallsOk E3R Try.prog := fun f args H nm r h hn => e3R0_calls f args H nm r h hn
theorem e3F_calls : CallsOk E3F Try.prog := fun f args H nm r h hn => e3F0_calls f args H nm r h hn

structure X3 where
  x : It
  q : Int
  t : Nat
def ok3 (s : X3) : Prop := s.t ≤ 4 ∧ s.x.n ≤ 1048576
def vs3 (s : X3) : List SV := v3 s.t
def hp3 (s : X3) : Heap := h3 s.x s.q
def out3 (s : X3) : Vw := .exit 0 88 [.any, .any] []
theorem entry3 (l : List SV) (H : Heap) (T : Tr) (h : lq3.get l H = some T) (hb : T.leaf ≠ .bad) : ∃ x r, ok3 x ∧ WkV r lq3.nm l H (vs3 x) (hp3 x) ∧ T.leaf = toLf lq3 (out3 x) := by
  replace h : get3 l H = some T := h
  unfold get3 at h
  split at h
  · rename_i k r c _ t j0 n1 kd bs N op r1 r2 _ j1 _ q k0 n0
    simp only [Option.some.injEq] at h
    subst h
    obtain ⟨hn, he⟩ := needs_ne hb
    rw [he]
    simp only [allB, Bool.and_eq_true, Bool.and_true, decide_eq_true_eq, Nat.beq_eq, clsB_iff] at hn
    obtain ⟨rfl, rfl, rfl, rfl, rfl, rfl, rfl, rfl, hs⟩ := hn
    refine ⟨⟨⟨n0, kd, bs, N, op, r1, r2⟩, q, 0⟩, [], ⟨Nat.zero_le _, hs⟩, ?_, ?_⟩
    · exact ⟨rfl, ⟨⟨rfl, rfl, rfl⟩, ⟨rfl, rfl⟩, trivial⟩, h3_wk ⟨n0, kd, bs, N, op, r1, r2⟩ q (more := []), rfl, rfl⟩
    · simp only [exitT_leaf, out3]
      rfl
  · cases h
theorem lq_3 {E : Env} {P : Program} {res : List ResultVar} {c : Code} {n : Nat} {l : List SV} {H : Heap} : evalB E P res c n lq3 l H = evalB E P res c n lk3 l H := rfl
theorem next3 {x : It} {q : Int} {t : Nat} {f : Bool} (ht : t < 4) (hs : x.n ≤ 1048576) : Round lq3 ok3 (fun s => 4 - s.t) vs3 hp3 out3 ⟨x, q, t⟩ (.norm 88 [.ptr 1024 0 0, .int false .i64 ((t + 1 : Nat) : Int)] [(0, .tab x.n x.cols f), (1024, .cells [.int false .i64 q, .sl 0 x.n])]) := by
  refine ⟨rfl, ⟨x, q, t + 1⟩, [], ⟨ht, hs⟩, by show 4 - (t + 1) < 4 - t; omega, rfl, rfl, ?_, ?_, rfl, rfl⟩
  · exact ⟨⟨rfl, rfl, rfl⟩, ⟨rfl, rfl⟩, trivial⟩
  · exact h3_wk x q (more := [])
theorem last3 {x : It} {q : Int} {H : Heap} {l : List SV} : Round lq3 ok3 (fun s => 4 - s.t) vs3 hp3 out3 ⟨x, q, 4⟩ (.exit 0 88 [.ptr 1024 0 0, .int false .i64 ((4 : Nat) : Int)] H) :=
  ⟨rfl, [.any, .any], [], [], rfl, rfl, ⟨trivial, trivial, trivial⟩, trivial, rfl, rfl⟩
attribute [local irreducible] evalB Tr.view outB yL in
theorem round3 (s : X3) (hx : ok3 s) : ∃ E' : Env, CallsOk E' Try.prog ∧ LoopsOk E' Try.prog Try.f3 (loopOf Try.f3 0) (0 + 1) ∧ Round lq3 ok3 (fun s => 4 - s.t) vs3 hp3 out3 s ((evalB E' Try.prog Try.f3.results.toList (loopOf Try.f3 0) (0 + 1) lq3 (vs3 s) (hp3 s)).view lq3.ks) := by
  obtain ⟨x, q, t⟩ := s
  obtain ⟨h0, hs⟩ := hx
  simp only at h0 hs
  have hz := xz_eq x
  have hc : cm .neq ((0 + x.n : Nat) : Int) (x.n : Int) = false := by rw [Nat.zero_add]; simp [cm]
  have hl : t < 4 → cm .leq (t : Int) 3 = true := fun h => by rw [cm_leq']; exact decide_eq_true (by omega)
  have a1 : Nat.ble ((0 + x.n) * 56) 1099511627776 = true := ble_t (by omega)
  have a2 : Nat.beq (0 + x.n) x.n = true := by rw [Nat.zero_add]; exact beq_t _
  have a3 : clsB (xz x = x) = true := cls_t hz
  have a4 : Nat.ble x.n 4611686018427387904 = true := ble_t (by omega)
  have a5 : Nat.ble (0 + x.n) 4611686018427387904 = true := ble_t (by omega)
  have a6 : Nat.ble (0 + x.n) 100000000 = true := ble_t (by omega)
  have ht1 : t < 4 → ar .add .i64 (t : Int) 1 = ((t + 1 : Nat) : Int) := fun h => addOne (by omega)
  have hend : ¬ t < 4 → t = 4 := fun h => by omega
  by_cases hok : okP t x
  · have e1 : okB t x = true := cls_t hok
    cases hf : fitB x t with
    | true =>
      refine ⟨E3T, e3T_calls, loops3a fun _ => rfl, ?_⟩
      rw [lq_3, show evalB E3T Try.prog Try.f3.results.toList (loopOf Try.f3 0) (0 + 1) lk3 (vs3 ⟨x, q, t⟩) (hp3 ⟨x, q, t⟩) = evalB E3T Try.prog Try.f3.results.toList (loopOf Try.f3 0) 1 lk3 (v3 t) (h3 x q) from rfl, show lq3.ks = [1, 3] from rfl, r3T]
      by_cases h4 : t < 4
      · simp only [hl h4, a1, a2, a3, a4, a5, a6, hz, e1, hf, hc, ht1 h4, beq_t, ble_t (Nat.le_refl x.n), seq_self, cls_t, allB, eqA_iff.2 fun _ _ => rfl, Bool.not_true, Bool.and_self, cond_true, cond_false]
        exact next3 h4 hs
      · obtain rfl := hend h4
        exact last3 (l := [])
    | false =>
      refine ⟨E3R, e3R_calls, loops3a fun _ => rfl, ?_⟩
      rw [lq_3, show evalB E3R Try.prog Try.f3.results.toList (loopOf Try.f3 0) (0 + 1) lk3 (vs3 ⟨x, q, t⟩) (hp3 ⟨x, q, t⟩) = evalB E3R Try.prog Try.f3.results.toList (loopOf Try.f3 0) 1 lk3 (v3 t) (h3 x q) from rfl, show lq3.ks = [1, 3] from rfl, r3R]
      by_cases h4 : t < 4
      · simp only [hl h4, a1, a2, a3, a4, a5, a6, hz, e1, hf, fit_far hf, hc, ht1 h4, beq_t, ble_t (Nat.le_refl x.n), seq_self, cls_t, allB, Bool.not_true, Bool.and_self, cond_true, cond_false]
        exact next3 h4 hs
      · obtain rfl := hend h4
        exact last3 (l := [])
  · have e1 : noB t x = true := cls_t hok
    refine ⟨E3F, e3F_calls, loops3a fun _ => rfl, ?_⟩
    rw [lq_3, show evalB E3F Try.prog Try.f3.results.toList (loopOf Try.f3 0) (0 + 1) lk3 (vs3 ⟨x, q, t⟩) (hp3 ⟨x, q, t⟩) = evalB E3F Try.prog Try.f3.results.toList (loopOf Try.f3 0) 1 lk3 (v3 t) (h3 x q) from rfl, show lq3.ks = [1, 3] from rfl, r3F]
    by_cases h4 : t < 4
    · simp only [hl h4, a1, a2, a3, a4, a5, a6, hz, e1, hc, ht1 h4, beq_t, ble_t (Nat.le_refl x.n), seq_self, cls_t, allB, Bool.not_true, Bool.and_self, cond_true, cond_false]
      exact next3 h4 hs
    · obtain rfl := hend h4
      exact last3 (l := [])

theorem named14 : named Try.prog [14] = true := by kernel_rfl
theorem e3a_calls : CallsOk E3a Try.prog := (inlF_calls ((SpecsOk.cons spec8S (SpecsOk.cons spec15 SpecsOk.nil)).calls noLoop) mixed named14 rfl rfl 3).1
theorem e3_calls : CallsOk E3 Try.prog := fun f args H nm r h hn => e3a_calls f args H nm r h hn
attribute [local irreducible] evalB Tr.view in
theorem loop3 : LoopOk E3 Try.prog Try.f3 0 (loopOf Try.f3 0) :=
  loop_okE mixed (fun S => rfl) (by decide) ok3 (fun s => 4 - s.t) vs3 hp3 out3 entry3 round3
theorem fn3 : Try.prog.funcs[3]? = some Try.f3 := by kernel_rfl
theorem b3 : Try.f3.body = some (bodyOf Try.f3) := by kernel_rfl
theorem n3 : (Try.f3.name == "runtime.NumGoroutine") = false := by kernel_rfl
theorem nl3 : Code.loops (bodyOf Try.f3) = 2 := by kernel_rfl
theorem nth3 : nthLoop (bodyOf Try.f3) 0 = some (loopOf Try.f3 0) := by kernel_rfl
theorem loops3 : LoopsOk E3 Try.prog Try.f3 (bodyOf Try.f3) 0 := loopsOk_of _ 0 fun m a hm ha => by
  rw [nl3] at hm
  rcases m with _ | _ | m
  · rw [nth3] at ha; simp only [Option.some.injEq] at ha; subst ha; exact loop3
  · exact fun S T hT => by cases hT
  · omega
attribute [local irreducible] evalF in
theorem law3 (x : It) (q : Int) (h : x.n ≤ reachBytes) : (evalF E3 Try.prog 3 [.agg (vA x q)] (hI x) 1024).bare = .ret (.bool true true) [] := by
  rw [t3, beq_t, reach_le h]
  cases hh : heavyP x with
  | true => rfl
  | false => rw [cls_t (not_heavy hh)]; rfl

end Go.La
end
