/-
  x86: the loops of X86Forms.
-/
import Derived.Test.YtdmhlhggkldnoaaC11
set_option linter.unusedSimpArgs false
set_option linter.unusedVariables false
set_option linter.unusedVariables false
open Go Go.Ev Go.Proofs
namespace Go.X

structure XF where
  t : Nat
  k : Nat
  i : Nat
  nL : Nat
  nS : Nat
  c0 : Nat → Int
  c1 : Nat → Int
  c2 : Nat → Int
  c3 : Nat → Int
  c4 : Nat → Int
  cs : Nat → ByteArray
  cn : Nat → Int
  cd : Nat → Int
  cr : Nat → Int
  op : Int
def hpF (x : XF) : Heap := hA x.nL x.nS x.c0 x.c1 x.c2 x.c3 x.c4 x.cs x.cn x.cd x.cr
def ok5c (x : XF) : Prop := x.t ≤ 16 ∧ x.k < 18 ∧ fit18 x.cn = true
def vs5c (x : XF) : List SV := v5c x.op x.k x.t
def out5c (x : XF) : Vw := .exit 4 123 [.ptr 1024 0 0, .sl 1056 18, .sl 1216 8, .int false .i64 x.op, .int false .i64 x.k, .any] (hpF x)

theorem entry5c (l : List SV) (H : Heap) (T : Tr) (h : lp5c.get l H = some T) (hb : T.leaf ≠ .bad) : ∃ x r, ok5c x ∧ WkV r lp5c.nm l H (vs5c x) (hpF x) ∧ T.leaf = toLf lp5c (out5c x) := by
  replace h : get5c l H = some T := h
  unfold get5c at h
  split at h
  · rename_i k1 r1 p1 s3 m3 s4 m4 _ op _ k _ t j0 nL c0 c1 c2 c3 c4 j1 nS cs j2 s0 m0 s1 m1 j3 n3 cn j4 n4 cd cr
    simp only [Option.some.injEq] at h
    subst h
    obtain ⟨hn, he⟩ := needs_ne hb
    rw [he]
    simp only [allB, Bool.and_eq_true, Bool.and_true, decide_eq_true_eq, Nat.beq_eq] at hn
    obtain ⟨rfl, rfl, rfl, rfl, rfl, rfl, rfl, rfl, rfl, rfl, rfl, rfl, rfl, rfl, rfl, rfl, rfl, rfl, rfl, hk0, hk1, hf⟩ := hn
    obtain ⟨k, rfl⟩ : ∃ j : Nat, k = j := ⟨k.toNat, by omega⟩
    refine ⟨⟨0, k, 0, m0, m1, c0, c1, c2, c3, c4, cs, cn, cd, cr, op⟩, [], ⟨Nat.zero_le _, by show k < 18; omega, hf⟩, ?_, ?_⟩
    · simp [WkV, vs5c, hpF, v5c, hA, wkF, wkS, sim, simL, wkH, wkB, wkCs, wkC, rmap, rlook, Ev.look, oldsOf, uniqN, mem, SV.al, SV.alL, Ev.hal, Blk.al, lt, rok, lp5c, lk5c]
    · simp only [exitT_leaf, out5c, hpF]
      rfl
  · cases h

theorem quo2 {t : Nat} (h : t < 64) : ar .quo .i64 (t : Int) 2 = ((t / 2 : Nat) : Int) := by
  have e : ar .quo .i64 (t : Int) 2 = IntKind.i64.wrap ((t : Int).tdiv 2) := rfl
  rw [e, Int.tdiv_eq_ediv_of_nonneg (by omega), IntKind.wrap_i64]
  omega

attribute [local irreducible] evalB Tr.view decX strX errX in
theorem round5c (x : XF) (hx : ok5c x) : Round lp5c ok5c (fun x => 16 - x.t) vs5c hpF out5c x ((evalB ELx Try.prog Try.f5.results.toList (loopOf Try.f5 2) (2 + 1) lp5c (vs5c x) (hpF x)).view lp5c.ks) := by
  obtain ⟨t, k, i, nL, nS, c0, c1, c2, c3, c4, cs, cn, cd, cr, op⟩ := x
  obtain ⟨hx, hk, hf⟩ := hx
  simp only at hx hk hf
  have hr := r5c op k t nL nS c0 c1 c2 c3 c4 cs cn cd cr
  rw [show evalB ELx Try.prog Try.f5.results.toList (loopOf Try.f5 2) (2 + 1) lp5c (vs5c ⟨t, k, i, nL, nS, c0, c1, c2, c3, c4, cs, cn, cd, cr, op⟩) (hpF ⟨t, k, i, nL, nS, c0, c1, c2, c3, c4, cs, cn, cd, cr, op⟩) = evalB ELx Try.prog Try.f5.results.toList (loopOf Try.f5 2) 3 lp5c (v5c op k t) (hA nL nS c0 c1 c2 c3 c4 cs cn cd cr) from rfl, show lp5c.ks = [1, 3, 4, 5, 6, 7] from rfl, hr]
  by_cases h : t < 16
  · have e1 : cm .lss (t : Int) 16 = true := decide_eq_true (by omega)
    have q1 : decide (0 ≤ ((t / 2 : Nat) : Int)) = true := decide_eq_true (by omega)
    have q2 : decide (((t / 2 : Nat) : Int) < 8) = true := decide_eq_true (by omega)
    have q3 : Nat.blt (t / 2) 8 = true := by rw [Nat.blt_eq]; omega
    have e2 : decide (0 ≤ (k : Int)) = true := decide_eq_true (by omega)
    have e3 : decide ((k : Int) < 18) = true := decide_eq_true (by omega)
    have e5 : Nat.blt k 18 = true := by rw [Nat.blt_eq]; exact hk
    have hin : inI (cn k) := by
      have := List.all_eq_true.1 hf k (List.mem_range.2 hk)
      simp only [Bool.and_eq_true, decide_eq_true_eq] at this
      exact this
    have hnext : ∀ H2, Round lp5c ok5c (fun x => 16 - x.t) vs5c hpF out5c ⟨t, k, i, nL, nS, c0, c1, c2, c3, c4, cs, cn, cd, cr, op⟩ (.norm 123 [.ptr 1024 0 0, .sl 1056 18, .sl 1216 8, .int false .i64 op, .int false .i64 k, .int false .i64 (ar .add .i64 t 1)] ((0, .tab nL [.ints .i64 c0, .ints .i64 c1, .ints .i64 c2, .ints .i64 c3, .ints .i64 c4] false) :: (1, .tab nS [.strs cs] false) :: (1024, .cells [.sl 0 nL, .sl 1 nS]) :: (1056, .tab 18 [.ints .i64 cn] true) :: (1216, .tab 8 [.ints .i64 cd, .ints .i64 cr] true) :: H2)) := by
      intro H2
      refine ⟨rfl, ⟨t + 1, k, i, nL, nS, c0, c1, c2, c3, c4, cs, cn, cd, cr, op⟩, [], ⟨h, hk, hf⟩, by show 16 - (t + 1) < 16 - t; omega, rfl, ?_⟩
      rw [addOne (show t < 9223372036854775807 by omega)]
      simp [WkV, vs5c, hpF, v5c, hA, wkF, wkS, sim, simL, wkH, wkB, wkCs, wkC, rmap, rlook, Ev.look, oldsOf, uniqN, mem, SV.al, SV.alL, Ev.hal, Blk.al, lt, rok, lp5c, lk5c]
    have hseq : ∀ s : ByteArray, seq s s = true := fun s => (seq_iff s s).2 rfl
    simp only [e1, e2, e3, e5, quo2 (show t < 64 by omega), q1, q2, q3, cond_true, Int.toNat_natCast, cm_neq_self, hseq, Bool.not_true, cond_false]
    generalize ar .add .i64 4 (ar .mul .i64 4 (ar .rem .i64 (t : Int) 2)) = w
    generalize cd (t / 2) = rd
    generalize cr (t / 2) = rs
    refine Round_cond (fun _ => hnext _) (fun he => ?_)
    have he : errX op w rd rs (cn k) = 0 := by simpa [cm] using he
    have hd := dec_enc0 he hin
    simp only [hd, cond_true, cm_neq_self, BEq.rfl, Bool.and_true, Bool.not_true, cond_false]
    exact hnext _
  · obtain rfl : t = 16 := by omega
    have e1 : cm .lss ((16 : Nat) : Int) 16 = false := rfl
    simp only [e1, cond_false]
    refine ⟨rfl, _, _, [], rfl, ?_⟩
    simp [WkV, hpF, hA, wkF, wkS, sim, simL, wkH, wkB, wkCs, wkC, rmap, rlook, Ev.look, oldsOf, uniqN, mem, SV.al, SV.alL, Ev.hal, Blk.al, lt, rok, lp5c, lk5c]

attribute [local irreducible] evalB Tr.view in
theorem loop5c {E : Env} (hE : ∀ S, E.loop 2 S = runLp lp5c S) : LoopOk E Try.prog Try.f5 2 (loopOf Try.f5 2) :=
  loop_okE mixed hE (by decide) ok5c (fun x => 16 - x.t) vs5c hpF out5c entry5c fun x hx => ⟨ELx, elx_calls, loops_noLoop elx_loop _ _, round5c x hx⟩
theorem e5c_calls : CallsOk E5c Try.prog := fun f args H nm r h hn => elx_calls f args H nm r h hn
theorem nl5b : Code.loops (loopOf Try.f5 1) = 1 := by kernel_rfl
theorem nth5b : nthLoop (loopOf Try.f5 1) 0 = some (loopOf Try.f5 2) := by kernel_rfl
theorem inner5b : LoopsOk E5c Try.prog Try.f5 (loopOf Try.f5 1) 2 := loopsOk_of _ 2 fun m a hm ha => by
  rw [nl5b] at hm
  obtain rfl : m = 0 := by omega
  rw [nth5b] at ha
  simp only [Option.some.injEq] at ha
  subst ha
  exact loop5c fun S => rfl

def ok5b (x : XF) : Prop := x.k ≤ 18 ∧ fit18 x.cn = true
def vs5b (x : XF) : List SV := v5b x.op x.k
def out5b (x : XF) : Vw := .exit 2 123 [.ptr 1024 0 0, .sl 1056 18, .sl 1216 8, .int false .i64 x.op, .any] (hpF x)

theorem entry5b (l : List SV) (H : Heap) (T : Tr) (h : lp5b.get l H = some T) (hb : T.leaf ≠ .bad) : ∃ x r, ok5b x ∧ WkV r lp5b.nm l H (vs5b x) (hpF x) ∧ T.leaf = toLf lp5b (out5b x) := by
  replace h : get5b l H = some T := h
  unfold get5b at h
  split at h
  · rename_i k1 r1 p1 s3 m3 s4 m4 _ op _ k j0 nL c0 c1 c2 c3 c4 j1 nS cs j2 s0 m0 s1 m1 j3 n3 cn j4 n4 cd cr
    simp only [Option.some.injEq] at h
    subst h
    obtain ⟨hn, he⟩ := needs_ne hb
    rw [he]
    simp only [allB, Bool.and_eq_true, Bool.and_true, decide_eq_true_eq, Nat.beq_eq] at hn
    obtain ⟨rfl, rfl, rfl, rfl, rfl, rfl, rfl, rfl, rfl, rfl, rfl, rfl, rfl, rfl, rfl, rfl, rfl, rfl, rfl, hf⟩ := hn
    refine ⟨⟨0, 0, 0, m0, m1, c0, c1, c2, c3, c4, cs, cn, cd, cr, op⟩, [], ⟨Nat.zero_le _, hf⟩, ?_, ?_⟩
    · simp [WkV, vs5b, hpF, v5b, hA, wkF, wkS, sim, simL, wkH, wkB, wkCs, wkC, rmap, rlook, Ev.look, oldsOf, uniqN, mem, SV.al, SV.alL, Ev.hal, Blk.al, lt, rok, lp5b, lk5b]
    · simp only [exitT_leaf, out5b, hpF]
      rfl
  · cases h

attribute [local irreducible] evalB Tr.view in
theorem round5b (x : XF) (hx : ok5b x) : Round lp5b ok5b (fun x => 18 - x.k) vs5b hpF out5b x ((evalB E5c Try.prog Try.f5.results.toList (loopOf Try.f5 1) (1 + 1) lp5b (vs5b x) (hpF x)).view lp5b.ks) := by
  obtain ⟨t, k, i, nL, nS, c0, c1, c2, c3, c4, cs, cn, cd, cr, op⟩ := x
  obtain ⟨hx, hf⟩ := hx
  simp only at hx hf
  have hr := r5b op k nL nS c0 c1 c2 c3 c4 cs cn cd cr
  rw [show evalB E5c Try.prog Try.f5.results.toList (loopOf Try.f5 1) (1 + 1) lp5b (vs5b ⟨t, k, i, nL, nS, c0, c1, c2, c3, c4, cs, cn, cd, cr, op⟩) (hpF ⟨t, k, i, nL, nS, c0, c1, c2, c3, c4, cs, cn, cd, cr, op⟩) = evalB E5c Try.prog Try.f5.results.toList (loopOf Try.f5 1) 2 lp5b (v5b op k) (hA nL nS c0 c1 c2 c3 c4 cs cn cd cr) from rfl, show lp5b.ks = [1, 3, 4, 5, 6] from rfl, hr]
  by_cases h : k < 18
  · have e1' : cm .lss (k : Int) 18 = true := decide_eq_true (by omega)
    have e2 : decide (0 ≤ (k : Int)) = true := decide_eq_true (by omega)
    have e3 : decide ((k : Int) < 18) = true := decide_eq_true (by omega)
    simp only [e1', e2, e3, hf, cond_true, Nat.beq_refl]
    refine ⟨rfl, ⟨t, k + 1, i, nL, nS, c0, c1, c2, c3, c4, cs, cn, cd, cr, op⟩, [], ⟨h, hf⟩, by show 18 - (k + 1) < 18 - k; omega, rfl, ?_⟩
    rw [addOne (show k < 9223372036854775807 by omega)]
    simp [WkV, vs5b, hpF, v5b, hA, wkF, wkS, sim, simL, wkH, wkB, wkCs, wkC, rmap, rlook, Ev.look, oldsOf, uniqN, mem, SV.al, SV.alL, Ev.hal, Blk.al, lt, rok, lp5b, lk5b]
  · obtain rfl : k = 18 := by omega
    have e1' : cm .lss ((18 : Nat) : Int) 18 = false := rfl
    simp only [e1', cond_false]
    refine ⟨rfl, _, _, [], rfl, ?_⟩
    simp [WkV, hpF, hA, wkF, wkS, sim, simL, wkH, wkB, wkCs, wkC, rmap, rlook, Ev.look, oldsOf, uniqN, mem, SV.al, SV.alL, Ev.hal, Blk.al, lt, rok, lp5b, lk5b]

attribute [local irreducible] evalB Tr.view in
theorem loop5b {E : Env} (hE : ∀ S, E.loop 1 S = runLp lp5b S) : LoopOk E Try.prog Try.f5 1 (loopOf Try.f5 1) :=
  loop_okE mixed hE (by decide) ok5b (fun x => 18 - x.k) vs5b hpF out5b entry5b fun x hx => ⟨E5c, e5c_calls, inner5b, round5b x hx⟩
theorem e5b_calls : CallsOk E5b Try.prog := fun f args H nm r h hn => elx_calls f args H nm r h hn
theorem nl5 : Code.loops (loopOf Try.f5 0) = 2 := by kernel_rfl
theorem nth5 : nthLoop (loopOf Try.f5 0) 0 = some (loopOf Try.f5 1) := by kernel_rfl
theorem nth5' : nthLoop (loopOf Try.f5 0) 1 = some (loopOf Try.f5 2) := by kernel_rfl
theorem inner5 : LoopsOk E5b Try.prog Try.f5 (loopOf Try.f5 0) 1 := loopsOk_of _ 1 fun m a hm ha => by
  rw [nl5] at hm
  rcases m with _ | _ | m
  · rw [nth5] at ha
    simp only [Option.some.injEq] at ha
    subst ha
    exact loop5b fun S => rfl
  · rw [nth5'] at ha
    simp only [Option.some.injEq] at ha
    subst ha
    exact loop5c fun S => rfl
  · omega

def ok5 (x : XF) : Prop := x.i ≤ 48 ∧ fit18 x.cn = true
def vs5 (x : XF) : List SV := v5 x.i
def out5 (x : XF) : Vw := .exit 0 123 [.ptr 1024 0 0, .any, .any, .any] (hpF x)

theorem entry5 (l : List SV) (H : Heap) (T : Tr) (h : lp5.get l H = some T) (hb : T.leaf ≠ .bad) : ∃ x r, ok5 x ∧ WkV r lp5.nm l H (vs5 x) (hpF x) ∧ T.leaf = toLf lp5 (out5 x) := by
  replace h : get5 l H = some T := h
  unfold get5 at h
  split at h
  · rename_i k1 r1 p1 s3 m3 s4 m4 _ op j0 nL c0 c1 c2 c3 c4 j1 nS cs j2 s0 m0 s1 m1 j3 n3 cn j4 n4 cd cr
    simp only [Option.some.injEq] at h
    subst h
    obtain ⟨hn, he⟩ := needs_ne hb
    rw [he]
    simp only [allB, Bool.and_eq_true, Bool.and_true, decide_eq_true_eq, Nat.beq_eq] at hn
    obtain ⟨rfl, rfl, rfl, rfl, rfl, rfl, rfl, rfl, rfl, rfl, rfl, rfl, rfl, rfl, rfl, rfl, rfl, rfl, rfl, hf⟩ := hn
    refine ⟨⟨0, 0, 0, m0, m1, c0, c1, c2, c3, c4, cs, cn, cd, cr, 0⟩, [], ⟨Nat.zero_le _, hf⟩, ?_, ?_⟩
    · simp [WkV, vs5, hpF, v5, hA, wkF, wkS, sim, simL, wkH, wkB, wkCs, wkC, rmap, rlook, Ev.look, oldsOf, uniqN, mem, SV.al, SV.alL, Ev.hal, Blk.al, lt, rok, lp5, lk5]
    · simp only [exitT_leaf, out5, hpF]
      rfl
  · cases h

attribute [local irreducible] evalB Tr.view in
theorem round5 (x : XF) (hx : ok5 x) : Round lp5 ok5 (fun x => 48 - x.i) vs5 hpF out5 x ((evalB E5b Try.prog Try.f5.results.toList (loopOf Try.f5 0) (0 + 1) lp5 (vs5 x) (hpF x)).view lp5.ks) := by
  obtain ⟨t, k, i, nL, nS, c0, c1, c2, c3, c4, cs, cn, cd, cr, op⟩ := x
  obtain ⟨hx, hf⟩ := hx
  simp only at hx hf
  have hr := r5 i nL nS c0 c1 c2 c3 c4 cs cn cd cr
  rw [show evalB E5b Try.prog Try.f5.results.toList (loopOf Try.f5 0) (0 + 1) lp5 (vs5 ⟨t, k, i, nL, nS, c0, c1, c2, c3, c4, cs, cn, cd, cr, op⟩) (hpF ⟨t, k, i, nL, nS, c0, c1, c2, c3, c4, cs, cn, cd, cr, op⟩) = evalB E5b Try.prog Try.f5.results.toList (loopOf Try.f5 0) 1 lp5 (v5 i) (hA nL nS c0 c1 c2 c3 c4 cs cn cd cr) from rfl, show lp5.ks = [1, 3, 4, 5] from rfl, hr]
  by_cases h : i < 48
  · have e1 : cm .leq (i : Int) 47 = true := decide_eq_true (by omega)
    simp only [e1, hf, cond_true, Nat.beq_refl]
    refine ⟨rfl, ⟨t, k, i + 1, nL, nS, c0, c1, c2, c3, c4, cs, cn, cd, cr, op⟩, [], ⟨h, hf⟩, by show 48 - (i + 1) < 48 - i; omega, rfl, ?_⟩
    rw [addOne (show i < 9223372036854775807 by omega)]
    simp [WkV, vs5, hpF, v5, hA, wkF, wkS, sim, simL, wkH, wkB, wkCs, wkC, rmap, rlook, Ev.look, oldsOf, uniqN, mem, SV.al, SV.alL, Ev.hal, Blk.al, lt, rok, lp5, lk5]
  · obtain rfl : i = 48 := by omega
    have e1 : cm .leq ((48 : Nat) : Int) 47 = false := rfl
    simp only [e1, cond_false]
    refine ⟨rfl, _, _, [], rfl, ?_⟩
    simp [WkV, hpF, hA, wkF, wkS, sim, simL, wkH, wkB, wkCs, wkC, rmap, rlook, Ev.look, oldsOf, uniqN, mem, SV.al, SV.alL, Ev.hal, Blk.al, lt, rok, lp5, lk5]

theorem e5l_calls : CallsOk E5L Try.prog := fun f args H nm r h hn => el_calls f args H nm r h hn
attribute [local irreducible] evalB Tr.view in
theorem loop5 : LoopOk E5L Try.prog Try.f5 0 (loopOf Try.f5 0) :=
  loop_okE mixed (fun S => rfl) (by decide) ok5 (fun x => 48 - x.i) vs5 hpF out5 entry5 fun x hx => ⟨E5b, e5b_calls, inner5, round5 x hx⟩
theorem fn5 : Try.prog.funcs[5]? = some Try.f5 := by kernel_rfl
theorem b5 : Try.f5.body = some (bodyOf Try.f5) := by kernel_rfl
theorem nl5' : Code.loops (bodyOf Try.f5) = 3 := by kernel_rfl
theorem nth50 : nthLoop (bodyOf Try.f5) 0 = some (loopOf Try.f5 0) := by kernel_rfl
theorem nth51 : nthLoop (bodyOf Try.f5) 1 = some (loopOf Try.f5 1) := by kernel_rfl
theorem nth52 : nthLoop (bodyOf Try.f5) 2 = some (loopOf Try.f5 2) := by kernel_rfl
theorem loops5 : LoopsOk E5L Try.prog Try.f5 (bodyOf Try.f5) 0 := loopsOk_of _ 0 fun m a hm ha => by
  rw [nl5'] at hm
  rcases m with _ | _ | _ | m
  · rw [nth50] at ha
    simp only [Option.some.injEq] at ha
    subst ha
    exact loop5
  · rw [nth51] at ha
    simp only [Option.some.injEq] at ha
    subst ha
    exact loop5b fun S => rfl
  · rw [nth52] at ha
    simp only [Option.some.injEq] at ha
    subst ha
    exact loop5c fun S => rfl
  · omega

end Go.X
