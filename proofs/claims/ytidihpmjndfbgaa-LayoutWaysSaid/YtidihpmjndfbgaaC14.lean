/-
  layout: the page's Items: contracts.
-/
import Derived.Test.YtidihpmjndfbgaaC13
set_option linter.unusedSimpArgs false
set_option linter.unusedVariables false
section
set_option linter.unusedVariables false
open Go Go.Ev Go.Proofs
namespace Go.La

structure X10b where
  x : It
  t : Int
  a : Nat → Bool
  j : Nat
def ok10b (s : X10b) : Prop := s.j ≤ s.x.n ∧ s.x.n ≤ 32000 ∧ (s.t = 1 ∨ s.t = 2) ∧ ∀ i, i < s.j → itB s.t s.x s.a i = true
def vs10b (s : X10b) : List SV := v10b s.x s.t s.j
def hp10b (s : X10b) : Heap := hA s.x s.a
noncomputable def out10b (s : X10b) : Vw := bif itC s.t s.x s.a then .exit 2 159 [.any, .any, .any, .any] (hA s.x s.a) else .ret (.bool true false) []

theorem entry10b (l : List SV) (H : Heap) (T : Tr) (h : lq10b.get l H = some T) (hb : T.leaf ≠ .bad) : ∃ x r, ok10b x ∧ WkV r lq10b.nm l H (vs10b x) (hp10b x) ∧ T.leaf = toLf lq10b (out10b x) := by
  replace h : get10b l H = some T := h
  unfold get10b at h
  split at h
  · rename_i _ t ka na kb nb _ i j0 n1 kd bs N op r1 r2 _ j1 n2 a
    simp only [Option.some.injEq] at h
    subst h
    obtain ⟨hn, he⟩ := needs_ne hb
    rw [he]
    simp only [allB, Bool.and_eq_true, Bool.and_true, decide_eq_true_eq, Nat.beq_eq, smB_iff, tgB, clsB_iff] at hn
    obtain ⟨rfl, rfl, rfl, rfl, rfl, rfl, rfl, rfl, hs, ht⟩ := hn
    refine ⟨⟨⟨na, kd, bs, N, op, r1, r2⟩, t, a, 0⟩, [], ⟨Nat.zero_le _, hs, ht, fun i hi => by simp only at hi; omega⟩, ?_, ?_⟩
    · exact ⟨rfl, ⟨⟨rfl, rfl⟩, ⟨rfl, rfl⟩, ⟨rfl, rfl⟩, ⟨rfl, rfl⟩, trivial⟩, hA_wk ⟨na, kd, bs, N, op, r1, r2⟩ rfl, rfl, rfl⟩
    · rw [leaf_node, exitT_leaf, out10b, toLf_cond]
      rfl
  · cases h

theorem hA_wkM (x : It) (a : Nat → Bool) {f : Bool} {more : Heap} : wkH (rmap []) ((0, .tab x.n x.cols f) :: (1168, .tab 32001 [.bools a] true) :: more) (hA x a) := by
  simp [hA, wkH, wkB, wkCs, wkC, rmap, rlook, Ev.look, It.cols]

theorem step10b {x : It} {t : Int} {a : Nat → Bool} {j : Nat} {C : Bool} {H : Heap} {f : Bool} {more : Heap} (h0 : j < x.n) (h1 : x.n ≤ 32000) (ht : t = 1 ∨ t = 2) (h2 : ∀ i, i < j → itB t x a i = true) (hC : C = !itB t x a j) :
    Round lq10b ok10b (fun s => s.x.n - s.j) vs10b hp10b out10b ⟨x, t, a, j⟩ (bif C then .ret (.bool true false) H else .norm 159 [.int false .i64 t, .sl 0 x.n, .sl 1168 32001, .int false .i64 ((j + 1 : Nat) : Int)]
      ((0, .tab x.n x.cols f) :: (1168, .tab 32001 [.bools a] true) :: more)) := by
  subst hC
  cases ho : itB t x a j with
  | false =>
    have : itC t x a = false := by
      rw [Bool.eq_false_iff]
      intro h'
      have := clsB_iff.1 h' j h0
      rw [ho] at this; cases this
    exact ⟨.bool true false, [], [], by simp only [out10b, this, cond_false], rfl, rfl, trivial, rfl⟩
  | true =>
    refine ⟨rfl, ⟨x, t, a, j + 1⟩, [], ⟨h0, h1, ht, fun i hi => ?_⟩, by show x.n - (j + 1) < x.n - j; omega, rfl, rfl, ?_, ?_, rfl, rfl⟩
    · by_cases e : i = j
      · subst e; exact ho
      · exact h2 i (by simp only at hi; omega)
    · exact ⟨⟨rfl, rfl⟩, ⟨rfl, rfl⟩, ⟨rfl, rfl⟩, ⟨rfl, rfl⟩, trivial⟩
    · exact hA_wkM x a
theorem eqI (a b : Int) : (a == b) = decide (a = b) := by rw [Bool.eq_iff_iff]; simp
theorem seq_self (s : ByteArray) : seq s s = true := (seq_iff s s).2 rfl
theorem lt_le31 (a : Int) : decide (a < 32) = decide (a ≤ 31) := by rw [Bool.eq_iff_iff]; simp; omega

theorem lq_lpb {E : Env} {P : Program} {res : List ResultVar} {c : Code} {n : Nat} {l : List SV} {H : Heap} : evalB E P res c n lq10b l H = evalB E P res c n lp10b l H := rfl
attribute [local irreducible] evalB Tr.view in
theorem round10b (s : X10b) (hx : ok10b s) : Round lq10b ok10b (fun s => s.x.n - s.j) vs10b hp10b out10b s ((evalB EP Try.prog Try.f10.results.toList (loopOf Try.f10 1) (1 + 1) lq10b (vs10b s) (hp10b s)).view lq10b.ks) := by
  obtain ⟨x, t, a, j⟩ := s
  obtain ⟨h0, h1, ht, h2⟩ := hx
  simp only at h0 h1 h2 ht
  have hr := r10b x t a j
  rw [show evalB EP Try.prog Try.f10.results.toList (loopOf Try.f10 1) (1 + 1) lq10b (vs10b ⟨x, t, a, j⟩) (hp10b ⟨x, t, a, j⟩) = evalB EP Try.prog Try.f10.results.toList (loopOf Try.f10 1) 2 lp10b (v10b x t j) (hA x a) from lq_lpb, show lq10b.ks = [0, 1, 5, 7] from rfl, hr]
  by_cases hj : j < x.n
  · have e1 : cm .lss (j : Int) (x.n : Int) = true := by rw [cm_lss']; exact decide_eq_true (by omega)
    have e2 : decide (0 ≤ (j : Int)) = true := decide_eq_true (by omega)
    have e3 : decide ((j : Int) < (x.n : Int)) = true := decide_eq_true (by omega)
    have hit : itB t x a j = (oneB t (x.kd j) (x.bs j) (x.N j) (x.op j) (x.r1 j) (x.r2 j) && (bif decide (x.kd j = 2) then lbrB (x.N j) else bif decide (x.kd j = 3) || (decide (x.kd j = 4) || decide (x.kd j = 5)) then lbrB (x.N j) && a (x.N j).toNat else true)) := rfl
    have hst := fun C H f more hC => @step10b x t a j C H f more hj h1 ht h2 hC
    simp only [e1, e2, e3, blt_t hj, cond_true, Int.toNat_natCast, addOne (show j < 9223372036854775807 by omega), cm_eql', cm_leq', cm_geq', eqI, seq_self, decide_true, Bool.true_and, Bool.and_true]
    have hin : (bif (bif decide (0 ≤ x.N j) then decide (x.N j ≤ 32000) else false) then allB [decide (0 ≤ x.N j), decide (x.N j < 32001), (x.N j).toNat.blt 32001, (x.N j).toNat.blt 32001] else true) = true := by
      by_cases q0 : 0 ≤ x.N j
      · by_cases q1 : x.N j ≤ 32000
        · simp only [decide_eq_true q0, decide_eq_true q1, cond_true, allB, decide_eq_true (show x.N j < 32001 by omega), blt_t (show (x.N j).toNat < 32001 by omega), Bool.and_self]
        · simp only [decide_eq_true q0, decide_eq_false q1, cond_true, cond_false]
      · simp only [decide_eq_false q0, cond_false]
    simp only [hin, cond_true]
    unfold oneB condB lbrB at hit
    by_cases k1 : x.kd j = 1
    · rw [k1] at hit ⊢
      have hg : (bif decide (((x.bs j).size : Int) ≤ 64) then allB [bif decide (t = 2) then true else true] else true) = true := by
        cases decide (((x.bs j).size : Int) ≤ 64) <;> cases decide (t = 2) <;> rfl
      simp only [decide_true, cond_true, hg]
      refine hst _ _ _ _ ?_
      rw [hit]
      by_cases hs : (x.bs j).size ≤ 64
      · rw [rem4 _ (by omega), decide_eq_true hs, decide_eq_true (show ((x.bs j).size : Int) ≤ 64 by omega)]
        rcases ht with rfl | rfl <;> cases decide ((x.bs j).size % 4 = 0) <;> cases decide (x.N j = 0) <;> cases decide (x.op j = 0) <;> cases decide (x.r1 j = 0) <;> cases decide (x.r2 j = 0) <;> rfl
      · rw [decide_eq_false hs, decide_eq_false (show ¬ ((x.bs j).size : Int) ≤ 64 by omega)]
        cases decide (x.N j = 0) <;> cases decide (x.op j = 0) <;> cases decide (x.r1 j = 0) <;> cases decide (x.r2 j = 0) <;> rfl
    by_cases k2 : x.kd j = 2
    · rw [k2] at hit ⊢
      simp only [cond_true]
      refine hst _ _ _ _ ?_
      rw [hit]
      cases decide (0 ≤ x.N j) <;> cases decide (x.N j ≤ 32000) <;> cases seq (x.bs j) ⟨#[]⟩ <;> cases decide (x.op j = 0) <;> cases decide (x.r1 j = 0) <;> cases decide (x.r2 j = 0) <;> rfl
    by_cases k3 : x.kd j = 3
    · rw [k3] at hit ⊢
      simp only [cond_true]
      refine hst _ _ _ _ ?_
      rw [hit]
      cases decide (0 ≤ x.N j) <;> cases decide (x.N j ≤ 32000) <;> cases seq (x.bs j) ⟨#[]⟩ <;> cases decide (x.op j = 0) <;> cases decide (x.r1 j = 0) <;> cases decide (x.r2 j = 0) <;> cases a (x.N j).toNat <;> rfl
    by_cases k5 : x.kd j = 5
    · rw [k5] at hit ⊢
      simp only [cond_true]
      refine hst _ _ _ _ ?_
      rw [hit]
      cases decide (0 ≤ x.N j) <;> cases decide (x.N j ≤ 32000) <;> cases seq (x.bs j) ⟨#[]⟩ <;> cases decide (x.op j = 0) <;> cases decide (x.r1 j = 0) <;> cases decide (x.r2 j = 0) <;> cases a (x.N j).toNat <;> rfl
    by_cases k4 : x.kd j = 4
    · rw [k4] at hit ⊢
      simp only [lt_le31] at hit
      rcases ht with rfl | rfl
      · simp only [cond_true]
        refine hst _ _ _ _ ?_
        rw [hit]
        cases decide (0 ≤ x.N j) <;> cases decide (x.N j ≤ 32000) <;> cases seq (x.bs j) ⟨#[]⟩ <;> cases decide (5 ≤ x.op j) <;> cases decide (x.op j ≤ 10) <;> cases decide (0 ≤ x.r1 j) <;> cases decide (0 ≤ x.r2 j) <;> cases decide (x.r1 j ≤ 31) <;> cases decide (x.r2 j ≤ 31) <;> cases a (x.N j).toNat <;> rfl
      · simp only [cond_true, cond_false]
        refine hst _ _ _ _ ?_
        rw [hit]
        cases decide (0 ≤ x.N j) <;> cases decide (x.N j ≤ 32000) <;> cases seq (x.bs j) ⟨#[]⟩ <;> cases decide (2 ≤ x.op j) <;> cases decide (x.op j ≤ 7) <;> cases decide (12 ≤ x.op j) <;> cases decide (x.op j ≤ 15) <;> cases decide (x.r1 j = 0) <;> cases decide (x.r2 j = 0) <;> cases a (x.N j).toNat <;> rfl
    · rw [decide_eq_false k1, decide_eq_false k2, decide_eq_false k3, decide_eq_false k4, decide_eq_false k5] at hit ⊢
      simp only [cond_false]
      have : itC t x a = false := by
        rw [Bool.eq_false_iff]
        intro h'
        have := clsB_iff.1 h' j hj
        rw [hit] at this; cases this
      exact ⟨.bool true false, [], [], by simp only [out10b, this, cond_false], rfl, rfl, trivial, rfl⟩
  · obtain rfl : j = x.n := by omega
    have e1 : cm .lss (x.n : Int) (x.n : Int) = false := by simp [cm]
    have hu : itC t x a = true := clsB_iff.2 h2
    simp only [e1, cond_false]
    refine ⟨rfl, [.any, .any, .any, .any], _, [], by simp only [out10b, hu, cond_true]; rfl, rfl, ?_, ?_, rfl, rfl⟩
    · exact ⟨trivial, trivial, trivial, trivial, trivial⟩
    · exact hA_wk x rfl

theorem e10_calls : CallsOk E10 Try.prog := fun f args H nm r h hn => ep_calls f args H nm r h hn
attribute [local irreducible] evalB Tr.view in
theorem loop10a : LoopOk E10 Try.prog Try.f10 0 (loopOf Try.f10 0) :=
  loop_okE mixed (fun S => rfl) (by decide) ok10a (fun s => s.x.n - s.j) vs10a hp10a out10a entry10a fun x hx => ⟨EP, ep_calls, loops_noLoop ep_loop _ _, round10a x hx⟩
attribute [local irreducible] evalB Tr.view in
theorem loop10b : LoopOk E10 Try.prog Try.f10 1 (loopOf Try.f10 1) :=
  loop_okE mixed (fun S => rfl) (by decide) ok10b (fun s => s.x.n - s.j) vs10b hp10b out10b entry10b fun x hx => ⟨EP, ep_calls, loops_noLoop ep_loop _ _, round10b x hx⟩
theorem fn10 : Try.prog.funcs[10]? = some Try.f10 := by kernel_rfl
theorem b10 : Try.f10.body = some (bodyOf Try.f10) := by kernel_rfl
theorem n10 : (Try.f10.name == "runtime.NumGoroutine") = false := by kernel_rfl
theorem nl10 : Code.loops (bodyOf Try.f10) = 2 := by kernel_rfl
theorem nth10a : nthLoop (bodyOf Try.f10) 0 = some (loopOf Try.f10 0) := by kernel_rfl
theorem nth10b : nthLoop (bodyOf Try.f10) 1 = some (loopOf Try.f10 1) := by kernel_rfl
theorem loops10 : LoopsOk E10 Try.prog Try.f10 (bodyOf Try.f10) 0 := loops2 nl10
  (fun a ha => by rw [nth10a] at ha; simp only [Option.some.injEq] at ha; subst ha; exact loop10a)
  (fun a ha => by rw [nth10b] at ha; simp only [Option.some.injEq] at ha; subst ha; exact loop10b)

/-! the page's labels are the code's -/
theorem isLab_kd {x : It} {j : Nat} (h : isLab x j = true) : x.kd j = 2 ∧ 0 ≤ x.N j ∧ x.N j ≤ 32000 := by
  simpa [isLab] using h
/-- all labels of the first items are in range -/
def inK (x : It) (j : Nat) : Prop := ∀ i, i < j → x.kd i = 2 → 0 ≤ x.N i ∧ x.N i ≤ 32000
theorem isLab_in {x : It} {j m : Nat} (h : inK x m) (hj : j < m) : isLab x j = decide (x.kd j = 2) := by
  unfold isLab
  by_cases e : x.kd j = 2
  · obtain ⟨q0, q1⟩ := h j hj e
    rw [decide_eq_true e, decide_eq_true q0, decide_eq_true q1]; rfl
  · rw [decide_eq_false e]; rfl
theorem dom_at {x : It} {m : Nat} (h : inK x m) : ∀ j, j ≤ m → ∀ c : Int, domK x j c = (lbrB c && atK x j c.toNat)
  | 0, _, c => by simp [domK, atK]
  | j + 1, hj, c => by
    simp only [domK, atK, isLab_in h (show j < m by omega)]
    by_cases e : x.kd j = 2
    · obtain ⟨q0, q1⟩ := h j (by omega) e
      rw [decide_eq_true e, cond_true, cond_true]
      simp only [updI, upd]
      by_cases ec : c = x.N j
      · subst ec
        simp [lbrB, q0, q1]
      · have : (c == x.N j) = false := by simp [ec]
        rw [this, cond_false, dom_at h j (by omega) c]
        by_cases hr : lbrB c = true
        · simp only [lbrB, Bool.and_eq_true, decide_eq_true_eq] at hr
          have : Nat.beq c.toNat (x.N j).toNat = false := by
            rw [Bool.eq_false_iff, ne_eq, Nat.beq_eq]; omega
          rw [this, cond_false]
        · rw [Bool.not_eq_true] at hr
          rw [hr]; rfl
    · rw [decide_eq_false e, cond_false, cond_false]
      exact dom_at h j (by omega) c

theorem val_un {t : Int} {x : It} {m : Nat} (h : inK x m) (ho : ∀ i, i < m → oneB t (x.kd i) (x.bs i) (x.N i) (x.op i) (x.r1 i) (x.r2 i) = true) : ∀ j, j ≤ m → valK t x j = unK x j
  | 0, _ => rfl
  | j + 1, hj => by
    simp only [valK, unK, val_un h ho j (by omega), ho j (by omega), Bool.true_and, isLab_in h (show j < m by omega)]
    by_cases e : x.kd j = 2
    · obtain ⟨q0, q1⟩ := h j (by omega) e
      simp only [decide_eq_true e, cond_true, decide_eq_true q0, decide_eq_true q1, Bool.and_true, Bool.true_and, dom_at h j (by omega)]
      rw [show lbrB (x.N j) = true by simp [lbrB, q0, q1], Bool.true_and]
    · simp only [decide_eq_false e, cond_false, Bool.and_true, Bool.false_and, Bool.not_false]

theorem it_in {t : Int} {x : It} {a : Nat → Bool} (h : ∀ i, i < x.n → itB t x a i = true) : inK x x.n ∧ ∀ i, i < x.n → oneB t (x.kd i) (x.bs i) (x.N i) (x.op i) (x.r1 i) (x.r2 i) = true := by
  refine ⟨fun i hi e => ?_, fun i hi => ?_⟩
  · have := h i hi
    rw [itB, e, Bool.and_eq_true] at this
    have := this.2
    simp only [decide_true, cond_true, lbrB, Bool.and_eq_true, decide_eq_true_eq] at this
    exact this
  · have := h i hi
    rw [itB, Bool.and_eq_true] at this
    exact this.1
theorem val_in {t : Int} {x : It} {m : Nat} (h : valK t x m = true) : inK x m := fun i hi e => by
  have := valK_le (show i + 1 ≤ m from hi) h
  simp only [valK, Bool.and_eq_true, decide_eq_true e, cond_true, decide_eq_true_eq] at this
  exact this.2.2.2
theorem items_iff {t : Int} {x : It} (hs : x.n ≤ 32000) (ht : t = 1 ∨ t = 2) : okP t x ↔ unK x x.n = true ∧ ∀ i, i < x.n → itB t x (atK x x.n) i = true := by
  constructor
  · rintro ⟨_, _, hv, hto⟩
    have hin := val_in hv
    have ho := fun i hi => val_one hv (i := i) hi
    refine ⟨by rw [← val_un hin ho x.n (Nat.le_refl _)]; exact hv, fun i hi => ?_⟩
    rw [itB, ho i hi, Bool.true_and]
    have := hto i hi
    rw [toB, dom_at hin x.n (Nat.le_refl _)] at this
    by_cases e : x.kd i = 2
    · obtain ⟨q0, q1⟩ := hin i hi e
      rw [decide_eq_true e, cond_true, lbrB, decide_eq_true q0, decide_eq_true q1]; rfl
    · rw [decide_eq_false e, cond_false]
      exact this
  · rintro ⟨hu, hi⟩
    obtain ⟨hin, ho⟩ := it_in hi
    refine ⟨hs, ht, by rw [val_un hin ho x.n (Nat.le_refl _)]; exact hu, fun i hii => ?_⟩
    rw [toB, dom_at hin x.n (Nat.le_refl _)]
    have := hi i hii
    rw [itB, ho i hii, Bool.true_and] at this
    by_cases e : x.kd i = 2
    · rw [e]; rfl
    · rw [decide_eq_false e, cond_false] at this
      exact this

end Go.La
end

section
set_option linter.unusedVariables false
open Go Go.Ev Go.Proofs
namespace Go.La

noncomputable def g10T : List SV → Heap → Option R
  | [.int false .i64 t, .sl k n], [(j0, .tab n1 [.ints .i64 kd, .strs bs, .ints .i64 N, .ints .i64 op, .ints .i64 r1, .ints .i64 r2] _)] => match Nat.beq k 0 && Nat.beq j0 0 with
    | true => some ⟨[Nat.beq n n1, okB t ⟨n1, kd, bs, N, op, r1, r2⟩], .bool true true, []⟩
    | false => none
  | _, _ => none
noncomputable def g10F : List SV → Heap → Option R
  | [.int false .i64 t, .sl k n], [(j0, .tab n1 [.ints .i64 kd, .strs bs, .ints .i64 N, .ints .i64 op, .ints .i64 r1, .ints .i64 r2] _)] => match Nat.beq k 0 && Nat.beq j0 0 with
    | true => some ⟨[Nat.beq n n1, noB t ⟨n1, kd, bs, N, op, r1, r2⟩], .bool true false, []⟩
    | false => none
  | _, _ => none
theorem cls_t {p : Prop} (h : p) : clsB p = true := clsB_iff.2 h
theorem cls_f {p : Prop} (h : ¬ p) : clsB p = false := by rw [Bool.eq_false_iff]; exact fun h' => h (clsB_iff.1 h')

theorem head10 {t : Int} {n : Nat} (hs : n ≤ 32000) (ht : t = 1 ∨ t = 2) : (bif !bif cm .eql t 1 then true else cm .eql t 2 then true else cm .gtr (n : Int) 32000) = false := by
  have : cm .gtr (n : Int) 32000 = false := decide_eq_false (by omega)
  rw [this, cm_eql', cm_eql']
  rcases ht with rfl | rfl <;> rfl
theorem head10F {t : Int} {n : Nat} (h : (bif !bif cm .eql t 1 then true else cm .eql t 2 then true else cm .gtr (n : Int) 32000) = false) : n ≤ 32000 ∧ (t = 1 ∨ t = 2) := by
  rw [cm_eql', cm_eql'] at h
  have : cm .gtr (n : Int) 32000 = decide ((32000 : Int) < n) := rfl
  rw [this] at h
  by_cases h1 : t = 1
  · subst h1
    simp at h
    exact ⟨by omega, .inl rfl⟩
  · by_cases h2 : t = 2
    · subst h2
      simp at h
      exact ⟨by omega, .inr rfl⟩
    · simp [h1, h2] at h

attribute [local irreducible] evalF Lf.gives in
theorem spec10T : SpecOk Try.prog 10 (specOf g10T) := spec_okA false e10_calls mixed fn10 b10 n10 loops10 g10T fun a0 H0 r hg hn => by
  unfold g10T at hg
  split at hg
  · rename_i t k n j0 n1 kd bs N op r1 r2 _
    split at hg
    · rename_i hk
      simp only [Bool.and_eq_true, Nat.beq_eq] at hk
      obtain ⟨rfl, rfl⟩ := hk
      simp only [Option.some.injEq] at hg
      subst hg
      simp only [allB, Bool.and_eq_true, Bool.and_true, Nat.beq_eq, okB, clsB_iff] at hn
      obtain ⟨rfl, hok⟩ := hn
      refine ⟨_, id, fun _ => rfl, ?_⟩
      show GivesD _ (evalF E10 Try.prog 10 [.int false .i64 t, .sl 0 n] (hI ⟨n, kd, bs, N, op, r1, r2⟩) 1024).leaf
      refine gives_giv (gives_tree (t10 ⟨n, kd, bs, N, op, r1, r2⟩ t) ?_)
      obtain ⟨hu, hi⟩ := (items_iff hok.1 hok.2.1).1 hok
      have e1 : unC ⟨n, kd, bs, N, op, r1, r2⟩ = true := cls_t hu
      have e2 : itC t ⟨n, kd, bs, N, op, r1, r2⟩ (atK ⟨n, kd, bs, N, op, r1, r2⟩ n) = true := cls_t hi
      have e3 : fB (fun _ => false) = true := cls_t rfl
      have e4 : tgB t = true := cls_t hok.2.1
      simp only [head10 hok.1 hok.2.1, e1, e2, e3, e4, smB_iff.2 hok.1, beq_t, cls_t, cond_true, cond_false]
      exact gives_ret fun σ σ' => rfl
    · cases hg
  · cases hg

attribute [local irreducible] evalF Lf.gives in
theorem spec10F : SpecOk Try.prog 10 (specOf g10F) := spec_okA false e10_calls mixed fn10 b10 n10 loops10 g10F fun a0 H0 r hg hn => by
  unfold g10F at hg
  split at hg
  · rename_i t k n j0 n1 kd bs N op r1 r2 _
    split at hg
    · rename_i hk
      simp only [Bool.and_eq_true, Nat.beq_eq] at hk
      obtain ⟨rfl, rfl⟩ := hk
      simp only [Option.some.injEq] at hg
      subst hg
      simp only [allB, Bool.and_eq_true, Bool.and_true, Nat.beq_eq, noB, clsB_iff] at hn
      obtain ⟨rfl, hno⟩ := hn
      refine ⟨_, id, fun _ => rfl, ?_⟩
      show GivesD _ (evalF E10 Try.prog 10 [.int false .i64 t, .sl 0 n] (hI ⟨n, kd, bs, N, op, r1, r2⟩) 1024).leaf
      refine gives_giv (gives_tree (t10 ⟨n, kd, bs, N, op, r1, r2⟩ t) ?_)
      have e3 : fB (fun _ => false) = true := cls_t rfl
      cases hh : (bif !bif cm .eql t 1 then true else cm .eql t 2 then true else cm .gtr (n : Int) 32000) with
      | true => rw [cond_true]; exact gives_ret fun σ σ' => rfl
      | false =>
        obtain ⟨hs, ht⟩ := head10F hh
        have e4 : tgB t = true := cls_t ht
        simp only [e3, e4, smB_iff.2 hs, beq_t, cls_t, cond_true, cond_false]
        cases e1 : unC ⟨n, kd, bs, N, op, r1, r2⟩ with
        | false => rw [cond_false]; exact gives_ret fun σ σ' => rfl
        | true =>
          cases e2 : itC t ⟨n, kd, bs, N, op, r1, r2⟩ (atK ⟨n, kd, bs, N, op, r1, r2⟩ n) with
          | false => rw [cond_true, cond_false]; exact gives_ret fun σ σ' => rfl
          | true => exact absurd ((items_iff hs ht).2 ⟨clsB_iff.1 e1, clsB_iff.1 e2⟩) hno
    · cases hg
  · cases hg

end Go.La
end

section
set_option linter.unusedVariables false
open Go Go.Ev Go.Proofs
namespace Go.La

/-- where the items lie; where the labels lie, by the page -/
def posP (x : It) (t : Int) (lg : Nat → Bool) : Nat → Int := fun r => (posN (y0 x t lg) r : Int)
def labQ (x : It) (t : Int) (lg : Nat → Bool) : Nat → Int := fun c => bif domK x x.n (c : Int) then (posN (y0 x t lg) (lbK x x.n (c : Int)).toNat : Int) else 0
/-- rows without a label are nought -/
noncomputable def qB (x : It) (q : Nat → Int) : Bool := clsB (∀ c : Nat, domK x x.n (c : Int) = false → q c = 0)
noncomputable def eqI1 (p q : Nat → Int) : Bool := clsB (p = q)
noncomputable def eqB1 (n : Nat) (p q : Nat → Bool) : Bool := clsB (∀ i, i < n → p i = q i)
noncomputable def rowsB (n : Nat) : Bool := clsB (n = 32001)
def lk11b : Lp := lp11b
noncomputable def get11b : List SV → Heap → Option Tr
  | [.int _ .i64 t, .sl ka na, .sl kl nl, .sl kp np, .sl kq nq, .int _ .i64 h, .int _ .i64 i], [(j0, .tab n1 [.ints .i64 kd, .strs bs, .ints .i64 N, .ints .i64 op, .ints .i64 r1, .ints .i64 r2] _), (j1, .tab n2 [.bools lg] true), (j2, .tab n3 [.ints .i64 p] true), (j3, .tab n4 [.ints .i64 q] true)] =>
    some (Tr.needs [Nat.beq ka 0, Nat.beq na n1, Nat.beq kl 1104, Nat.beq nl n1, Nat.beq kp 1168, Nat.beq np n1, Nat.beq kq 1200, rowsB nq, decide (h = 0), decide (i = 0), Nat.beq j0 0, Nat.beq j1 1104, Nat.beq j2 1168, Nat.beq j3 1200, Nat.beq n2 n1, Nat.beq n3 n1, rowsB n4, okB t ⟨n1, kd, bs, N, op, r1, r2⟩, qB ⟨n1, kd, bs, N, op, r1, r2⟩ q]
      (exitT lk11b 2 [.int false .i64 t, .sl 0 n1, .sl 1104 n1, .sl 1168 n1, .sl 1200 32001, .any, .any] (hR ⟨n1, kd, bs, N, op, r1, r2⟩ lg (posP ⟨n1, kd, bs, N, op, r1, r2⟩ t lg) (labQ ⟨n1, kd, bs, N, op, r1, r2⟩ t lg))))
  | _, _ => none
noncomputable def lq11b : Lp := { lk11b with get := get11b }
/-! what turns long -/
def v11c (x : It) (t : Int) (ag : Bool) (i : Int) : List SV := [.int false .i64 t, .sl 0 x.n, .sl 1104 x.n, .sl 1168 x.n, .sl 1200 32001, .bool false ag, .sl 1312 x.n, .int false .i64 i]
def hRc (x : It) (lg : Nat → Bool) (p q : Nat → Int) (nx : Nat → Bool) : Heap := [(0, .tab x.n x.cols false), (1104, .tab x.n [.bools lg] true), (1168, .tab x.n [.ints .i64 p] true), (1200, .tab 32001 [.ints .i64 q] true), (1312, .tab x.n [.bools nx] true)]
def lk11c : Lp := ⟨164, [0, 1, 7, 8, 9, 12, 13, 14], 1360, fun _ _ => none⟩
noncomputable def get11c : List SV → Heap → Option Tr
  | [.int _ .i64 t, .sl ka na, .sl kl nl, .sl kp np, .sl kq nq, .bool _ ag, .sl kx nx, .int _ .i64 i], [(j0, .tab n1 [.ints .i64 kd, .strs bs, .ints .i64 N, .ints .i64 op, .ints .i64 r1, .ints .i64 r2] _), (j1, .tab n2 [.bools lg] true), (j2, .tab n3 [.ints .i64 p] true), (j3, .tab n4 [.ints .i64 q] true), (jd, _), (j4, .tab n5 [.bools nx'] true)] =>
    some (Tr.needs [Nat.beq ka 0, Nat.beq na n1, Nat.beq kl 1104, Nat.beq nl n1, Nat.beq kp 1168, Nat.beq np n1, Nat.beq kq 1200, rowsB nq, !ag, Nat.beq kx 1312, Nat.beq nx n1, decide (i = 0), Nat.beq j0 0, Nat.beq j1 1104, Nat.beq j2 1168, Nat.beq j3 1200, Nat.beq j4 1312, Nat.beq jd 1280, Nat.beq n2 n1, Nat.beq n3 n1, rowsB n4, Nat.beq n5 n1, okB t ⟨n1, kd, bs, N, op, r1, r2⟩, eqI1 p (posP ⟨n1, kd, bs, N, op, r1, r2⟩ t lg), eqI1 q (labQ ⟨n1, kd, bs, N, op, r1, r2⟩ t lg), eqB1 n1 nx' lg]
      (exitT lk11c 4 [.int false .i64 t, .sl 0 n1, .sl 1104 n1, .sl 1168 n1, .sl 1200 32001, .bool false (anyG (yOf ⟨n1, kd, bs, N, op, r1, r2⟩ t lg)), .sl 1312 n1, .any] (hRc ⟨n1, kd, bs, N, op, r1, r2⟩ lg (posP ⟨n1, kd, bs, N, op, r1, r2⟩ t lg) (labQ ⟨n1, kd, bs, N, op, r1, r2⟩ t lg) (growF (yOf ⟨n1, kd, bs, N, op, r1, r2⟩ t lg)))))
  | _, _ => none
noncomputable def lq11c : Lp := { lk11c with get := get11c }
noncomputable def E11c : Env := ⟨ER.call, loopEnv [(1, lq11b), (2, lq11c)]⟩
/-! round after round -/
def v11a (x : It) (t : Int) : List SV := [.int false .i64 t, .sl 0 x.n, .sl 1104 x.n, .sl 1168 x.n, .sl 1200 32001]
def lk11a : Lp := ⟨164, [0, 1, 7, 8, 9], 1232, fun _ _ => none⟩
noncomputable def get11a : List SV → Heap → Option Tr
  | [.int _ .i64 t, .sl ka na, .sl kl nl, .sl kp np, .sl kq nq], [(j0, .tab n1 [.ints .i64 kd, .strs bs, .ints .i64 N, .ints .i64 op, .ints .i64 r1, .ints .i64 r2] _), (j1, .tab n2 [.bools lg] true), (j2, .tab n3 [.ints .i64 p] true), (j3, .tab n4 [.ints .i64 q] true)] =>
    some (Tr.needs [Nat.beq ka 0, Nat.beq na n1, Nat.beq kl 1104, Nat.beq nl n1, Nat.beq kp 1168, Nat.beq np n1, Nat.beq kq 1200, rowsB nq, Nat.beq j0 0, Nat.beq j1 1104, Nat.beq j2 1168, Nat.beq j3 1200, Nat.beq n2 n1, Nat.beq n3 n1, rowsB n4, okB t ⟨n1, kd, bs, N, op, r1, r2⟩, fB lg, eqI1 q (fun _ => 0)]
      (exitT lk11a 0 [.int false .i64 t, .sl 0 n1, .sl 1104 n1, .sl 1168 n1, .sl 1200 32001] (hR ⟨n1, kd, bs, N, op, r1, r2⟩ (lastL ⟨n1, kd, bs, N, op, r1, r2⟩ t) (posP ⟨n1, kd, bs, N, op, r1, r2⟩ t (lastL ⟨n1, kd, bs, N, op, r1, r2⟩ t)) (labQ ⟨n1, kd, bs, N, op, r1, r2⟩ t (lastL ⟨n1, kd, bs, N, op, r1, r2⟩ t)))))
  | _, _ => none
noncomputable def lq11a : Lp := { lk11a with get := get11a }
/-! the bytes -/
def lk11d : Lp := lp11d
noncomputable def get11d : List SV → Heap → Option Tr
  | [.int _ .i64 t, .sl ka na, .sl kl nl, .sl kp np, .sl kq nq, .val (.slice none 0 0), .int _ .i64 i], [(j0, .tab n1 [.ints .i64 kd, .strs bs, .ints .i64 N, .ints .i64 op, .ints .i64 r1, .ints .i64 r2] _), (j1, .tab n2 [.bools lg] true), (j2, .tab n3 [.ints .i64 p] true), (j3, .tab n4 [.ints .i64 q] true)] =>
    some (Tr.needs [Nat.beq ka 0, Nat.beq na n1, Nat.beq kl 1104, Nat.beq nl n1, Nat.beq kp 1168, Nat.beq np n1, Nat.beq kq 1200, rowsB nq, decide (i = 0), Nat.beq j0 0, Nat.beq j1 1104, Nat.beq j2 1168, Nat.beq j3 1200, Nat.beq n2 n1, Nat.beq n3 n1, rowsB n4, okB t ⟨n1, kd, bs, N, op, r1, r2⟩, clsB (lg = lastL ⟨n1, kd, bs, N, op, r1, r2⟩ t), eqI1 p (posP ⟨n1, kd, bs, N, op, r1, r2⟩ t lg), eqI1 q (labQ ⟨n1, kd, bs, N, op, r1, r2⟩ t lg)]
      (exitT lk11d 6 [.any, .any, .any, .sl 1168 n1, .any, .sl 1800 (outB ⟨n1, kd, bs, N, op, r1, r2⟩ t).size, .any] (hRb ⟨n1, kd, bs, N, op, r1, r2⟩ (lastL ⟨n1, kd, bs, N, op, r1, r2⟩ t) (posP ⟨n1, kd, bs, N, op, r1, r2⟩ t (lastL ⟨n1, kd, bs, N, op, r1, r2⟩ t)) (labQ ⟨n1, kd, bs, N, op, r1, r2⟩ t (lastL ⟨n1, kd, bs, N, op, r1, r2⟩ t)) (outB ⟨n1, kd, bs, N, op, r1, r2⟩ t).size (chr (outB ⟨n1, kd, bs, N, op, r1, r2⟩ t)))))
  | _, _ => none
noncomputable def lq11d : Lp := { lk11d with get := get11d }
noncomputable def E11 : Env := ⟨ER.call, loopEnv [(0, lq11a), (3, lq11d)]⟩
--LEAVES

theorem r11c (x : It) (t : Int) (lg : Nat → Bool) (p : Nat → Int) (q : Nat → Int) (nx : Nat → Bool) (ag : Bool) (i : Int) : (evalB ER Try.prog Try.f11.results.toList (loopOf Try.f11 2) 3 lk11c (v11c x t ag i) (hRc x lg p q nx)).view [0, 1, 7, 8, 9, 12, 13, 14] =
    (bif (cm BinOp.lss i (↑x.n : Int)) then
      bif (decide (0 ≤ i)) then
        bif (decide (i < (↑x.n : Int))) then
          bif (Nat.blt (i.toNat) (x.n)) then
            bif (Nat.blt (i.toNat) (x.n)) then
              bif (bif cm BinOp.eql (x.kd i.toNat) 3 then allB [decide (0 ≤ i), decide (i < (↑x.n : Int)), i.toNat.blt x.n, i.toNat.blt x.n, bif !lg i.toNat then allB [decide (0 ≤ i), decide (i < (↑x.n : Int)), i.toNat.blt x.n, i.toNat.blt x.n, decide (0 ≤ i), decide (i < (↑x.n : Int)), i.toNat.blt x.n, i.toNat.blt x.n, decide (0 ≤ x.N i.toNat), decide (x.N i.toNat < 32001), (x.N i.toNat).toNat.blt 32001, (x.N i.toNat).toNat.blt 32001, decide (0 ≤ i), decide (i < (↑x.n : Int)), i.toNat.blt x.n, i.toNat.blt x.n] else true] else allB [bif cm BinOp.eql (x.kd i.toNat) 4 then allB [decide (0 ≤ i), decide (i < (↑x.n : Int)), i.toNat.blt x.n, i.toNat.blt x.n, bif !lg i.toNat then allB [decide (0 ≤ i), decide (i < (↑x.n : Int)), i.toNat.blt x.n, i.toNat.blt x.n, decide (0 ≤ i), decide (i < (↑x.n : Int)), i.toNat.blt x.n, i.toNat.blt x.n, decide (0 ≤ x.N i.toNat), decide (x.N i.toNat < 32001), (x.N i.toNat).toNat.blt 32001, (x.N i.toNat).toNat.blt 32001, decide (0 ≤ i), decide (i < (↑x.n : Int)), i.toNat.blt x.n, i.toNat.blt x.n] else true] else true]) then
                bif (bif cm BinOp.eql (x.kd i.toNat) 3 then bif !lg i.toNat then !bif bif cm BinOp.eql (x.kd i.toNat) 5 then true else bif cm BinOp.eql t 1 then cm BinOp.eql (x.kd i.toNat) 3 else false then true else bif cm BinOp.eql t 1 then bif cm BinOp.geq (ar BinOp.sub IntKind.i64 (q (x.N i.toNat).toNat) (p i.toNat)) (-4096) then cm BinOp.lss (ar BinOp.sub IntKind.i64 (q (x.N i.toNat).toNat) (p i.toNat)) 4096 else false else bif cm BinOp.geq (ar BinOp.sub IntKind.i64 (ar BinOp.sub IntKind.i64 (q (x.N i.toNat).toNat) (p i.toNat)) 2) (-128) then cm BinOp.leq (ar BinOp.sub IntKind.i64 (ar BinOp.sub IntKind.i64 (q (x.N i.toNat).toNat) (p i.toNat)) 2) 127 else false else false else bif cm BinOp.eql (x.kd i.toNat) 4 then bif !lg i.toNat then !bif bif cm BinOp.eql (x.kd i.toNat) 5 then true else bif cm BinOp.eql t 1 then cm BinOp.eql (x.kd i.toNat) 3 else false then true else bif cm BinOp.eql t 1 then bif cm BinOp.geq (ar BinOp.sub IntKind.i64 (q (x.N i.toNat).toNat) (p i.toNat)) (-4096) then cm BinOp.lss (ar BinOp.sub IntKind.i64 (q (x.N i.toNat).toNat) (p i.toNat)) 4096 else false else bif cm BinOp.geq (ar BinOp.sub IntKind.i64 (ar BinOp.sub IntKind.i64 (q (x.N i.toNat).toNat) (p i.toNat)) 2) (-128) then cm BinOp.leq (ar BinOp.sub IntKind.i64 (ar BinOp.sub IntKind.i64 (q (x.N i.toNat).toNat) (p i.toNat)) 2) 127 else false else false else false) then
                  bif (decide (0 ≤ i)) then
                    bif (decide (i < (↑x.n : Int))) then
                      bif (Nat.blt (i.toNat) (x.n)) then
                        bif (Nat.blt (i.toNat) (x.n)) then
                          .norm 164 [(.int false IntKind.i64 (t)), (.sl 0 (x.n)), (.sl 1104 (x.n)), (.sl 1168 (x.n)), (.sl 1200 32001), (.bool true true), (.sl 1312 (x.n)), (.int false IntKind.i64 (ar BinOp.add IntKind.i64 i 1))] [(0, .tab (x.n) [.ints IntKind.i64 (x.kd), .strs (x.bs), .ints IntKind.i64 (x.N), .ints IntKind.i64 (x.op), .ints IntKind.i64 (x.r1), .ints IntKind.i64 (x.r2)] false), (1104, .tab (x.n) [.bools (lg)] true), (1168, .tab (x.n) [.ints IntKind.i64 (p)] true), (1200, .tab 32001 [.ints IntKind.i64 (q)] true), (1312, .tab (x.n) [.bools (upd nx i.toNat true)] true)]
                        else .bad
                      else .bad
                    else .bad
                  else .bad
                else
                  .norm 164 [(.int false IntKind.i64 (t)), (.sl 0 (x.n)), (.sl 1104 (x.n)), (.sl 1168 (x.n)), (.sl 1200 32001), (.bool false (ag)), (.sl 1312 (x.n)), (.int false IntKind.i64 (ar BinOp.add IntKind.i64 i 1))] [(0, .tab (x.n) [.ints IntKind.i64 (x.kd), .strs (x.bs), .ints IntKind.i64 (x.N), .ints IntKind.i64 (x.op), .ints IntKind.i64 (x.r1), .ints IntKind.i64 (x.r2)] false), (1104, .tab (x.n) [.bools (lg)] true), (1168, .tab (x.n) [.ints IntKind.i64 (p)] true), (1200, .tab 32001 [.ints IntKind.i64 (q)] true), (1312, .tab (x.n) [.bools (nx)] true)]
              else .bad
            else .bad
          else .bad
        else .bad
      else .bad
    else
      .exit 4 164 [(.int false IntKind.i64 (t)), (.sl 0 (x.n)), (.sl 1104 (x.n)), (.sl 1168 (x.n)), (.sl 1200 32001), (.bool false (ag)), (.sl 1312 (x.n)), (.int false IntKind.i64 (i))] [(0, .tab (x.n) [.ints IntKind.i64 (x.kd), .strs (x.bs), .ints IntKind.i64 (x.N), .ints IntKind.i64 (x.op), .ints IntKind.i64 (x.r1), .ints IntKind.i64 (x.r2)] false), (1104, .tab (x.n) [.bools (lg)] true), (1168, .tab (x.n) [.ints IntKind.i64 (p)] true), (1200, .tab 32001 [.ints IntKind.i64 (q)] true), (1312, .tab (x.n) [.bools (nx)] true)]) := by kernel_rfl

theorem r11a (x : It) (t : Int) (lg : Nat → Bool) (p : Nat → Int) (q : Nat → Int) : (evalB E11c Try.prog Try.f11.results.toList (loopOf Try.f11 0) 1 lk11a (v11a x t) (hR x lg p q)).view [0, 1, 7, 8, 9] =
    (bif (Nat.beq (x.n) (x.n)) then
      bif (Nat.beq (x.n) (x.n)) then
        bif (Nat.beq (x.n) (x.n)) then
          bif (rowsB 32001) then
            bif (Nat.beq (x.n) (x.n)) then
              bif (Nat.beq (x.n) (x.n)) then
                bif (rowsB 32001) then
                  bif (okB t x) then
                    bif (qB x q) then
                      bif (Nat.ble (x.n) (x.n)) then
                        bif (Nat.ble ((0 + x.n) * 1) (1099511627776)) then
                          bif (Nat.beq (x.n) (x.n)) then
                            bif (Nat.beq (x.n) (x.n)) then
                              bif (Nat.beq (x.n) (x.n)) then
                                bif (rowsB 32001) then
                                  bif (Nat.beq (0 + x.n) (x.n)) then
                                    bif (Nat.beq (x.n) (x.n)) then
                                      bif (Nat.beq (x.n) (x.n)) then
                                        bif (rowsB 32001) then
                                          bif (Nat.beq (0 + x.n) (x.n)) then
                                            bif (okB t x) then
                                              bif (eqI1 (posP x t lg) (posP x t lg)) then
                                                bif (eqI1 (labQ x t lg) (labQ x t lg)) then
                                                  bif (eqB1 x.n (cat 0 (fun x => false) lg) lg) then
                                                    bif (!anyG (yOf x t lg)) then
                                                      .exit 0 164 [(.int false IntKind.i64 (t)), (.sl 0 (x.n)), (.sl 1312 (x.n)), (.sl 1168 (x.n)), (.sl 1200 32001)] [(0, .tab (x.n) [.ints IntKind.i64 (x.kd), .strs (x.bs), .ints IntKind.i64 (x.N), .ints IntKind.i64 (x.op), .ints IntKind.i64 (x.r1), .ints IntKind.i64 (x.r2)] false), (1104, .tab (x.n) [.bools (lg)] true), (1168, .tab (x.n) [.ints IntKind.i64 (posP x t lg)] true), (1200, .tab 32001 [.ints IntKind.i64 (labQ x t lg)] true), (1312, .tab (x.n) [.bools (growF (yOf x t lg))] true)]
                                                    else
                                                      .norm 164 [(.int false IntKind.i64 (t)), (.sl 0 (x.n)), (.sl 1312 (x.n)), (.sl 1168 (x.n)), (.sl 1200 32001)] [(0, .tab (x.n) [.ints IntKind.i64 (x.kd), .strs (x.bs), .ints IntKind.i64 (x.N), .ints IntKind.i64 (x.op), .ints IntKind.i64 (x.r1), .ints IntKind.i64 (x.r2)] false), (1104, .tab (x.n) [.bools (lg)] true), (1168, .tab (x.n) [.ints IntKind.i64 (posP x t lg)] true), (1200, .tab 32001 [.ints IntKind.i64 (labQ x t lg)] true), (1312, .tab (x.n) [.bools (growF (yOf x t lg))] true)]
                                                  else .bad
                                                else .bad
                                              else .bad
                                            else .bad
                                          else .bad
                                        else .bad
                                      else .bad
                                    else .bad
                                  else .bad
                                else .bad
                              else .bad
                            else .bad
                          else .bad
                        else .bad
                      else .bad
                    else .bad
                  else .bad
                else .bad
              else .bad
            else .bad
          else .bad
        else .bad
      else .bad
    else .bad) := by kernel_rfl

theorem t11 (x : It) (t : Int) : (evalF E11 Try.prog 11 [SV.int false IntKind.i64 t, SV.sl 0 x.n] (hI x) 1024).leaf =
    (bif (decide (0 ≤ (↑x.n : Int))) then
      bif (decide ((↑x.n : Int) ≤ (↑x.n : Int))) then
        bif (Nat.ble ((↑x.n : Int).toNat * 1) (140737488355328)) then
          bif (Nat.ble ((↑x.n : Int).toNat) (140737488355328)) then
            bif (decide (0 ≤ (↑x.n : Int))) then
              bif (decide ((↑x.n : Int) ≤ (↑x.n : Int))) then
                bif (Nat.ble ((↑x.n : Int).toNat * 8) (140737488355328)) then
                  bif (Nat.ble ((↑x.n : Int).toNat) (140737488355328)) then
                    bif (Nat.beq (x.n) (x.n)) then
                      bif (Nat.beq ((↑x.n : Int).toNat) (x.n)) then
                        bif (Nat.beq ((↑x.n : Int).toNat) (x.n)) then
                          bif (rowsB 32001) then
                            bif (Nat.beq ((↑x.n : Int).toNat) (x.n)) then
                              bif (Nat.beq ((↑x.n : Int).toNat) (x.n)) then
                                bif (rowsB 32001) then
                                  bif (okB t x) then
                                    bif (fB fun x => false) then
                                      bif (eqI1 (fun x => 0) fun x => 0) then
                                        bif (Nat.beq (x.n) (x.n)) then
                                          bif (Nat.beq (x.n) (x.n)) then
                                            bif (Nat.beq (x.n) (x.n)) then
                                              bif (rowsB 32001) then
                                                bif (Nat.beq (x.n) (x.n)) then
                                                  bif (Nat.beq (x.n) (x.n)) then
                                                    bif (rowsB 32001) then
                                                      bif (okB t x) then
                                                        bif (clsB (lastL x t = lastL x t)) then
                                                          bif (eqI1 (posP x t (lastL x t)) (posP x t (lastL x t))) then
                                                            bif (eqI1 (labQ x t (lastL x t)) (labQ x t (lastL x t))) then
                                                              bif (Nat.ble ((outB x t).size) ((outB x t).size)) then
                                                                .ret (.tup [(.str (strOf (chr (outB x t)) (outB x t).size)), (.sl 1168 (x.n)), (.bool false (cm BinOp.leq (↑(outB x t).size : Int) 258048))]) [(0, .tab (x.n) [.ints IntKind.i64 (x.kd), .strs (x.bs), .ints IntKind.i64 (x.N), .ints IntKind.i64 (x.op), .ints IntKind.i64 (x.r1), .ints IntKind.i64 (x.r2)] false), (1104, .tab (x.n) [.bools (lastL x t)] true), (1168, .tab (x.n) [.ints IntKind.i64 (posP x t (lastL x t))] true), (1200, .tab 32001 [.ints IntKind.i64 (labQ x t (lastL x t))] true), (1800, .tab ((outB x t).size) [.ints IntKind.u8 (chr (outB x t))] true)]
                                                              else .bad
                                                            else .bad
                                                          else .bad
                                                        else .bad
                                                      else .bad
                                                    else .bad
                                                  else .bad
                                                else .bad
                                              else .bad
                                            else .bad
                                          else .bad
                                        else .bad
                                      else .bad
                                    else .bad
                                  else .bad
                                else .bad
                              else .bad
                            else .bad
                          else .bad
                        else .bad
                      else .bad
                    else .bad
                  else .bad
                else .bad
              else .bad
            else .bad
          else .bad
        else .bad
      else .bad
    else .bad) := by kernel_rfl

end Go.La
end

section
set_option linter.unusedVariables false
open Go Go.Ev Go.Proofs
namespace Go.La

theorem one_kd {t kd : Int} {s : ByteArray} {n op r1 r2 : Int} (h : oneB t kd s n op r1 r2 = true) : kd = 1 ∨ kd = 2 ∨ kd = 3 ∨ kd = 4 ∨ kd = 5 := by
  by_cases h1 : kd = 1
  · exact .inl h1
  by_cases h2 : kd = 2
  · exact .inr (.inl h2)
  by_cases h3 : kd = 3
  · exact .inr (.inr (.inl h3))
  by_cases h4 : kd = 4
  · exact .inr (.inr (.inr (.inl h4)))
  by_cases h5 : kd = 5
  · exact .inr (.inr (.inr (.inr h5)))
  · unfold oneB at h
    rw [decide_eq_false h1, decide_eq_false h2, decide_eq_false h3, decide_eq_false h4, decide_eq_false h5] at h
    cases h
theorem ok_in {t : Int} {x : It} (h : okP t x) : inK x x.n := val_in h.2.2.1
theorem ok_one {t : Int} {x : It} (h : okP t x) {i : Nat} (hi : i < x.n) : oneB t (x.kd i) (x.bs i) (x.N i) (x.op i) (x.r1 i) (x.r2 i) = true := val_one h.2.2.1 hi

theorem sz_page {t kd : Int} {m : Nat} {lg : Bool} (h : kd = 1 ∨ kd = 2 ∨ kd = 3 ∨ kd = 4 ∨ kd = 5) :
    (bif cm .eql kd 1 then (m : Int) else bif cm .eql kd 2 then 0 else bif cm .eql t 1 then bif bif cm .eql kd 4 then lg else false then 8 else 4 else bif bif cm .eql kd 5 then true else bif cm .eql kd 3 then lg else false then 5 else bif lg then 6 else 2) = (szN t kd m lg : Int) := by
  simp only [cm_eql']
  rcases h with rfl | rfl | rfl | rfl | rfl <;> simp only [szN] <;> cases decide (t = 1) <;> cases lg <;> rfl

def pK (x : It) (t : Int) (lg : Nat → Bool) (p0 : Nat → Int) (j : Nat) : Nat → Int := fun r => bif Nat.blt r j then (posN (y0 x t lg) r : Int) else p0 r
def qK (x : It) (t : Int) (lg : Nat → Bool) (q0 : Nat → Int) : Nat → Nat → Int
  | 0 => q0
  | j + 1 => bif decide (x.kd j = 2) then upd (qK x t lg q0 j) (x.N j).toNat (posN (y0 x t lg) j : Int) else qK x t lg q0 j
theorem qK_at {x : It} {t : Int} {lg : Nat → Bool} {q0 : Nat → Int} {m : Nat} (h : inK x m) : ∀ j, j ≤ m → ∀ c : Nat, qK x t lg q0 j c = bif domK x j (c : Int) then (posN (y0 x t lg) (lbK x j (c : Int)).toNat : Int) else q0 c
  | 0, _, c => rfl
  | j + 1, hj, c => by
    simp only [qK, domK, lbK]
    by_cases e : x.kd j = 2
    · obtain ⟨q0, q1⟩ := h j (by omega) e
      rw [decide_eq_true e]
      simp only [cond_true, upd, updI]
      by_cases ec : (c : Int) = x.N j
      · have e1 : Nat.beq c (x.N j).toNat = true := by rw [Nat.beq_eq]; omega
        have e2 : ((c : Int) == x.N j) = true := by simp [ec]
        rw [e1, e2]; rfl
      · have e1 : Nat.beq c (x.N j).toNat = false := by rw [Bool.eq_false_iff, ne_eq, Nat.beq_eq]; omega
        have e2 : ((c : Int) == x.N j) = false := by simp [ec]
        rw [e1, e2, cond_false, cond_false, cond_false]
        exact qK_at h j (by omega) c
    · rw [decide_eq_false e, cond_false, cond_false, cond_false]
      exact qK_at h j (by omega) c
theorem qK_lab {x : It} {t : Int} {lg : Nat → Bool} {q0 : Nat → Int} (h : okP t x) (hq : ∀ c : Nat, domK x x.n (c : Int) = false → q0 c = 0) (c : Nat) : qK x t lg q0 x.n c = labQ x t lg c := by
  rw [qK_at (ok_in h) x.n (Nat.le_refl _), labQ]
  cases hd : domK x x.n (c : Int)
  · exact hq c hd
  · rfl
theorem labQ_q {x : It} {t : Int} {lg : Nat → Bool} (c : Nat) (h : domK x x.n (c : Int) = false) : labQ x t lg c = 0 := by
  unfold labQ
  rw [h]; rfl
theorem lab_way {x : It} {t : Int} {lg : Nat → Bool} {i : Nat} (h : okP t x) (hi : i < x.n) (hk : x.kd i = 3 ∨ x.kd i = 4 ∨ x.kd i = 5) : ar .sub .i64 (labQ x t lg (x.N i).toNat) (posP x t lg i) = wyZ (yOf x t lg) i ∧ 0 ≤ x.N i ∧ x.N i ≤ 32000 := by
  have hto := h.2.2.2 i hi
  have hd : domK x x.n (x.N i) = true := by
    unfold toB at hto
    rcases hk with e | e | e <;> rw [e] at hto <;> exact hto
  have hr := dom_at (ok_in h) x.n (Nat.le_refl _) (x.N i)
  rw [hd] at hr
  have hr' : lbrB (x.N i) = true := by
    cases hc : lbrB (x.N i)
    · rw [hc] at hr; cases hr
    · rfl
  simp only [lbrB, Bool.and_eq_true, decide_eq_true_eq] at hr'
  have e : ((x.N i).toNat : Int) = x.N i := by omega
  refine ⟨?_, hr'⟩
  unfold labQ
  rw [e, hd, cond_true]
  rfl

theorem hR_wk (x : It) {f : Bool} {lg lg' : Nat → Bool} {p p' q q' : Nat → Int} {more : Heap} (h1 : ∀ i, i < x.n → lg i = lg' i) (h2 : ∀ i, i < x.n → p i = p' i) (h3 : ∀ i, i < 32001 → q i = q' i) :
    wkH (rmap []) ((0, .tab x.n x.cols f) :: (1104, .tab x.n [.bools lg] true) :: (1168, .tab x.n [.ints .i64 p] true) :: (1200, .tab 32001 [.ints .i64 q] true) :: more) (hR x lg' p' q') := by
  simp only [hR, wkH, wkB, wkCs, wkC, rmap, rlook, Ev.look, It.cols, Nat.beq_eq_true_eq]
  simp
  exact ⟨h1, h2, h3⟩

/-! the placing -/
structure X11b where
  x : It
  t : Int
  lg : Nat → Bool
  p : Nat → Int
  q : Nat → Int
  j : Nat
def ok11b (s : X11b) : Prop := s.j ≤ s.x.n ∧ okP s.t s.x ∧ ∀ c : Nat, domK s.x s.x.n (c : Int) = false → s.q c = 0
def vs11b (s : X11b) : List SV := v11b s.x s.t (posN (y0 s.x s.t s.lg) s.j : Int) s.j
def hp11b (s : X11b) : Heap := hR s.x s.lg (pK s.x s.t s.lg s.p s.j) (qK s.x s.t s.lg s.q s.j)
def out11b (s : X11b) : Vw := .exit 2 164 [.int false .i64 s.t, .sl 0 s.x.n, .sl 1104 s.x.n, .sl 1168 s.x.n, .sl 1200 32001, .any, .any] (hR s.x s.lg (posP s.x s.t s.lg) (labQ s.x s.t s.lg))

theorem entry11b (l : List SV) (H : Heap) (T : Tr) (h : lq11b.get l H = some T) (hb : T.leaf ≠ .bad) : ∃ x r, ok11b x ∧ WkV r lq11b.nm l H (vs11b x) (hp11b x) ∧ T.leaf = toLf lq11b (out11b x) := by
  replace h : get11b l H = some T := h
  unfold get11b at h
  split at h
  · rename_i _ t ka na kl nl kp np kq nq _ h' _ i j0 n1 kd bs N op r1 r2 _ j1 n2 lg j2 n3 p j3 n4 q
    simp only [Option.some.injEq] at h
    subst h
    obtain ⟨hn, he⟩ := needs_ne hb
    rw [he]
    simp only [allB, Bool.and_eq_true, Bool.and_true, decide_eq_true_eq, Nat.beq_eq, rowsB, okB, qB, clsB_iff] at hn
    obtain ⟨rfl, rfl, rfl, rfl, rfl, rfl, rfl, rfl, rfl, rfl, rfl, rfl, rfl, rfl, rfl, rfl, rfl, hok, hq⟩ := hn
    refine ⟨⟨⟨n3, kd, bs, N, op, r1, r2⟩, t, lg, p, q, 0⟩, [], ⟨Nat.zero_le _, hok, hq⟩, ?_, ?_⟩
    · exact ⟨rfl, ⟨⟨rfl, rfl⟩, ⟨rfl, rfl⟩, ⟨rfl, rfl⟩, ⟨rfl, rfl⟩, ⟨rfl, rfl⟩, ⟨rfl, rfl⟩, ⟨rfl, rfl⟩, trivial⟩, hR_wk ⟨n3, kd, bs, N, op, r1, r2⟩ (fun _ _ => rfl) (fun _ _ => rfl) (fun _ _ => rfl), rfl, rfl⟩
    · simp only [exitT_leaf, out11b]
      rfl
  · cases h

theorem lq_11b {E : Env} {P : Program} {res : List ResultVar} {c : Code} {n : Nat} {l : List SV} {H : Heap} : evalB E P res c n lq11b l H = evalB E P res c n lp11b l H := rfl
attribute [local irreducible] evalB Tr.view in
theorem round11b (s : X11b) (hx : ok11b s) : Round lq11b ok11b (fun s => s.x.n - s.j) vs11b hp11b out11b s ((evalB ER Try.prog Try.f11.results.toList (loopOf Try.f11 1) (1 + 1) lq11b (vs11b s) (hp11b s)).view lq11b.ks) := by
  obtain ⟨x, t, lg, p, q, j⟩ := s
  obtain ⟨h0, h1, h2⟩ := hx
  simp only at h0 h1 h2
  have hs := h1.1
  have hr := r11b x t lg (pK x t lg p j) (qK x t lg q j) (posN (y0 x t lg) j) j
  rw [show evalB ER Try.prog Try.f11.results.toList (loopOf Try.f11 1) (1 + 1) lq11b (vs11b ⟨x, t, lg, p, q, j⟩) (hp11b ⟨x, t, lg, p, q, j⟩) = evalB ER Try.prog Try.f11.results.toList (loopOf Try.f11 1) 2 lp11b (v11b x t (posN (y0 x t lg) j) j) (hR x lg (pK x t lg p j) (qK x t lg q j)) from lq_11b, show lq11b.ks = [0, 1, 7, 8, 9, 10, 11] from rfl, hr]
  by_cases hj : j < x.n
  · have hf := fewB_iff.1 (ok_few h1)
    have hb := posN_le (y := y0 x t lg) hf.2 j h0
    have hz : szY (y0 x t lg) j ≤ 64 := szN_le (hf.2 j hj)
    have e1 : cm .lss (j : Int) (x.n : Int) = true := by rw [cm_lss']; exact decide_eq_true (by omega)
    have e2 : decide (0 ≤ (j : Int)) = true := decide_eq_true (by omega)
    have e3 : decide ((j : Int) < (x.n : Int)) = true := decide_eq_true (by omega)
    have e5 : ar .add .i64 (posN (y0 x t lg) j : Int) (szN t (x.kd j) (x.bs j).size (lg j) : Nat) = (posN (y0 x t lg) (j + 1) : Nat) := add64 (by show posN (y0 x t lg) j + szY (y0 x t lg) j < _; omega)
    simp only [e1, e2, e3, blt_t hj, cond_true, Int.toNat_natCast, addOne (show j < 9223372036854775807 by omega), sz_page (one_kd (ok_one h1 hj)), e5]
    have hpk : ∀ i, i < x.n → upd (pK x t lg p j) j (posN (y0 x t lg) j : Int) i = pK x t lg p (j + 1) i := fun i _ => by
      simp only [upd, pK]
      by_cases e : i = j
      · subst e; rw [beq_t, cond_true, blt_t (by omega), cond_true]
      · rw [show Nat.beq i j = false by rw [Bool.eq_false_iff, ne_eq, Nat.beq_eq]; exact e, cond_false]
        by_cases e' : i < j
        · rw [blt_t e', blt_t (show i < j + 1 by omega)]
        · have q1 : Nat.blt i j = false := by rw [Bool.eq_false_iff, ne_eq, Nat.blt_eq]; omega
          have q2 : Nat.blt i (j + 1) = false := by rw [Bool.eq_false_iff, ne_eq, Nat.blt_eq]; omega
          rw [q1, q2]
    by_cases hk : x.kd j = 2
    · obtain ⟨q0, q1⟩ := ok_in h1 j hj hk
      have e4 : cm .eql (x.kd j) 2 = true := by rw [cm_eql']; exact decide_eq_true hk
      simp only [e4, cond_true, decide_eq_true q0, decide_eq_true (show x.N j < 32001 by omega), blt_t (show (x.N j).toNat < 32001 by omega)]
      refine ⟨rfl, ⟨x, t, lg, p, q, j + 1⟩, [], ⟨hj, h1, h2⟩, by show x.n - (j + 1) < x.n - j; omega, rfl, rfl, ?_, ?_, rfl, rfl⟩
      · exact ⟨⟨rfl, rfl⟩, ⟨rfl, rfl⟩, ⟨rfl, rfl⟩, ⟨rfl, rfl⟩, ⟨rfl, rfl⟩, ⟨rfl, rfl⟩, ⟨rfl, rfl⟩, trivial⟩
      · exact hR_wk x (fun _ _ => rfl) hpk (fun _ _ => by simp only [qK, decide_eq_true hk, cond_true])
    · have e4 : cm .eql (x.kd j) 2 = false := by rw [cm_eql']; exact decide_eq_false hk
      simp only [e4, cond_false]
      refine ⟨rfl, ⟨x, t, lg, p, q, j + 1⟩, [], ⟨hj, h1, h2⟩, by show x.n - (j + 1) < x.n - j; omega, rfl, rfl, ?_, ?_, rfl, rfl⟩
      · exact ⟨⟨rfl, rfl⟩, ⟨rfl, rfl⟩, ⟨rfl, rfl⟩, ⟨rfl, rfl⟩, ⟨rfl, rfl⟩, ⟨rfl, rfl⟩, ⟨rfl, rfl⟩, trivial⟩
      · exact hR_wk x (fun _ _ => rfl) hpk (fun _ _ => by simp only [qK, decide_eq_false hk, cond_false])
  · obtain rfl : j = x.n := by omega
    have e1 : cm .lss (x.n : Int) (x.n : Int) = false := by simp [cm]
    simp only [e1, cond_false]
    refine ⟨rfl, [.int false .i64 t, .sl 0 x.n, .sl 1104 x.n, .sl 1168 x.n, .sl 1200 32001, .any, .any], _, [], rfl, rfl, ?_, ?_, rfl, rfl⟩
    · exact ⟨⟨rfl, rfl⟩, ⟨rfl, rfl⟩, ⟨rfl, rfl⟩, ⟨rfl, rfl⟩, ⟨rfl, rfl⟩, trivial, trivial, trivial⟩
    · exact hR_wk x (fun _ _ => rfl) (fun i hi => by simp only [pK, blt_t hi, cond_true, posP]) (fun i _ => qK_lab h1 h2 i)

/-! what turns long -/
structure X11c where
  x : It
  t : Int
  lg : Nat → Bool
  j : Nat
def agK (y : Y) : Nat → Bool
  | 0 => false
  | j + 1 => agK y j || mayB y j
def nxK (y : Y) (j : Nat) : Nat → Bool := fun r => y.lg r || (Nat.blt r j && mayB y r)
theorem agK_iff {y : Y} : ∀ j, agK y j = true ↔ ∃ i, i < j ∧ mayB y i = true
  | 0 => by simp [agK]
  | j + 1 => by
    simp only [agK, Bool.or_eq_true, agK_iff j]
    constructor
    · rintro (⟨i, hi, h⟩ | h)
      · exact ⟨i, by omega, h⟩
      · exact ⟨j, by omega, h⟩
    · rintro ⟨i, hi, h⟩
      by_cases e : i = j
      · subst e; exact .inr h
      · exact .inl ⟨i, by omega, h⟩
theorem agK_any (y : Y) : agK y y.n = anyG y := by
  rw [Bool.eq_iff_iff, agK_iff, anyG_iff]
def ok11c (s : X11c) : Prop := s.j ≤ s.x.n ∧ okP s.t s.x
def vs11c (s : X11c) : List SV := v11c s.x s.t (agK (yOf s.x s.t s.lg) s.j) s.j
def hp11c (s : X11c) : Heap := hRc s.x s.lg (posP s.x s.t s.lg) (labQ s.x s.t s.lg) (nxK (yOf s.x s.t s.lg) s.j)
def out11c (s : X11c) : Vw := .exit 4 164 [.int false .i64 s.t, .sl 0 s.x.n, .sl 1104 s.x.n, .sl 1168 s.x.n, .sl 1200 32001, .bool false (anyG (yOf s.x s.t s.lg)), .sl 1312 s.x.n, .any]
  (hRc s.x s.lg (posP s.x s.t s.lg) (labQ s.x s.t s.lg) (growF (yOf s.x s.t s.lg)))
theorem hRc_wk (x : It) {f : Bool} {lg nx nx' : Nat → Bool} {p q : Nat → Int} (h1 : ∀ i, i < x.n → nx i = nx' i) :
    wkH (rmap []) [(0, .tab x.n x.cols f), (1104, .tab x.n [.bools lg] true), (1168, .tab x.n [.ints .i64 p] true), (1200, .tab 32001 [.ints .i64 q] true), (1312, .tab x.n [.bools nx] true)] (hRc x lg p q nx') := by
  simp only [hRc, wkH, wkB, wkCs, wkC, rmap, rlook, Ev.look, It.cols, Nat.beq_eq_true_eq]
  simp
  exact h1
theorem hRc_wkD (x : It) {f : Bool} {b : Blk} {lg nx nx' : Nat → Bool} {p q : Nat → Int} (h1 : ∀ i, i < x.n → nx i = nx' i) :
    wkH (rmap []) [(0, .tab x.n x.cols f), (1104, .tab x.n [.bools lg] true), (1168, .tab x.n [.ints .i64 p] true), (1200, .tab 32001 [.ints .i64 q] true), (1280, b), (1312, .tab x.n [.bools nx] true)] (hRc x lg p q nx') := by
  simp only [hRc, wkH, wkB, wkCs, wkC, rmap, rlook, Ev.look, It.cols, Nat.beq_eq_true_eq]
  simp
  exact h1

theorem entry11c (l : List SV) (H : Heap) (T : Tr) (h : lq11c.get l H = some T) (hb : T.leaf ≠ .bad) : ∃ x r, ok11c x ∧ WkV r lq11c.nm l H (vs11c x) (hp11c x) ∧ T.leaf = toLf lq11c (out11c x) := by
  replace h : get11c l H = some T := h
  unfold get11c at h
  split at h
  · rename_i _ t ka na kl nl kp np kq nq _ ag kx nx _ i j0 n1 kd bs N op r1 r2 _ j1 n2 lg j2 n3 p j3 n4 q jd _ j4 n5 nx'
    simp only [Option.some.injEq] at h
    subst h
    obtain ⟨hn, he⟩ := needs_ne hb
    rw [he]
    simp only [allB, Bool.and_eq_true, Bool.and_true, decide_eq_true_eq, Nat.beq_eq, rowsB, okB, eqI1, eqB1, clsB_iff, Bool.not_eq_true'] at hn
    obtain ⟨rfl, rfl, rfl, rfl, rfl, rfl, rfl, rfl, rfl, rfl, rfl, rfl, rfl, rfl, rfl, rfl, rfl, rfl, rfl, rfl, rfl, rfl, hok, rfl, rfl, hnx⟩ := hn
    refine ⟨⟨⟨n5, kd, bs, N, op, r1, r2⟩, t, lg, 0⟩, [], ⟨Nat.zero_le _, hok⟩, ?_, ?_⟩
    · refine ⟨rfl, ⟨⟨rfl, rfl⟩, ⟨rfl, rfl⟩, ⟨rfl, rfl⟩, ⟨rfl, rfl⟩, ⟨rfl, rfl⟩, rfl, ⟨rfl, rfl⟩, ⟨rfl, rfl⟩, trivial⟩, hRc_wkD ⟨n5, kd, bs, N, op, r1, r2⟩ (fun i hi => ?_), rfl, rfl⟩
      rw [hnx i hi]
      simp only [nxK, show Nat.blt i 0 = false from rfl, Bool.false_and, Bool.or_false]
      rfl
    · simp only [exitT_leaf, out11c]
      rfl
  · cases h

theorem page_may {x : It} {t : Int} {lg : Nat → Bool} {j : Nat} (h : okP t x) (hj : j < x.n) :
    (bif cm .eql (x.kd j) 3 then bif !lg j then !bif bif cm .eql (x.kd j) 5 then true else bif cm .eql t 1 then cm .eql (x.kd j) 3 else false then true else bif cm .eql t 1 then bif cm .geq (ar .sub .i64 (labQ x t lg (x.N j).toNat) (posP x t lg j)) (-4096) then cm .lss (ar .sub .i64 (labQ x t lg (x.N j).toNat) (posP x t lg j)) 4096 else false else bif cm .geq (ar .sub .i64 (ar .sub .i64 (labQ x t lg (x.N j).toNat) (posP x t lg j)) 2) (-128) then cm .leq (ar .sub .i64 (ar .sub .i64 (labQ x t lg (x.N j).toNat) (posP x t lg j)) 2) 127 else false else false else bif cm .eql (x.kd j) 4 then bif !lg j then !bif bif cm .eql (x.kd j) 5 then true else bif cm .eql t 1 then cm .eql (x.kd j) 3 else false then true else bif cm .eql t 1 then bif cm .geq (ar .sub .i64 (labQ x t lg (x.N j).toNat) (posP x t lg j)) (-4096) then cm .lss (ar .sub .i64 (labQ x t lg (x.N j).toNat) (posP x t lg j)) 4096 else false else bif cm .geq (ar .sub .i64 (ar .sub .i64 (labQ x t lg (x.N j).toNat) (posP x t lg j)) 2) (-128) then cm .leq (ar .sub .i64 (ar .sub .i64 (labQ x t lg (x.N j).toNat) (posP x t lg j)) 2) 127 else false else false else false) = mayB (yOf x t lg) j := by
  have hle : ∀ a : Int, decide (a ≤ 127) = decide (a < 128) := fun a => by rw [Bool.eq_iff_iff]; simp; omega
  simp only [cm_eql', cm_geq', cm_lss', cm_leq', hle]
  show _ = (!lg j && !shB t (x.kd j) (wyZ (yOf x t lg) j))
  by_cases k3 : x.kd j = 3
  · rw [(lab_way (lg := lg) h hj (.inl k3)).1, k3]
    simp only [shB]
    rcases h.2.1 with rfl | rfl
    · cases lg j <;> rfl
    · cases lg j <;> cases decide (-128 ≤ ar .sub .i64 (wyZ (yOf x 2 lg) j) 2) <;> cases decide (ar .sub .i64 (wyZ (yOf x 2 lg) j) 2 < 128) <;> rfl
  by_cases k4 : x.kd j = 4
  · rw [(lab_way (lg := lg) h hj (.inr (.inl k4))).1, k4]
    simp only [shB]
    rcases h.2.1 with rfl | rfl
    · cases lg j <;> cases decide (-4096 ≤ (wyZ (yOf x 1 lg) j)) <;> cases decide ((wyZ (yOf x 1 lg) j) < 4096) <;> rfl
    · cases lg j <;> cases decide (-128 ≤ ar .sub .i64 (wyZ (yOf x 2 lg) j) 2) <;> cases decide (ar .sub .i64 (wyZ (yOf x 2 lg) j) 2 < 128) <;> rfl
  · simp only [shB, decide_eq_false k3, decide_eq_false k4]
    cases lg j <;> rfl

attribute [local irreducible] evalB Tr.view in
theorem round11c (s : X11c) (hx : ok11c s) : Round lq11c ok11c (fun s => s.x.n - s.j) vs11c hp11c out11c s ((evalB ER Try.prog Try.f11.results.toList (loopOf Try.f11 2) (2 + 1) lk11c (vs11c s) (hp11c s)).view lq11c.ks) := by
  obtain ⟨x, t, lg, j⟩ := s
  obtain ⟨h0, h1⟩ := hx
  simp only at h0 h1
  have hs := h1.1
  have hr := r11c x t lg (posP x t lg) (labQ x t lg) (nxK (yOf x t lg) j) (agK (yOf x t lg) j) j
  rw [show evalB ER Try.prog Try.f11.results.toList (loopOf Try.f11 2) (2 + 1) lk11c (vs11c ⟨x, t, lg, j⟩) (hp11c ⟨x, t, lg, j⟩) = evalB ER Try.prog Try.f11.results.toList (loopOf Try.f11 2) 3 lk11c (v11c x t (agK (yOf x t lg) j) j) (hRc x lg (posP x t lg) (labQ x t lg) (nxK (yOf x t lg) j)) from rfl, show lq11c.ks = [0, 1, 7, 8, 9, 12, 13, 14] from rfl, hr]
  by_cases hj : j < x.n
  · have e1 : cm .lss (j : Int) (x.n : Int) = true := by rw [cm_lss']; exact decide_eq_true (by omega)
    have e2 : decide (0 ≤ (j : Int)) = true := decide_eq_true (by omega)
    have e3 : decide ((j : Int) < (x.n : Int)) = true := decide_eq_true (by omega)
    have hg3 : x.kd j = 3 ∨ x.kd j = 4 ∨ x.kd j = 5 → decide (0 ≤ x.N j) = true ∧ decide (x.N j < 32001) = true ∧ Nat.blt (x.N j).toNat 32001 = true := fun hk => by
      obtain ⟨_, q0, q1⟩ := lab_way (lg := lg) h1 hj hk
      exact ⟨decide_eq_true q0, decide_eq_true (by omega), blt_t (by omega)⟩
    have hguard : (bif cm .eql (x.kd j) 3 then allB [true, true, true, true, bif !lg j then allB [true, true, true, true, true, true, true, true, decide (0 ≤ x.N j), decide (x.N j < 32001), (x.N j).toNat.blt 32001, (x.N j).toNat.blt 32001, true, true, true, true] else true] else allB [bif cm .eql (x.kd j) 4 then allB [true, true, true, true, bif !lg j then allB [true, true, true, true, true, true, true, true, decide (0 ≤ x.N j), decide (x.N j < 32001), (x.N j).toNat.blt 32001, (x.N j).toNat.blt 32001, true, true, true, true] else true] else true]) = true := by
      simp only [cm_eql']
      by_cases k3 : x.kd j = 3
      · obtain ⟨a1, a2, a3⟩ := hg3 (.inl k3)
        rw [a1, a2, a3, decide_eq_true k3]
        cases lg j <;> rfl
      · rw [decide_eq_false k3]
        by_cases k4 : x.kd j = 4
        · obtain ⟨a1, a2, a3⟩ := hg3 (.inr (.inl k4))
          rw [a1, a2, a3, decide_eq_true k4]
          cases lg j <;> rfl
        · rw [decide_eq_false k4]; rfl
    simp only [e1, e2, e3, blt_t hj, cond_true, Int.toNat_natCast, addOne (show j < 9223372036854775807 by omega)]
    simp only [hguard, page_may h1 hj, cond_true]
    cases hm : mayB (yOf x t lg) j with
    | true =>
      simp only [cond_true]
      refine ⟨rfl, ⟨x, t, lg, j + 1⟩, [], ⟨hj, h1⟩, by show x.n - (j + 1) < x.n - j; omega, rfl, rfl, ?_, ?_, rfl, rfl⟩
      · refine ⟨⟨rfl, rfl⟩, ⟨rfl, rfl⟩, ⟨rfl, rfl⟩, ⟨rfl, rfl⟩, ⟨rfl, rfl⟩, ?_, ⟨rfl, rfl⟩, ⟨rfl, rfl⟩, trivial⟩
        show true = agK (yOf x t lg) (j + 1)
        simp only [agK, hm, Bool.or_true]
      · refine hRc_wk x fun i hi => ?_
        simp only [upd, nxK]
        by_cases e : i = j
        · subst e; rw [beq_t, cond_true, blt_t (by omega), hm, Bool.and_self, Bool.or_true]
        · rw [show Nat.beq i j = false by rw [Bool.eq_false_iff, ne_eq, Nat.beq_eq]; exact e, cond_false]
          by_cases e' : i < j
          · rw [blt_t e', blt_t (show i < j + 1 by omega)]
          · have q1 : Nat.blt i j = false := by rw [Bool.eq_false_iff, ne_eq, Nat.blt_eq]; omega
            have q2 : Nat.blt i (j + 1) = false := by rw [Bool.eq_false_iff, ne_eq, Nat.blt_eq]; omega
            rw [q1, q2]
    | false =>
      simp only [cond_false]
      refine ⟨rfl, ⟨x, t, lg, j + 1⟩, [], ⟨hj, h1⟩, by show x.n - (j + 1) < x.n - j; omega, rfl, rfl, ?_, ?_, rfl, rfl⟩
      · refine ⟨⟨rfl, rfl⟩, ⟨rfl, rfl⟩, ⟨rfl, rfl⟩, ⟨rfl, rfl⟩, ⟨rfl, rfl⟩, ?_, ⟨rfl, rfl⟩, ⟨rfl, rfl⟩, trivial⟩
        show agK (yOf x t lg) j = agK (yOf x t lg) (j + 1)
        simp only [agK, hm, Bool.or_false]
      · refine hRc_wk x fun i hi => ?_
        simp only [nxK]
        by_cases e : i = j
        · subst e; rw [hm, Bool.and_false, Bool.and_false]
        · by_cases e' : i < j
          · rw [blt_t e', blt_t (show i < j + 1 by omega)]
          · have q1 : Nat.blt i j = false := by rw [Bool.eq_false_iff, ne_eq, Nat.blt_eq]; omega
            have q2 : Nat.blt i (j + 1) = false := by rw [Bool.eq_false_iff, ne_eq, Nat.blt_eq]; omega
            rw [q1, q2]
  · obtain rfl : j = x.n := by omega
    have e1 : cm .lss (x.n : Int) (x.n : Int) = false := by simp [cm]
    simp only [e1, cond_false]
    refine ⟨rfl, [.int false .i64 t, .sl 0 x.n, .sl 1104 x.n, .sl 1168 x.n, .sl 1200 32001, .bool false (anyG (yOf x t lg)), .sl 1312 x.n, .any], _, [], rfl, rfl, ?_, ?_, rfl, rfl⟩
    · exact ⟨⟨rfl, rfl⟩, ⟨rfl, rfl⟩, ⟨rfl, rfl⟩, ⟨rfl, rfl⟩, ⟨rfl, rfl⟩, agK_any (yOf x t lg), ⟨rfl, rfl⟩, trivial, trivial⟩
    · refine hRc_wk x fun i hi => ?_
      simp only [nxK, blt_t hi, Bool.true_and, growF]

end Go.La
end

section
set_option linter.unusedVariables false
open Go Go.Ev Go.Proofs
namespace Go.La

theorem e11c_calls : CallsOk E11c Try.prog := fun f args H nm r h hn => er_calls f args H nm r h hn
theorem e11_calls : CallsOk E11 Try.prog := fun f args H nm r h hn => er_calls f args H nm r h hn
attribute [local irreducible] evalB Tr.view in
theorem loop11b : LoopOk E11c Try.prog Try.f11 1 (loopOf Try.f11 1) :=
  loop_okE mixed (fun S => rfl) (by decide) ok11b (fun s => s.x.n - s.j) vs11b hp11b out11b entry11b fun x hx => ⟨ER, er_calls, loops_noLoop er_loop _ _, round11b x hx⟩
theorem lq_11c {E : Env} {P : Program} {res : List ResultVar} {c : Code} {n : Nat} {l : List SV} {H : Heap} : evalB E P res c n lq11c l H = evalB E P res c n lk11c l H := rfl
attribute [local irreducible] evalB Tr.view in
theorem loop11c : LoopOk E11c Try.prog Try.f11 2 (loopOf Try.f11 2) :=
  loop_okE mixed (fun S => rfl) (by decide) ok11c (fun s => s.x.n - s.j) vs11c hp11c out11c entry11c fun x hx => ⟨ER, er_calls, loops_noLoop er_loop _ _, by rw [lq_11c]; exact round11c x hx⟩
theorem nl11a : Code.loops (loopOf Try.f11 0) = 2 := by kernel_rfl
theorem nth11b : nthLoop (loopOf Try.f11 0) 0 = some (loopOf Try.f11 1) := by kernel_rfl
theorem nth11c : nthLoop (loopOf Try.f11 0) 1 = some (loopOf Try.f11 2) := by kernel_rfl
theorem loops11a : LoopsOk E11c Try.prog Try.f11 (loopOf Try.f11 0) 1 := loopsOk_of _ 1 fun m a hm ha => by
  rw [nl11a] at hm
  rcases m with _ | _ | m
  · rw [nth11b] at ha; simp only [Option.some.injEq] at ha; subst ha; exact loop11b
  · rw [nth11c] at ha; simp only [Option.some.injEq] at ha; subst ha; exact loop11c
  · omega

/-! round after round -/
structure X11a where
  x : It
  t : Int
  lg : Nat → Bool
  p : Nat → Int
  q : Nat → Int
  f : Nat
def ok11a (s : X11a) : Prop := okP s.t s.x ∧ cntF s.lg s.x.n ≤ s.f ∧ finL s.x s.t s.f s.lg = lastL s.x s.t ∧ ∀ c : Nat, domK s.x s.x.n (c : Int) = false → s.q c = 0
def vs11a (s : X11a) : List SV := v11a s.x s.t
def hp11a (s : X11a) : Heap := hR s.x s.lg s.p s.q
def out11a (s : X11a) : Vw := .exit 0 164 [.int false .i64 s.t, .sl 0 s.x.n, .sl 1104 s.x.n, .sl 1168 s.x.n, .sl 1200 32001] (hR s.x (lastL s.x s.t) (posP s.x s.t (lastL s.x s.t)) (labQ s.x s.t (lastL s.x s.t)))

theorem entry11a (l : List SV) (H : Heap) (T : Tr) (h : lq11a.get l H = some T) (hb : T.leaf ≠ .bad) : ∃ x r, ok11a x ∧ WkV r lq11a.nm l H (vs11a x) (hp11a x) ∧ T.leaf = toLf lq11a (out11a x) := by
  replace h : get11a l H = some T := h
  unfold get11a at h
  split at h
  · rename_i _ t ka na kl nl kp np kq nq j0 n1 kd bs N op r1 r2 _ j1 n2 lg j2 n3 p j3 n4 q
    simp only [Option.some.injEq] at h
    subst h
    obtain ⟨hn, he⟩ := needs_ne hb
    rw [he]
    simp only [allB, Bool.and_eq_true, Bool.and_true, decide_eq_true_eq, Nat.beq_eq, rowsB, okB, fB, eqI1, clsB_iff] at hn
    obtain ⟨rfl, rfl, rfl, rfl, rfl, rfl, rfl, rfl, rfl, rfl, rfl, rfl, rfl, rfl, rfl, hok, rfl, rfl⟩ := hn
    refine ⟨⟨⟨n3, kd, bs, N, op, r1, r2⟩, t, fun _ => false, p, fun _ => 0, n3⟩, [], ⟨hok, cntF_n _ _, rfl, fun _ _ => rfl⟩, ?_, ?_⟩
    · exact ⟨rfl, ⟨⟨rfl, rfl⟩, ⟨rfl, rfl⟩, ⟨rfl, rfl⟩, ⟨rfl, rfl⟩, ⟨rfl, rfl⟩, trivial⟩, hR_wk ⟨n3, kd, bs, N, op, r1, r2⟩ (fun _ _ => rfl) (fun _ _ => rfl) (fun _ _ => rfl), rfl, rfl⟩
    · simp only [exitT_leaf, out11a]
      rfl
  · cases h

theorem hR_wkG (x : It) {f : Bool} {lg nx nx' : Nat → Bool} {p q : Nat → Int} (h1 : ∀ i, i < x.n → nx i = nx' i) :
    wkH (rmap [(1104, .old 1312)]) [(0, .tab x.n x.cols f), (1104, .tab x.n [.bools lg] true), (1168, .tab x.n [.ints .i64 p] true), (1200, .tab 32001 [.ints .i64 q] true), (1312, .tab x.n [.bools nx] true)] (hR x nx' p q) := by
  simp [hR, wkH, wkB, wkCs, wkC, rmap, rlook, Ev.look, It.cols]
  exact h1
theorem lq_11a {E : Env} {P : Program} {res : List ResultVar} {c : Code} {n : Nat} {l : List SV} {H : Heap} : evalB E P res c n lq11a l H = evalB E P res c n lk11a l H := rfl
attribute [local irreducible] evalB Tr.view in
theorem round11a (s : X11a) (hx : ok11a s) : Round lq11a ok11a (fun s => s.f) vs11a hp11a out11a s ((evalB E11c Try.prog Try.f11.results.toList (loopOf Try.f11 0) (0 + 1) lk11a (vs11a s) (hp11a s)).view lq11a.ks) := by
  obtain ⟨x, t, lg, p, q, f⟩ := s
  obtain ⟨h0, h1, h2, h3⟩ := hx
  simp only at h0 h1 h2 h3
  have hr := r11a x t lg p q
  rw [show evalB E11c Try.prog Try.f11.results.toList (loopOf Try.f11 0) (0 + 1) lk11a (vs11a ⟨x, t, lg, p, q, f⟩) (hp11a ⟨x, t, lg, p, q, f⟩) = evalB E11c Try.prog Try.f11.results.toList (loopOf Try.f11 0) 1 lk11a (v11a x t) (hR x lg p q) from rfl, show lq11a.ks = [0, 1, 7, 8, 9] from rfl, hr]
  have hs := h0.1
  have a1 : rowsB 32001 = true := cls_t rfl
  have a2 : okB t x = true := cls_t h0
  have a3 : qB x q = true := cls_t h3
  have a4 : eqI1 (posP x t lg) (posP x t lg) = true := cls_t rfl
  have a5 : eqI1 (labQ x t lg) (labQ x t lg) = true := cls_t rfl
  have a6 : eqB1 x.n (cat 0 (fun _ => false) lg) lg = true := cls_t fun i _ => rfl
  have a7 : Nat.beq (0 + x.n) x.n = true := by rw [Nat.beq_eq]; omega
  simp only [a1, a2, a3, a4, a5, a6, a7, beq_t, ble_t (Nat.le_refl x.n), ble_t (show (0 + x.n) * 1 ≤ 1099511627776 by omega), cond_true]
  cases ha : anyG (yOf x t lg) with
  | true =>
    simp only [Bool.not_true, cond_false]
    have hlt : cntF (growF (yOf x t lg)) x.n < cntF lg x.n := grow_cnt ha
    cases f with
    | zero => omega
    | succ f =>
      have hf : finL x t f (growF (yOf x t lg)) = lastL x t := by
        rw [← h2]; simp only [finL, ha, cond_true]
      refine ⟨rfl, ⟨x, t, growF (yOf x t lg), posP x t lg, labQ x t lg, f⟩, [(1104, .old 1312)], ⟨h0, by simp only; omega, hf, fun c hc => labQ_q c hc⟩, Nat.lt_succ_self f, rfl, rfl, ?_, ?_, rfl, rfl⟩
      · exact ⟨⟨rfl, rfl⟩, ⟨rfl, rfl⟩, ⟨rfl, rfl⟩, ⟨rfl, rfl⟩, ⟨rfl, rfl⟩, trivial⟩
      · exact hR_wkG x fun _ _ => rfl
  | false =>
    simp only [Bool.not_false, cond_true]
    have hl : lg = lastL x t := by
      rw [← h2]
      cases f with
      | zero => rfl
      | succ f => simp only [finL, ha, cond_false]
    refine ⟨rfl, [.int false .i64 t, .sl 0 x.n, .sl 1104 x.n, .sl 1168 x.n, .sl 1200 32001], _, [(1104, .old 1312)], rfl, rfl, ?_, ?_, rfl, rfl⟩
    · exact ⟨⟨rfl, rfl⟩, ⟨rfl, rfl⟩, ⟨rfl, rfl⟩, ⟨rfl, rfl⟩, ⟨rfl, rfl⟩, trivial⟩
    · show wkH _ _ (hR x (lastL x t) (posP x t (lastL x t)) (labQ x t (lastL x t)))
      rw [← hl]
      refine hR_wkG x fun i hi => ?_
      show (lg i || mayB (yOf x t lg) i) = lg i
      have : mayB (yOf x t lg) i = false := by
        rw [Bool.eq_false_iff]
        intro hm
        have : anyG (yOf x t lg) = true := anyG_iff.2 ⟨i, hi, hm⟩
        rw [ha] at this; cases this
      rw [this, Bool.or_false]
attribute [local irreducible] evalB Tr.view in
theorem loop11a : LoopOk E11 Try.prog Try.f11 0 (loopOf Try.f11 0) :=
  loop_okE mixed (fun S => rfl) (by decide) ok11a (fun s => s.f) vs11a hp11a out11a entry11a fun x hx => ⟨E11c, e11c_calls, loops11a, by rw [lq_11a]; exact round11a x hx⟩

/-! the bytes -/
structure X11d where
  x : It
  t : Int
  j : Nat
def ok11d (s : X11d) : Prop := s.j ≤ s.x.n ∧ okP s.t s.x
def hpD (x : It) (t : Int) (m : Nat) (g : Nat → Int) : Heap := hRb x (lastL x t) (posP x t (lastL x t)) (labQ x t (lastL x t)) m g
def vs11d (s : X11d) : List SV := v11d s.x s.t (catB (yL s.x s.t) s.j).size s.j
def hp11d (s : X11d) : Heap := hpD s.x s.t (catB (yL s.x s.t) s.j).size (chr (catB (yL s.x s.t) s.j))
def out11d (s : X11d) : Vw := .exit 6 164 [.any, .any, .any, .sl 1168 s.x.n, .any, .sl 1800 (outB s.x s.t).size, .any] (hpD s.x s.t (outB s.x s.t).size (chr (outB s.x s.t)))

theorem hRb_wkN (x : It) {f : Bool} {lg : Nat → Bool} {p q : Nat → Int} {g : Nat → Int} :
    wkH (rmap [(1800, .nil 1)]) [(0, .tab x.n x.cols f), (1104, .tab x.n [.bools lg] true), (1168, .tab x.n [.ints .i64 p] true), (1200, .tab 32001 [.ints .i64 q] true)] (hRb x lg p q 0 g) := by
  simp [hRb, hR, wkH, wkB, wkCs, wkC, wkN, rmap, rlook, Ev.look, It.cols]
theorem hRb_wk (x : It) {f : Bool} {lg : Nat → Bool} {p q : Nat → Int} {m : Nat} {g g' : Nat → Int} {more : Heap} (hg : ∀ i, i < m → g i = g' i) :
    wkH (rmap []) ((0, .tab x.n x.cols f) :: (1104, .tab x.n [.bools lg] true) :: (1168, .tab x.n [.ints .i64 p] true) :: (1200, .tab 32001 [.ints .i64 q] true) :: (1800, .tab m [.ints .u8 g] true) :: more) (hRb x lg p q m g') := by
  simp [hRb, hR, wkH, wkB, wkCs, wkC, rmap, rlook, Ev.look, It.cols]
  exact hg
theorem hRb_wkA (x : It) {f : Bool} {lg : Nat → Bool} {p q : Nat → Int} {m k : Nat} {b c : Blk} {g g' : Nat → Int} (hk : k = 2172 ∨ k = 2444 ∨ k = 2476 ∨ k = 2508) (hg : ∀ i, i < m → g i = g' i) :
    wkH (rmap [(1800, .old k)]) [(0, .tab x.n x.cols f), (1104, .tab x.n [.bools lg] true), (1168, .tab x.n [.ints .i64 p] true), (1200, .tab 32001 [.ints .i64 q] true), (1800, b), (2028, c), (k, .tab m [.ints .u8 g] true)] (hRb x lg p q m g') := by
  rcases hk with rfl | rfl | rfl | rfl <;> (simp [hRb, hR, wkH, wkB, wkCs, wkC, rmap, rlook, Ev.look, It.cols]; exact hg)

theorem entry11d (l : List SV) (H : Heap) (T : Tr) (h : lq11d.get l H = some T) (hb : T.leaf ≠ .bad) : ∃ x r, ok11d x ∧ WkV r lq11d.nm l H (vs11d x) (hp11d x) ∧ T.leaf = toLf lq11d (out11d x) := by
  replace h : get11d l H = some T := h
  unfold get11d at h
  split at h
  · rename_i _ t ka na kl nl kp np kq nq _ i j0 n1 kd bs N op r1 r2 _ j1 n2 lg j2 n3 p j3 n4 q
    simp only [Option.some.injEq] at h
    subst h
    obtain ⟨hn, he⟩ := needs_ne hb
    rw [he]
    simp only [allB, Bool.and_eq_true, Bool.and_true, decide_eq_true_eq, Nat.beq_eq, rowsB, okB, eqI1, clsB_iff] at hn
    obtain ⟨rfl, rfl, rfl, rfl, rfl, rfl, rfl, rfl, rfl, rfl, rfl, rfl, rfl, rfl, rfl, rfl, hok, rfl, rfl, rfl⟩ := hn
    refine ⟨⟨⟨n3, kd, bs, N, op, r1, r2⟩, t, 0⟩, [(1800, .nil 1)], ⟨Nat.zero_le _, hok⟩, ?_, ?_⟩
    · exact ⟨rfl, ⟨⟨rfl, rfl⟩, ⟨rfl, rfl⟩, ⟨rfl, rfl⟩, ⟨rfl, rfl⟩, ⟨rfl, rfl⟩, ⟨trivial, rfl, 1, rfl⟩, ⟨rfl, rfl⟩, trivial⟩, hRb_wkN ⟨n3, kd, bs, N, op, r1, r2⟩, rfl, rfl⟩
    · simp only [exitT_leaf, out11d]
      rfl
  · cases h

theorem byI_1 {y : Y} {i : Nat} (h : y.kd i = 1) : byI y i = y.bs i := by unfold byI; rw [decide_eq_true h]; rfl
theorem byI_2 {y : Y} {i : Nat} (h : y.kd i = 2) : byI y i = .empty := by unfold byI; rw [h]; rfl
theorem byI_w {y : Y} {i : Nat} (h : y.kd i = 3 ∨ y.kd i = 4 ∨ y.kd i = 5) : byI y i = byY y i := by
  unfold byI
  rcases h with h | h | h <;> rw [h] <;> rfl
theorem out_small {x : It} {t : Int} (h : okP t x) : ∀ j, j ≤ x.n → (catB (yL x t) j).size ≤ 64 * j := catB_le (y := yL x t) fun i hi => by
  have hi' : i < x.n := hi
  rw [by_size h hi']
  exact szN_le ((fewB_iff.1 (ok_few h)).2 i hi')
theorem app_empty (a : ByteArray) : a ++ ByteArray.empty = a := ByteArray.append_empty

attribute [local irreducible] evalB Tr.view byK in
theorem round11d (s : X11d) (hx : ok11d s) : Round lq11d ok11d (fun s => s.x.n - s.j) vs11d hp11d out11d s ((evalB ER Try.prog Try.f11.results.toList (loopOf Try.f11 3) (3 + 1) lp11d (vs11d s) (hp11d s)).view lq11d.ks) := by
  obtain ⟨x, t, j⟩ := s
  obtain ⟨h0, h1⟩ := hx
  simp only at h0 h1
  have hs := h1.1
  have hr := r11d x t (lastL x t) (posP x t (lastL x t)) (labQ x t (lastL x t)) (catB (yL x t) j).size (chr (catB (yL x t) j)) j
  rw [show evalB ER Try.prog Try.f11.results.toList (loopOf Try.f11 3) (3 + 1) lp11d (vs11d ⟨x, t, j⟩) (hp11d ⟨x, t, j⟩) = evalB ER Try.prog Try.f11.results.toList (loopOf Try.f11 3) 4 lp11d (v11d x t (catB (yL x t) j).size j) (hRb x (lastL x t) (posP x t (lastL x t)) (labQ x t (lastL x t)) (catB (yL x t) j).size (chr (catB (yL x t) j))) from rfl, show lq11d.ks = [0, 1, 7, 8, 9, 16, 17] from rfl, hr]
  by_cases hj : j < x.n
  · have e1 : cm .lss (j : Int) (x.n : Int) = true := by rw [cm_lss']; exact decide_eq_true (by omega)
    have e2 : decide (0 ≤ (j : Int)) = true := decide_eq_true (by omega)
    have e3 : decide ((j : Int) < (x.n : Int)) = true := decide_eq_true (by omega)
    have hb := out_small h1 j h0
    have hb1 : (byI (yL x t) j).size ≤ 64 := by
      rw [by_size h1 hj]
      exact szN_le ((fewB_iff.1 (ok_few h1)).2 j hj)
    have hkd := one_kd (ok_one h1 hj)
    have hw : x.kd j = 3 ∨ x.kd j = 4 ∨ x.kd j = 5 → byK t (x.kd j) (x.op j) (x.r1 j) (x.r2 j) (lastL x t j) (x.bs j).size (ar .sub .i64 (labQ x t (lastL x t) (x.N j).toNat) (posP x t (lastL x t) j)) = byI (yL x t) j := fun hk => by
      rw [(lab_way h1 hj hk).1, byI_w hk]
      rfl
    have hw2 : x.kd j = 3 ∨ x.kd j = 4 ∨ x.kd j = 5 → decide (0 ≤ x.N j) = true ∧ decide (x.N j < 32001) = true ∧ Nat.blt (x.N j).toNat 32001 = true := fun hk => by
      obtain ⟨_, q0, q1⟩ := lab_way (lg := lastL x t) h1 hj hk
      exact ⟨decide_eq_true q0, decide_eq_true (by omega), blt_t (by omega)⟩
    have hnext : ∀ k, k = 2172 ∨ k = 2444 ∨ k = 2476 ∨ k = 2508 → ∀ (b c : Blk) (f : Bool), Round lq11d ok11d (fun s => s.x.n - s.j) vs11d hp11d out11d ⟨x, t, j⟩
        (.norm 164 [.int false .i64 t, .sl 0 x.n, .sl 1104 x.n, .sl 1168 x.n, .sl 1200 32001, .sl k ((catB (yL x t) j).size + (byI (yL x t) j).size), .int false .i64 ((j + 1 : Nat) : Int)]
          [(0, .tab x.n x.cols f), (1104, .tab x.n [.bools (lastL x t)] true), (1168, .tab x.n [.ints .i64 (posP x t (lastL x t))] true), (1200, .tab 32001 [.ints .i64 (labQ x t (lastL x t))] true), (1800, b), (2028, c),
            (k, .tab ((catB (yL x t) j).size + (byI (yL x t) j).size) [.ints .u8 (cat (catB (yL x t) j).size (chr (catB (yL x t) j)) (chr (byI (yL x t) j)))] true)]) := fun k hk b c f => by
      refine ⟨rfl, ⟨x, t, j + 1⟩, [(1800, .old k)], ⟨hj, h1⟩, by show x.n - (j + 1) < x.n - j; omega, rfl, ?_, ?_, ?_, ?_, rfl⟩
      · rcases hk with rfl | rfl | rfl | rfl <;> rfl
      · refine ⟨⟨rfl, rfl⟩, ⟨rfl, rfl⟩, ⟨rfl, rfl⟩, ⟨rfl, rfl⟩, ⟨rfl, rfl⟩, ⟨?_, ?_⟩, ⟨rfl, rfl⟩, trivial⟩
        · rcases hk with rfl | rfl | rfl | rfl <;> rfl
        · exact (app_size _ _).symm
      · show wkH _ _ (hRb x _ _ _ (catB (yL x t) j ++ byI (yL x t) j).size (chr (catB (yL x t) j ++ byI (yL x t) j)))
        rw [app_size]
        exact hRb_wkA x hk fun i _ => chr_app _ _ i
      · rcases hk with rfl | rfl | rfl | rfl <;> rfl
    simp only [e1, e2, e3, blt_t hj, cond_true, Int.toNat_natCast, addOne (show j < 9223372036854775807 by omega), ble_t (Nat.le_refl _)]
    rcases hkd with k | k | k | k | k
    · have c1 : cm .eql (x.kd j) 1 = true := by rw [k]; rfl
      have hb1' : (x.bs j).size ≤ 64 := (fewB_iff.1 (ok_few h1)).2 j hj
      simp only [c1, cond_true, ble_t (show ((catB (yL x t) j).size + (x.bs j).size) * 1 ≤ 1099511627776 by omega)]
      have := hnext 2172 (.inl rfl)
      rw [byI_1 (y := yL x t) k] at this
      exact this _ _ _
    · have c1 : cm .eql (x.kd j) 1 = false := by rw [k]; rfl
      have c3 : cm .eql (x.kd j) 3 = false := by rw [k]; rfl
      have c4 : cm .eql (x.kd j) 4 = false := by rw [k]; rfl
      have c5 : cm .eql (x.kd j) 5 = false := by rw [k]; rfl
      simp only [c1, c3, c4, c5, cond_false]
      have hcat : catB (yL x t) (j + 1) = catB (yL x t) j := by
        show catB (yL x t) j ++ byI (yL x t) j = _
        rw [byI_2 (y := yL x t) k, app_empty]
      refine ⟨rfl, ⟨x, t, j + 1⟩, [], ⟨hj, h1⟩, by show x.n - (j + 1) < x.n - j; omega, rfl, rfl, ?_, ?_, rfl, rfl⟩
      · exact ⟨⟨rfl, rfl⟩, ⟨rfl, rfl⟩, ⟨rfl, rfl⟩, ⟨rfl, rfl⟩, ⟨rfl, rfl⟩, ⟨rfl, by rw [hcat]⟩, ⟨rfl, rfl⟩, trivial⟩
      · show wkH _ _ (hRb x _ _ _ (catB (yL x t) (j + 1)).size (chr (catB (yL x t) (j + 1))))
        rw [hcat]
        exact hRb_wk x fun _ _ => rfl
    · have c1 : cm .eql (x.kd j) 1 = false := by rw [k]; rfl
      have c3 : cm .eql (x.kd j) 3 = true := by rw [k]; rfl
      obtain ⟨a1, a2, a3⟩ := hw2 (.inl k)
      simp only [c1, c3, a1, a2, a3, cond_false, cond_true, hw (.inl k), cls_t (show x.kd j = 3 ∨ x.kd j = 4 ∨ x.kd j = 5 from .inl k), ble_t (show ((catB (yL x t) j).size + (byI (yL x t) j).size) * 1 ≤ 1099511627776 by omega)]
      exact hnext 2444 (.inr (.inl rfl)) _ _ _
    · have c1 : cm .eql (x.kd j) 1 = false := by rw [k]; rfl
      have c3 : cm .eql (x.kd j) 3 = false := by rw [k]; rfl
      have c4 : cm .eql (x.kd j) 4 = true := by rw [k]; rfl
      obtain ⟨a1, a2, a3⟩ := hw2 (.inr (.inl k))
      simp only [c1, c3, c4, a1, a2, a3, cond_false, cond_true, hw (.inr (.inl k)), cls_t (show x.kd j = 3 ∨ x.kd j = 4 ∨ x.kd j = 5 from .inr (.inl k)), ble_t (show ((catB (yL x t) j).size + (byI (yL x t) j).size) * 1 ≤ 1099511627776 by omega)]
      exact hnext 2476 (.inr (.inr (.inl rfl))) _ _ _
    · have c1 : cm .eql (x.kd j) 1 = false := by rw [k]; rfl
      have c3 : cm .eql (x.kd j) 3 = false := by rw [k]; rfl
      have c4 : cm .eql (x.kd j) 4 = false := by rw [k]; rfl
      have c5 : cm .eql (x.kd j) 5 = true := by rw [k]; rfl
      obtain ⟨a1, a2, a3⟩ := hw2 (.inr (.inr k))
      simp only [c1, c3, c4, c5, a1, a2, a3, cond_false, cond_true, hw (.inr (.inr k)), cls_t (show x.kd j = 3 ∨ x.kd j = 4 ∨ x.kd j = 5 from .inr (.inr k)), ble_t (show ((catB (yL x t) j).size + (byI (yL x t) j).size) * 1 ≤ 1099511627776 by omega)]
      exact hnext 2508 (.inr (.inr (.inr rfl))) _ _ _
  · obtain rfl : j = x.n := by omega
    have e1 : cm .lss (x.n : Int) (x.n : Int) = false := by simp [cm]
    simp only [e1, cond_false]
    refine ⟨rfl, [.any, .any, .any, .sl 1168 x.n, .any, .sl 1800 (outB x t).size, .any], _, [], rfl, rfl, ?_, ?_, rfl, rfl⟩
    · exact ⟨trivial, trivial, trivial, ⟨rfl, rfl⟩, trivial, ⟨rfl, rfl⟩, trivial, trivial⟩
    · exact hRb_wk x fun _ _ => rfl

theorem lq_11d {E : Env} {P : Program} {res : List ResultVar} {c : Code} {n : Nat} {l : List SV} {H : Heap} : evalB E P res c n lq11d l H = evalB E P res c n lp11d l H := rfl
attribute [local irreducible] evalB Tr.view in
theorem loop11d : LoopOk E11 Try.prog Try.f11 3 (loopOf Try.f11 3) :=
  loop_okE mixed (fun S => rfl) (by decide) ok11d (fun s => s.x.n - s.j) vs11d hp11d out11d entry11d fun x hx => ⟨ER, er_calls, loops_noLoop er_loop _ _, by rw [lq_11d]; exact round11d x hx⟩

end Go.La
end

section
set_option linter.unusedVariables false
open Go Go.Ev Go.Proofs
namespace Go.La

theorem fn11 : Try.prog.funcs[11]? = some Try.f11 := by kernel_rfl
theorem b11 : Try.f11.body = some (bodyOf Try.f11) := by kernel_rfl
theorem n11 : (Try.f11.name == "runtime.NumGoroutine") = false := by kernel_rfl
theorem nl11 : Code.loops (bodyOf Try.f11) = 4 := by kernel_rfl
theorem nth11_0 : nthLoop (bodyOf Try.f11) 0 = some (loopOf Try.f11 0) := by kernel_rfl
theorem nth11_3 : nthLoop (bodyOf Try.f11) 3 = some (loopOf Try.f11 3) := by kernel_rfl
theorem loops11 : LoopsOk E11 Try.prog Try.f11 (bodyOf Try.f11) 0 := loopsOk_of _ 0 fun m a hm ha => by
  rw [nl11] at hm
  rcases m with _ | _ | _ | _ | m
  · rw [nth11_0] at ha; simp only [Option.some.injEq] at ha; subst ha; exact loop11a
  · exact fun S T hT => by cases hT
  · exact fun S T hT => by cases hT
  · rw [nth11_3] at ha; simp only [Option.some.injEq] at ha; subst ha; exact loop11d
  · omega

theorem out_pos {x : It} {t : Int} (h : okP t x) : ∀ j, j ≤ x.n → (catB (yL x t) j).size = posN (y0 x t (lastL x t)) j
  | 0, _ => rfl
  | j + 1, hj => by
    simp only [catB, app_size, posN]
    rw [out_pos h j (by omega), by_size h (show j < x.n by omega)]
    rfl
theorem out_end {x : It} {t : Int} (h : okP t x) : ((outB x t).size : Int) = endN x t := by
  rw [outB, out_pos h x.n (Nat.le_refl _)]
  rfl

noncomputable def g11 (b : Bool) : List SV → Heap → Option R
  | [.int false .i64 t, .sl k n], [(j0, .tab n1 [.ints .i64 kd, .strs bs, .ints .i64 N, .ints .i64 op, .ints .i64 r1, .ints .i64 r2] _)] => match Nat.beq k 0 && Nat.beq j0 0 with
    | true => some ⟨[Nat.beq n n1, okB t ⟨n1, kd, bs, N, op, r1, r2⟩, clsB (fitB ⟨n1, kd, bs, N, op, r1, r2⟩ t = b)], .tup [.str (outB ⟨n1, kd, bs, N, op, r1, r2⟩ t), .sl 1024 n1, .bool true b], [(1024, .tab n1 [.ints .i64 (yL ⟨n1, kd, bs, N, op, r1, r2⟩ t).pos] true)]⟩
    | false => none
  | _, _ => none
attribute [local irreducible] evalF catB in
theorem spec11 (b : Bool) : SpecOk Try.prog 11 (specOf (g11 b)) := spec_okA false e11_calls mixed fn11 b11 n11 loops11 (g11 b) fun a0 H0 r hg hn => by
  unfold g11 at hg
  split at hg
  · rename_i t k n j0 n1 kd bs N op r1 r2 _
    split at hg
    · rename_i hk
      simp only [Bool.and_eq_true, Nat.beq_eq] at hk
      obtain ⟨rfl, rfl⟩ := hk
      simp only [Option.some.injEq] at hg
      subst hg
      simp only [allB, Bool.and_eq_true, Bool.and_true, Nat.beq_eq, clsB_iff] at hn
      obtain ⟨rfl, hok, hfit⟩ := hn
      refine ⟨_, id, fun _ => rfl, ?_⟩
      show GivesD _ (evalF E11 Try.prog 11 [.int false .i64 t, .sl 0 n] (hI ⟨n, kd, bs, N, op, r1, r2⟩) 1024).leaf
      rw [t11 ⟨n, kd, bs, N, op, r1, r2⟩ t]
      generalize hx : (⟨n, kd, bs, N, op, r1, r2⟩ : It) = x at *
      have hP : okP t x := clsB_iff.1 hok
      have hs := hP.1
      have hfar : cm .leq ((outB x t).size : Int) 258048 = b := by
        rw [← hfit, out_end hP, cm_leq', fitB]
        rw [Bool.eq_iff_iff, clsB_iff, decide_eq_true_iff]
      have hn1 : n = x.n := by rw [← hx]
      subst hn1
      repeat' refine gd_need (by first | exact beq_t _ | exact hok | exact decide_eq_true (by omega) | exact ble_t (by omega) | exact blt_t (by omega) | exact clsB_iff.2 trivial | exact clsB_iff.2 rfl | exact (Nat.beq_eq _ _).2 (Int.toNat_natCast _)) ?_
      refine ⟨[(1024, .old 1168)], rfl, fun σ => ?_, ?_, rfl⟩
      · simp only [strOf_chr, hfar]
        rfl
      · simp [wkH, wkB, wkCs, wkC, rmap, rlook, Ev.look]
        exact fun _ _ => rfl
    · cases hg
  · cases hg

end Go.La
end

section
set_option linter.unusedVariables false
open Go Go.Ev Go.Proofs
namespace Go.La

theorem ext_left (a b : ByteArray) {i j : Nat} (h : j ≤ a.size) : (a ++ b).extract i j = a.extract i j := by
  apply X.ba_ext
  · simp only [ByteArray.size_extract, ByteArray.size_append]; omega
  · intro k hk
    simp only [ByteArray.size_extract, ByteArray.size_append] at hk
    rw [X.chr_extract _ i j k (by rw [ByteArray.size_append]; omega) (by omega), X.chr_extract _ i j k h (by omega), chr_appL _ _ (by omega)]
theorem ext_right (a b : ByteArray) : (a ++ b).extract a.size (a.size + b.size) = b := by
  apply X.ba_ext
  · simp only [ByteArray.size_extract, ByteArray.size_append]; omega
  · intro k hk
    simp only [ByteArray.size_extract, ByteArray.size_append] at hk
    rw [X.chr_extract _ _ _ k (by rw [ByteArray.size_append]; omega) (by omega), chr_appR]
theorem posN_up (y : Y) {i : Nat} : ∀ {j}, i ≤ j → posN y i ≤ posN y j
  | 0, h => by
    obtain rfl : i = 0 := by omega
    exact Nat.le_refl _
  | j + 1, h => by
    by_cases e : i = j + 1
    · subst e; exact Nat.le_refl _
    · have := posN_up y (show i ≤ j by omega)
      simp only [posN]; omega
/-- an item's bytes, cut out of all bytes -/
theorem cat_ext {x : It} {t : Int} (h : okP t x) {i : Nat} (hi : i < x.n) : ∀ j, i < j → j ≤ x.n → (catB (yL x t) j).extract (posN (y0 x t (lastL x t)) i) (posN (y0 x t (lastL x t)) (i + 1)) = byI (yL x t) i
  | 0, h1, _ => by omega
  | j + 1, h1, h2 => by
    simp only [catB]
    by_cases e : i = j
    · subst e
      have hz := out_pos h i (by omega)
      rw [← hz, posN, show szY (y0 x t (lastL x t)) i = (byI (yL x t) i).size from (by_size h hi).symm, ← hz]
      exact ext_right _ _
    · rw [ext_left _ _ (by rw [out_pos h j (by omega)]; exact posN_up _ (by omega))]
      exact cat_ext h hi j (by omega) (by omega)

/-! rv: all places are fours -/
theorem sz_four {x : It} {lg : Nat → Bool} (h : okP 1 x) {i : Nat} (hi : i < x.n) : szY (y0 x 1 lg) i % 4 = 0 := by
  show szN 1 (x.kd i) (x.bs i).size (lg i) % 4 = 0
  have ho := val_one h.2.2.1 hi
  unfold oneB at ho
  by_cases h1 : x.kd i = 1
  · rw [h1] at ho ⊢
    simp at ho
    simp only [szN]
    exact ho.2.2.2.2.2
  · unfold szN
    rw [decide_eq_false h1]
    rw [decide_eq_true (show (1 : Int) = 1 from rfl)]
    cases decide (x.kd i = 2) <;> cases decide (x.kd i = 5) <;> cases decide (x.kd i = 3) <;> cases lg i <;> simp
theorem pos_four {x : It} {lg : Nat → Bool} (h : okP 1 x) : ∀ r, r ≤ x.n → posN (y0 x 1 lg) r % 4 = 0
  | 0, _ => rfl
  | r + 1, hr => by
    have a := pos_four (lg := lg) h r (by omega)
    have b := sz_four (lg := lg) h (show r < x.n by omega)
    simp only [posN]
    omega
theorem end_nat (x : It) (t : Int) : endN x t = (posN (y0 x t (lastL x t)) x.n : Int) := rfl
theorem way_rng {x : It} {t : Int} (h : okP t x) (hf : endN x t ≤ 258048) {i : Nat} (hi : i < x.n) : -258048 ≤ wyZ (yL x t) i ∧ wyZ (yL x t) i ≤ 258048 ∧ (t = 1 → wyZ (yL x t) i % 4 = 0) := by
  have hw := (way_eq (lg := lastL x t) h hi).1
  have h1 := lbK_range x (x.N i) x.n
  have e : wyZ (yL x t) i = ((posN (y0 x t (lastL x t)) (lbK x x.n (x.N i)).toNat : Nat) : Int) - ((posN (y0 x t (lastL x t)) i : Nat) : Int) := hw
  rw [end_nat] at hf
  have m1 := posN_up (y0 x t (lastL x t)) (show (lbK x x.n (x.N i)).toNat ≤ x.n by omega)
  have m2 := posN_up (y0 x t (lastL x t)) (show i ≤ x.n by omega)
  rw [e]
  refine ⟨by omega, by omega, fun ht => ?_⟩
  subst ht
  have f1 := pos_four (lg := lastL x 1) h (lbK x x.n (x.N i)).toNat (by omega)
  have f2 := pos_four (lg := lastL x 1) h i (by omega)
  omega

theorem err_j {rd m : Int} (hr : rd = 0 ∨ rd = 1) (h0 : -1048576 ≤ m) (h1 : m < 1048576) (h2 : m % 2 = 0) : Rv.errL 3 rd 0 0 m = 0 := by
  unfold Rv.errL
  rw [show Rv.kindL 3 = 7 from rfl]
  have a : Rv.regsL 7 rd 0 0 = true := by rcases hr with rfl | rfl <;> rfl
  have b : Rv.fitsL 7 m = true := by simp [Rv.fitsL, Rv.inL, h0, h1, h2]
  rw [a, b]
  rfl
theorem kind_b {op : Int} (h : 5 ≤ op ∧ op ≤ 10) : Rv.kindL op = 5 := by
  have : op = 5 ∨ op = 6 ∨ op = 7 ∨ op = 8 ∨ op = 9 ∨ op = 10 := by omega
  rcases this with rfl | rfl | rfl | rfl | rfl | rfl <;> rfl
theorem opp_rng {op : Int} (h : 5 ≤ op ∧ op ≤ 10) : 5 ≤ oppI op ∧ oppI op ≤ 10 := by
  have : op = 5 ∨ op = 6 ∨ op = 7 ∨ op = 8 ∨ op = 9 ∨ op = 10 := by omega
  rcases this with rfl | rfl | rfl | rfl | rfl | rfl <;> decide
theorem err_b {op r1 r2 m : Int} (h : 5 ≤ op ∧ op ≤ 10) (a : 0 ≤ r1) (a' : r1 < 32) (b : 0 ≤ r2) (b' : r2 < 32) (h0 : -4096 ≤ m) (h1 : m < 4096) (h2 : m % 2 = 0) : Rv.errL op 0 r1 r2 m = 0 := by
  unfold Rv.errL
  rw [kind_b h]
  have e1 : Rv.regsL 5 0 r1 r2 = true := by simp [Rv.regsL, Rv.regL, Rv.hasL, a, a', b, b']
  have e2 : Rv.fitsL 5 m = true := by simp [Rv.fitsL, Rv.inL, h0, h1, h2]
  rw [e1, e2, decide_eq_false (show ¬ op < 1 by omega), decide_eq_false (show ¬ 63 < op by omega)]
  rfl
theorem way_x {k c m w : Int} {z : Nat} (hk : k = 40 ∨ k = 42 ∨ k = 43 ∨ k = 44 ∨ k = 45) (he : X.errX k 4 c 0 m = 0) (hs : (X.strX k 4 c 0 m).size = z) (hm : m = w - z) (h0 : -258048 ≤ w) (h1 : w ≤ 258048) (hz : z ≤ 8) : WayB 2 (X.strX k 4 c 0 m) w := by
  have := WayB.x k c m hk he (by omega)
  rw [hs] at this
  rwa [show (z : Int) + m = w by omega] at this

/-- each way's bytes -/
theorem way_item {x : It} {t : Int} (h : okP t x) (hf : endN x t ≤ 258048) {i : Nat} (hi : i < x.n) (hk : x.kd i = 3 ∨ x.kd i = 4 ∨ x.kd i = 5) : WayB t (byI (yL x t) i) (wyZ (yL x t) i) := by
  have hw := way_rng h hf hi
  have ho := val_one h.2.2.1 hi
  have hsh := yL_short (t := t) hi
  have hb : byI (yL x t) i = bif decide (x.kd i = 1) then x.bs i else bif decide (x.kd i = 2) then .empty else byK t (x.kd i) (x.op i) (x.r1 i) (x.r2 i) ((yL x t).lg i) (x.bs i).size (wyZ (yL x t) i) := rfl
  rw [hb]
  obtain ⟨hw1, hw2, hw3⟩ := hw
  revert hsh
  generalize wyZ (yL x t) i = w at *
  generalize (yL x t).lg i = lg at *
  intro hsh
  unfold oneB at ho
  rw [decide_eq_false (show ¬ x.kd i = 1 by omega), decide_eq_false (show ¬ x.kd i = 2 by omega), cond_false, cond_false]
  have sub : ∀ k : Nat, k ≤ 64 → ar .sub .i64 w (k : Int) = w - k := fun k hk => by
    simp only [ar, IntKind.wrap_i64]; omega
  rcases h.2.1 with rfl | rfl
  · have hw3 := hw3 rfl
    rcases hk with e | e | e <;> rw [e] at ho hsh ⊢
    · exact WayB.a 3 0 0 0 w (err_j (.inl rfl) (by omega) (by omega) (by omega))
    · simp [condB] at ho
      obtain ⟨_, o1, o2, o3, o4, o5, o6⟩ := ho
      cases lg
      · have hs := hsh rfl
        have hs : (decide (-4096 ≤ w) && decide (w < 4096)) = true := hs
        simp only [Bool.and_eq_true, decide_eq_true_eq] at hs
        exact WayB.a (x.op i) 0 (x.r1 i) (x.r2 i) w (err_b ⟨o1, o2⟩ o3 o4 o5 o6 hs.1 hs.2 (by omega))
      · have := opp_rng ⟨o1, o2⟩
        show WayB 1 (wd4 (oppI (x.op i)) 0 (x.r1 i) (x.r2 i) 8 ++ wd4 3 0 0 0 (ar .sub .i64 w 4)) w
        have e4 : ar .sub .i64 w 4 = w - 4 := sub 4 (by decide)
        rw [e4]
        have := WayB.b (oppI (x.op i)) (x.r1 i) (x.r2 i) (w - 4) (err_b this o3 o4 o5 o6 (by decide) (by decide) (by decide)) (by omega) (err_j (.inl rfl) (by omega) (by omega) (by omega))
        rwa [show 4 + (w - 4) = w by omega] at this
    · exact WayB.a 3 1 0 0 w (err_j (.inr rfl) (by omega) (by omega) (by omega))
  · rcases hk with e | e | e <;> rw [e] at ho hsh ⊢
    · cases lg
      · have hs := hsh rfl
        have hs : (decide (-128 ≤ ar .sub .i64 w 2) && decide (ar .sub .i64 w 2 < 128)) = true := hs
        have e2 : ar .sub .i64 w 2 = w - 2 := sub 2 (by decide)
        rw [e2] at hs
        simp only [Bool.and_eq_true, decide_eq_true_eq] at hs
        show WayB 2 (X.strX 43 4 0 0 (ar .sub .i64 w 2)) w
        rw [e2]
        have he : X.errX 43 4 0 0 (w - 2) = 0 := by
          rw [e43, decide_eq_true hs.1, decide_eq_true (show w - 2 ≤ 127 by omega)]
          rfl
        exact way_x (z := 2) (by omega) he (str_size he (z43 _)) (by omega) hw1 hw2 (by decide)
      · show WayB 2 (X.strX 42 4 0 0 (ar .sub .i64 w ((5 : Nat) : Int))) w
        rw [sub 5 (by omega)]
        have he : X.errX 42 4 0 0 (w - ((5 : Nat) : Int)) = 0 := by
          rw [e42, decide_eq_true (show -2147483648 ≤ w - ((5 : Nat) : Int) by omega), decide_eq_true (show w - ((5 : Nat) : Int) ≤ 2147483647 by omega)]
          rfl
        exact way_x (z := 5) (by omega) he (str_size he (z42 _)) rfl hw1 hw2 (by decide)
    · have hc : X.condX (x.op i) = true := by
        simp only [condB] at ho
        simp at ho
        simp only [X.condX]
        simp
        omega
      cases lg
      · have hs := hsh rfl
        have hs : (decide (-128 ≤ ar .sub .i64 w 2) && decide (ar .sub .i64 w 2 < 128)) = true := hs
        have e2 : ar .sub .i64 w 2 = w - 2 := sub 2 (by decide)
        rw [e2] at hs
        simp only [Bool.and_eq_true, decide_eq_true_eq] at hs
        show WayB 2 (X.strX 45 4 (x.op i) 0 (ar .sub .i64 w 2)) w
        rw [e2]
        have he : X.errX 45 4 (x.op i) 0 (w - 2) = 0 := by
          rw [e45, hc, decide_eq_true hs.1, decide_eq_true (show w - 2 ≤ 127 by omega)]
          rfl
        exact way_x (z := 2) (by omega) he (str_size he (z45 _ _)) (by omega) hw1 hw2 (by decide)
      · show WayB 2 (X.strX 44 4 (x.op i) 0 (ar .sub .i64 w ((6 : Nat) : Int))) w
        rw [sub 6 (by omega)]
        have he : X.errX 44 4 (x.op i) 0 (w - ((6 : Nat) : Int)) = 0 := by
          rw [e44, hc, decide_eq_true (show -2147483648 ≤ w - ((6 : Nat) : Int) by omega), decide_eq_true (show w - ((6 : Nat) : Int) ≤ 2147483647 by omega)]
          rfl
        exact way_x (z := 6) (by omega) he (str_size he (z44 _ _)) rfl hw1 hw2 (by decide)
    · have hz : szN 2 5 (x.bs i).size lg = 5 := by cases lg <;> rfl
      show WayB 2 (X.strX 40 4 0 0 (ar .sub .i64 w (szN 2 5 (x.bs i).size lg : Nat))) w
      rw [hz, sub 5 (by omega)]
      have he : X.errX 40 4 0 0 (w - ((5 : Nat) : Int)) = 0 := by
        rw [e40, decide_eq_true (show -2147483648 ≤ w - ((5 : Nat) : Int) by omega), decide_eq_true (show w - ((5 : Nat) : Int) ≤ 2147483647 by omega)]
        rfl
      exact way_x (z := 5) (by omega) he (str_size he (z40 _)) rfl hw1 hw2 (by decide)

end Go.La
end

section
set_option linter.unusedVariables false
open Go Go.Ev Go.Proofs
namespace Go.La

/-- what Heavy reckons -/
def hvF (x : It) : Nat → Nat → Int → Int
  | 0, _, n => n
  | f + 1, i, n => bif decide (i < x.n) && decide (n < 1048576) then hvF x f (i + 1) (ar .add .i64 n ((x.bs i).size : Int)) else n
def hvN (x : It) : Int := hvF x x.n 0 (x.n : Int)
def heavyP (x : It) : Bool := decide (20000 < hvN x)
def h8 (x : It) (t : Int) : Heap := [(0, .tab x.n x.cols false), (1024, .cells [.int false .i64 t, .sl 0 x.n])]
def v8 (n i : Int) : List SV := [.ptr 1024 0 0, .int false .i64 n, .int false .i64 i]
def lk8 : Lp := ⟨30, [1, 3, 4], 1136, fun _ _ => none⟩
def get8 : List SV → Heap → Option Tr
  | [.ptr k r c, .int _ .i64 n, .int _ .i64 i], [(j0, .tab n1 [.ints .i64 kd, .strs bs, .ints .i64 N, .ints .i64 op, .ints .i64 r1, .ints .i64 r2] _), (j1, .cells [.int _ .i64 t, .sl k0 n0])] =>
    some (Tr.needs [Nat.beq k 1024, Nat.beq r 0, Nat.beq c 0, decide (n = n1), decide (i = 0), Nat.beq j0 0, Nat.beq j1 1024, Nat.beq k0 0, Nat.beq n0 n1, Nat.ble n1 4611686018427387904]
      (exitT lk8 0 [.any, .int false .i64 (hvN ⟨n1, kd, bs, N, op, r1, r2⟩), .any] []))
  | _, _ => none
def lq8 : Lp := { lk8 with get := get8 }
noncomputable def E8 : Env := ⟨EI.call, loopEnv [(0, lq8)]⟩
/-! two items -/
def x2 : It := ⟨2, nth [2, 3] 0, nth [⟨#[]⟩, ⟨#[]⟩] ByteArray.empty, nth [1, 1] 0, nth [0, 0] 0, nth [0, 0] 0, nth [0, 0] 0⟩
noncomputable def E15 : Env := inlF Try.prog (envOf [(9, specOf g9T), (13, specOf g13)] noLoop) [12] [] [] 3
theorem named12 : named Try.prog [12] = true := by kernel_rfl
theorem e15_calls : CallsOk E15 Try.prog := (inlF_calls ((SpecsOk.cons spec9T (SpecsOk.cons spec13 SpecsOk.nil)).calls noLoop) mixed named12 rfl rfl 3).1
theorem e15_loop : E15.loop = noLoop := rfl
--LEAVES

theorem r8 (x : It) (t : Int) (n : Int) (i : Int) : (evalB EI Try.prog Try.f8.results.toList (loopOf Try.f8 0) 1 lk8 (v8 n i) (h8 x t)).view [1, 3, 4] =
    (bif (bif cm BinOp.lss i (↑x.n : Int) then cm BinOp.lss n 1048576 else false) then
      bif (decide (0 ≤ i)) then
        bif (decide (i < (↑x.n : Int))) then
          bif (Nat.blt (i.toNat) (x.n)) then
            bif (Nat.blt (i.toNat) (x.n)) then
              .norm 30 [(.ptr 1024 0 0), (.int false IntKind.i64 (ar BinOp.add IntKind.i64 n (↑(x.bs i.toNat).size : Int))), (.int false IntKind.i64 (ar BinOp.add IntKind.i64 i 1))] [(0, .tab (x.n) [.ints IntKind.i64 (x.kd), .strs (x.bs), .ints IntKind.i64 (x.N), .ints IntKind.i64 (x.op), .ints IntKind.i64 (x.r1), .ints IntKind.i64 (x.r2)] false), (1024, .cells [(.int false IntKind.i64 (t)), (.sl 0 (x.n))])]
            else .bad
          else .bad
        else .bad
      else .bad
    else
      .exit 0 30 [(.ptr 1024 0 0), (.int false IntKind.i64 (n)), (.int false IntKind.i64 (i))] [(0, .tab (x.n) [.ints IntKind.i64 (x.kd), .strs (x.bs), .ints IntKind.i64 (x.N), .ints IntKind.i64 (x.op), .ints IntKind.i64 (x.r1), .ints IntKind.i64 (x.r2)] false), (1024, .cells [(.int false IntKind.i64 (t)), (.sl 0 (x.n))])]) := by kernel_rfl

theorem t8 (x : It) (t : Int) : (evalF E8 Try.prog 8 [SV.agg [SV.int false IntKind.i64 t, SV.sl 0 x.n]] (hI x) 1024).bare =
    (bif (decide ((↑x.n : Int) = (↑x.n : Int))) then
      bif (Nat.beq (x.n) (x.n)) then
        bif (Nat.ble (x.n) (4611686018427387904)) then
          .ret (.bool false (cm BinOp.gtr (hvN x) 20000)) []
        else .bad
      else .bad
    else .bad) := by kernel_rfl

theorem t15  : (evalF E15 Try.prog 15 [] [] 1024).bare =
    (bif (okB 2 x2) then
      bif (fitB x2 2) then
        bif (eqA 2 (yL x2 2).pos (nth [0, 0] 0)) then
          .ret (.bool true true) []
        else .bad
      else .bad
    else .bad) := by kernel_rfl

end Go.La
end

section
set_option linter.unusedVariables false
open Go Go.Ev Go.Proofs
namespace Go.La

/-! Heavy -/
structure X8 where
  x : It
  t : Int
  i : Nat
  n : Int
def ok8 (s : X8) : Prop := s.i ≤ s.x.n ∧ s.x.n ≤ 4611686018427387904 ∧ hvF s.x (s.x.n - s.i) s.i s.n = hvN s.x
def vs8 (s : X8) : List SV := v8 s.n s.i
def hp8 (s : X8) : Heap := h8 s.x s.t
def out8 (s : X8) : Vw := .exit 0 30 [.any, .int false .i64 (hvN s.x), .any] []
theorem entry8 (l : List SV) (H : Heap) (T : Tr) (h : lq8.get l H = some T) (hb : T.leaf ≠ .bad) : ∃ x r, ok8 x ∧ WkV r lq8.nm l H (vs8 x) (hp8 x) ∧ T.leaf = toLf lq8 (out8 x) := by
  replace h : get8 l H = some T := h
  unfold get8 at h
  split at h
  · rename_i k r c _ n _ i j0 n1 kd bs N op r1 r2 _ j1 _ t k0 n0
    simp only [Option.some.injEq] at h
    subst h
    obtain ⟨hn, he⟩ := needs_ne hb
    rw [he]
    simp only [allB, Bool.and_eq_true, Bool.and_true, decide_eq_true_eq, Nat.beq_eq, Nat.ble_eq] at hn
    obtain ⟨rfl, rfl, rfl, rfl, rfl, rfl, rfl, rfl, rfl, hs⟩ := hn
    refine ⟨⟨⟨n0, kd, bs, N, op, r1, r2⟩, t, 0, (n0 : Int)⟩, [], ⟨Nat.zero_le _, hs, rfl⟩, ?_, ?_⟩
    · refine ⟨rfl, ⟨⟨rfl, rfl, rfl⟩, ⟨rfl, rfl⟩, ⟨rfl, rfl⟩, trivial⟩, ?_, rfl, rfl⟩
      simp [hp8, h8, wkH, wkB, wkCs, wkC, simL, sim, rmap, rlook, Ev.look, It.cols]
    · simp only [exitT_leaf, out8]
      rfl
  · cases h
theorem h8_wk (x : It) (t : Int) {f l : Bool} : wkH (rmap []) [(0, .tab x.n x.cols f), (1024, .cells [.int l .i64 t, .sl 0 x.n])] (h8 x t) := by
  simp [h8, wkH, wkB, wkCs, wkC, simL, sim, rmap, rlook, Ev.look, It.cols]
attribute [local irreducible] evalB Tr.view in
theorem round8 (s : X8) (hx : ok8 s) : Round lq8 ok8 (fun s => s.x.n - s.i) vs8 hp8 out8 s ((evalB EI Try.prog Try.f8.results.toList (loopOf Try.f8 0) (0 + 1) lk8 (vs8 s) (hp8 s)).view lq8.ks) := by
  obtain ⟨x, t, i, n⟩ := s
  obtain ⟨h0, hs, h1⟩ := hx
  simp only at h0 h1 hs
  have hr := r8 x t n i
  rw [show evalB EI Try.prog Try.f8.results.toList (loopOf Try.f8 0) (0 + 1) lk8 (vs8 ⟨x, t, i, n⟩) (hp8 ⟨x, t, i, n⟩) = evalB EI Try.prog Try.f8.results.toList (loopOf Try.f8 0) 1 lk8 (v8 n i) (h8 x t) from rfl, show lq8.ks = [1, 3, 4] from rfl, hr]
  have hc : (bif cm .lss (i : Int) (x.n : Int) then cm .lss n 1048576 else false) = (decide (i < x.n) && decide (n < 1048576)) := by
    rw [cm_lss', cm_lss']
    by_cases hi : i < x.n
    · rw [decide_eq_true hi, decide_eq_true (show (i : Int) < x.n by omega)]; rfl
    · rw [decide_eq_false hi, decide_eq_false (show ¬ (i : Int) < x.n by omega)]; rfl
  rw [hc]
  by_cases hi : i < x.n
  · obtain ⟨f, hf⟩ : ∃ f, x.n - i = f + 1 := ⟨x.n - i - 1, by omega⟩
    rw [hf] at h1
    simp only [hvF] at h1
    rw [decide_eq_true hi, Bool.true_and] at h1 ⊢
    have e2 : decide (0 ≤ (i : Int)) = true := decide_eq_true (by omega)
    have e3 : decide ((i : Int) < (x.n : Int)) = true := decide_eq_true (by omega)
    simp only [e2, e3, blt_t hi, cond_true, Int.toNat_natCast, addOne (show i < 9223372036854775807 by omega)]
    cases hn : decide (n < 1048576) with
    | true =>
      rw [hn, cond_true] at h1
      simp only [cond_true]
      refine ⟨rfl, ⟨x, t, i + 1, ar .add .i64 n ((x.bs i).size : Int)⟩, [], ⟨hi, hs, by rw [← h1]; show hvF x (x.n - (i + 1)) _ _ = _; rw [show x.n - (i + 1) = f by omega]⟩, by show x.n - (i + 1) < x.n - i; omega, rfl, rfl, ?_, ?_, rfl, rfl⟩
      · exact ⟨⟨rfl, rfl, rfl⟩, ⟨rfl, rfl⟩, ⟨rfl, rfl⟩, trivial⟩
      · exact h8_wk x t
    | false =>
      rw [hn, cond_false] at h1
      simp only [cond_false]
      refine ⟨rfl, [.any, .int false .i64 (hvN x), .any], _, [], rfl, rfl, ?_, trivial, rfl, rfl⟩
      exact ⟨trivial, ⟨rfl, h1⟩, trivial, trivial⟩
  · obtain rfl : i = x.n := by omega
    rw [decide_eq_false (show ¬ x.n < x.n by omega), Bool.false_and]
    simp only [cond_false]
    rw [Nat.sub_self] at h1
    refine ⟨rfl, [.any, .int false .i64 (hvN x), .any], _, [], rfl, rfl, ?_, trivial, rfl, rfl⟩
    exact ⟨trivial, ⟨rfl, h1⟩, trivial, trivial⟩
theorem e8_calls : CallsOk E8 Try.prog := fun f args H nm r h hn => ei_calls f args H nm r h hn
theorem lq_8 {E : Env} {P : Program} {res : List ResultVar} {c : Code} {n : Nat} {l : List SV} {H : Heap} : evalB E P res c n lq8 l H = evalB E P res c n lk8 l H := rfl
theorem fn8 : Try.prog.funcs[8]? = some Try.f8 := by kernel_rfl
theorem b8 : Try.f8.body = some (bodyOf Try.f8) := by kernel_rfl
theorem n8 : (Try.f8.name == "runtime.NumGoroutine") = false := by kernel_rfl
theorem nl8 : Code.loops (bodyOf Try.f8) = 1 := by kernel_rfl
theorem nth8 : nthLoop (bodyOf Try.f8) 0 = some (loopOf Try.f8 0) := by kernel_rfl
attribute [local irreducible] evalB Tr.view in
theorem loop8 : LoopOk E8 Try.prog Try.f8 0 (loopOf Try.f8 0) :=
  loop_okE mixed (fun S => rfl) (by decide) ok8 (fun s => s.x.n - s.i) vs8 hp8 out8 entry8 fun x hx => ⟨EI, ei_calls, loops_noLoop ei_loop _ _, by rw [lq_8]; exact round8 x hx⟩
theorem loops8 : LoopsOk E8 Try.prog Try.f8 (bodyOf Try.f8) 0 := loops1 nl8 fun a ha => by
  rw [nth8] at ha; simp only [Option.some.injEq] at ha; subst ha; exact loop8
/-- is it heavy -/
noncomputable def hvB (x : It) (b : Bool) : Bool := clsB (heavyP x = b)
noncomputable def g8 (b : Bool) : List SV → Heap → Option R
  | [.agg [.int false .i64 t, .sl k n]], [(j0, .tab n1 [.ints .i64 kd, .strs bs, .ints .i64 N, .ints .i64 op, .ints .i64 r1, .ints .i64 r2] _)] => match Nat.beq k 0 && Nat.beq j0 0 with
    | true => some ⟨[Nat.beq n n1, Nat.ble n1 4611686018427387904, hvB ⟨n1, kd, bs, N, op, r1, r2⟩ b], .bool true b, []⟩
    | false => none
  | _, _ => none
attribute [local irreducible] evalF Lf.gives in
theorem spec8 (b : Bool) : SpecOk Try.prog 8 (specOf (g8 b)) := spec_okA false e8_calls mixed fn8 b8 n8 loops8 (g8 b) fun a0 H0 r hg hn => by
  unfold g8 at hg
  split at hg
  · rename_i t k n j0 n1 kd bs N op r1 r2 _
    split at hg
    · rename_i hk
      simp only [Bool.and_eq_true, Nat.beq_eq] at hk
      obtain ⟨rfl, rfl⟩ := hk
      simp only [Option.some.injEq] at hg
      subst hg
      simp only [allB, Bool.and_eq_true, Bool.and_true, Nat.beq_eq, hvB, clsB_iff] at hn
      obtain ⟨rfl, hs, hb⟩ := hn
      refine ⟨_, id, fun _ => rfl, ?_⟩
      show GivesD _ (evalF E8 Try.prog 8 [.agg [.int false .i64 t, .sl 0 n]] (hI ⟨n, kd, bs, N, op, r1, r2⟩) 1024).leaf
      refine gives_giv (gives_tree (t8 ⟨n, kd, bs, N, op, r1, r2⟩ t) ?_)
      simp only [beq_t, hs, decide_true, cond_true]
      refine gives_ret fun σ σ' => ?_
      simp only [den]
      rw [← hb]
      rfl
    · cases hg
  · cases hg

/-! wakes -/
theorem ok2 : okP 2 x2 := by
  refine ⟨by decide, .inr rfl, by kernel_rfl, fun i hi => ?_⟩
  have hi : i < 2 := hi
  have h0 : toB x2 (domK x2 2) 0 = true := by kernel_rfl
  have h1 : toB x2 (domK x2 2) 1 = true := by kernel_rfl
  rcases i with _ | _ | i
  · exact h0
  · exact h1
  · omega
theorem pos2 : ∀ i, i < 2 → (yL x2 2).pos i = nth [0, 0] 0 i := fun i hi => by
  rcases i with _ | _ | i
  · kernel_rfl
  · kernel_rfl
  · omega
theorem end2 : endN x2 2 = 2 := by kernel_rfl
theorem fn15 : Try.prog.funcs[15]? = some Try.f15 := by kernel_rfl
theorem b15 : Try.f15.body = some (bodyOf Try.f15) := by kernel_rfl
theorem n15 : (Try.f15.name == "runtime.NumGoroutine") = false := by kernel_rfl
def g15 : List SV → Heap → Option R
  | [], [] => some ⟨[], .bool true true, []⟩
  | _, _ => none
attribute [local irreducible] evalF Lf.gives in
theorem spec15 : SpecOk Try.prog 15 (specOf g15) := spec_okA false e15_calls mixed fn15 b15 n15 (loops_noLoop e15_loop _ _) g15 fun a0 H0 r hg hn => by
  unfold g15 at hg
  split at hg
  · simp only [Option.some.injEq] at hg
    subst hg
    refine ⟨_, id, fun _ => rfl, ?_⟩
    show GivesD _ (evalF E15 Try.prog 15 [] [] 1024).leaf
    refine gives_giv (gives_tree t15 ?_)
    rw [show okB 2 x2 = true from cls_t ok2, show fitB x2 2 = true from cls_t (by rw [end2]; decide), eqA_iff.2 pos2]
    exact gives_ret fun σ σ' => rfl
  · cases hg

/-! nothing is the same as nothing -/
def v13N (i : Int) : List SV := [.val (.slice none 0 0), .val (.slice none 0 0), .int false .i64 i]
noncomputable def get13N : List SV → Heap → Option Tr
  | [.val (.slice none 0 0), .val (.slice none 0 0), .int _ .i64 i], _ => some (Tr.needs [decide (i = 0)] (exitT lk13 0 [.any, .any, .any] []))
  | _, _ => none
noncomputable def lp13N : Lp := { lk13 with get := get13N }
noncomputable def E13N : Env := ⟨EN.call, loopEnv [(0, lp13N)]⟩
/-! of one target -/
theorem snilC : SpecsOk Try.prog [] := SpecsOk.nil
noncomputable def g13N : List SV → Heap → Option R
  | [.val (.slice none 0 0), .val (.slice none 0 0)], [] => some ⟨[], .bool true true, []⟩
  | _, _ => none
noncomputable def E16H : Env := envOf [(8, specOf (g8 true))] noLoop
noncomputable def E16T : Env := inlF Try.prog (envOf [(8, specOf (g8 false)), (9, specOf g9T), (10, specOf g10T), (11, specOf (g11 true)), (13, specOf g13), (15, specOf g15)] noLoop) [12] [] [] 3
noncomputable def E16R : Env := inlF Try.prog (envOf [(8, specOf (g8 false)), (9, specOf g9R), (10, specOf g10T), (11, specOf (g11 false)), (13, specOf g13N), (15, specOf g15)] noLoop) [12] [] [] 3
noncomputable def E16F : Env := inlF Try.prog (envOf [(8, specOf (g8 false)), (9, specOf g9F), (10, specOf g10F), (13, specOf g13N), (15, specOf g15)] noLoop) [12] [] [] 3
--LEAVES

theorem r13N  : (evalB EN Try.prog Try.f13.results.toList (loopOf Try.f13 0) 1 lk13 (v13N 0) []).view [0, 1, 5] =
    (.exit 0 26 [(.val (Value.slice none 0 0)), (.val (Value.slice none 0 0)), (.int false IntKind.i64 0)] []) := by kernel_rfl

theorem t13N  : (evalF E13N Try.prog 13 [SV.val (Value.slice none 0 0), SV.val (Value.slice none 0 0)] [] 1024).bare =
    (.ret (.bool true true) []) := by kernel_rfl

theorem t16H (x : It) (t : Int) (q : Int) : (evalF E16H Try.prog 16 [SV.agg [SV.int false IntKind.i64 q, SV.sl 0 x.n], SV.int false IntKind.i64 t] (hI x) 1024).bare =
    (bif (Nat.beq (x.n) (x.n)) then
      bif (Nat.ble (x.n) (4611686018427387904)) then
        bif (hvB x true) then
          .ret (.bool true true) []
        else .bad
      else .bad
    else .bad) := by kernel_rfl

theorem t16T (x : It) (t : Int) (q : Int) : (evalF E16T Try.prog 16 [SV.agg [SV.int false IntKind.i64 q, SV.sl 0 x.n], SV.int false IntKind.i64 t] (hI x) 1024).bare =
    (bif (Nat.beq (x.n) (x.n)) then
      bif (Nat.ble (x.n) (4611686018427387904)) then
        bif (hvB x false) then
          bif (Nat.beq (x.n) (x.n)) then
            bif (okB t x) then
              bif (fitB x t) then
                bif (Nat.beq (x.n) (x.n)) then
                  bif (okB t x) then
                    bif (Nat.beq (x.n) (x.n)) then
                      bif (okB t x) then
                        bif (clsB (fitB x t = true)) then
                          bif (bif seq (outB x t) (outB x t) then allB [x.n.beq x.n, x.n.beq x.n, x.n.beq x.n, eqA x.n (yL x t).pos (yL x t).pos, x.n.ble 100000000] else true) then
                            .ret (.bool false (bif seq (outB x t) (outB x t) then true else false)) []
                          else .bad
                        else .bad
                      else .bad
                    else .bad
                  else .bad
                else .bad
              else .bad
            else .bad
          else .bad
        else .bad
      else .bad
    else .bad) := by kernel_rfl

theorem t16R (x : It) (t : Int) (q : Int) : (evalF E16R Try.prog 16 [SV.agg [SV.int false IntKind.i64 q, SV.sl 0 x.n], SV.int false IntKind.i64 t] (hI x) 1024).bare =
    (bif (Nat.beq (x.n) (x.n)) then
      bif (Nat.ble (x.n) (4611686018427387904)) then
        bif (hvB x false) then
          bif (Nat.beq (x.n) (x.n)) then
            bif (okB t x) then
              bif (farB x t) then
                bif (Nat.beq (x.n) (x.n)) then
                  bif (okB t x) then
                    bif (Nat.beq (x.n) (x.n)) then
                      bif (okB t x) then
                        bif (clsB (fitB x t = false)) then
                          .ret (.bool false true) []
                        else .bad
                      else .bad
                    else .bad
                  else .bad
                else .bad
              else .bad
            else .bad
          else .bad
        else .bad
      else .bad
    else .bad) := by kernel_rfl

theorem t16F (x : It) (t : Int) (q : Int) : (evalF E16F Try.prog 16 [SV.agg [SV.int false IntKind.i64 q, SV.sl 0 x.n], SV.int false IntKind.i64 t] (hI x) 1024).bare =
    (bif (Nat.beq (x.n) (x.n)) then
      bif (Nat.ble (x.n) (4611686018427387904)) then
        bif (hvB x false) then
          bif (Nat.beq (x.n) (x.n)) then
            bif (Nat.ble (x.n) (4611686018427387904)) then
              bif (noB t x) then
                bif (Nat.beq (x.n) (x.n)) then
                  bif (noB t x) then
                    .ret (.bool false true) []
                  else .bad
                else .bad
              else .bad
            else .bad
          else .bad
        else .bad
      else .bad
    else .bad) := by kernel_rfl

end Go.La
end
