/-
  rv: what Encode says, in plain Lean.
-/
import Derived.Test.YtidihpmjndfbgaaC3
import Derived.Test.YtidihpmjndfbgaaB4
import Derived.Laws.BitsLemmas
set_option linter.unusedSimpArgs false
set_option linter.unusedVariables false
section
set_option linter.unusedVariables false
open Go Go.Ev Go.Proofs
namespace Go.Rv

def W (n : Int) : BitVec 32 := BitVec.ofInt 32 n
def hasL (k : Int) : Bool × Bool × Bool :=
  if k = 0 then (true, true, true) else if k = 1 ∨ k = 2 ∨ k = 3 then (true, true, false) else if k = 4 ∨ k = 5 then (false, true, true) else if k = 6 ∨ k = 7 then (true, false, false) else (false, false, false)
def regL (n : Int) (h : Bool) : Bool := decide (0 ≤ n) && (decide (n < 32) && (h || n == 0))
def regsL (k rd r1 r2 : Int) : Bool := regL rd (hasL k).1 && (regL r1 (hasL k).2.1 && regL r2 (hasL k).2.2)
def inL (a b n : Int) : Bool := decide (a ≤ n) && decide (n < b)
def fitsL (k n : Int) : Bool :=
  if k = 1 ∨ k = 4 then inL (-2048) 2048 n else if k = 2 then inL 0 64 n else if k = 3 then inL 0 32 n
  else if k = 5 then inL (-4096) 4096 n && (n % 2 == 0) else if k = 6 then inL 0 1048576 n else if k = 7 then inL (-1048576) 1048576 n && (n % 2 == 0) else n == 0
def kindL (op : Int) : Int := nth kinds 0 (op - 1).toNat
def errL (op rd r1 r2 n : Int) : Int :=
  bif decide (op < 1) || decide (63 < op) then 1 else bif regsL (kindL op) rd r1 r2 then (bif fitsL (kindL op) n then 0 else 10) else 1
def immB (k : Int) (n : BitVec 32) : BitVec 32 :=
  if k = 1 ∨ k = 2 ∨ k = 3 then n <<< 20
  else if k = 4 then ((n &&& 31#32) <<< 7) ||| (((n >>> 5) &&& 127#32) <<< 25)
  else if k = 5 then (((((n >>> 11) &&& 1#32) <<< 7) ||| (((n >>> 1) &&& 15#32) <<< 8)) ||| (((n >>> 5) &&& 63#32) <<< 25)) ||| (((n >>> 12) &&& 1#32) <<< 31)
  else if k = 6 then n <<< 12
  else if k = 7 then (((((n >>> 12) &&& 255#32) <<< 12) ||| (((n >>> 11) &&& 1#32) <<< 20)) ||| (((n >>> 1) &&& 1023#32) <<< 21)) ||| (((n >>> 20) &&& 1#32) <<< 31)
  else 0#32
def wordB (k lo mi f rd r1 r2 n : Int) : BitVec 32 :=
  W lo ||| W rd <<< 7 ||| W mi <<< 12 ||| W r1 <<< 15 ||| W r2 <<< 20 ||| W f <<< 25 ||| immB k (W n)
def wordOf (op rd r1 r2 n : Int) : BitVec 32 := wordB (kindL op) (nth lows 0 (op - 1).toNat) (nth mids 0 (op - 1).toNat) (nth fs 0 (op - 1).toNat) rd r1 r2 n
def wordL (op rd r1 r2 n : Int) : Int := bif errL op rd r1 r2 n == 0 then iv .u32 (wordOf op rd r1 r2 n) else 0

/-- rv.Encode, gantletref18.Encode -/
def sEnc : Ev.Spec := fun args H nm => match args with
  | [.agg [.int _ .i64 op, .int _ .i64 rd, .int _ .i64 r1, .int _ .i64 r2, .int _ .i64 n]] => some ⟨[], .tup [.int false .u32 (wordL op rd r1 r2 n), .int false .i64 (errL op rd r1 r2 n)], []⟩
  | _ => none

theorem kind_cases (i : Nat) (hi : i < 63) : nth kinds 0 i = 0 ∨ nth kinds 0 i = 1 ∨ nth kinds 0 i = 2 ∨ nth kinds 0 i = 3 ∨ nth kinds 0 i = 4 ∨ nth kinds 0 i = 5 ∨ nth kinds 0 i = 6 ∨ nth kinds 0 i = 7 ∨ nth kinds 0 i = 8 := by
  have : ((List.range 63).all fun i => let k := nth kinds 0 i; k == 0 || (k == 1 || (k == 2 || (k == 3 || (k == 4 || (k == 5 || (k == 6 || (k == 7 || k == 8)))))))) = true := by kernel_rfl
  have := List.all_eq_true.1 this i (List.mem_range.2 hi)
  simpa using this

theorem cm_eql' (a b : Int) : cm .eql a b = decide (a = b) := by simp only [cm]; rfl
theorem cm_lss' (a b : Int) : cm .lss a b = decide (a < b) := rfl
theorem cm_leq' (a b : Int) : cm .leq a b = decide (a ≤ b) := rfl
theorem cm_gtr' (a b : Int) : cm .gtr a b = decide (b < a) := rfl
theorem cm_geq' (a b : Int) : cm .geq a b = decide (b ≤ a) := rfl

end Go.Rv
end

section
set_option linter.unusedVariables false
open Go Go.Ev Go.Proofs
namespace Go.Rv

theorem sub1 {op : Int} (h1 : 1 ≤ op) (h2 : op ≤ 63) : ar .sub .i64 op 1 = op - 1 := by
  simp only [ar, IntKind.wrap_i64]; omega

theorem and1 (n : Int) (h1 : -9223372036854775808 ≤ n) (h2 : n < 9223372036854775808) : cm .eql (ar .and .i64 n 1) 0 = (n % 2 == 0) := by
  have : ar .and .i64 n 1 = n % 2 := by
    have hm : (BitVec.ofInt 64 n &&& BitVec.ofInt 64 1).toNat = (n % 2).toNat := by
      rw [BitVec.toNat_and]
      have : (BitVec.ofInt 64 1).toNat = 2 ^ 1 - 1 := by decide
      rw [this, Nat.and_two_pow_sub_one_eq_mod, BitVec.toNat_ofInt]
      omega
    have he : ar .and .i64 n 1 = IntKind.i64.wrap ((BitVec.ofInt 64 n &&& BitVec.ofInt 64 1).toNat : Int) := rfl
    rw [he, hm, IntKind.wrap_i64]
    omega
  rw [this]
  rfl

/-- a leaf that gives these two numbers -/
theorem gives2 {l1 l2 l1' l2' : Bool} {a a' b b' : Int} (h1 : a = a') (h2 : b = b') : (Lf.ret (.tup [.int l1 .u32 a, .int l2 .i64 b]) []).gives (.tup [.int l1' .u32 a', .int l2' .i64 b']) := by
  subst h1; subst h2
  intro σ σ'
  simp only [den, denL]

theorem c5 (n : Int) (a b : Int) (ha : -9223372036854775808 ≤ a) (hb : b ≤ 9223372036854775808) : (bif inL a b n then cm .eql (ar .and .i64 n 1) 0 else false) = (inL a b n && (n % 2 == 0)) := by
  unfold inL
  by_cases h1 : a ≤ n
  · by_cases h2 : n < b
    · rw [and1 n (by omega) (by omega)]; simp [h1, h2]
    · simp [h1, h2]
  · simp [h1]

theorem cIn (n a b : Int) : (bif cm .geq n a then cm .lss n b else false) = inL a b n := by
  rw [cm_geq', cm_lss']; unfold inL
  by_cases h1 : a ≤ n <;> simp [h1]

attribute [local irreducible] evalF Lf.gives in
theorem g6 (op rd r1 r2 n : Int) : (evalF E1 Try.prog 60 [.agg [.int false .i64 op, .int false .i64 rd, .int false .i64 r1, .int false .i64 r2, .int false .i64 n]] [] 0).leaf.gives (.tup [.int false .u32 (wordL op rd r1 r2 n), .int false .i64 (errL op rd r1 r2 n)]) := by
  refine gives_tree (t6 op rd r1 r2 n) ?_
  by_cases hop : op < 1 ∨ 63 < op
  · have hb : (decide (op < 1) || decide (63 < op)) = true := by simpa using hop
    have e : errL op rd r1 r2 n = 1 := by simp only [errL, hb, cond_true]
    have w : wordL op rd r1 r2 n = 0 := by simp [wordL, e]
    have c : (bif cm BinOp.lss op 1 then true else cm BinOp.gtr op 63) = true := by
      rw [cm_lss', cm_gtr']; rcases hop with h | h <;> simp [h]
    rw [c, e, w]
    simp only [cond_true]
    exact gives2 rfl rfl
  · have h1 : 1 ≤ op := by omega
    have h2 : op ≤ 63 := by omega
    have c : (bif cm BinOp.lss op 1 then true else cm BinOp.gtr op 63) = false := by
      rw [cm_lss', cm_gtr']; simp; omega
    have d1 : decide (0 ≤ op - 1) = true := decide_eq_true (by omega)
    have d2 : decide (op - 1 < 63) = true := decide_eq_true (by omega)
    have d3 : (op - 1).toNat.blt 63 = true := by rw [Nat.blt_eq]; omega
    have hk := kind_cases (op - 1).toNat (by omega)
    rw [c, sub1 h1 h2]
    have d2' : decide (op - 1 < ↑63) = true := d2
    simp only [cond_false, d1, d2, d2', d3, cond_true, cIn, c5 n (-4096) 4096 (by omega) (by omega), c5 n (-1048576) 1048576 (by omega) (by omega)]
    unfold wordL wordOf
    have hb : (decide (op < 1) || decide (63 < op)) = false := by simpa using hop
    simp only [errL, hb, kindL, cond_false]
    generalize nth kinds 0 (op - 1).toNat = k at *
    generalize nth lows 0 (op - 1).toNat = lo
    generalize nth mids 0 (op - 1).toNat = mi
    generalize nth fs 0 (op - 1).toNat = f
    refine gives_cond (fun hc => ?_) (fun hc => ?_)
    · have hr : regsL k rd r1 r2 = false := by
        rcases hk with rfl | rfl | rfl | rfl | rfl | rfl | rfl | rfl | rfl <;> simp [cm_eql', cm_lss', cm_geq', regsL, regL, hasL] at hc ⊢ <;> omega
      rw [hr]
      exact gives2 (by simp) (by simp)
    · have hr : regsL k rd r1 r2 = true := by
        rcases hk with rfl | rfl | rfl | rfl | rfl | rfl | rfl | rfl | rfl <;> simp [cm_eql', cm_lss', cm_geq', regsL, regL, hasL] at hc ⊢ <;> omega
      rw [hr]
      refine gives_cond (fun hf => ?_) (fun hf => ?_)
      · have hr : fitsL k n = false := by
          rcases hk with rfl | rfl | rfl | rfl | rfl | rfl | rfl | rfl | rfl <;> first | (simpa [cm_eql', fitsL] using hf) | (simp [cm_eql', fitsL] at hf ⊢; intro h; rcases hf with h' | h' <;> simp_all)
        rw [hr]
        exact gives2 (by simp) (by simp)
      · have hr : fitsL k n = true := by
          rcases hk with rfl | rfl | rfl | rfl | rfl | rfl | rfl | rfl | rfl <;> simpa [cm_eql', fitsL] using hf
        rw [hr]
        refine gives_cond (fun hc => ?_) (fun hc => ?_)
        · refine gives2 ?_ (by simp)
          simp only [cond_true, BEq.rfl]
          rcases hk with rfl | rfl | rfl | rfl | rfl | rfl | rfl | rfl | rfl <;>
            simp [cm_eql', U32.or, U32.and, U32.sub, U32.shl, U32.shr, U32.conv, U32.inv, wordB, immB, W]
        · exfalso
          rcases hk with rfl | rfl | rfl | rfl | rfl | rfl | rfl | rfl | rfl <;> simp [cm_eql', mergeB, allB] at hc

end Go.Rv
end

section
set_option linter.unusedVariables false
open Go Go.Ev Go.Proofs
namespace Go.Rv

/-- what the tables say of a row: its kind, the page's letter, what is nought -/
theorem row_cases (i : Nat) (hi : i < 63) :
    (nth kinds 0 i = 0 ∧ letter i = 82) ∨ (nth kinds 0 i = 1 ∧ letter i = 73 ∧ nth fs 0 i = 0) ∨ (nth kinds 0 i = 2 ∧ letter i = 104) ∨ (nth kinds 0 i = 3 ∧ letter i = 119) ∨
    (nth kinds 0 i = 4 ∧ letter i = 83 ∧ nth fs 0 i = 0) ∨ (nth kinds 0 i = 5 ∧ letter i = 66 ∧ nth fs 0 i = 0) ∨ (nth kinds 0 i = 6 ∧ letter i = 85 ∧ nth mids 0 i = 0 ∧ nth fs 0 i = 0) ∨
    (nth kinds 0 i = 7 ∧ letter i = 74 ∧ nth mids 0 i = 0 ∧ nth fs 0 i = 0) ∨ (nth kinds 0 i = 8 ∧ letter i = 69 ∧ nth mids 0 i = 0 ∧ nth fs 0 i = 0) := by
  have : ((List.range 63).all fun i => (nth kinds 0 i == 0 && letter i == 82) || (nth kinds 0 i == 1 && letter i == 73 && nth fs 0 i == 0) || (nth kinds 0 i == 2 && letter i == 104) || (nth kinds 0 i == 3 && letter i == 119) ||
    (nth kinds 0 i == 4 && letter i == 83 && nth fs 0 i == 0) || (nth kinds 0 i == 5 && letter i == 66 && nth fs 0 i == 0) || (nth kinds 0 i == 6 && letter i == 85 && nth mids 0 i == 0 && nth fs 0 i == 0) ||
    (nth kinds 0 i == 7 && letter i == 74 && nth mids 0 i == 0 && nth fs 0 i == 0) || (nth kinds 0 i == 8 && letter i == 69 && nth mids 0 i == 0 && nth fs 0 i == 0)) = true := by kernel_rfl
  have := List.all_eq_true.1 this i (List.mem_range.2 hi)
  simp only [Bool.or_eq_true, Bool.and_eq_true, beq_iff_eq, or_assoc, and_assoc] at this
  exact this

theorem rem2 (n a b : Int) (ha : -9223372036854775808 ≤ a) (hb : b ≤ 9223372036854775808) : (bif cm .geq n a then bif cm .lss n b then cm .eql (ar .rem .i64 n 2) 0 else false else false) = (inL a b n && (n % 2 == 0)) := by
  have : cm .eql (ar .rem .i64 n 2) 0 = (n % 2 == 0) := by
    simp only [cm, ar]
    have : (n.tmod 2 = 0) ↔ (n % 2 = 0) := by rw [← Int.dvd_iff_tmod_eq_zero, ← Int.dvd_iff_emod_eq_zero]
    by_cases h : n % 2 = 0
    · rw [this.2 h, h]
    · have h' : ¬ n.tmod 2 = 0 := fun e => h (this.1 e)
      rw [beq_eq_false_iff_ne.2 h, beq_eq_false_iff_ne.2 h']
  rw [this, cm_geq', cm_lss']
  unfold inL
  by_cases h1 : a ≤ n <;> by_cases h2 : n < b <;> simp [h1, h2]

theorem or_lc (x y z : BitVec 32) : x ||| (y ||| z) = y ||| (x ||| z) := by rw [← BitVec.or_assoc, BitVec.or_comm x y, BitVec.or_assoc]

theorem cLe (n : Int) : (bif cm .geq n (-2048) then cm .leq n 2047 else false) = inL (-2048) 2048 n := by
  rw [cm_geq', cm_leq']; unfold inL
  by_cases h1 : -2048 ≤ n
  · have : (n ≤ 2047) ↔ (n < 2048) := by omega
    simp [h1, this]
  · simp [h1]

set_option maxHeartbeats 400000 in
attribute [local irreducible] evalF Lf.gives in
theorem g7 (op rd r1 r2 n : Int) : (evalF E1 Try.prog 44 [.agg [.int false .i64 op, .int false .i64 rd, .int false .i64 r1, .int false .i64 r2, .int false .i64 n]] [] 0).leaf.gives (.tup [.int false .u32 (wordL op rd r1 r2 n), .int false .i64 (errL op rd r1 r2 n)]) := by
  refine gives_tree (t7 op rd r1 r2 n) ?_
  by_cases hop : op < 1 ∨ 63 < op
  · have hb : (decide (op < 1) || decide (63 < op)) = true := by simpa using hop
    have e : errL op rd r1 r2 n = 1 := by simp only [errL, hb, cond_true]
    have w : wordL op rd r1 r2 n = 0 := by simp [wordL, e]
    have c : (!bif cm BinOp.geq op 1 then cm BinOp.leq op 63 else false) = true := by
      rw [cm_geq', cm_leq']; rcases hop with h | h <;> simp <;> omega
    rw [c, e, w]
    simp only [cond_true]
    exact gives2 rfl rfl
  · have h1 : 1 ≤ op := by omega
    have h2 : op ≤ 63 := by omega
    have c : (!bif cm BinOp.geq op 1 then cm BinOp.leq op 63 else false) = false := by
      rw [cm_geq', cm_leq']; simp [h1, h2]
    have d1 : decide (1 ≤ op) = true := decide_eq_true h1
    have d2 : decide (op ≤ 63) = true := decide_eq_true h2
    have hk := row_cases (op - 1).toNat (by omega)
    rw [c]
    simp only [cond_false, d1, d2, cond_true, rem2 n (-4096) 4096 (by omega) (by omega), rem2 n (-1048576) 1048576 (by omega) (by omega), cIn, cLe]
    unfold wordL wordOf
    have hb : (decide (op < 1) || decide (63 < op)) = false := by simpa using hop
    simp only [errL, hb, kindL, cond_false]
    generalize nth kinds 0 (op - 1).toNat = k at *
    generalize letter (op - 1).toNat = l at *
    generalize nth lows 0 (op - 1).toNat = lo
    generalize nth mids 0 (op - 1).toNat = mi at *
    generalize nth fs 0 (op - 1).toNat = f at *
    refine gives_cond (fun hc => ?_) (fun hc => ?_)
    · have hr : regsL k rd r1 r2 = false := by
        rcases hk with ⟨rfl, rfl⟩ | ⟨rfl, rfl, rfl⟩ | ⟨rfl, rfl⟩ | ⟨rfl, rfl⟩ | ⟨rfl, rfl, rfl⟩ | ⟨rfl, rfl, rfl⟩ | ⟨rfl, rfl, rfl, rfl⟩ | ⟨rfl, rfl, rfl, rfl⟩ | ⟨rfl, rfl, rfl, rfl⟩ <;> simp [cm_eql', cm_leq', cm_geq', regsL, regL, hasL] at hc ⊢ <;> omega
      rw [hr]
      exact gives2 (by simp) (by simp)
    · have hreg : regsL k rd r1 r2 = true := by
        rcases hk with ⟨rfl, rfl⟩ | ⟨rfl, rfl, rfl⟩ | ⟨rfl, rfl⟩ | ⟨rfl, rfl⟩ | ⟨rfl, rfl, rfl⟩ | ⟨rfl, rfl, rfl⟩ | ⟨rfl, rfl, rfl, rfl⟩ | ⟨rfl, rfl, rfl, rfl⟩ | ⟨rfl, rfl, rfl, rfl⟩ <;> simp [cm_eql', cm_leq', cm_geq', regsL, regL, hasL] at hc ⊢ <;> omega
      rw [hreg]
      refine gives_cond (fun hneed => ?_) (fun hneed => ?_)
      · refine gives_cond (fun hf => ?_) (fun hf => ?_)
        · have hr : fitsL k n = false := by
            rcases hk with ⟨rfl, rfl⟩ | ⟨rfl, rfl, rfl⟩ | ⟨rfl, rfl⟩ | ⟨rfl, rfl⟩ | ⟨rfl, rfl, rfl⟩ | ⟨rfl, rfl, rfl⟩ | ⟨rfl, rfl, rfl, rfl⟩ | ⟨rfl, rfl, rfl, rfl⟩ | ⟨rfl, rfl, rfl, rfl⟩ <;> first | (simpa [cm_eql', fitsL] using hf) | (simp [cm_eql', fitsL] at hf ⊢; intro h; rcases hf with h' | h' <;> simp_all)
          rw [hr]
          exact gives2 (by simp) (by simp)
        · have hr : fitsL k n = true := by
            rcases hk with ⟨rfl, rfl⟩ | ⟨rfl, rfl, rfl⟩ | ⟨rfl, rfl⟩ | ⟨rfl, rfl⟩ | ⟨rfl, rfl, rfl⟩ | ⟨rfl, rfl, rfl⟩ | ⟨rfl, rfl, rfl, rfl⟩ | ⟨rfl, rfl, rfl, rfl⟩ | ⟨rfl, rfl, rfl, rfl⟩ <;> simpa [cm_eql', fitsL] using hf
          rw [hr]
          clear hf hneed hc hr
          have hz : ∀ x : Int, regL x false = true → x = 0 := fun x hx => by simp [regL] at hx; exact hx.2.2
          rcases hk with ⟨rfl, rfl⟩ | ⟨rfl, rfl, rfl⟩ | ⟨rfl, rfl⟩ | ⟨rfl, rfl⟩ | ⟨rfl, rfl, rfl⟩ | ⟨rfl, rfl, rfl⟩ | ⟨rfl, rfl, rfl, rfl⟩ | ⟨rfl, rfl, rfl, rfl⟩ | ⟨rfl, rfl, rfl, rfl⟩ <;>
            simp [regsL, hasL] at hreg <;>
            simp only [cm_eql', decide_true, decide_false, cond_true, cond_false, Int.reduceEq, BEq.rfl] <;>
            refine gives2 ?_ rfl
          all_goals
            obtain ⟨q1, q2, q3⟩ := hreg
            first | (have := hz rd q1; subst this) | skip
            first | (have := hz r1 q2; subst this) | skip
            first | (have := hz r2 q3; subst this) | skip
            simp [U32.or, U32.and, U32.sub, U32.shl, U32.shr, U32.conv, U32.inv, wordB, immB, W]
            try refine congrArg (iv .u32) ?_
            try generalize BitVec.ofInt 32 lo = A1
            try generalize BitVec.ofInt 32 mi <<< 12 = A2
            try generalize BitVec.ofInt 32 rd <<< 7 = A3
            try generalize BitVec.ofInt 32 r1 <<< 15 = A4
            try generalize BitVec.ofInt 32 r2 <<< 20 = A5
            try generalize BitVec.ofInt 32 f <<< 25 = A6
            try generalize BitVec.ofInt 32 n = N
            try simp only [BitVec.or_assoc, BitVec.or_comm, or_lc]
            try rfl
      · exfalso
        rcases hk with ⟨rfl, rfl⟩ | ⟨rfl, rfl, rfl⟩ | ⟨rfl, rfl⟩ | ⟨rfl, rfl⟩ | ⟨rfl, rfl, rfl⟩ | ⟨rfl, rfl, rfl⟩ | ⟨rfl, rfl, rfl, rfl⟩ | ⟨rfl, rfl, rfl, rfl⟩ | ⟨rfl, rfl, rfl, rfl⟩ <;> simp [cm_eql', mergeB, allB] at hneed

end Go.Rv
end
