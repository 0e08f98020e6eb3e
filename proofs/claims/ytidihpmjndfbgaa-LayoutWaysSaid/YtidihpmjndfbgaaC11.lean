/-
  rv: the bits of a word.
-/
import Derived.Test.YtidihpmjndfbgaaC9
import Derived.Test.YtidihpmjndfbgaaB10
set_option linter.unusedSimpArgs false
set_option linter.unusedVariables false
section
set_option linter.unusedVariables false
open Go Go.Ev Go.Proofs Go.Bx
namespace Go.Rv

/-- the number, out of its lowest bits -/
def NX (k : Int) : BX :=
  if k = 1 ∨ k = 4 then .sext (.atom 6) 12 32 else if k = 5 then .sext (.atom 6) 13 32 else if k = 7 then .sext (.atom 6) 21 32 else .atom 6
def shlX (x : BX) (n : Nat) : BX := .cut (.shl x n) 32
def pieceX (x : BX) (r m l : Nat) : BX := shlX (.and (.shr x r) (.lit m)) l
def immX (k : Int) (n : BX) : BX :=
  if k = 1 ∨ k = 2 ∨ k = 3 then shlX n 20
  else if k = 4 then .or (shlX (.and n (.lit 31)) 7) (pieceX n 5 127 25)
  else if k = 5 then .or (.or (.or (pieceX n 11 1 7) (pieceX n 1 15 8)) (pieceX n 5 63 25)) (pieceX n 12 1 31)
  else if k = 6 then shlX n 12
  else if k = 7 then .or (.or (.or (pieceX n 12 255 12) (pieceX n 11 1 20)) (pieceX n 1 1023 21)) (pieceX n 20 1 31)
  else .lit 0
def wordX (k : Int) : BX :=
  .or (.or (.or (.or (.or (.or (.atom 0) (shlX (.atom 3) 7)) (shlX (.atom 1) 12)) (shlX (.atom 4) 15)) (shlX (.atom 5) 20)) (shlX (.atom 2) 25)) (immX k (NX k))

def width (k : Int) : Nat → Nat
  | 0 => 7
  | 1 => if k = 6 ∨ k = 7 ∨ k = 8 then 0 else 3
  | 2 => if k = 0 ∨ k = 2 ∨ k = 3 then 7 else 0
  | 3 => if k = 4 ∨ k = 5 ∨ k = 8 then 0 else 5
  | 4 => if k = 6 ∨ k = 7 ∨ k = 8 then 0 else 5
  | 5 => if k = 0 ∨ k = 4 ∨ k = 5 then 5 else 0
  | _ => if k = 1 ∨ k = 4 then 12 else if k = 5 then 13 else if k = 7 then 21 else if k = 2 then 6 else if k = 3 then 5 else if k = 6 then 20 else 0
def knK (k : Int) : Kn := fun a i => match Nat.blt i (width k a) with
  | false => some false
  | true => match Nat.beq i 0 && ((Nat.beq a 6 && (k == 5 || k == 7)) || (Nat.beq a 2 && k == 2)) with
    | true => some false
    | false => none

def envK (lo mi f rd r1 r2 M : Nat) : Nat → Nat
  | 0 => lo
  | 1 => mi
  | 2 => f
  | 3 => rd
  | 4 => r1
  | 5 => r2
  | 6 => M
  | _ => 0

theorem kn_ok (k : Int) (lo mi f rd r1 r2 M : Nat) (h0 : lo < 2 ^ 7) (h1 : mi < 2 ^ width k 1) (h2 : f < 2 ^ width k 2) (h3 : rd < 2 ^ width k 3) (h4 : r1 < 2 ^ width k 4) (h5 : r2 < 2 ^ width k 5) (h6 : M < 2 ^ width k 6) (he : (k = 5 ∨ k = 7) → M % 2 = 0) (hf : k = 2 → f % 2 = 0) :
    (knK k).ok (envK lo mi f rd r1 r2 M) := by
  intro a i b hb
  unfold knK at hb
  have hbig : ∀ n m : Nat, n < 2 ^ m → Nat.blt i m = false → n.testBit i = false := by
    intro n m hn hi
    have : m ≤ i := by
      rcases Nat.lt_or_ge i m with h | h
      · rw [← Nat.blt_eq, hi] at h; cases h
      · exact h
    exact Nat.testBit_lt_two_pow (Nat.lt_of_lt_of_le hn (Nat.pow_le_pow_right (by omega) this))
  split at hb
  · rename_i hi
    simp only [Option.some.injEq] at hb; subst hb
    match a with
    | 0 => exact hbig lo 7 h0 hi
    | 1 => exact hbig mi _ h1 hi
    | 2 => exact hbig f _ h2 hi
    | 3 => exact hbig rd _ h3 hi
    | 4 => exact hbig r1 _ h4 hi
    | 5 => exact hbig r2 _ h5 hi
    | 6 => exact hbig M _ h6 hi
    | n + 7 => exact Nat.zero_testBit i
  · split at hb
    · rename_i hc
      simp only [Bool.and_eq_true, Nat.beq_eq, Bool.or_eq_true, beq_iff_eq] at hc
      obtain ⟨rfl, ⟨rfl, hk⟩ | ⟨rfl, hk⟩⟩ := hc
      · simp only [Option.some.injEq] at hb; subst hb
        have := he hk
        simp [envK, Nat.testBit_zero, this]
      · simp only [Option.some.injEq] at hb; subst hb
        have := hf hk
        simp [envK, Nat.testBit_zero, this]
    · cases hb

theorem word_eval (k : Int) (hk : k = 0 ∨ k = 1 ∨ k = 2 ∨ k = 3 ∨ k = 4 ∨ k = 5 ∨ k = 6 ∨ k = 7 ∨ k = 8) (lo mi f rd r1 r2 n : Int) (M : Nat) (hN : (W n).toNat = (NX k).eval (envK (W lo).toNat (W mi).toNat (W f).toNat (W rd).toNat (W r1).toNat (W r2).toNat M)) :
    (wordB k lo mi f rd r1 r2 n).toNat = (wordX k).eval (envK (W lo).toNat (W mi).toNat (W f).toNat (W rd).toNat (W r1).toNat (W r2).toNat M) := by
  simp only [wordB, wordX, BX.eval, BitVec.toNat_or, BitVec.toNat_shiftLeft, shlX]
  congr 1
  generalize NX k = nx at hN ⊢
  generalize W n = w at hN ⊢
  rcases hk with rfl | rfl | rfl | rfl | rfl | rfl | rfl | rfl | rfl <;> simp [immB, immX, pieceX, shlX, BX.eval, hN]

theorem sext_sign (x : BitVec 32) (m : Nat) (h0 : 0 < m) (h1 : m ≤ 32) : ((x <<< (32 - m)).sshiftRight (32 - m)).toNat = sextN x.toNat m 32 := by
  refine Nat.eq_of_testBit_eq fun i => ?_
  rw [sextN_bit h0 h1, BitVec.testBit_toNat, BitVec.getLsbD_sshiftRight]
  have hmsb : (x <<< (32 - m)).msb = x.getLsbD (m - 1) := by
    rw [BitVec.msb_eq_getLsbD_last, BitVec.getLsbD_shiftLeft]
    have : ¬ (32 - 1 < 32 - m) := by omega
    simp [this, show 31 - (32 - m) = m - 1 by omega]
  by_cases hi : i < 32
  · by_cases hm : i < m
    · have : 32 - m + i < 32 := by omega
      rw [if_pos hm, if_pos this, BitVec.getLsbD_shiftLeft, BitVec.testBit_toNat, show 32 - m + i - (32 - m) = i by omega]
      have e1 : ¬ 32 ≤ i := by omega
      have e2 : ¬ 32 - m + i < 32 - m := by omega
      simp only [e1, e2, this, decide_true, decide_false, Bool.not_false, Bool.true_and]
    · have : ¬ 32 - m + i < 32 := by omega
      simp [hi, hm, this, hmsb, ← BitVec.testBit_toNat]
  · have hm : ¬ i < m := by omega
    have h2 : 32 ≤ i := by omega
    simp [hi, hm, h2]

theorem eval_lt {k : Int} {env : Nat → Nat} {kn : Kn} (hk : kn.ok env) (x : BX) (h : ∀ i, 32 ≤ i → x.bit kn i = some (.c false)) : x.eval env < 2 ^ 32 := by
  refine Nat.lt_pow_two_of_testBit _ fun i hi => ?_
  rw [bit_sound hk x i _ (h i hi)]
  rfl

end Go.Rv
end

section
set_option linter.unusedVariables false
open Go Go.Ev Go.Proofs Go.Bx
namespace Go.Rv

theorem bvEq {kn : Kn} {env : Nat → Nat} (hk : kn.ok env) (x y : BX) {a b : BitVec 32} (ha : a.toNat = x.eval env) (hb : b.toNat = y.eval env) (h : eqB kn x y 32 = true) : a = b :=
  BitVec.eq_of_toNat_eq (by rw [ha, hb]; exact eq_of_bits hk (ha ▸ a.isLt) (hb ▸ b.isLt) h)

theorem sextN_of (N m : Nat) (hb : (N % 2 ^ m).testBit (m - 1) = true → N = N % 2 ^ m + (2 ^ 32 - 2 ^ m)) (hc : (N % 2 ^ m).testBit (m - 1) = false → N = N % 2 ^ m) : N = sextN (N % 2 ^ m) m 32 := by
  unfold sextN
  split
  · rename_i h; rw [Nat.mod_mod]; exact hb h
  · rename_i h; rw [Nat.mod_mod]; exact hc (by simpa using h)

theorem sext12 (n : Int) (h1 : -2048 ≤ n) (h2 : n < 2048) : (W n).toNat = sextN ((W n).toNat % 2 ^ 12) 12 32 := by
  have e : (W n).toNat = (n % 4294967296).toNat := by simp [W, BitVec.toNat_ofInt]
  refine sextN_of _ 12 (fun h => ?_) (fun h => ?_)
  · simp only [Nat.testBit_eq_decide_div_mod_eq, decide_eq_true_eq] at h; omega
  · simp only [Nat.testBit_eq_decide_div_mod_eq, decide_eq_false_iff_not] at h; omega
theorem sext13 (n : Int) (h1 : -4096 ≤ n) (h2 : n < 4096) : (W n).toNat = sextN ((W n).toNat % 2 ^ 13) 13 32 := by
  have e : (W n).toNat = (n % 4294967296).toNat := by simp [W, BitVec.toNat_ofInt]
  refine sextN_of _ 13 (fun h => ?_) (fun h => ?_)
  · simp only [Nat.testBit_eq_decide_div_mod_eq, decide_eq_true_eq] at h; omega
  · simp only [Nat.testBit_eq_decide_div_mod_eq, decide_eq_false_iff_not] at h; omega
theorem sext21 (n : Int) (h1 : -1048576 ≤ n) (h2 : n < 1048576) : (W n).toNat = sextN ((W n).toNat % 2 ^ 21) 21 32 := by
  have e : (W n).toNat = (n % 4294967296).toNat := by simp [W, BitVec.toNat_ofInt]
  refine sextN_of _ 21 (fun h => ?_) (fun h => ?_)
  · simp only [Nat.testBit_eq_decide_div_mod_eq, decide_eq_true_eq] at h; omega
  · simp only [Nat.testBit_eq_decide_div_mod_eq, decide_eq_false_iff_not] at h; omega

theorem W_nat (n : Int) (h0 : 0 ≤ n) (h1 : n < 4294967296) : ((W n).toNat : Int) = n := by
  have e : (W n).toNat = (n % 4294967296).toNat := by simp [W, BitVec.toNat_ofInt]
  omega
theorem W_int (n : Int) (h0 : -2147483648 ≤ n) (h1 : n < 2147483648) : (W n).toInt = n := by
  simp only [W, BitVec.toInt_ofInt, Int.bmod_def]; omega
theorem W_lt (n : Int) (m : Nat) (h0 : 0 ≤ n) (h1 : n < 2 ^ m) (hm : m ≤ 31) : (W n).toNat < 2 ^ m := by
  have hp : (2 : Int) ^ m ≤ 2 ^ 31 := by
    have := Nat.pow_le_pow_right (show 0 < 2 by omega) hm
    exact_mod_cast this
  have := W_nat n h0 (by omega)
  exact_mod_cast (show ((W n).toNat : Int) < 2 ^ m by omega)

/-- the digits are given where they are -/
structure Digits (k lo mi f : Int) : Prop where
  lo0 : 0 ≤ lo
  lo1 : lo < 128
  mi0 : 0 ≤ mi
  mi1 : mi < 2 ^ width k 1
  f0 : 0 ≤ f
  f1 : f < 2 ^ width k 2
  fe : k = 2 → f % 2 = 0

structure Told (k lo mi f rd r1 r2 n : Int) (w : BitVec 32) : Prop where
  hrd : rdB k w = rd
  hr1 : r1B k w = r1
  hr2 : r2B k w = r2
  hn : numB k w = n
  hlo : w &&& 127#32 = W lo
  hmi : k ≠ 6 → k ≠ 7 → (w >>> 12) &&& 7#32 = W mi
  hf : k = 0 ∨ k = 3 → w >>> 25 = W f
  hf2 : k = 2 → w >>> 26 = W f >>> 1

def lowX (k : Int) : BX := .and (wordX k) (.lit 127)
def midX (k : Int) : BX := .and (.shr (wordX k) 12) (.lit 7)
def regX (k : Int) (s : Nat) : BX := .and (.shr (wordX k) s) (.lit 31)
def fieldX (k : Int) (w : BX) : BX :=
  if k = 1 then .shr w 20
  else if k = 4 then .or (.and (.shr w 7) (.lit 31)) (pieceX w 25 127 5)
  else if k = 5 then .or (.or (.or (pieceX w 7 1 11) (pieceX w 8 15 1)) (pieceX w 25 63 5)) (pieceX w 31 1 12)
  else .or (.or (.or (pieceX w 12 255 12) (pieceX w 20 1 11)) (pieceX w 21 1023 1)) (pieceX w 31 1 20)
def signX (k : Int) : BX := .sext (fieldX k (wordX k)) (if k = 1 ∨ k = 4 then 12 else if k = 5 then 13 else 21) 32

theorem told (k : Int) (hk : k = 0 ∨ k = 1 ∨ k = 2 ∨ k = 3 ∨ k = 4 ∨ k = 5 ∨ k = 6 ∨ k = 7 ∨ k = 8) (lo mi f rd r1 r2 n : Int) (hd : Digits k lo mi f) (hr : regsL k rd r1 r2 = true) (hf : fitsL k n = true) :
    Told k lo mi f rd r1 r2 n (wordB k lo mi f rd r1 r2 n) := by
  obtain ⟨l0, l1, m0, m1, f0, f1, fe⟩ := hd
  have hreg : (0 ≤ rd ∧ rd < 32) ∧ (0 ≤ r1 ∧ r1 < 32) ∧ (0 ≤ r2 ∧ r2 < 32) := by
    simp only [regsL, regL, Bool.and_eq_true, decide_eq_true_eq] at hr; omega
  obtain ⟨⟨d0, d1⟩, ⟨a0, a1⟩, ⟨b0, b1⟩⟩ := hreg
  have he : (W n).toNat = (n % 4294967296).toNat := by simp [W, BitVec.toNat_ofInt]
  have hM : ∃ M, (W n).toNat = (NX k).eval (envK (W lo).toNat (W mi).toNat (W f).toNat (W rd).toNat (W r1).toNat (W r2).toNat M) ∧ M < 2 ^ width k 6 ∧ ((k = 5 ∨ k = 7) → M % 2 = 0) := by
    rcases hk with rfl | rfl | rfl | rfl | rfl | rfl | rfl | rfl | rfl <;> simp [fitsL, inL] at hf <;> simp only [NX, width] <;> simp [BX.eval, envK]
    · subst hf; rfl
    · exact ⟨_, sext12 n hf.1 hf.2, Nat.mod_lt _ (by decide)⟩
    · exact W_lt n 6 hf.1 hf.2 (by omega)
    · exact W_lt n 5 hf.1 hf.2 (by omega)
    · exact ⟨_, sext12 n hf.1 hf.2, Nat.mod_lt _ (by decide)⟩
    · exact ⟨_, sext13 n hf.1.1 hf.1.2, Nat.mod_lt _ (by decide), by rw [he]; omega⟩
    · exact W_lt n 20 hf.1 hf.2 (by omega)
    · exact ⟨_, sext21 n hf.1.1 hf.1.2, Nat.mod_lt _ (by decide), by rw [he]; omega⟩
    · subst hf; rfl
  obtain ⟨M, hN, hM1, hM2⟩ := hM
  have hz : ∀ x : Int, regL x false = true → x = 0 := fun x hx => by simp [regL] at hx; exact hx.2.2
  have hz0 : ∀ x : Int, x = 0 → (W x).toNat < 2 ^ 0 := fun x hx => by subst hx; decide
  have hr' := hr
  simp only [regsL, Bool.and_eq_true] at hr'
  have hw3 : (W rd).toNat < 2 ^ width k 3 := by
    simp only [width]
    split
    · rename_i h; refine hz0 _ (hz rd ?_); rcases h with rfl | rfl | rfl <;> simpa [hasL] using hr'.1
    · exact W_lt rd 5 d0 d1 (by omega)
  have hw4 : (W r1).toNat < 2 ^ width k 4 := by
    simp only [width]
    split
    · rename_i h; refine hz0 _ (hz r1 ?_); rcases h with rfl | rfl | rfl <;> simpa [hasL] using hr'.2.1
    · exact W_lt r1 5 a0 a1 (by omega)
  have hw5 : (W r2).toNat < 2 ^ width k 5 := by
    simp only [width]
    split
    · exact W_lt r2 5 b0 b1 (by omega)
    · refine hz0 _ (hz r2 ?_); rcases hk with rfl | rfl | rfl | rfl | rfl | rfl | rfl | rfl | rfl <;> first | simpa [hasL] using hr'.2.2 | omega
  have hkn := kn_ok k (W lo).toNat (W mi).toNat (W f).toNat (W rd).toNat (W r1).toNat (W r2).toNat M (W_lt lo 7 l0 l1 (by omega)) (W_lt mi _ m0 m1 (by simp only [width]; split <;> omega)) (W_lt f _ f0 f1 (by simp only [width]; split <;> omega))
    hw3 hw4 hw5 hM1 hM2 (fun e => by have := fe e; have := W_nat f f0 (by subst e; simp [width] at f1; omega); omega)
  have hw := word_eval k hk lo mi f rd r1 r2 n M hN
  have hi1 : -2147483648 ≤ n ∧ n < 2147483648 := by
    rcases hk with rfl | rfl | rfl | rfl | rfl | rfl | rfl | rfl | rfl <;> simp [fitsL, inL] at hf <;> omega
  have hWn := W_int n hi1.1 hi1.2
  generalize wordB k lo mi f rd r1 r2 n = w at hw ⊢
  have hand : ∀ (x : BX) (a : BitVec 32) (m : Nat), a.toNat = x.eval (envK (W lo).toNat (W mi).toNat (W f).toNat (W rd).toNat (W r1).toNat (W r2).toNat M) → m < 2 ^ 32 →
      (a &&& BitVec.ofNat 32 m).toNat = (BX.and x (.lit m)).eval (envK (W lo).toNat (W mi).toNat (W f).toNat (W rd).toNat (W r1).toNat (W r2).toNat M) := by
    intro x a m ha hm
    rw [BitVec.toNat_and, BitVec.toNat_ofNat, Nat.mod_eq_of_lt hm, ha]; rfl
  have hshr : ∀ (x : BX) (a : BitVec 32) (m : Nat), a.toNat = x.eval (envK (W lo).toNat (W mi).toNat (W f).toNat (W rd).toNat (W r1).toNat (W r2).toNat M) →
      (a >>> m).toNat = (BX.shr x m).eval (envK (W lo).toNat (W mi).toNat (W f).toNat (W rd).toNat (W r1).toNat (W r2).toNat M) := by
    intro x a m ha
    rw [BitVec.toNat_ushiftRight, ha]; rfl
  have hshl : ∀ (x : BX) (a : BitVec 32) (m : Nat), a.toNat = x.eval (envK (W lo).toNat (W mi).toNat (W f).toNat (W rd).toNat (W r1).toNat (W r2).toNat M) →
      (a <<< m).toNat = (shlX x m).eval (envK (W lo).toNat (W mi).toNat (W f).toNat (W rd).toNat (W r1).toNat (W r2).toNat M) := by
    intro x a m ha
    rw [BitVec.toNat_shiftLeft, ha]; rfl
  have hor : ∀ (x y : BX) (a b : BitVec 32), a.toNat = x.eval (envK (W lo).toNat (W mi).toNat (W f).toNat (W rd).toNat (W r1).toNat (W r2).toNat M) → b.toNat = y.eval (envK (W lo).toNat (W mi).toNat (W f).toNat (W rd).toNat (W r1).toNat (W r2).toNat M) →
      (a ||| b).toNat = (BX.or x y).eval (envK (W lo).toNat (W mi).toNat (W f).toNat (W rd).toNat (W r1).toNat (W r2).toNat M) := by
    intro x y a b ha hb
    rw [BitVec.toNat_or, ha, hb]; rfl
  have hpiece : ∀ (x : BX) (a : BitVec 32) (r m l : Nat), a.toNat = x.eval (envK (W lo).toNat (W mi).toNat (W f).toNat (W rd).toNat (W r1).toNat (W r2).toNat M) → m < 2 ^ 32 →
      (((a >>> r) &&& BitVec.ofNat 32 m) <<< l).toNat = (pieceX x r m l).eval (envK (W lo).toNat (W mi).toNat (W f).toNat (W rd).toNat (W r1).toNat (W r2).toNat M) := by
    intro x a r m l ha hm
    exact hshl _ _ _ (hand _ _ _ (hshr _ _ _ ha) hm)
  have hreg : ∀ (s : Nat) (r : Int) (c : Nat), 0 ≤ r → r < 32 → (W r).toNat = (BX.atom c).eval (envK (W lo).toNat (W mi).toNat (W f).toNat (W rd).toNat (W r1).toNat (W r2).toNat M) → eqB (knK k) (regX k s) (.atom c) 32 = true → (((w >>> s) &&& 31#32).toNat : Int) = r := by
    intro s r c h0 h1 hc hb
    rw [bvEq hkn (regX k s) (.atom c) (hand _ _ _ (hshr _ _ _ hw) (by decide)) hc hb]
    exact W_nat r h0 (by omega)
  have hsign : ∀ (x : BitVec 32) (m : Nat), 0 < m → m ≤ 32 → sextN x.toNat m 32 = (W n).toNat → signB x m = n := by
    intro x m h0 h1 hs
    unfold signB
    rw [show (x <<< (32 - m)).sshiftRight (32 - m) = W n from BitVec.eq_of_toNat_eq (by rw [sext_sign x m h0 h1, hs]), hWn]
  have hs : ∀ (x : BitVec 32) (X : BX) (m : Nat), 0 < m → m ≤ 32 → x.toNat = X.eval (envK (W lo).toNat (W mi).toNat (W f).toNat (W rd).toNat (W r1).toNat (W r2).toNat M) → eqB (knK k) (.sext X m 32) (NX k) 32 = true → signB x m = n := by
    intro x X m h0 h1 hx hb
    have h2 : sextN x.toNat m 32 = (BX.sext X m 32).eval (envK (W lo).toNat (W mi).toNat (W f).toNat (W rd).toNat (W r1).toNat (W r2).toNat M) := by rw [hx]; rfl
    refine hsign x m h0 h1 ?_
    rw [hN, h2]
    exact eq_of_bits hkn (by rw [← h2, ← sext_sign x m h0 h1]; exact BitVec.isLt _) (by rw [← hN]; exact BitVec.isLt _) hb
  have hnat : ∀ (x : BitVec 32) (X : BX), 0 ≤ n → x.toNat = X.eval (envK (W lo).toNat (W mi).toNat (W f).toNat (W rd).toNat (W r1).toNat (W r2).toNat M) → eqB (knK k) X (NX k) 32 = true → (x.toNat : Int) = n := by
    intro x X h0 hx hb
    rw [bvEq hkn X (NX k) hx hN hb]
    exact W_nat n h0 (by omega)
  simp only [regsL, Bool.and_eq_true] at hr
  rcases hk with rfl | rfl | rfl | rfl | rfl | rfl | rfl | rfl | rfl
  · exact ⟨by simpa [rdB, hasL] using hreg 7 rd 3 d0 d1 rfl (by kernel_rfl), by simpa [r1B, hasL] using hreg 15 r1 4 a0 a1 rfl (by kernel_rfl), by simpa [r2B, hasL] using hreg 20 r2 5 b0 b1 rfl (by kernel_rfl),
      by simp [fitsL] at hf; simp [numB, hf],
      bvEq hkn (lowX 0) (.atom 0) (hand _ _ 127 hw (by decide)) rfl (by kernel_rfl), fun _ _ => bvEq hkn (midX 0) (.atom 1) (hand _ _ 7 (hshr _ _ 12 hw) (by decide)) rfl (by kernel_rfl), fun _ => bvEq hkn (.shr (wordX 0) 25) (.atom 2) (hshr _ _ 25 hw) rfl (by kernel_rfl), fun h => absurd h (by decide)⟩
  · exact ⟨by simpa [rdB, hasL] using hreg 7 rd 3 d0 d1 rfl (by kernel_rfl), by simpa [r1B, hasL] using hreg 15 r1 4 a0 a1 rfl (by kernel_rfl), by have := hz r2 (by simpa [hasL] using hr.2.2); simp [r2B, hasL, this],
      by simpa [numB] using hs (fieldB 1 w) (fieldX 1 (wordX 1)) 12 (by decide) (by decide) (by simpa [fieldB, fieldX] using hshr _ _ 20 hw) (by kernel_rfl),
      bvEq hkn (lowX 1) (.atom 0) (hand _ _ 127 hw (by decide)) rfl (by kernel_rfl), fun _ _ => bvEq hkn (midX 1) (.atom 1) (hand _ _ 7 (hshr _ _ 12 hw) (by decide)) rfl (by kernel_rfl), fun h => absurd h (by decide), fun h => absurd h (by decide)⟩
  · exact ⟨by simpa [rdB, hasL] using hreg 7 rd 3 d0 d1 rfl (by kernel_rfl), by simpa [r1B, hasL] using hreg 15 r1 4 a0 a1 rfl (by kernel_rfl), by have := hz r2 (by simpa [hasL] using hr.2.2); simp [r2B, hasL, this],
      by simpa [numB] using hnat _ (.and (.shr (wordX 2) 20) (.lit 63)) (by simp [fitsL, inL] at hf; omega) (hand _ _ 63 (hshr _ _ 20 hw) (by decide)) (by kernel_rfl),
      bvEq hkn (lowX 2) (.atom 0) (hand _ _ 127 hw (by decide)) rfl (by kernel_rfl), fun _ _ => bvEq hkn (midX 2) (.atom 1) (hand _ _ 7 (hshr _ _ 12 hw) (by decide)) rfl (by kernel_rfl), fun h => absurd h (by decide), fun _ => bvEq hkn (.shr (wordX 2) 26) (.shr (.atom 2) 1) (hshr _ _ 26 hw) (hshr (.atom 2) (W f) 1 rfl) (by kernel_rfl)⟩
  · exact ⟨by simpa [rdB, hasL] using hreg 7 rd 3 d0 d1 rfl (by kernel_rfl), by simpa [r1B, hasL] using hreg 15 r1 4 a0 a1 rfl (by kernel_rfl), by have := hz r2 (by simpa [hasL] using hr.2.2); simp [r2B, hasL, this],
      by simpa [numB] using hnat _ (.and (.shr (wordX 3) 20) (.lit 31)) (by simp [fitsL, inL] at hf; omega) (hand _ _ 31 (hshr _ _ 20 hw) (by decide)) (by kernel_rfl),
      bvEq hkn (lowX 3) (.atom 0) (hand _ _ 127 hw (by decide)) rfl (by kernel_rfl), fun _ _ => bvEq hkn (midX 3) (.atom 1) (hand _ _ 7 (hshr _ _ 12 hw) (by decide)) rfl (by kernel_rfl), fun _ => bvEq hkn (.shr (wordX 3) 25) (.atom 2) (hshr _ _ 25 hw) rfl (by kernel_rfl), fun h => absurd h (by decide)⟩
  · exact ⟨by have := hz rd (by simpa [hasL] using hr.1); simp [rdB, hasL, this], by simpa [r1B, hasL] using hreg 15 r1 4 a0 a1 rfl (by kernel_rfl), by simpa [r2B, hasL] using hreg 20 r2 5 b0 b1 rfl (by kernel_rfl),
      by simpa [numB] using hs (fieldB 4 w) (fieldX 4 (wordX 4)) 12 (by decide) (by decide) (by simpa [fieldB, fieldX] using hor _ _ _ _ (hand _ _ 31 (hshr _ _ 7 hw) (by decide)) (hpiece _ _ 25 127 5 hw (by decide))) (by kernel_rfl),
      bvEq hkn (lowX 4) (.atom 0) (hand _ _ 127 hw (by decide)) rfl (by kernel_rfl), fun _ _ => bvEq hkn (midX 4) (.atom 1) (hand _ _ 7 (hshr _ _ 12 hw) (by decide)) rfl (by kernel_rfl), fun h => absurd h (by decide), fun h => absurd h (by decide)⟩
  · exact ⟨by have := hz rd (by simpa [hasL] using hr.1); simp [rdB, hasL, this], by simpa [r1B, hasL] using hreg 15 r1 4 a0 a1 rfl (by kernel_rfl), by simpa [r2B, hasL] using hreg 20 r2 5 b0 b1 rfl (by kernel_rfl),
      by simpa [numB] using hs (fieldB 5 w) (fieldX 5 (wordX 5)) 13 (by decide) (by decide) (by simpa [fieldB, fieldX] using hor _ _ _ _ (hor _ _ _ _ (hor _ _ _ _ (hpiece _ _ 7 1 11 hw (by decide)) (hpiece _ _ 8 15 1 hw (by decide))) (hpiece _ _ 25 63 5 hw (by decide))) (hpiece _ _ 31 1 12 hw (by decide))) (by kernel_rfl),
      bvEq hkn (lowX 5) (.atom 0) (hand _ _ 127 hw (by decide)) rfl (by kernel_rfl), fun _ _ => bvEq hkn (midX 5) (.atom 1) (hand _ _ 7 (hshr _ _ 12 hw) (by decide)) rfl (by kernel_rfl), fun h => absurd h (by decide), fun h => absurd h (by decide)⟩
  · exact ⟨by simpa [rdB, hasL] using hreg 7 rd 3 d0 d1 rfl (by kernel_rfl), by have := hz r1 (by simpa [hasL] using hr.2.1); simp [r1B, hasL, this], by have := hz r2 (by simpa [hasL] using hr.2.2); simp [r2B, hasL, this],
      by simpa [numB] using hnat _ (.shr (wordX 6) 12) (by simp [fitsL, inL] at hf; omega) (hshr _ _ 12 hw) (by kernel_rfl),
      bvEq hkn (lowX 6) (.atom 0) (hand _ _ 127 hw (by decide)) rfl (by kernel_rfl), fun h _ => absurd rfl h, fun h => absurd h (by decide), fun h => absurd h (by decide)⟩
  · exact ⟨by simpa [rdB, hasL] using hreg 7 rd 3 d0 d1 rfl (by kernel_rfl), by have := hz r1 (by simpa [hasL] using hr.2.1); simp [r1B, hasL, this], by have := hz r2 (by simpa [hasL] using hr.2.2); simp [r2B, hasL, this],
      by simpa [numB] using hs (fieldB 7 w) (fieldX 7 (wordX 7)) 21 (by decide) (by decide) (by simpa [fieldB, fieldX] using hor _ _ _ _ (hor _ _ _ _ (hor _ _ _ _ (hpiece _ _ 12 255 12 hw (by decide)) (hpiece _ _ 20 1 11 hw (by decide))) (hpiece _ _ 21 1023 1 hw (by decide))) (hpiece _ _ 31 1 20 hw (by decide))) (by kernel_rfl),
      bvEq hkn (lowX 7) (.atom 0) (hand _ _ 127 hw (by decide)) rfl (by kernel_rfl), fun _ h => absurd rfl h, fun h => absurd h (by decide), fun h => absurd h (by decide)⟩
  · exact ⟨by have := hz rd (by simpa [hasL] using hr.1); simp [rdB, hasL, this], by have := hz r1 (by simpa [hasL] using hr.2.1); simp [r1B, hasL, this], by have := hz r2 (by simpa [hasL] using hr.2.2); simp [r2B, hasL, this],
      by simp [fitsL] at hf; simp [numB, hf],
      bvEq hkn (lowX 8) (.atom 0) (hand _ _ 127 hw (by decide)) rfl (by kernel_rfl), fun _ _ => bvEq hkn (midX 8) (.atom 1) (hand _ _ 7 (hshr _ _ 12 hw) (by decide)) rfl (by kernel_rfl), fun h => absurd h (by decide), fun h => absurd h (by decide)⟩

end Go.Rv
end

section
set_option linter.unusedVariables false
open Go Go.Ev Go.Proofs
namespace Go.Rv

/-- Format, of an op whose letter is known -/
def s18K (K : Int) : Ev.Spec := fun args H nm => match args with
  | [.int _ .i64 op] => some ⟨[decide (1 ≤ op), decide (op ≤ 63), decide (letter (op - 1).toNat = K)], .tup [.int true .u8 K, .int false .u32 (nth lows 0 (op - 1).toNat), .int false .u32 (nth mids 0 (op - 1).toNat), .int false .u32 (nth fs 0 (op - 1).toNat)], []⟩
  | _ => none

theorem ok18K (K : Int) : SpecOk Try.prog 41 (s18K K) := by
  refine ⟨ok18.1, fun args H nm r h hn => ?_⟩
  unfold s18K at h
  split at h
  · rename_i l op
    simp only [Option.some.injEq] at h
    subst h
    simp only [allB, Bool.and_true, Bool.and_eq_true, decide_eq_true_eq] at hn
    have h1 := ok18.2 [.int l .i64 op] H nm _ rfl (by simp only [allB, Bool.and_true, Bool.and_eq_true, decide_eq_true_eq]; exact ⟨hn.1, hn.2.1⟩)
    intro σ w a b c
    refine (h1 σ w a b c).mono fun e w' he => ?_
    obtain ⟨σ', h2, h3⟩ := he
    refine ⟨σ', ?_, h3⟩
    rw [h2]
    simp only [fmt, den, denL, hn.2.2]
  · cases h

noncomputable def E4 (K : Int) : Env := inl Try.prog (envOf [(41, s18K K), (44, sEnc)] noLoop) plains 3
theorem e4_calls (K : Int) : CallsOk (E4 K) Try.prog := (inl_calls ((SpecsOk.cons (ok18K K) (SpecsOk.cons ok7 SpecsOk.nil)).calls noLoop) mixed named1 3).1

/-- the first from i on, of n -/
def fstN (p : Nat → Bool) : Nat → Nat → Nat
  | 0, i => i
  | n + 1, i => bif p i then i else fstN p n (i + 1)

theorem fstN_step (p : Nat → Bool) {i N : Nat} (h : i < N) : fstN p (N - i) i = bif p i then i else fstN p (N - (i + 1)) (i + 1) := by
  rw [show N - i = (N - (i + 1)) + 1 by omega]; rfl
theorem fstN_end (p : Nat → Bool) (N : Nat) : fstN p (N - N) N = N := by rw [Nat.sub_self]; rfl
theorem fstN_congr {p q : Nat → Bool} : ∀ (n i : Nat), (∀ j, i ≤ j → j < i + n → p j = q j) → fstN p n i = fstN q n i
  | 0, _, _ => rfl
  | n + 1, i, h => by
    simp only [fstN, h i (Nat.le_refl _) (by omega)]
    rw [fstN_congr n (i + 1) fun j h1 h2 => h j (by omega) (by omega)]

def z5 : List SV := [.int false .i64 0, .int false .i64 0, .int false .i64 0, .int false .i64 0, .int false .i64 0]
def v9 (w i : Int) : List SV := [.int false .u32 w, .ptr 1024 0 0, .int false .i64 0, .sl 1056 63, .int false .i64 63, .int false .i64 i]
def h9 (c0 c1 c2 c3 : Nat → Int) : Heap := [(1024, .cells z5), (1056, .tab 63 [.ints .i64 c0, .ints .u32 c1, .ints .u32 c2, .ints .u32 c3] true)]
def lk9 : Lp := ⟨41, [0, 2, 3, 9, 10, 11], 2048, fun _ _ => none⟩
def p9 (c0 c1 : Nat → Int) (w : Int) (i : Nat) : Bool := !(cm .neq (ar .and .u32 w 127) (c1 i)) &&
  (bif cm .eql (errL ((i : Int) + 1) (rdB (c0 i) (W w)) (r1B (c0 i) (W w)) (r2B (c0 i) (W w)) (numB (c0 i) (W w))) 0 then cm .eql (wordL ((i : Int) + 1) (rdB (c0 i) (W w)) (r1B (c0 i) (W w)) (r2B (c0 i) (W w)) (numB (c0 i) (W w))) w else false)
def a9 (c0 : Nat → Int) (w : Int) (i : Nat) : SV := .tup [.agg (asB ((i : Int) + 1) (c0 i) (W w)), .int false .i64 0]
def k9 (c0 : Nat → Int) : Bool := (List.range 63).all fun j => decide (0 ≤ c0 j) && decide (c0 j ≤ 8)
def get9 : List SV → Heap → Option Tr
  | [.int _ .u32 w, .ptr k2 r2 p2, .int _ .i64 a3, .sl k9' n9, .int _ .i64 a10, .int _ .i64 a11], [(j0, .cells [.int _ .i64 b0, .int _ .i64 b1, .int _ .i64 b2, .int _ .i64 b3, .int _ .i64 b4]), (j1, .tab n [.ints .i64 c0, .ints .u32 c1, .ints .u32 c2, .ints .u32 c3] true)] =>
    some (Tr.needs [Nat.beq k2 1024, Nat.beq r2 0, Nat.beq p2 0, decide (a3 = 0), Nat.beq k9' 1056, Nat.beq n9 63, decide (a10 = 63), decide (a11 = 0), Nat.beq j0 1024, decide (b0 = 0), decide (b1 = 0), decide (b2 = 0), decide (b3 = 0), decide (b4 = 0), Nat.beq j1 1056, Nat.beq n 63, k9 c0, decide (0 ≤ w), decide (w < 4294967296)]
      (.node (Nat.blt (fstN (p9 c0 c1 w) 63 0) 63) (.ret (a9 c0 w (fstN (p9 c0 c1 w) 63 0)) []) (exitT lk9 0 (v9 w 63) (h9 c0 c1 c2 c3))))
  | _, _ => none
def lp9 : Lp := { lk9 with get := get9 }

end Go.Rv
end

section
set_option linter.unusedVariables false
open Go Go.Ev Go.Proofs
namespace Go.Rv

end Go.Rv
end

section
set_option linter.unusedVariables false
open Go Go.Ev Go.Proofs
namespace Go.Rv

structure X9 where
  w : Int
  i : Nat
  c0 : Nat → Int
  c1 : Nat → Int
  c2 : Nat → Int
  c3 : Nat → Int

def ok9 (x : X9) : Prop := x.i ≤ 63 ∧ k9 x.c0 = true ∧ 0 ≤ x.w ∧ x.w < 4294967296
def d9 (x : X9) : Nat := fstN (p9 x.c0 x.c1 x.w) (63 - x.i) x.i
def vs9 (x : X9) : List SV := v9 x.w x.i
def hp9 (x : X9) : Heap := h9 x.c0 x.c1 x.c2 x.c3
def out9 (x : X9) : Vw := bif Nat.blt (d9 x) 63 then .ret (a9 x.c0 x.w (d9 x)) [] else .exit 0 41 (v9 x.w 63) (hp9 x)

theorem entry9 (l : List SV) (H : Heap) (T : Tr) (h : lp9.get l H = some T) (hb : T.leaf ≠ .bad) : ∃ x r, ok9 x ∧ WkV r lp9.nm l H (vs9 x) (hp9 x) ∧ T.leaf = toLf lp9 (out9 x) := by
  replace h : get9 l H = some T := h
  unfold get9 at h
  split at h
  · rename_i w k2 r2 p2 _ a3 k9' n9 _ a10 _ a11 j0 _ b0 _ b1 _ b2 _ b3 _ b4 j1 n c0 c1 c2 c3
    simp only [Option.some.injEq] at h
    subst h
    obtain ⟨hn, he⟩ := needs_ne hb
    rw [he]
    simp only [allB, Bool.and_eq_true, Bool.and_true, decide_eq_true_eq, Nat.beq_eq] at hn
    obtain ⟨rfl, rfl, rfl, rfl, rfl, rfl, rfl, rfl, rfl, rfl, rfl, rfl, rfl, rfl, rfl, rfl, hk, hw0, hw1⟩ := hn
    refine ⟨⟨w, 0, c0, c1, c2, c3⟩, [], ⟨Nat.zero_le _, hk, hw0, hw1⟩, ?_, ?_⟩
    · simp [WkV, vs9, hp9, v9, h9, z5, wkF, wkS, sim, simL, wkH, wkB, wkCs, wkC, rmap, rlook, Ev.look, oldsOf, uniqN, mem, SV.al, SV.alL, Ev.hal, Blk.al, lt, rok, lp9, lk9]
    · simp only [Tr.leaf, exitT_leaf, out9, toLf_cond, d9, hp9]
      rfl
  · cases h

theorem addOne {i : Nat} (h : i < 9223372036854775807) : ar .add .i64 (i : Int) 1 = ((i + 1 : Nat) : Int) := by
  simp only [ar, IntKind.wrap_i64]; omega
theorem oneAdd {i : Nat} (h : i < 9223372036854775807) : ar .add .i64 1 (i : Int) = (i : Int) + 1 := by
  simp only [ar, IntKind.wrap_i64]; omega

end Go.Rv
end

section
set_option linter.unusedVariables false
open Go Go.Ev Go.Proofs
namespace Go.Rv

end Go.Rv
end

section
set_option linter.unusedVariables false
open Go Go.Ev Go.Proofs
namespace Go.Rv

def hit (w : Int) (j : Nat) : Bool :=
  (errL ((j : Int) + 1) (rdB (nth kinds 0 j) (W w)) (r1B (nth kinds 0 j) (W w)) (r2B (nth kinds 0 j) (W w)) (numB (nth kinds 0 j) (W w)) == 0) &&
  (wordL ((j : Int) + 1) (rdB (nth kinds 0 j) (W w)) (r1B (nth kinds 0 j) (W w)) (r2B (nth kinds 0 j) (W w)) (numB (nth kinds 0 j) (W w)) == w)

def digB (j : Nat) : Bool := decide (0 ≤ nth lows 0 j) && decide (nth lows 0 j < 128) && decide (0 ≤ nth mids 0 j) && decide (nth mids 0 j < 2 ^ width (nth kinds 0 j) 1) && decide (0 ≤ nth fs 0 j) &&
  decide (nth fs 0 j < 2 ^ width (nth kinds 0 j) 2) && (!(nth kinds 0 j == 2) || nth fs 0 j % 2 == 0)
theorem dig_all : ((List.range 63).all digB) = true := by kernel_rfl
theorem digits (j : Nat) (hj : j < 63) : Digits (nth kinds 0 j) (nth lows 0 j) (nth mids 0 j) (nth fs 0 j) := by
  have := List.all_eq_true.1 dig_all j (List.mem_range.2 hj)
  simp only [digB, Bool.and_eq_true, decide_eq_true_eq, Bool.or_eq_true, Bool.not_eq_true', beq_iff_eq, beq_eq_false_iff_ne] at this
  obtain ⟨⟨⟨⟨⟨⟨h1, h2⟩, h3⟩, h4⟩, h5⟩, h6⟩, h7⟩ := this
  exact ⟨h1, h2, h3, h4, h5, h6, fun e => h7.resolve_left fun h => h e⟩

def sameB (i j : Nat) : Bool := (nth lows 0 i == nth lows 0 j) && (nth kinds 0 i == 6 || nth kinds 0 i == 7 || nth kinds 0 j == 6 || nth kinds 0 j == 7 || nth mids 0 i == nth mids 0 j) &&
  (!((nth kinds 0 i == 0 || nth kinds 0 i == 3) && (nth kinds 0 j == 0 || nth kinds 0 j == 3)) || nth fs 0 i == nth fs 0 j) &&
  (!(nth kinds 0 i == 2 && nth kinds 0 j == 2) || nth fs 0 i / 2 == nth fs 0 j / 2)
theorem same_all : ((List.range 63).all fun i => (List.range 63).all fun j => !sameB i j || Nat.beq i j) = true := by kernel_rfl
theorem same_eq {i j : Nat} (hi : i < 63) (hj : j < 63) (h : sameB i j = true) : i = j := by
  have := List.all_eq_true.1 (List.all_eq_true.1 same_all i (List.mem_range.2 hi)) j (List.mem_range.2 hj)
  rw [h] at this
  simpa using this

theorem err_zero {op rd r1 r2 n : Int} (h : errL op rd r1 r2 n = 0) : 1 ≤ op ∧ op ≤ 63 ∧ regsL (kindL op) rd r1 r2 = true ∧ fitsL (kindL op) n = true := by
  unfold errL at h
  cases h1 : (decide (op < 1) || decide (63 < op)) with
  | true => rw [h1] at h; cases h
  | false =>
    rw [h1] at h
    simp only [cond_false] at h
    have h1' : ¬ op < 1 ∧ ¬ 63 < op := by simpa using h1
    cases h2 : regsL (kindL op) rd r1 r2 with
    | false => rw [h2] at h; cases h
    | true =>
      rw [h2] at h
      cases h3 : fitsL (kindL op) n with
      | false => rw [h3] at h; cases h
      | true => exact ⟨by omega, by omega, rfl, rfl⟩

theorem row_of (j : Nat) : ((j : Int) + 1 - 1).toNat = j := by omega

theorem valid_told {j : Nat} (hj : j < 63) {rd r1 r2 n : Int} (h : errL ((j : Int) + 1) rd r1 r2 n = 0) :
    Told (nth kinds 0 j) (nth lows 0 j) (nth mids 0 j) (nth fs 0 j) rd r1 r2 n (wordOf ((j : Int) + 1) rd r1 r2 n) := by
  obtain ⟨_, _, h1, h2⟩ := err_zero h
  simp only [kindL, row_of] at h1 h2
  have := told (nth kinds 0 j) (kind_cases j hj) (nth lows 0 j) (nth mids 0 j) (nth fs 0 j) rd r1 r2 n (digits j hj) h1 h2
  simp only [wordOf, kindL, row_of]
  exact this

theorem W_iv (B : BitVec 32) : W (iv .u32 B) = B := ofInt_iv .u32 B
theorem W_inj {a b : Int} (ha : 0 ≤ a) (ha' : a < 4294967296) (hb : 0 ≤ b) (hb' : b < 4294967296) (h : W a = W b) : a = b := by
  rw [← W_nat a ha ha', ← W_nat b hb hb', h]

theorem word_iv {op rd r1 r2 n : Int} (h : errL op rd r1 r2 n = 0) : wordL op rd r1 r2 n = iv .u32 (wordOf op rd r1 r2 n) := by
  simp only [wordL, h, BEq.rfl, cond_true]

theorem hit_told {w : Int} {j : Nat} (hj : j < 63) (h : hit w j = true) :
    errL ((j : Int) + 1) (rdB (nth kinds 0 j) (W w)) (r1B (nth kinds 0 j) (W w)) (r2B (nth kinds 0 j) (W w)) (numB (nth kinds 0 j) (W w)) = 0 ∧
    Told (nth kinds 0 j) (nth lows 0 j) (nth mids 0 j) (nth fs 0 j) (rdB (nth kinds 0 j) (W w)) (r1B (nth kinds 0 j) (W w)) (r2B (nth kinds 0 j) (W w)) (numB (nth kinds 0 j) (W w)) (W w) := by
  simp only [hit, Bool.and_eq_true, beq_iff_eq] at h
  obtain ⟨h1, h2⟩ := h
  refine ⟨h1, ?_⟩
  have ht := valid_told hj h1
  rw [word_iv h1] at h2
  have : wordOf ((j : Int) + 1) (rdB (nth kinds 0 j) (W w)) (r1B (nth kinds 0 j) (W w)) (r2B (nth kinds 0 j) (W w)) (numB (nth kinds 0 j) (W w)) = W w := by
    have := congrArg W h2
    rwa [W_iv] at this
  rwa [this] at ht

theorem hit_uniq {w : Int} {i j : Nat} (hi : i < 63) (hj : j < 63) (h1 : hit w i = true) (h2 : hit w j = true) : i = j := by
  obtain ⟨_, t1⟩ := hit_told hi h1
  obtain ⟨_, t2⟩ := hit_told hj h2
  have d1 := digits i hi
  have d2 := digits j hj
  have hp1 : ∀ k, (2 : Int) ^ width k 1 ≤ 4294967296 := by intro k; simp only [width]; split <;> decide
  have hp2 : ∀ k, (2 : Int) ^ width k 2 ≤ 4294967296 := by intro k; simp only [width]; split <;> decide
  have p1 := hp1 (nth kinds 0 i)
  have p2 := hp1 (nth kinds 0 j)
  have p3 := hp2 (nth kinds 0 i)
  have p4 := hp2 (nth kinds 0 j)
  have q1 := d1.mi1
  have q2 := d2.mi1
  have q3 := d1.f1
  have q4 := d2.f1
  refine same_eq hi hj ?_
  have elo : nth lows 0 i = nth lows 0 j := W_inj d1.lo0 (by have := d1.lo1; omega) d2.lo0 (by have := d2.lo1; omega) (t1.hlo.symm.trans t2.hlo)
  simp only [sameB, Bool.and_eq_true, Bool.or_eq_true, beq_iff_eq, Bool.not_eq_true', Bool.and_eq_false_iff, Bool.or_eq_false_iff, beq_eq_false_iff_ne]
  refine ⟨⟨⟨elo, ?_⟩, ?_⟩, ?_⟩
  · by_cases a6 : nth kinds 0 i = 6
    · simp [a6]
    by_cases a7 : nth kinds 0 i = 7
    · simp [a7]
    by_cases b6 : nth kinds 0 j = 6
    · simp [b6]
    by_cases b7 : nth kinds 0 j = 7
    · simp [b7]
    right
    exact W_inj d1.mi0 (by omega) d2.mi0 (by omega) ((t1.hmi a6 a7).symm.trans (t2.hmi b6 b7))
  · by_cases a : nth kinds 0 i = 0 ∨ nth kinds 0 i = 3
    · by_cases b : nth kinds 0 j = 0 ∨ nth kinds 0 j = 3
      · right
        exact W_inj d1.f0 (by omega) d2.f0 (by omega) ((t1.hf a).symm.trans (t2.hf b))
      · left; right; omega
    · left; left; omega
  · by_cases a : nth kinds 0 i = 2
    · by_cases b : nth kinds 0 j = 2
      · right
        have e := congrArg BitVec.toNat ((t1.hf2 a).symm.trans (t2.hf2 b))
        simp only [BitVec.toNat_ushiftRight, Nat.shiftRight_eq_div_pow] at e
        have w1 := W_nat (nth fs 0 i) d1.f0 (by omega)
        have w2 := W_nat (nth fs 0 j) d2.f0 (by omega)
        omega
      · left; right; exact b
    · left; left; exact a

theorem fstN_at {p : Nat → Bool} {j : Nat} : ∀ (n i : Nat), i ≤ j → j < i + n → p j = true → (∀ k, i ≤ k → k < i + n → p k = true → k = j) → fstN p n i = j
  | 0, i, h1, h2, _, _ => by omega
  | n + 1, i, h1, h2, hp, hu => by
    simp only [fstN]
    by_cases e : i = j
    · subst e; rw [hp]; rfl
    · have : p i = false := by
        cases hq : p i with
        | false => rfl
        | true => exact absurd (hu i (Nat.le_refl _) (by omega) hq) e
      rw [this]
      exact fstN_at n (i + 1) (by omega) (by omega) hp fun k a b c => hu k (by omega) (by omega) c

theorem fstN_hit {p : Nat → Bool} : ∀ (n i : Nat), fstN p n i < i + n → p (fstN p n i) = true
  | 0, i, h => by simp [fstN] at h
  | n + 1, i, h => by
    simp only [fstN] at h ⊢
    cases hp : p i with
    | true => simpa using hp
    | false =>
      rw [hp] at h
      simp only [cond_false] at h ⊢
      exact fstN_hit n (i + 1) (by omega)

def decI (w : Int) : Nat := fstN (hit w) 63 0
def decOk (w : Int) : Bool := Nat.blt (decI w) 63
def decV (w : Int) (n : Int) : Int := bif decOk w then n else 0
def decK (w : Int) : Int := nth kinds 0 (decI w)
def decSV (w : Int) : List SV := [.int false .i64 (decV w ((decI w : Int) + 1)), .int false .i64 (decV w (rdB (decK w) (W w))), .int false .i64 (decV w (r1B (decK w) (W w))), .int false .i64 (decV w (r2B (decK w) (W w))), .int false .i64 (decV w (numB (decK w) (W w)))]

/-- what is encoded is decoded -/
theorem dec_enc {op rd r1 r2 n : Int} (h : errL op rd r1 r2 n = 0) :
    decOk (wordL op rd r1 r2 n) = true ∧ (decI (wordL op rd r1 r2 n) : Int) + 1 = op ∧ rdB (decK (wordL op rd r1 r2 n)) (W (wordL op rd r1 r2 n)) = rd ∧ r1B (decK (wordL op rd r1 r2 n)) (W (wordL op rd r1 r2 n)) = r1 ∧
    r2B (decK (wordL op rd r1 r2 n)) (W (wordL op rd r1 r2 n)) = r2 ∧ numB (decK (wordL op rd r1 r2 n)) (W (wordL op rd r1 r2 n)) = n := by
  obtain ⟨h1, h2, _, _⟩ := err_zero h
  obtain ⟨j, rfl⟩ : ∃ j : Nat, op = (j : Int) + 1 := ⟨(op - 1).toNat, by omega⟩
  have hj : j < 63 := by omega
  have ht := valid_told hj h
  rw [word_iv h, W_iv]
  have hhit : hit (iv .u32 (wordOf ((j : Int) + 1) rd r1 r2 n)) j = true := by
    simp only [hit, W_iv, ht.hrd, ht.hr1, ht.hr2, ht.hn, h, word_iv h, BEq.rfl, Bool.and_self]
  have hd : decI (iv .u32 (wordOf ((j : Int) + 1) rd r1 r2 n)) = j := fstN_at 63 0 (Nat.zero_le _) (by omega) hhit fun k _ hk hh => hit_uniq (by omega) hj hh hhit
  simp only [decOk, decK, hd]
  exact ⟨by rw [Nat.blt_eq]; exact hj, trivial, ht.hrd, ht.hr1, ht.hr2, ht.hn⟩

/-- what is decoded is encoded -/
theorem enc_dec {w : Int} (h : decOk w = true) : errL ((decI w : Int) + 1) (rdB (decK w) (W w)) (r1B (decK w) (W w)) (r2B (decK w) (W w)) (numB (decK w) (W w)) = 0 ∧
    wordL ((decI w : Int) + 1) (rdB (decK w) (W w)) (r1B (decK w) (W w)) (r2B (decK w) (W w)) (numB (decK w) (W w)) = w := by
  have hlt : decI w < 63 := by simpa [decOk] using h
  have := fstN_hit 63 0 (show fstN (hit w) 63 0 < 0 + 63 by unfold decI at hlt; omega)
  simp only [hit, Bool.and_eq_true, beq_iff_eq] at this
  exact this

end Go.Rv
end

section
set_option linter.unusedVariables false
open Go Go.Ev Go.Proofs
namespace Go.Rv

end Go.Rv
end

section
set_option linter.unusedVariables false
open Go Go.Ev Go.Proofs
namespace Go.Rv

theorem iv_W {n : Int} (h0 : 0 ≤ n) (h1 : n < 4294967296) : iv .u32 (W n) = n := (ofU n h0 h1).symm

theorem and127 {w : Int} (h0 : 0 ≤ w) (h1 : w < 4294967296) : ar .and .u32 w 127 = iv .u32 (W w &&& 127#32) := by
  rw [U32.and]; rfl

theorem p9_hit {w : Int} (h0 : 0 ≤ w) (h1 : w < 4294967296) {j : Nat} (hj : j < 63) : p9 (nth kinds 0) (nth lows 0) w j = hit w j := by
  have hcond : ∀ a b : Bool, (bif a then b else false) = (a && b) := fun a b => by cases a <;> rfl
  have e : p9 (nth kinds 0) (nth lows 0) w j = (!(cm .neq (ar .and .u32 w 127) (nth lows 0 j)) && hit w j) := by
    simp only [p9, hit, hcond]; rfl
  rw [e]
  cases hh : hit w j with
  | false => simp
  | true =>
    obtain ⟨_, ht⟩ := hit_told hj hh
    have d := digits j hj
    have : ar .and .u32 w 127 = nth lows 0 j := by rw [and127 h0 h1, ht.hlo, iv_W d.lo0 (by have := d.lo1; omega)]
    simp [cm, this]

theorem dec9 {w : Int} (h0 : 0 ≤ w) (h1 : w < 4294967296) : fstN (p9 (nth kinds 0) (nth lows 0) w) 63 0 = decI w :=
  fstN_congr 63 0 fun j _ hj => p9_hit h0 h1 (by omega)

def g9 : List SV → Heap → Option R := fun a H => match a, H with
  | [.int false .u32 w], [] => some ⟨[decide (0 ≤ w), decide (w < 4294967296)], .tup [.agg (decSV w), .int false .i64 (bif decOk w then 0 else 11)], []⟩
  | _, _ => none

end Go.Rv
end

section
set_option linter.unusedVariables false
open Go Go.Ev Go.Proofs
namespace Go.Rv

def lk11 : Lp := ⟨195, [0, 2, 3, 4], 2048, fun _ _ => none⟩
def v11 (w i : Int) : List SV := [.int false .u32 w, .ptr 1024 0 0, .bool false false, .int false .i64 i]
def h11 : Heap := [(1024, .cells z5)]
def get11 : List SV → Heap → Option Tr
  | [.int _ .u32 w, .ptr k2 r2 p2, .bool _ a3, .int _ .i64 a4], [(j0, .cells [.int _ .i64 b0, .int _ .i64 b1, .int _ .i64 b2, .int _ .i64 b3, .int _ .i64 b4])] =>
    some (Tr.needs [Nat.beq k2 1024, Nat.beq r2 0, Nat.beq p2 0, !a3, decide (a4 = 1), Nat.beq j0 1024, decide (b0 = 0), decide (b1 = 0), decide (b2 = 0), decide (b3 = 0), decide (b4 = 0), decide (0 ≤ w), decide (w < 4294967296)]
      (.node (Nat.blt (fstN (hit w) 63 0) 63) (.ret (.tup [.agg (asB ((fstN (hit w) 63 0 : Int) + 1) (nth kinds 0 (fstN (hit w) 63 0)) (W w)), .bool false true]) []) (exitT lk11 0 (v11 w 64) h11)))
  | _, _ => none
def lp11 : Lp := { lk11 with get := get11 }

theorem r11_82 (w : Int) (i : Int) : (evalB (E4 82) Try.prog Try.f30.results.toList (loopOf Try.f30 0) 1 lp11 (v11 w i) h11).view [0, 2, 3, 4] =
    (bif (cm BinOp.leq i 63) then
      bif (decide (1 ≤ i)) then
        bif (decide (i ≤ 63)) then
          bif (decide (letter (i - 1).toNat = 82)) then
            bif (bif cm BinOp.neq (ar BinOp.and IntKind.u32 w 127) (nth lows 0 (i - 1).toNat) then allB [] else allB [decide (0 ≤ 12), bif cm BinOp.neq (ar BinOp.and IntKind.u32 (ar BinOp.shr IntKind.u32 w 12) 7) (nth mids 0 (i - 1).toNat) then allB [] else allB [decide (0 ≤ 25)]]) then
              bif (bif cm BinOp.neq (ar BinOp.and IntKind.u32 w 127) (nth lows 0 (i - 1).toNat) then true else bif cm BinOp.neq (ar BinOp.and IntKind.u32 (ar BinOp.shr IntKind.u32 w 12) 7) (nth mids 0 (i - 1).toNat) then true else bif cm BinOp.neq (ar BinOp.shr IntKind.u32 w 25) (nth fs 0 (i - 1).toNat) then true else false) then
                .norm 195 [(.int false IntKind.u32 (w)), (.ptr 1024 0 0), (.bool false false), (.int false IntKind.i64 (ar BinOp.add IntKind.i64 i 1))] [(1024, .cells [(.int false IntKind.i64 0), (.int false IntKind.i64 0), (.int false IntKind.i64 0), (.int false IntKind.i64 0), (.int false IntKind.i64 0)])]
              else
                bif (bif cm BinOp.eql (errL i (conv IntKind.i64 (ar BinOp.and IntKind.u32 (ar BinOp.shr IntKind.u32 w 7) 31)) (conv IntKind.i64 (ar BinOp.and IntKind.u32 (ar BinOp.shr IntKind.u32 w 15) 31)) (conv IntKind.i64 (ar BinOp.and IntKind.u32 (ar BinOp.shr IntKind.u32 w 20) 31)) 0) 0 then cm BinOp.eql (wordL i (conv IntKind.i64 (ar BinOp.and IntKind.u32 (ar BinOp.shr IntKind.u32 w 7) 31)) (conv IntKind.i64 (ar BinOp.and IntKind.u32 (ar BinOp.shr IntKind.u32 w 15) 31)) (conv IntKind.i64 (ar BinOp.and IntKind.u32 (ar BinOp.shr IntKind.u32 w 20) 31)) 0) w else false) then
                  .ret (.tup [(.agg [(.int false IntKind.i64 (i)), (.int false IntKind.i64 (conv IntKind.i64 (ar BinOp.and IntKind.u32 (ar BinOp.shr IntKind.u32 w 7) 31))), (.int false IntKind.i64 (conv IntKind.i64 (ar BinOp.and IntKind.u32 (ar BinOp.shr IntKind.u32 w 15) 31))), (.int false IntKind.i64 (conv IntKind.i64 (ar BinOp.and IntKind.u32 (ar BinOp.shr IntKind.u32 w 20) 31))), (.int true IntKind.i64 0)]), (.bool true true)]) [(1024, .cells [(.int false IntKind.i64 (i)), (.int false IntKind.i64 (conv IntKind.i64 (ar BinOp.and IntKind.u32 (ar BinOp.shr IntKind.u32 w 7) 31))), (.int false IntKind.i64 (conv IntKind.i64 (ar BinOp.and IntKind.u32 (ar BinOp.shr IntKind.u32 w 15) 31))), (.int false IntKind.i64 (conv IntKind.i64 (ar BinOp.and IntKind.u32 (ar BinOp.shr IntKind.u32 w 20) 31))), (.int true IntKind.i64 0)]), (2992, .cells [(.int false IntKind.i64 (i)), (.int false IntKind.i64 (conv IntKind.i64 (ar BinOp.and IntKind.u32 (ar BinOp.shr IntKind.u32 w 7) 31))), (.int false IntKind.i64 (conv IntKind.i64 (ar BinOp.and IntKind.u32 (ar BinOp.shr IntKind.u32 w 15) 31))), (.int false IntKind.i64 (conv IntKind.i64 (ar BinOp.and IntKind.u32 (ar BinOp.shr IntKind.u32 w 20) 31))), (.int true IntKind.i64 0)])]
                else
                  .norm 195 [(.int false IntKind.u32 (w)), (.ptr 1024 0 0), (.bool false false), (.int false IntKind.i64 (ar BinOp.add IntKind.i64 i 1))] [(1024, .cells [(.int false IntKind.i64 0), (.int false IntKind.i64 0), (.int false IntKind.i64 0), (.int false IntKind.i64 0), (.int false IntKind.i64 0)]), (2992, .cells [(.int false IntKind.i64 (i)), (.int false IntKind.i64 (conv IntKind.i64 (ar BinOp.and IntKind.u32 (ar BinOp.shr IntKind.u32 w 7) 31))), (.int false IntKind.i64 (conv IntKind.i64 (ar BinOp.and IntKind.u32 (ar BinOp.shr IntKind.u32 w 15) 31))), (.int false IntKind.i64 (conv IntKind.i64 (ar BinOp.and IntKind.u32 (ar BinOp.shr IntKind.u32 w 20) 31))), (.int true IntKind.i64 0)])]
            else .bad
          else .bad
        else .bad
      else .bad
    else
      .exit 0 195 [(.int false IntKind.u32 (w)), (.ptr 1024 0 0), (.bool false false), (.int false IntKind.i64 (i))] [(1024, .cells [(.int false IntKind.i64 0), (.int false IntKind.i64 0), (.int false IntKind.i64 0), (.int false IntKind.i64 0), (.int false IntKind.i64 0)])]) := by kernel_rfl

theorem r11_73 (w : Int) (i : Int) : (evalB (E4 73) Try.prog Try.f30.results.toList (loopOf Try.f30 0) 1 lp11 (v11 w i) h11).view [0, 2, 3, 4] =
    (bif (cm BinOp.leq i 63) then
      bif (decide (1 ≤ i)) then
        bif (decide (i ≤ 63)) then
          bif (decide (letter (i - 1).toNat = 73)) then
            bif (bif cm BinOp.neq (ar BinOp.and IntKind.u32 w 127) (nth lows 0 (i - 1).toNat) then allB [] else allB [decide (0 ≤ 12)]) then
              bif (bif cm BinOp.neq (ar BinOp.and IntKind.u32 w 127) (nth lows 0 (i - 1).toNat) then true else bif cm BinOp.neq (ar BinOp.and IntKind.u32 (ar BinOp.shr IntKind.u32 w 12) 7) (nth mids 0 (i - 1).toNat) then true else false) then
                .norm 195 [(.int false IntKind.u32 (w)), (.ptr 1024 0 0), (.bool false false), (.int false IntKind.i64 (ar BinOp.add IntKind.i64 i 1))] [(1024, .cells [(.int false IntKind.i64 0), (.int false IntKind.i64 0), (.int false IntKind.i64 0), (.int false IntKind.i64 0), (.int false IntKind.i64 0)])]
              else
                bif (bif cm BinOp.eql (errL i (conv IntKind.i64 (ar BinOp.and IntKind.u32 (ar BinOp.shr IntKind.u32 w 7) 31)) (conv IntKind.i64 (ar BinOp.and IntKind.u32 (ar BinOp.shr IntKind.u32 w 15) 31)) 0 (conv IntKind.i64 (ar BinOp.shr IntKind.i32 (conv IntKind.i32 (ar BinOp.shl IntKind.u32 (ar BinOp.shr IntKind.u32 w 20) (ar BinOp.sub IntKind.i64 32 12))) (ar BinOp.sub IntKind.i64 32 12)))) 0 then cm BinOp.eql (wordL i (conv IntKind.i64 (ar BinOp.and IntKind.u32 (ar BinOp.shr IntKind.u32 w 7) 31)) (conv IntKind.i64 (ar BinOp.and IntKind.u32 (ar BinOp.shr IntKind.u32 w 15) 31)) 0 (conv IntKind.i64 (ar BinOp.shr IntKind.i32 (conv IntKind.i32 (ar BinOp.shl IntKind.u32 (ar BinOp.shr IntKind.u32 w 20) (ar BinOp.sub IntKind.i64 32 12))) (ar BinOp.sub IntKind.i64 32 12)))) w else false) then
                  .ret (.tup [(.agg [(.int false IntKind.i64 (i)), (.int false IntKind.i64 (conv IntKind.i64 (ar BinOp.and IntKind.u32 (ar BinOp.shr IntKind.u32 w 7) 31))), (.int false IntKind.i64 (conv IntKind.i64 (ar BinOp.and IntKind.u32 (ar BinOp.shr IntKind.u32 w 15) 31))), (.int true IntKind.i64 0), (.int false IntKind.i64 (conv IntKind.i64 (ar BinOp.shr IntKind.i32 (conv IntKind.i32 (ar BinOp.shl IntKind.u32 (ar BinOp.shr IntKind.u32 w 20) (ar BinOp.sub IntKind.i64 32 12))) (ar BinOp.sub IntKind.i64 32 12))))]), (.bool true true)]) [(1024, .cells [(.int false IntKind.i64 (i)), (.int false IntKind.i64 (conv IntKind.i64 (ar BinOp.and IntKind.u32 (ar BinOp.shr IntKind.u32 w 7) 31))), (.int false IntKind.i64 (conv IntKind.i64 (ar BinOp.and IntKind.u32 (ar BinOp.shr IntKind.u32 w 15) 31))), (.int true IntKind.i64 0), (.int false IntKind.i64 (conv IntKind.i64 (ar BinOp.shr IntKind.i32 (conv IntKind.i32 (ar BinOp.shl IntKind.u32 (ar BinOp.shr IntKind.u32 w 20) (ar BinOp.sub IntKind.i64 32 12))) (ar BinOp.sub IntKind.i64 32 12))))]), (2992, .cells [(.int false IntKind.i64 (i)), (.int false IntKind.i64 (conv IntKind.i64 (ar BinOp.and IntKind.u32 (ar BinOp.shr IntKind.u32 w 7) 31))), (.int false IntKind.i64 (conv IntKind.i64 (ar BinOp.and IntKind.u32 (ar BinOp.shr IntKind.u32 w 15) 31))), (.int true IntKind.i64 0), (.int false IntKind.i64 (conv IntKind.i64 (ar BinOp.shr IntKind.i32 (conv IntKind.i32 (ar BinOp.shl IntKind.u32 (ar BinOp.shr IntKind.u32 w 20) (ar BinOp.sub IntKind.i64 32 12))) (ar BinOp.sub IntKind.i64 32 12))))])]
                else
                  .norm 195 [(.int false IntKind.u32 (w)), (.ptr 1024 0 0), (.bool false false), (.int false IntKind.i64 (ar BinOp.add IntKind.i64 i 1))] [(1024, .cells [(.int false IntKind.i64 0), (.int false IntKind.i64 0), (.int false IntKind.i64 0), (.int false IntKind.i64 0), (.int false IntKind.i64 0)]), (2992, .cells [(.int false IntKind.i64 (i)), (.int false IntKind.i64 (conv IntKind.i64 (ar BinOp.and IntKind.u32 (ar BinOp.shr IntKind.u32 w 7) 31))), (.int false IntKind.i64 (conv IntKind.i64 (ar BinOp.and IntKind.u32 (ar BinOp.shr IntKind.u32 w 15) 31))), (.int true IntKind.i64 0), (.int false IntKind.i64 (conv IntKind.i64 (ar BinOp.shr IntKind.i32 (conv IntKind.i32 (ar BinOp.shl IntKind.u32 (ar BinOp.shr IntKind.u32 w 20) (ar BinOp.sub IntKind.i64 32 12))) (ar BinOp.sub IntKind.i64 32 12))))])]
            else .bad
          else .bad
        else .bad
      else .bad
    else
      .exit 0 195 [(.int false IntKind.u32 (w)), (.ptr 1024 0 0), (.bool false false), (.int false IntKind.i64 (i))] [(1024, .cells [(.int false IntKind.i64 0), (.int false IntKind.i64 0), (.int false IntKind.i64 0), (.int false IntKind.i64 0), (.int false IntKind.i64 0)])]) := by kernel_rfl

theorem r11_104 (w : Int) (i : Int) : (evalB (E4 104) Try.prog Try.f30.results.toList (loopOf Try.f30 0) 1 lp11 (v11 w i) h11).view [0, 2, 3, 4] =
    (bif (cm BinOp.leq i 63) then
      bif (decide (1 ≤ i)) then
        bif (decide (i ≤ 63)) then
          bif (decide (letter (i - 1).toNat = 104)) then
            bif (bif cm BinOp.neq (ar BinOp.and IntKind.u32 w 127) (nth lows 0 (i - 1).toNat) then allB [] else allB [decide (0 ≤ 12), bif cm BinOp.neq (ar BinOp.and IntKind.u32 (ar BinOp.shr IntKind.u32 w 12) 7) (nth mids 0 (i - 1).toNat) then allB [] else allB [decide (0 ≤ 26), decide (0 ≤ 1)]]) then
              bif (bif cm BinOp.neq (ar BinOp.and IntKind.u32 w 127) (nth lows 0 (i - 1).toNat) then true else bif cm BinOp.neq (ar BinOp.and IntKind.u32 (ar BinOp.shr IntKind.u32 w 12) 7) (nth mids 0 (i - 1).toNat) then true else cm BinOp.neq (ar BinOp.shr IntKind.u32 w 26) (ar BinOp.shr IntKind.u32 (nth fs 0 (i - 1).toNat) 1)) then
                .norm 195 [(.int false IntKind.u32 (w)), (.ptr 1024 0 0), (.bool false false), (.int false IntKind.i64 (ar BinOp.add IntKind.i64 i 1))] [(1024, .cells [(.int false IntKind.i64 0), (.int false IntKind.i64 0), (.int false IntKind.i64 0), (.int false IntKind.i64 0), (.int false IntKind.i64 0)])]
              else
                bif (bif cm BinOp.eql (errL i (conv IntKind.i64 (ar BinOp.and IntKind.u32 (ar BinOp.shr IntKind.u32 w 7) 31)) (conv IntKind.i64 (ar BinOp.and IntKind.u32 (ar BinOp.shr IntKind.u32 w 15) 31)) 0 (conv IntKind.i64 (ar BinOp.and IntKind.u32 (ar BinOp.shr IntKind.u32 w 20) 63))) 0 then cm BinOp.eql (wordL i (conv IntKind.i64 (ar BinOp.and IntKind.u32 (ar BinOp.shr IntKind.u32 w 7) 31)) (conv IntKind.i64 (ar BinOp.and IntKind.u32 (ar BinOp.shr IntKind.u32 w 15) 31)) 0 (conv IntKind.i64 (ar BinOp.and IntKind.u32 (ar BinOp.shr IntKind.u32 w 20) 63))) w else false) then
                  .ret (.tup [(.agg [(.int false IntKind.i64 (i)), (.int false IntKind.i64 (conv IntKind.i64 (ar BinOp.and IntKind.u32 (ar BinOp.shr IntKind.u32 w 7) 31))), (.int false IntKind.i64 (conv IntKind.i64 (ar BinOp.and IntKind.u32 (ar BinOp.shr IntKind.u32 w 15) 31))), (.int true IntKind.i64 0), (.int false IntKind.i64 (conv IntKind.i64 (ar BinOp.and IntKind.u32 (ar BinOp.shr IntKind.u32 w 20) 63)))]), (.bool true true)]) [(1024, .cells [(.int false IntKind.i64 (i)), (.int false IntKind.i64 (conv IntKind.i64 (ar BinOp.and IntKind.u32 (ar BinOp.shr IntKind.u32 w 7) 31))), (.int false IntKind.i64 (conv IntKind.i64 (ar BinOp.and IntKind.u32 (ar BinOp.shr IntKind.u32 w 15) 31))), (.int true IntKind.i64 0), (.int false IntKind.i64 (conv IntKind.i64 (ar BinOp.and IntKind.u32 (ar BinOp.shr IntKind.u32 w 20) 63)))]), (2992, .cells [(.int false IntKind.i64 (i)), (.int false IntKind.i64 (conv IntKind.i64 (ar BinOp.and IntKind.u32 (ar BinOp.shr IntKind.u32 w 7) 31))), (.int false IntKind.i64 (conv IntKind.i64 (ar BinOp.and IntKind.u32 (ar BinOp.shr IntKind.u32 w 15) 31))), (.int true IntKind.i64 0), (.int false IntKind.i64 (conv IntKind.i64 (ar BinOp.and IntKind.u32 (ar BinOp.shr IntKind.u32 w 20) 63)))])]
                else
                  .norm 195 [(.int false IntKind.u32 (w)), (.ptr 1024 0 0), (.bool false false), (.int false IntKind.i64 (ar BinOp.add IntKind.i64 i 1))] [(1024, .cells [(.int false IntKind.i64 0), (.int false IntKind.i64 0), (.int false IntKind.i64 0), (.int false IntKind.i64 0), (.int false IntKind.i64 0)]), (2992, .cells [(.int false IntKind.i64 (i)), (.int false IntKind.i64 (conv IntKind.i64 (ar BinOp.and IntKind.u32 (ar BinOp.shr IntKind.u32 w 7) 31))), (.int false IntKind.i64 (conv IntKind.i64 (ar BinOp.and IntKind.u32 (ar BinOp.shr IntKind.u32 w 15) 31))), (.int true IntKind.i64 0), (.int false IntKind.i64 (conv IntKind.i64 (ar BinOp.and IntKind.u32 (ar BinOp.shr IntKind.u32 w 20) 63)))])]
            else .bad
          else .bad
        else .bad
      else .bad
    else
      .exit 0 195 [(.int false IntKind.u32 (w)), (.ptr 1024 0 0), (.bool false false), (.int false IntKind.i64 (i))] [(1024, .cells [(.int false IntKind.i64 0), (.int false IntKind.i64 0), (.int false IntKind.i64 0), (.int false IntKind.i64 0), (.int false IntKind.i64 0)])]) := by kernel_rfl

theorem r11_119 (w : Int) (i : Int) : (evalB (E4 119) Try.prog Try.f30.results.toList (loopOf Try.f30 0) 1 lp11 (v11 w i) h11).view [0, 2, 3, 4] =
    (bif (cm BinOp.leq i 63) then
      bif (decide (1 ≤ i)) then
        bif (decide (i ≤ 63)) then
          bif (decide (letter (i - 1).toNat = 119)) then
            bif (bif cm BinOp.neq (ar BinOp.and IntKind.u32 w 127) (nth lows 0 (i - 1).toNat) then allB [] else allB [decide (0 ≤ 12), bif cm BinOp.neq (ar BinOp.and IntKind.u32 (ar BinOp.shr IntKind.u32 w 12) 7) (nth mids 0 (i - 1).toNat) then allB [] else allB [decide (0 ≤ 25)]]) then
              bif (bif cm BinOp.neq (ar BinOp.and IntKind.u32 w 127) (nth lows 0 (i - 1).toNat) then true else bif cm BinOp.neq (ar BinOp.and IntKind.u32 (ar BinOp.shr IntKind.u32 w 12) 7) (nth mids 0 (i - 1).toNat) then true else bif cm BinOp.neq (ar BinOp.shr IntKind.u32 w 25) (nth fs 0 (i - 1).toNat) then true else false) then
                .norm 195 [(.int false IntKind.u32 (w)), (.ptr 1024 0 0), (.bool false false), (.int false IntKind.i64 (ar BinOp.add IntKind.i64 i 1))] [(1024, .cells [(.int false IntKind.i64 0), (.int false IntKind.i64 0), (.int false IntKind.i64 0), (.int false IntKind.i64 0), (.int false IntKind.i64 0)])]
              else
                bif (bif cm BinOp.eql (errL i (conv IntKind.i64 (ar BinOp.and IntKind.u32 (ar BinOp.shr IntKind.u32 w 7) 31)) (conv IntKind.i64 (ar BinOp.and IntKind.u32 (ar BinOp.shr IntKind.u32 w 15) 31)) 0 (conv IntKind.i64 (ar BinOp.and IntKind.u32 (ar BinOp.shr IntKind.u32 w 20) 31))) 0 then cm BinOp.eql (wordL i (conv IntKind.i64 (ar BinOp.and IntKind.u32 (ar BinOp.shr IntKind.u32 w 7) 31)) (conv IntKind.i64 (ar BinOp.and IntKind.u32 (ar BinOp.shr IntKind.u32 w 15) 31)) 0 (conv IntKind.i64 (ar BinOp.and IntKind.u32 (ar BinOp.shr IntKind.u32 w 20) 31))) w else false) then
                  .ret (.tup [(.agg [(.int false IntKind.i64 (i)), (.int false IntKind.i64 (conv IntKind.i64 (ar BinOp.and IntKind.u32 (ar BinOp.shr IntKind.u32 w 7) 31))), (.int false IntKind.i64 (conv IntKind.i64 (ar BinOp.and IntKind.u32 (ar BinOp.shr IntKind.u32 w 15) 31))), (.int true IntKind.i64 0), (.int false IntKind.i64 (conv IntKind.i64 (ar BinOp.and IntKind.u32 (ar BinOp.shr IntKind.u32 w 20) 31)))]), (.bool true true)]) [(1024, .cells [(.int false IntKind.i64 (i)), (.int false IntKind.i64 (conv IntKind.i64 (ar BinOp.and IntKind.u32 (ar BinOp.shr IntKind.u32 w 7) 31))), (.int false IntKind.i64 (conv IntKind.i64 (ar BinOp.and IntKind.u32 (ar BinOp.shr IntKind.u32 w 15) 31))), (.int true IntKind.i64 0), (.int false IntKind.i64 (conv IntKind.i64 (ar BinOp.and IntKind.u32 (ar BinOp.shr IntKind.u32 w 20) 31)))]), (2992, .cells [(.int false IntKind.i64 (i)), (.int false IntKind.i64 (conv IntKind.i64 (ar BinOp.and IntKind.u32 (ar BinOp.shr IntKind.u32 w 7) 31))), (.int false IntKind.i64 (conv IntKind.i64 (ar BinOp.and IntKind.u32 (ar BinOp.shr IntKind.u32 w 15) 31))), (.int true IntKind.i64 0), (.int false IntKind.i64 (conv IntKind.i64 (ar BinOp.and IntKind.u32 (ar BinOp.shr IntKind.u32 w 20) 31)))])]
                else
                  .norm 195 [(.int false IntKind.u32 (w)), (.ptr 1024 0 0), (.bool false false), (.int false IntKind.i64 (ar BinOp.add IntKind.i64 i 1))] [(1024, .cells [(.int false IntKind.i64 0), (.int false IntKind.i64 0), (.int false IntKind.i64 0), (.int false IntKind.i64 0), (.int false IntKind.i64 0)]), (2992, .cells [(.int false IntKind.i64 (i)), (.int false IntKind.i64 (conv IntKind.i64 (ar BinOp.and IntKind.u32 (ar BinOp.shr IntKind.u32 w 7) 31))), (.int false IntKind.i64 (conv IntKind.i64 (ar BinOp.and IntKind.u32 (ar BinOp.shr IntKind.u32 w 15) 31))), (.int true IntKind.i64 0), (.int false IntKind.i64 (conv IntKind.i64 (ar BinOp.and IntKind.u32 (ar BinOp.shr IntKind.u32 w 20) 31)))])]
            else .bad
          else .bad
        else .bad
      else .bad
    else
      .exit 0 195 [(.int false IntKind.u32 (w)), (.ptr 1024 0 0), (.bool false false), (.int false IntKind.i64 (i))] [(1024, .cells [(.int false IntKind.i64 0), (.int false IntKind.i64 0), (.int false IntKind.i64 0), (.int false IntKind.i64 0), (.int false IntKind.i64 0)])]) := by kernel_rfl

theorem r11_83 (w : Int) (i : Int) : (evalB (E4 83) Try.prog Try.f30.results.toList (loopOf Try.f30 0) 1 lp11 (v11 w i) h11).view [0, 2, 3, 4] =
    (bif (cm BinOp.leq i 63) then
      bif (decide (1 ≤ i)) then
        bif (decide (i ≤ 63)) then
          bif (decide (letter (i - 1).toNat = 83)) then
            bif (bif cm BinOp.neq (ar BinOp.and IntKind.u32 w 127) (nth lows 0 (i - 1).toNat) then allB [] else allB [decide (0 ≤ 12)]) then
              bif (bif cm BinOp.neq (ar BinOp.and IntKind.u32 w 127) (nth lows 0 (i - 1).toNat) then true else bif cm BinOp.neq (ar BinOp.and IntKind.u32 (ar BinOp.shr IntKind.u32 w 12) 7) (nth mids 0 (i - 1).toNat) then true else false) then
                .norm 195 [(.int false IntKind.u32 (w)), (.ptr 1024 0 0), (.bool false false), (.int false IntKind.i64 (ar BinOp.add IntKind.i64 i 1))] [(1024, .cells [(.int false IntKind.i64 0), (.int false IntKind.i64 0), (.int false IntKind.i64 0), (.int false IntKind.i64 0), (.int false IntKind.i64 0)])]
              else
                bif (bif cm BinOp.eql (errL i 0 (conv IntKind.i64 (ar BinOp.and IntKind.u32 (ar BinOp.shr IntKind.u32 w 15) 31)) (conv IntKind.i64 (ar BinOp.and IntKind.u32 (ar BinOp.shr IntKind.u32 w 20) 31)) (conv IntKind.i64 (ar BinOp.shr IntKind.i32 (conv IntKind.i32 (ar BinOp.shl IntKind.u32 (ar BinOp.or IntKind.u32 (ar BinOp.shl IntKind.u32 (ar BinOp.and IntKind.u32 (ar BinOp.shr IntKind.u32 w 25) 127) 5) (ar BinOp.and IntKind.u32 (ar BinOp.shr IntKind.u32 w 7) 31)) (ar BinOp.sub IntKind.i64 32 12))) (ar BinOp.sub IntKind.i64 32 12)))) 0 then cm BinOp.eql (wordL i 0 (conv IntKind.i64 (ar BinOp.and IntKind.u32 (ar BinOp.shr IntKind.u32 w 15) 31)) (conv IntKind.i64 (ar BinOp.and IntKind.u32 (ar BinOp.shr IntKind.u32 w 20) 31)) (conv IntKind.i64 (ar BinOp.shr IntKind.i32 (conv IntKind.i32 (ar BinOp.shl IntKind.u32 (ar BinOp.or IntKind.u32 (ar BinOp.shl IntKind.u32 (ar BinOp.and IntKind.u32 (ar BinOp.shr IntKind.u32 w 25) 127) 5) (ar BinOp.and IntKind.u32 (ar BinOp.shr IntKind.u32 w 7) 31)) (ar BinOp.sub IntKind.i64 32 12))) (ar BinOp.sub IntKind.i64 32 12)))) w else false) then
                  .ret (.tup [(.agg [(.int false IntKind.i64 (i)), (.int true IntKind.i64 0), (.int false IntKind.i64 (conv IntKind.i64 (ar BinOp.and IntKind.u32 (ar BinOp.shr IntKind.u32 w 15) 31))), (.int false IntKind.i64 (conv IntKind.i64 (ar BinOp.and IntKind.u32 (ar BinOp.shr IntKind.u32 w 20) 31))), (.int false IntKind.i64 (conv IntKind.i64 (ar BinOp.shr IntKind.i32 (conv IntKind.i32 (ar BinOp.shl IntKind.u32 (ar BinOp.or IntKind.u32 (ar BinOp.shl IntKind.u32 (ar BinOp.and IntKind.u32 (ar BinOp.shr IntKind.u32 w 25) 127) 5) (ar BinOp.and IntKind.u32 (ar BinOp.shr IntKind.u32 w 7) 31)) (ar BinOp.sub IntKind.i64 32 12))) (ar BinOp.sub IntKind.i64 32 12))))]), (.bool true true)]) [(1024, .cells [(.int false IntKind.i64 (i)), (.int true IntKind.i64 0), (.int false IntKind.i64 (conv IntKind.i64 (ar BinOp.and IntKind.u32 (ar BinOp.shr IntKind.u32 w 15) 31))), (.int false IntKind.i64 (conv IntKind.i64 (ar BinOp.and IntKind.u32 (ar BinOp.shr IntKind.u32 w 20) 31))), (.int false IntKind.i64 (conv IntKind.i64 (ar BinOp.shr IntKind.i32 (conv IntKind.i32 (ar BinOp.shl IntKind.u32 (ar BinOp.or IntKind.u32 (ar BinOp.shl IntKind.u32 (ar BinOp.and IntKind.u32 (ar BinOp.shr IntKind.u32 w 25) 127) 5) (ar BinOp.and IntKind.u32 (ar BinOp.shr IntKind.u32 w 7) 31)) (ar BinOp.sub IntKind.i64 32 12))) (ar BinOp.sub IntKind.i64 32 12))))]), (2992, .cells [(.int false IntKind.i64 (i)), (.int true IntKind.i64 0), (.int false IntKind.i64 (conv IntKind.i64 (ar BinOp.and IntKind.u32 (ar BinOp.shr IntKind.u32 w 15) 31))), (.int false IntKind.i64 (conv IntKind.i64 (ar BinOp.and IntKind.u32 (ar BinOp.shr IntKind.u32 w 20) 31))), (.int false IntKind.i64 (conv IntKind.i64 (ar BinOp.shr IntKind.i32 (conv IntKind.i32 (ar BinOp.shl IntKind.u32 (ar BinOp.or IntKind.u32 (ar BinOp.shl IntKind.u32 (ar BinOp.and IntKind.u32 (ar BinOp.shr IntKind.u32 w 25) 127) 5) (ar BinOp.and IntKind.u32 (ar BinOp.shr IntKind.u32 w 7) 31)) (ar BinOp.sub IntKind.i64 32 12))) (ar BinOp.sub IntKind.i64 32 12))))])]
                else
                  .norm 195 [(.int false IntKind.u32 (w)), (.ptr 1024 0 0), (.bool false false), (.int false IntKind.i64 (ar BinOp.add IntKind.i64 i 1))] [(1024, .cells [(.int false IntKind.i64 0), (.int false IntKind.i64 0), (.int false IntKind.i64 0), (.int false IntKind.i64 0), (.int false IntKind.i64 0)]), (2992, .cells [(.int false IntKind.i64 (i)), (.int true IntKind.i64 0), (.int false IntKind.i64 (conv IntKind.i64 (ar BinOp.and IntKind.u32 (ar BinOp.shr IntKind.u32 w 15) 31))), (.int false IntKind.i64 (conv IntKind.i64 (ar BinOp.and IntKind.u32 (ar BinOp.shr IntKind.u32 w 20) 31))), (.int false IntKind.i64 (conv IntKind.i64 (ar BinOp.shr IntKind.i32 (conv IntKind.i32 (ar BinOp.shl IntKind.u32 (ar BinOp.or IntKind.u32 (ar BinOp.shl IntKind.u32 (ar BinOp.and IntKind.u32 (ar BinOp.shr IntKind.u32 w 25) 127) 5) (ar BinOp.and IntKind.u32 (ar BinOp.shr IntKind.u32 w 7) 31)) (ar BinOp.sub IntKind.i64 32 12))) (ar BinOp.sub IntKind.i64 32 12))))])]
            else .bad
          else .bad
        else .bad
      else .bad
    else
      .exit 0 195 [(.int false IntKind.u32 (w)), (.ptr 1024 0 0), (.bool false false), (.int false IntKind.i64 (i))] [(1024, .cells [(.int false IntKind.i64 0), (.int false IntKind.i64 0), (.int false IntKind.i64 0), (.int false IntKind.i64 0), (.int false IntKind.i64 0)])]) := by kernel_rfl

theorem r11_66 (w : Int) (i : Int) : (evalB (E4 66) Try.prog Try.f30.results.toList (loopOf Try.f30 0) 1 lp11 (v11 w i) h11).view [0, 2, 3, 4] =
    (bif (cm BinOp.leq i 63) then
      bif (decide (1 ≤ i)) then
        bif (decide (i ≤ 63)) then
          bif (decide (letter (i - 1).toNat = 66)) then
            bif (bif cm BinOp.neq (ar BinOp.and IntKind.u32 w 127) (nth lows 0 (i - 1).toNat) then allB [] else allB [decide (0 ≤ 12)]) then
              bif (bif cm BinOp.neq (ar BinOp.and IntKind.u32 w 127) (nth lows 0 (i - 1).toNat) then true else bif cm BinOp.neq (ar BinOp.and IntKind.u32 (ar BinOp.shr IntKind.u32 w 12) 7) (nth mids 0 (i - 1).toNat) then true else false) then
                .norm 195 [(.int false IntKind.u32 (w)), (.ptr 1024 0 0), (.bool false false), (.int false IntKind.i64 (ar BinOp.add IntKind.i64 i 1))] [(1024, .cells [(.int false IntKind.i64 0), (.int false IntKind.i64 0), (.int false IntKind.i64 0), (.int false IntKind.i64 0), (.int false IntKind.i64 0)])]
              else
                bif (bif cm BinOp.eql (errL i 0 (conv IntKind.i64 (ar BinOp.and IntKind.u32 (ar BinOp.shr IntKind.u32 w 15) 31)) (conv IntKind.i64 (ar BinOp.and IntKind.u32 (ar BinOp.shr IntKind.u32 w 20) 31)) (conv IntKind.i64 (ar BinOp.shr IntKind.i32 (conv IntKind.i32 (ar BinOp.shl IntKind.u32 (ar BinOp.or IntKind.u32 (ar BinOp.or IntKind.u32 (ar BinOp.or IntKind.u32 (ar BinOp.shl IntKind.u32 (ar BinOp.and IntKind.u32 (ar BinOp.shr IntKind.u32 w 31) 1) 12) (ar BinOp.shl IntKind.u32 (ar BinOp.and IntKind.u32 (ar BinOp.shr IntKind.u32 w 25) 63) 5)) (ar BinOp.shl IntKind.u32 (ar BinOp.and IntKind.u32 (ar BinOp.shr IntKind.u32 w 8) 15) 1)) (ar BinOp.shl IntKind.u32 (ar BinOp.and IntKind.u32 (ar BinOp.shr IntKind.u32 w 7) 1) 11)) (ar BinOp.sub IntKind.i64 32 13))) (ar BinOp.sub IntKind.i64 32 13)))) 0 then cm BinOp.eql (wordL i 0 (conv IntKind.i64 (ar BinOp.and IntKind.u32 (ar BinOp.shr IntKind.u32 w 15) 31)) (conv IntKind.i64 (ar BinOp.and IntKind.u32 (ar BinOp.shr IntKind.u32 w 20) 31)) (conv IntKind.i64 (ar BinOp.shr IntKind.i32 (conv IntKind.i32 (ar BinOp.shl IntKind.u32 (ar BinOp.or IntKind.u32 (ar BinOp.or IntKind.u32 (ar BinOp.or IntKind.u32 (ar BinOp.shl IntKind.u32 (ar BinOp.and IntKind.u32 (ar BinOp.shr IntKind.u32 w 31) 1) 12) (ar BinOp.shl IntKind.u32 (ar BinOp.and IntKind.u32 (ar BinOp.shr IntKind.u32 w 25) 63) 5)) (ar BinOp.shl IntKind.u32 (ar BinOp.and IntKind.u32 (ar BinOp.shr IntKind.u32 w 8) 15) 1)) (ar BinOp.shl IntKind.u32 (ar BinOp.and IntKind.u32 (ar BinOp.shr IntKind.u32 w 7) 1) 11)) (ar BinOp.sub IntKind.i64 32 13))) (ar BinOp.sub IntKind.i64 32 13)))) w else false) then
                  .ret (.tup [(.agg [(.int false IntKind.i64 (i)), (.int true IntKind.i64 0), (.int false IntKind.i64 (conv IntKind.i64 (ar BinOp.and IntKind.u32 (ar BinOp.shr IntKind.u32 w 15) 31))), (.int false IntKind.i64 (conv IntKind.i64 (ar BinOp.and IntKind.u32 (ar BinOp.shr IntKind.u32 w 20) 31))), (.int false IntKind.i64 (conv IntKind.i64 (ar BinOp.shr IntKind.i32 (conv IntKind.i32 (ar BinOp.shl IntKind.u32 (ar BinOp.or IntKind.u32 (ar BinOp.or IntKind.u32 (ar BinOp.or IntKind.u32 (ar BinOp.shl IntKind.u32 (ar BinOp.and IntKind.u32 (ar BinOp.shr IntKind.u32 w 31) 1) 12) (ar BinOp.shl IntKind.u32 (ar BinOp.and IntKind.u32 (ar BinOp.shr IntKind.u32 w 25) 63) 5)) (ar BinOp.shl IntKind.u32 (ar BinOp.and IntKind.u32 (ar BinOp.shr IntKind.u32 w 8) 15) 1)) (ar BinOp.shl IntKind.u32 (ar BinOp.and IntKind.u32 (ar BinOp.shr IntKind.u32 w 7) 1) 11)) (ar BinOp.sub IntKind.i64 32 13))) (ar BinOp.sub IntKind.i64 32 13))))]), (.bool true true)]) [(1024, .cells [(.int false IntKind.i64 (i)), (.int true IntKind.i64 0), (.int false IntKind.i64 (conv IntKind.i64 (ar BinOp.and IntKind.u32 (ar BinOp.shr IntKind.u32 w 15) 31))), (.int false IntKind.i64 (conv IntKind.i64 (ar BinOp.and IntKind.u32 (ar BinOp.shr IntKind.u32 w 20) 31))), (.int false IntKind.i64 (conv IntKind.i64 (ar BinOp.shr IntKind.i32 (conv IntKind.i32 (ar BinOp.shl IntKind.u32 (ar BinOp.or IntKind.u32 (ar BinOp.or IntKind.u32 (ar BinOp.or IntKind.u32 (ar BinOp.shl IntKind.u32 (ar BinOp.and IntKind.u32 (ar BinOp.shr IntKind.u32 w 31) 1) 12) (ar BinOp.shl IntKind.u32 (ar BinOp.and IntKind.u32 (ar BinOp.shr IntKind.u32 w 25) 63) 5)) (ar BinOp.shl IntKind.u32 (ar BinOp.and IntKind.u32 (ar BinOp.shr IntKind.u32 w 8) 15) 1)) (ar BinOp.shl IntKind.u32 (ar BinOp.and IntKind.u32 (ar BinOp.shr IntKind.u32 w 7) 1) 11)) (ar BinOp.sub IntKind.i64 32 13))) (ar BinOp.sub IntKind.i64 32 13))))]), (2992, .cells [(.int false IntKind.i64 (i)), (.int true IntKind.i64 0), (.int false IntKind.i64 (conv IntKind.i64 (ar BinOp.and IntKind.u32 (ar BinOp.shr IntKind.u32 w 15) 31))), (.int false IntKind.i64 (conv IntKind.i64 (ar BinOp.and IntKind.u32 (ar BinOp.shr IntKind.u32 w 20) 31))), (.int false IntKind.i64 (conv IntKind.i64 (ar BinOp.shr IntKind.i32 (conv IntKind.i32 (ar BinOp.shl IntKind.u32 (ar BinOp.or IntKind.u32 (ar BinOp.or IntKind.u32 (ar BinOp.or IntKind.u32 (ar BinOp.shl IntKind.u32 (ar BinOp.and IntKind.u32 (ar BinOp.shr IntKind.u32 w 31) 1) 12) (ar BinOp.shl IntKind.u32 (ar BinOp.and IntKind.u32 (ar BinOp.shr IntKind.u32 w 25) 63) 5)) (ar BinOp.shl IntKind.u32 (ar BinOp.and IntKind.u32 (ar BinOp.shr IntKind.u32 w 8) 15) 1)) (ar BinOp.shl IntKind.u32 (ar BinOp.and IntKind.u32 (ar BinOp.shr IntKind.u32 w 7) 1) 11)) (ar BinOp.sub IntKind.i64 32 13))) (ar BinOp.sub IntKind.i64 32 13))))])]
                else
                  .norm 195 [(.int false IntKind.u32 (w)), (.ptr 1024 0 0), (.bool false false), (.int false IntKind.i64 (ar BinOp.add IntKind.i64 i 1))] [(1024, .cells [(.int false IntKind.i64 0), (.int false IntKind.i64 0), (.int false IntKind.i64 0), (.int false IntKind.i64 0), (.int false IntKind.i64 0)]), (2992, .cells [(.int false IntKind.i64 (i)), (.int true IntKind.i64 0), (.int false IntKind.i64 (conv IntKind.i64 (ar BinOp.and IntKind.u32 (ar BinOp.shr IntKind.u32 w 15) 31))), (.int false IntKind.i64 (conv IntKind.i64 (ar BinOp.and IntKind.u32 (ar BinOp.shr IntKind.u32 w 20) 31))), (.int false IntKind.i64 (conv IntKind.i64 (ar BinOp.shr IntKind.i32 (conv IntKind.i32 (ar BinOp.shl IntKind.u32 (ar BinOp.or IntKind.u32 (ar BinOp.or IntKind.u32 (ar BinOp.or IntKind.u32 (ar BinOp.shl IntKind.u32 (ar BinOp.and IntKind.u32 (ar BinOp.shr IntKind.u32 w 31) 1) 12) (ar BinOp.shl IntKind.u32 (ar BinOp.and IntKind.u32 (ar BinOp.shr IntKind.u32 w 25) 63) 5)) (ar BinOp.shl IntKind.u32 (ar BinOp.and IntKind.u32 (ar BinOp.shr IntKind.u32 w 8) 15) 1)) (ar BinOp.shl IntKind.u32 (ar BinOp.and IntKind.u32 (ar BinOp.shr IntKind.u32 w 7) 1) 11)) (ar BinOp.sub IntKind.i64 32 13))) (ar BinOp.sub IntKind.i64 32 13))))])]
            else .bad
          else .bad
        else .bad
      else .bad
    else
      .exit 0 195 [(.int false IntKind.u32 (w)), (.ptr 1024 0 0), (.bool false false), (.int false IntKind.i64 (i))] [(1024, .cells [(.int false IntKind.i64 0), (.int false IntKind.i64 0), (.int false IntKind.i64 0), (.int false IntKind.i64 0), (.int false IntKind.i64 0)])]) := by kernel_rfl

theorem r11_85 (w : Int) (i : Int) : (evalB (E4 85) Try.prog Try.f30.results.toList (loopOf Try.f30 0) 1 lp11 (v11 w i) h11).view [0, 2, 3, 4] =
    (bif (cm BinOp.leq i 63) then
      bif (decide (1 ≤ i)) then
        bif (decide (i ≤ 63)) then
          bif (decide (letter (i - 1).toNat = 85)) then
            bif (bif cm BinOp.neq (ar BinOp.and IntKind.u32 w 127) (nth lows 0 (i - 1).toNat) then true else false) then
              .norm 195 [(.int false IntKind.u32 (w)), (.ptr 1024 0 0), (.bool false false), (.int false IntKind.i64 (ar BinOp.add IntKind.i64 i 1))] [(1024, .cells [(.int false IntKind.i64 0), (.int false IntKind.i64 0), (.int false IntKind.i64 0), (.int false IntKind.i64 0), (.int false IntKind.i64 0)])]
            else
              bif (bif cm BinOp.eql (errL i (conv IntKind.i64 (ar BinOp.and IntKind.u32 (ar BinOp.shr IntKind.u32 w 7) 31)) 0 0 (conv IntKind.i64 (ar BinOp.shr IntKind.u32 w 12))) 0 then cm BinOp.eql (wordL i (conv IntKind.i64 (ar BinOp.and IntKind.u32 (ar BinOp.shr IntKind.u32 w 7) 31)) 0 0 (conv IntKind.i64 (ar BinOp.shr IntKind.u32 w 12))) w else false) then
                .ret (.tup [(.agg [(.int false IntKind.i64 (i)), (.int false IntKind.i64 (conv IntKind.i64 (ar BinOp.and IntKind.u32 (ar BinOp.shr IntKind.u32 w 7) 31))), (.int true IntKind.i64 0), (.int true IntKind.i64 0), (.int false IntKind.i64 (conv IntKind.i64 (ar BinOp.shr IntKind.u32 w 12)))]), (.bool true true)]) [(1024, .cells [(.int false IntKind.i64 (i)), (.int false IntKind.i64 (conv IntKind.i64 (ar BinOp.and IntKind.u32 (ar BinOp.shr IntKind.u32 w 7) 31))), (.int true IntKind.i64 0), (.int true IntKind.i64 0), (.int false IntKind.i64 (conv IntKind.i64 (ar BinOp.shr IntKind.u32 w 12)))]), (2992, .cells [(.int false IntKind.i64 (i)), (.int false IntKind.i64 (conv IntKind.i64 (ar BinOp.and IntKind.u32 (ar BinOp.shr IntKind.u32 w 7) 31))), (.int true IntKind.i64 0), (.int true IntKind.i64 0), (.int false IntKind.i64 (conv IntKind.i64 (ar BinOp.shr IntKind.u32 w 12)))])]
              else
                .norm 195 [(.int false IntKind.u32 (w)), (.ptr 1024 0 0), (.bool false false), (.int false IntKind.i64 (ar BinOp.add IntKind.i64 i 1))] [(1024, .cells [(.int false IntKind.i64 0), (.int false IntKind.i64 0), (.int false IntKind.i64 0), (.int false IntKind.i64 0), (.int false IntKind.i64 0)]), (2992, .cells [(.int false IntKind.i64 (i)), (.int false IntKind.i64 (conv IntKind.i64 (ar BinOp.and IntKind.u32 (ar BinOp.shr IntKind.u32 w 7) 31))), (.int true IntKind.i64 0), (.int true IntKind.i64 0), (.int false IntKind.i64 (conv IntKind.i64 (ar BinOp.shr IntKind.u32 w 12)))])]
          else .bad
        else .bad
      else .bad
    else
      .exit 0 195 [(.int false IntKind.u32 (w)), (.ptr 1024 0 0), (.bool false false), (.int false IntKind.i64 (i))] [(1024, .cells [(.int false IntKind.i64 0), (.int false IntKind.i64 0), (.int false IntKind.i64 0), (.int false IntKind.i64 0), (.int false IntKind.i64 0)])]) := by kernel_rfl

theorem r11_74 (w : Int) (i : Int) : (evalB (E4 74) Try.prog Try.f30.results.toList (loopOf Try.f30 0) 1 lp11 (v11 w i) h11).view [0, 2, 3, 4] =
    (bif (cm BinOp.leq i 63) then
      bif (decide (1 ≤ i)) then
        bif (decide (i ≤ 63)) then
          bif (decide (letter (i - 1).toNat = 74)) then
            bif (bif cm BinOp.neq (ar BinOp.and IntKind.u32 w 127) (nth lows 0 (i - 1).toNat) then true else false) then
              .norm 195 [(.int false IntKind.u32 (w)), (.ptr 1024 0 0), (.bool false false), (.int false IntKind.i64 (ar BinOp.add IntKind.i64 i 1))] [(1024, .cells [(.int false IntKind.i64 0), (.int false IntKind.i64 0), (.int false IntKind.i64 0), (.int false IntKind.i64 0), (.int false IntKind.i64 0)])]
            else
              bif (bif cm BinOp.eql (errL i (conv IntKind.i64 (ar BinOp.and IntKind.u32 (ar BinOp.shr IntKind.u32 w 7) 31)) 0 0 (conv IntKind.i64 (ar BinOp.shr IntKind.i32 (conv IntKind.i32 (ar BinOp.shl IntKind.u32 (ar BinOp.or IntKind.u32 (ar BinOp.or IntKind.u32 (ar BinOp.or IntKind.u32 (ar BinOp.shl IntKind.u32 (ar BinOp.and IntKind.u32 (ar BinOp.shr IntKind.u32 w 31) 1) 20) (ar BinOp.shl IntKind.u32 (ar BinOp.and IntKind.u32 (ar BinOp.shr IntKind.u32 w 21) 1023) 1)) (ar BinOp.shl IntKind.u32 (ar BinOp.and IntKind.u32 (ar BinOp.shr IntKind.u32 w 20) 1) 11)) (ar BinOp.shl IntKind.u32 (ar BinOp.and IntKind.u32 (ar BinOp.shr IntKind.u32 w 12) 255) 12)) (ar BinOp.sub IntKind.i64 32 21))) (ar BinOp.sub IntKind.i64 32 21)))) 0 then cm BinOp.eql (wordL i (conv IntKind.i64 (ar BinOp.and IntKind.u32 (ar BinOp.shr IntKind.u32 w 7) 31)) 0 0 (conv IntKind.i64 (ar BinOp.shr IntKind.i32 (conv IntKind.i32 (ar BinOp.shl IntKind.u32 (ar BinOp.or IntKind.u32 (ar BinOp.or IntKind.u32 (ar BinOp.or IntKind.u32 (ar BinOp.shl IntKind.u32 (ar BinOp.and IntKind.u32 (ar BinOp.shr IntKind.u32 w 31) 1) 20) (ar BinOp.shl IntKind.u32 (ar BinOp.and IntKind.u32 (ar BinOp.shr IntKind.u32 w 21) 1023) 1)) (ar BinOp.shl IntKind.u32 (ar BinOp.and IntKind.u32 (ar BinOp.shr IntKind.u32 w 20) 1) 11)) (ar BinOp.shl IntKind.u32 (ar BinOp.and IntKind.u32 (ar BinOp.shr IntKind.u32 w 12) 255) 12)) (ar BinOp.sub IntKind.i64 32 21))) (ar BinOp.sub IntKind.i64 32 21)))) w else false) then
                .ret (.tup [(.agg [(.int false IntKind.i64 (i)), (.int false IntKind.i64 (conv IntKind.i64 (ar BinOp.and IntKind.u32 (ar BinOp.shr IntKind.u32 w 7) 31))), (.int true IntKind.i64 0), (.int true IntKind.i64 0), (.int false IntKind.i64 (conv IntKind.i64 (ar BinOp.shr IntKind.i32 (conv IntKind.i32 (ar BinOp.shl IntKind.u32 (ar BinOp.or IntKind.u32 (ar BinOp.or IntKind.u32 (ar BinOp.or IntKind.u32 (ar BinOp.shl IntKind.u32 (ar BinOp.and IntKind.u32 (ar BinOp.shr IntKind.u32 w 31) 1) 20) (ar BinOp.shl IntKind.u32 (ar BinOp.and IntKind.u32 (ar BinOp.shr IntKind.u32 w 21) 1023) 1)) (ar BinOp.shl IntKind.u32 (ar BinOp.and IntKind.u32 (ar BinOp.shr IntKind.u32 w 20) 1) 11)) (ar BinOp.shl IntKind.u32 (ar BinOp.and IntKind.u32 (ar BinOp.shr IntKind.u32 w 12) 255) 12)) (ar BinOp.sub IntKind.i64 32 21))) (ar BinOp.sub IntKind.i64 32 21))))]), (.bool true true)]) [(1024, .cells [(.int false IntKind.i64 (i)), (.int false IntKind.i64 (conv IntKind.i64 (ar BinOp.and IntKind.u32 (ar BinOp.shr IntKind.u32 w 7) 31))), (.int true IntKind.i64 0), (.int true IntKind.i64 0), (.int false IntKind.i64 (conv IntKind.i64 (ar BinOp.shr IntKind.i32 (conv IntKind.i32 (ar BinOp.shl IntKind.u32 (ar BinOp.or IntKind.u32 (ar BinOp.or IntKind.u32 (ar BinOp.or IntKind.u32 (ar BinOp.shl IntKind.u32 (ar BinOp.and IntKind.u32 (ar BinOp.shr IntKind.u32 w 31) 1) 20) (ar BinOp.shl IntKind.u32 (ar BinOp.and IntKind.u32 (ar BinOp.shr IntKind.u32 w 21) 1023) 1)) (ar BinOp.shl IntKind.u32 (ar BinOp.and IntKind.u32 (ar BinOp.shr IntKind.u32 w 20) 1) 11)) (ar BinOp.shl IntKind.u32 (ar BinOp.and IntKind.u32 (ar BinOp.shr IntKind.u32 w 12) 255) 12)) (ar BinOp.sub IntKind.i64 32 21))) (ar BinOp.sub IntKind.i64 32 21))))]), (2992, .cells [(.int false IntKind.i64 (i)), (.int false IntKind.i64 (conv IntKind.i64 (ar BinOp.and IntKind.u32 (ar BinOp.shr IntKind.u32 w 7) 31))), (.int true IntKind.i64 0), (.int true IntKind.i64 0), (.int false IntKind.i64 (conv IntKind.i64 (ar BinOp.shr IntKind.i32 (conv IntKind.i32 (ar BinOp.shl IntKind.u32 (ar BinOp.or IntKind.u32 (ar BinOp.or IntKind.u32 (ar BinOp.or IntKind.u32 (ar BinOp.shl IntKind.u32 (ar BinOp.and IntKind.u32 (ar BinOp.shr IntKind.u32 w 31) 1) 20) (ar BinOp.shl IntKind.u32 (ar BinOp.and IntKind.u32 (ar BinOp.shr IntKind.u32 w 21) 1023) 1)) (ar BinOp.shl IntKind.u32 (ar BinOp.and IntKind.u32 (ar BinOp.shr IntKind.u32 w 20) 1) 11)) (ar BinOp.shl IntKind.u32 (ar BinOp.and IntKind.u32 (ar BinOp.shr IntKind.u32 w 12) 255) 12)) (ar BinOp.sub IntKind.i64 32 21))) (ar BinOp.sub IntKind.i64 32 21))))])]
              else
                .norm 195 [(.int false IntKind.u32 (w)), (.ptr 1024 0 0), (.bool false false), (.int false IntKind.i64 (ar BinOp.add IntKind.i64 i 1))] [(1024, .cells [(.int false IntKind.i64 0), (.int false IntKind.i64 0), (.int false IntKind.i64 0), (.int false IntKind.i64 0), (.int false IntKind.i64 0)]), (2992, .cells [(.int false IntKind.i64 (i)), (.int false IntKind.i64 (conv IntKind.i64 (ar BinOp.and IntKind.u32 (ar BinOp.shr IntKind.u32 w 7) 31))), (.int true IntKind.i64 0), (.int true IntKind.i64 0), (.int false IntKind.i64 (conv IntKind.i64 (ar BinOp.shr IntKind.i32 (conv IntKind.i32 (ar BinOp.shl IntKind.u32 (ar BinOp.or IntKind.u32 (ar BinOp.or IntKind.u32 (ar BinOp.or IntKind.u32 (ar BinOp.shl IntKind.u32 (ar BinOp.and IntKind.u32 (ar BinOp.shr IntKind.u32 w 31) 1) 20) (ar BinOp.shl IntKind.u32 (ar BinOp.and IntKind.u32 (ar BinOp.shr IntKind.u32 w 21) 1023) 1)) (ar BinOp.shl IntKind.u32 (ar BinOp.and IntKind.u32 (ar BinOp.shr IntKind.u32 w 20) 1) 11)) (ar BinOp.shl IntKind.u32 (ar BinOp.and IntKind.u32 (ar BinOp.shr IntKind.u32 w 12) 255) 12)) (ar BinOp.sub IntKind.i64 32 21))) (ar BinOp.sub IntKind.i64 32 21))))])]
          else .bad
        else .bad
      else .bad
    else
      .exit 0 195 [(.int false IntKind.u32 (w)), (.ptr 1024 0 0), (.bool false false), (.int false IntKind.i64 (i))] [(1024, .cells [(.int false IntKind.i64 0), (.int false IntKind.i64 0), (.int false IntKind.i64 0), (.int false IntKind.i64 0), (.int false IntKind.i64 0)])]) := by kernel_rfl

theorem r11_69 (w : Int) (i : Int) : (evalB (E4 69) Try.prog Try.f30.results.toList (loopOf Try.f30 0) 1 lp11 (v11 w i) h11).view [0, 2, 3, 4] =
    (bif (cm BinOp.leq i 63) then
      bif (decide (1 ≤ i)) then
        bif (decide (i ≤ 63)) then
          bif (decide (letter (i - 1).toNat = 69)) then
            bif (bif cm BinOp.neq (ar BinOp.and IntKind.u32 w 127) (nth lows 0 (i - 1).toNat) then allB [] else allB [decide (0 ≤ 12)]) then
              bif (bif cm BinOp.neq (ar BinOp.and IntKind.u32 w 127) (nth lows 0 (i - 1).toNat) then true else bif cm BinOp.neq (ar BinOp.and IntKind.u32 (ar BinOp.shr IntKind.u32 w 12) 7) (nth mids 0 (i - 1).toNat) then true else false) then
                .norm 195 [(.int false IntKind.u32 (w)), (.ptr 1024 0 0), (.bool false false), (.int false IntKind.i64 (ar BinOp.add IntKind.i64 i 1))] [(1024, .cells [(.int false IntKind.i64 0), (.int false IntKind.i64 0), (.int false IntKind.i64 0), (.int false IntKind.i64 0), (.int false IntKind.i64 0)])]
              else
                bif (bif cm BinOp.eql (errL i 0 0 0 0) 0 then cm BinOp.eql (wordL i 0 0 0 0) w else false) then
                  .ret (.tup [(.agg [(.int false IntKind.i64 (i)), (.int true IntKind.i64 0), (.int true IntKind.i64 0), (.int true IntKind.i64 0), (.int true IntKind.i64 0)]), (.bool true true)]) [(1024, .cells [(.int false IntKind.i64 (i)), (.int true IntKind.i64 0), (.int true IntKind.i64 0), (.int true IntKind.i64 0), (.int true IntKind.i64 0)]), (2992, .cells [(.int false IntKind.i64 (i)), (.int true IntKind.i64 0), (.int true IntKind.i64 0), (.int true IntKind.i64 0), (.int true IntKind.i64 0)])]
                else
                  .norm 195 [(.int false IntKind.u32 (w)), (.ptr 1024 0 0), (.bool false false), (.int false IntKind.i64 (ar BinOp.add IntKind.i64 i 1))] [(1024, .cells [(.int false IntKind.i64 0), (.int false IntKind.i64 0), (.int false IntKind.i64 0), (.int false IntKind.i64 0), (.int false IntKind.i64 0)]), (2992, .cells [(.int false IntKind.i64 (i)), (.int true IntKind.i64 0), (.int true IntKind.i64 0), (.int true IntKind.i64 0), (.int true IntKind.i64 0)])]
            else .bad
          else .bad
        else .bad
      else .bad
    else
      .exit 0 195 [(.int false IntKind.u32 (w)), (.ptr 1024 0 0), (.bool false false), (.int false IntKind.i64 (i))] [(1024, .cells [(.int false IntKind.i64 0), (.int false IntKind.i64 0), (.int false IntKind.i64 0), (.int false IntKind.i64 0), (.int false IntKind.i64 0)])]) := by kernel_rfl

end Go.Rv
end

section
set_option linter.unusedVariables false
open Go Go.Ev Go.Proofs
namespace Go.Rv

structure X11 where
  w : Int
  i : Nat

def ok11 (x : X11) : Prop := x.i ≤ 63 ∧ 0 ≤ x.w ∧ x.w < 4294967296
def d11 (x : X11) : Nat := fstN (hit x.w) (63 - x.i) x.i
def vs11 (x : X11) : List SV := v11 x.w ((x.i : Int) + 1)
def hp11 (x : X11) : Heap := h11
def out11 (x : X11) : Vw := bif Nat.blt (d11 x) 63 then .ret (.tup [.agg (asB ((d11 x : Int) + 1) (nth kinds 0 (d11 x)) (W x.w)), .bool false true]) [] else .exit 0 195 (v11 x.w 64) h11

theorem entry11 (l : List SV) (H : Heap) (T : Tr) (h : lp11.get l H = some T) (hb : T.leaf ≠ .bad) : ∃ x r, ok11 x ∧ WkV r lp11.nm l H (vs11 x) (hp11 x) ∧ T.leaf = toLf lp11 (out11 x) := by
  replace h : get11 l H = some T := h
  unfold get11 at h
  split at h
  · rename_i w k2 r2 p2 _ a3 _ a4 j0 _ b0 _ b1 _ b2 _ b3 _ b4
    simp only [Option.some.injEq] at h
    subst h
    obtain ⟨hn, he⟩ := needs_ne hb
    rw [he]
    simp only [allB, Bool.and_eq_true, Bool.and_true, decide_eq_true_eq, Nat.beq_eq, Bool.not_eq_true'] at hn
    obtain ⟨rfl, rfl, rfl, rfl, rfl, rfl, rfl, rfl, rfl, rfl, rfl, hw0, hw1⟩ := hn
    refine ⟨⟨w, 0⟩, [], ⟨Nat.zero_le _, hw0, hw1⟩, ?_, ?_⟩
    · simp [WkV, vs11, hp11, v11, h11, z5, wkF, wkS, sim, simL, wkH, wkB, wkCs, wkC, rmap, rlook, Ev.look, oldsOf, uniqN, mem, SV.al, SV.alL, Ev.hal, Blk.al, lt, rok, lp11, lk11]
    · simp only [Tr.leaf, exitT_leaf, out11, toLf_cond, d11]
      rfl
  · cases h

/-- a word's fields, as the page reads them -/
theorem low_of {w : Int} (h0 : 0 ≤ w) (h1 : w < 4294967296) {j : Nat} (hj : j < 63) (hh : hit w j = true) : ar .and .u32 w 127 = nth lows 0 j := by
  obtain ⟨_, ht⟩ := hit_told hj hh
  have d := digits j hj
  rw [and127 h0 h1, ht.hlo, iv_W d.lo0 (by have := d.lo1; omega)]
theorem wid1 (k : Int) : (2 : Int) ^ width k 1 ≤ 8 := by simp only [width]; split <;> decide
theorem wid2 (k : Int) : (2 : Int) ^ width k 2 ≤ 128 := by simp only [width]; split <;> decide
theorem mid_of {w : Int} (h0 : 0 ≤ w) (h1 : w < 4294967296) {j : Nat} (hj : j < 63) (hh : hit w j = true) (h6 : nth kinds 0 j ≠ 6) (h7 : nth kinds 0 j ≠ 7) : ar .and .u32 (ar .shr .u32 w 12) 7 = nth mids 0 j := by
  obtain ⟨_, ht⟩ := hit_told hj hh
  have d := digits j hj
  have e : ar .and .u32 (ar .shr .u32 w 12) 7 = iv .u32 ((W w >>> 12) &&& 7#32) := by
    conv => lhs; rw [ofU w h0 h1]
    rw [U32.shr _ 12 (by omega), U32.and, U32.inv]; rfl
  rw [e, ht.hmi h6 h7, iv_W d.mi0 (by have := d.mi1; have := wid1 (nth kinds 0 j); omega)]
theorem f_of {w : Int} (h0 : 0 ≤ w) (h1 : w < 4294967296) {j : Nat} (hj : j < 63) (hh : hit w j = true) (hk : nth kinds 0 j = 0 ∨ nth kinds 0 j = 3) : ar .shr .u32 w 25 = nth fs 0 j := by
  obtain ⟨_, ht⟩ := hit_told hj hh
  have d := digits j hj
  have e : ar .shr .u32 w 25 = iv .u32 (W w >>> 25) := by
    conv => lhs; rw [ofU w h0 h1]
    rw [U32.shr _ 25 (by omega)]; rfl
  rw [e, ht.hf hk, iv_W d.f0 (by have := d.f1; have := wid2 (nth kinds 0 j); omega)]
theorem f2_of {w : Int} (h0 : 0 ≤ w) (h1 : w < 4294967296) {j : Nat} (hj : j < 63) (hh : hit w j = true) (hk : nth kinds 0 j = 2) : ar .shr .u32 w 26 = ar .shr .u32 (nth fs 0 j) 1 := by
  obtain ⟨_, ht⟩ := hit_told hj hh
  have d := digits j hj
  have e : ar .shr .u32 w 26 = iv .u32 (W w >>> 26) := by
    conv => lhs; rw [ofU w h0 h1]
    rw [U32.shr _ 26 (by omega)]; rfl
  have e2 : ar .shr .u32 (nth fs 0 j) 1 = iv .u32 (W (nth fs 0 j) >>> 1) := by
    conv => lhs; rw [ofU (nth fs 0 j) d.f0 (by have := d.f1; have := wid2 (nth kinds 0 j); omega)]
    rw [U32.shr _ 1 (by omega)]; rfl
  rw [e, e2, ht.hf2 hk]

theorem out11_next {w : Int} {i : Nat} (h : i < 63) (hh : hit w i = false) : out11 ⟨w, i + 1⟩ = out11 ⟨w, i⟩ := by
  have hstep := fstN_step (hit w) h
  rw [hh] at hstep
  simp only [cond_false] at hstep
  simp only [out11, d11, hstep]
theorem out11_here {w : Int} {i : Nat} (h : i < 63) (hh : hit w i = true) : out11 ⟨w, i⟩ = .ret (.tup [.agg (asB ((i : Int) + 1) (nth kinds 0 i) (W w)), .bool false true]) [] := by
  have hstep := fstN_step (hit w) h
  rw [hh] at hstep
  simp only [cond_true] at hstep
  have e4 : Nat.blt i 63 = true := by rw [Nat.blt_eq]; exact h
  simp only [out11, d11, hstep, e4, cond_true]
theorem cm_leq_iff {i : Nat} (h : i < 63) : cm .leq ((i : Int) + 1) 63 = true := decide_eq_true (by omega)
theorem nextOp {i : Nat} (h : i < 63) : ar .add .i64 ((i : Int) + 1) 1 = ((i + 1 : Nat) : Int) + 1 := by
  simp only [ar, IntKind.wrap_i64]; omega
theorem rev4 (a b c d : Nat) : ((a ||| b) ||| c) ||| d = ((d ||| c) ||| b) ||| a := by
  rw [Nat.or_comm _ d, Nat.or_comm _ c, Nat.or_comm a b, Nat.or_assoc, Nat.or_assoc]

theorem round11_82 (w : Int) (i : Nat) (h63 : i < 63) (hl : letter i = 82) (hk : nth kinds 0 i = 0) (hw0 : 0 ≤ w) (hw1 : w < 4294967296) :
    Round lp11 ok11 (fun x => 63 - x.i) vs11 hp11 out11 ⟨w, i⟩ ((evalB (E4 82) Try.prog Try.f30.results.toList (loopOf Try.f30 0) 1 lp11 (v11 w ((i : Int) + 1)) h11).view [0, 2, 3, 4]) := by
  have hr := r11_82 w ((i : Int) + 1)
  have e2 : decide (1 ≤ (i : Int) + 1) = true := decide_eq_true (by omega)
  have e3 : decide ((i : Int) + 1 ≤ 63) = true := decide_eq_true (by omega)
  have e12 : ar .sub .i64 32 12 = 20 := by decide
  have e13 : ar .sub .i64 32 13 = 19 := by decide
  have e21 : ar .sub .i64 32 21 = 11 := by decide
  simp only [cm_leq_iff h63, e2, e3, row_of, hl, decide_true, cond_true, nextOp h63] at hr
  rw [hr]
  have hnext : hit w i = false → ∀ H2, Round lp11 ok11 (fun x => 63 - x.i) vs11 hp11 out11 ⟨w, i⟩ (.norm 195 [.int false .u32 w, .ptr 1024 0 0, .bool false false, .int false .i64 (((i + 1 : Nat) : Int) + 1)] ((1024, .cells z5) :: H2)) := by
    intro hh H2
    refine ⟨rfl, ⟨w, i + 1⟩, [], ⟨h63, hw0, hw1⟩, by show 63 - (i + 1) < 63 - i; omega, out11_next h63 hh, ?_⟩
    simp [WkV, vs11, hp11, v11, h11, z5, wkF, wkS, sim, simL, wkH, wkB, wkCs, wkC, rmap, rlook, Ev.look, oldsOf, uniqN, mem, SV.al, SV.alL, Ev.hal, Blk.al, lt, rok, lp11, lk11]
  refine Round_cond (fun _ => ?_) (fun hc => ?_)
  · refine Round_cond (fun hc => ?_) (fun hc => ?_)
    · refine hnext ?_ _
      cases hh : hit w i with
      | false => rfl
      | true =>
        exfalso
        have u1 := low_of hw0 hw1 h63 hh
        have u2 := mid_of hw0 hw1 h63 hh (by rw [hk]; decide) (by rw [hk]; decide)
        have u3 := f_of hw0 hw1 h63 hh (by rw [hk]; decide)
        simp [cm, u1, u2, u3] at hc
    · clear hc
      have hw := ofU w hw0 hw1
      refine Round_cond (fun hd => ?_) (fun hd => ?_)
      · have hh : hit w i = true := by
          generalize W w = B at hw
          subst hw
          simp [U32.or, U32.and, U32.sub, U32.shl, U32.shr, U32.inv, conv64u, conv64s, conv32, shrS, e12, e13, e21] at hd
          simp [hit, hk, W_iv, rdB, r1B, r2B, numB, fieldB, signB, hasL, U32.or, U32.and, U32.sub, U32.shl, U32.shr, U32.inv, conv64u, conv64s, conv32, shrS, e12, e13, e21]
          simpa [cm_eql'] using hd
        refine ⟨_, [], [], out11_here h63 hh, ?_⟩
        generalize W w = B at *
        subst hw
        simp [WkR, sim, simL, wkH, rok, oldsOf, uniqN, asB, hk, rdB, r1B, r2B, numB, fieldB, signB, hasL, U32.or, U32.and, U32.sub, U32.shl, U32.shr, U32.inv, conv64u, conv64s, conv32, shrS, e12, e13, e21]
      · have hh : hit w i = false := by
          generalize W w = B at hw
          subst hw
          simp [U32.or, U32.and, U32.sub, U32.shl, U32.shr, U32.inv, conv64u, conv64s, conv32, shrS, e12, e13, e21] at hd
          simp [hit, hk, W_iv, rdB, r1B, r2B, numB, fieldB, signB, hasL, U32.or, U32.and, U32.sub, U32.shl, U32.shr, U32.inv, conv64u, conv64s, conv32, shrS, e12, e13, e21]
          simpa [cm_eql'] using hd
        exact hnext hh _
  · exfalso
    simp [allB, mergeB] at hc

theorem round11_73 (w : Int) (i : Nat) (h63 : i < 63) (hl : letter i = 73) (hk : nth kinds 0 i = 1) (hw0 : 0 ≤ w) (hw1 : w < 4294967296) :
    Round lp11 ok11 (fun x => 63 - x.i) vs11 hp11 out11 ⟨w, i⟩ ((evalB (E4 73) Try.prog Try.f30.results.toList (loopOf Try.f30 0) 1 lp11 (v11 w ((i : Int) + 1)) h11).view [0, 2, 3, 4]) := by
  have hr := r11_73 w ((i : Int) + 1)
  have e2 : decide (1 ≤ (i : Int) + 1) = true := decide_eq_true (by omega)
  have e3 : decide ((i : Int) + 1 ≤ 63) = true := decide_eq_true (by omega)
  have e12 : ar .sub .i64 32 12 = 20 := by decide
  have e13 : ar .sub .i64 32 13 = 19 := by decide
  have e21 : ar .sub .i64 32 21 = 11 := by decide
  simp only [cm_leq_iff h63, e2, e3, row_of, hl, decide_true, cond_true, nextOp h63] at hr
  rw [hr]
  have hnext : hit w i = false → ∀ H2, Round lp11 ok11 (fun x => 63 - x.i) vs11 hp11 out11 ⟨w, i⟩ (.norm 195 [.int false .u32 w, .ptr 1024 0 0, .bool false false, .int false .i64 (((i + 1 : Nat) : Int) + 1)] ((1024, .cells z5) :: H2)) := by
    intro hh H2
    refine ⟨rfl, ⟨w, i + 1⟩, [], ⟨h63, hw0, hw1⟩, by show 63 - (i + 1) < 63 - i; omega, out11_next h63 hh, ?_⟩
    simp [WkV, vs11, hp11, v11, h11, z5, wkF, wkS, sim, simL, wkH, wkB, wkCs, wkC, rmap, rlook, Ev.look, oldsOf, uniqN, mem, SV.al, SV.alL, Ev.hal, Blk.al, lt, rok, lp11, lk11]
  refine Round_cond (fun _ => ?_) (fun hc => ?_)
  · refine Round_cond (fun hc => ?_) (fun hc => ?_)
    · refine hnext ?_ _
      cases hh : hit w i with
      | false => rfl
      | true =>
        exfalso
        have u1 := low_of hw0 hw1 h63 hh
        have u2 := mid_of hw0 hw1 h63 hh (by rw [hk]; decide) (by rw [hk]; decide)
        simp [cm, u1, u2] at hc
    · clear hc
      have hw := ofU w hw0 hw1
      refine Round_cond (fun hd => ?_) (fun hd => ?_)
      · have hh : hit w i = true := by
          generalize W w = B at hw
          subst hw
          simp [U32.or, U32.and, U32.sub, U32.shl, U32.shr, U32.inv, conv64u, conv64s, conv32, shrS, e12, e13, e21] at hd
          simp [hit, hk, W_iv, rdB, r1B, r2B, numB, fieldB, signB, hasL, U32.or, U32.and, U32.sub, U32.shl, U32.shr, U32.inv, conv64u, conv64s, conv32, shrS, e12, e13, e21]
          simpa [cm_eql'] using hd
        refine ⟨_, [], [], out11_here h63 hh, ?_⟩
        generalize W w = B at *
        subst hw
        simp [WkR, sim, simL, wkH, rok, oldsOf, uniqN, asB, hk, rdB, r1B, r2B, numB, fieldB, signB, hasL, U32.or, U32.and, U32.sub, U32.shl, U32.shr, U32.inv, conv64u, conv64s, conv32, shrS, e12, e13, e21]
      · have hh : hit w i = false := by
          generalize W w = B at hw
          subst hw
          simp [U32.or, U32.and, U32.sub, U32.shl, U32.shr, U32.inv, conv64u, conv64s, conv32, shrS, e12, e13, e21] at hd
          simp [hit, hk, W_iv, rdB, r1B, r2B, numB, fieldB, signB, hasL, U32.or, U32.and, U32.sub, U32.shl, U32.shr, U32.inv, conv64u, conv64s, conv32, shrS, e12, e13, e21]
          simpa [cm_eql'] using hd
        exact hnext hh _
  · exfalso
    simp [allB, mergeB] at hc

theorem round11_104 (w : Int) (i : Nat) (h63 : i < 63) (hl : letter i = 104) (hk : nth kinds 0 i = 2) (hw0 : 0 ≤ w) (hw1 : w < 4294967296) :
    Round lp11 ok11 (fun x => 63 - x.i) vs11 hp11 out11 ⟨w, i⟩ ((evalB (E4 104) Try.prog Try.f30.results.toList (loopOf Try.f30 0) 1 lp11 (v11 w ((i : Int) + 1)) h11).view [0, 2, 3, 4]) := by
  have hr := r11_104 w ((i : Int) + 1)
  have e2 : decide (1 ≤ (i : Int) + 1) = true := decide_eq_true (by omega)
  have e3 : decide ((i : Int) + 1 ≤ 63) = true := decide_eq_true (by omega)
  have e12 : ar .sub .i64 32 12 = 20 := by decide
  have e13 : ar .sub .i64 32 13 = 19 := by decide
  have e21 : ar .sub .i64 32 21 = 11 := by decide
  simp only [cm_leq_iff h63, e2, e3, row_of, hl, decide_true, cond_true, nextOp h63] at hr
  rw [hr]
  have hnext : hit w i = false → ∀ H2, Round lp11 ok11 (fun x => 63 - x.i) vs11 hp11 out11 ⟨w, i⟩ (.norm 195 [.int false .u32 w, .ptr 1024 0 0, .bool false false, .int false .i64 (((i + 1 : Nat) : Int) + 1)] ((1024, .cells z5) :: H2)) := by
    intro hh H2
    refine ⟨rfl, ⟨w, i + 1⟩, [], ⟨h63, hw0, hw1⟩, by show 63 - (i + 1) < 63 - i; omega, out11_next h63 hh, ?_⟩
    simp [WkV, vs11, hp11, v11, h11, z5, wkF, wkS, sim, simL, wkH, wkB, wkCs, wkC, rmap, rlook, Ev.look, oldsOf, uniqN, mem, SV.al, SV.alL, Ev.hal, Blk.al, lt, rok, lp11, lk11]
  refine Round_cond (fun _ => ?_) (fun hc => ?_)
  · refine Round_cond (fun hc => ?_) (fun hc => ?_)
    · refine hnext ?_ _
      cases hh : hit w i with
      | false => rfl
      | true =>
        exfalso
        have u1 := low_of hw0 hw1 h63 hh
        have u2 := mid_of hw0 hw1 h63 hh (by rw [hk]; decide) (by rw [hk]; decide)
        have u3 := f2_of hw0 hw1 h63 hh hk
        simp [cm, u1, u2, u3] at hc
    · clear hc
      have hw := ofU w hw0 hw1
      refine Round_cond (fun hd => ?_) (fun hd => ?_)
      · have hh : hit w i = true := by
          generalize W w = B at hw
          subst hw
          simp [U32.or, U32.and, U32.sub, U32.shl, U32.shr, U32.inv, conv64u, conv64s, conv32, shrS, e12, e13, e21] at hd
          simp [hit, hk, W_iv, rdB, r1B, r2B, numB, fieldB, signB, hasL, U32.or, U32.and, U32.sub, U32.shl, U32.shr, U32.inv, conv64u, conv64s, conv32, shrS, e12, e13, e21]
          simpa [cm_eql'] using hd
        refine ⟨_, [], [], out11_here h63 hh, ?_⟩
        generalize W w = B at *
        subst hw
        simp [WkR, sim, simL, wkH, rok, oldsOf, uniqN, asB, hk, rdB, r1B, r2B, numB, fieldB, signB, hasL, U32.or, U32.and, U32.sub, U32.shl, U32.shr, U32.inv, conv64u, conv64s, conv32, shrS, e12, e13, e21]
      · have hh : hit w i = false := by
          generalize W w = B at hw
          subst hw
          simp [U32.or, U32.and, U32.sub, U32.shl, U32.shr, U32.inv, conv64u, conv64s, conv32, shrS, e12, e13, e21] at hd
          simp [hit, hk, W_iv, rdB, r1B, r2B, numB, fieldB, signB, hasL, U32.or, U32.and, U32.sub, U32.shl, U32.shr, U32.inv, conv64u, conv64s, conv32, shrS, e12, e13, e21]
          simpa [cm_eql'] using hd
        exact hnext hh _
  · exfalso
    simp [allB, mergeB] at hc

theorem round11_119 (w : Int) (i : Nat) (h63 : i < 63) (hl : letter i = 119) (hk : nth kinds 0 i = 3) (hw0 : 0 ≤ w) (hw1 : w < 4294967296) :
    Round lp11 ok11 (fun x => 63 - x.i) vs11 hp11 out11 ⟨w, i⟩ ((evalB (E4 119) Try.prog Try.f30.results.toList (loopOf Try.f30 0) 1 lp11 (v11 w ((i : Int) + 1)) h11).view [0, 2, 3, 4]) := by
  have hr := r11_119 w ((i : Int) + 1)
  have e2 : decide (1 ≤ (i : Int) + 1) = true := decide_eq_true (by omega)
  have e3 : decide ((i : Int) + 1 ≤ 63) = true := decide_eq_true (by omega)
  have e12 : ar .sub .i64 32 12 = 20 := by decide
  have e13 : ar .sub .i64 32 13 = 19 := by decide
  have e21 : ar .sub .i64 32 21 = 11 := by decide
  simp only [cm_leq_iff h63, e2, e3, row_of, hl, decide_true, cond_true, nextOp h63] at hr
  rw [hr]
  have hnext : hit w i = false → ∀ H2, Round lp11 ok11 (fun x => 63 - x.i) vs11 hp11 out11 ⟨w, i⟩ (.norm 195 [.int false .u32 w, .ptr 1024 0 0, .bool false false, .int false .i64 (((i + 1 : Nat) : Int) + 1)] ((1024, .cells z5) :: H2)) := by
    intro hh H2
    refine ⟨rfl, ⟨w, i + 1⟩, [], ⟨h63, hw0, hw1⟩, by show 63 - (i + 1) < 63 - i; omega, out11_next h63 hh, ?_⟩
    simp [WkV, vs11, hp11, v11, h11, z5, wkF, wkS, sim, simL, wkH, wkB, wkCs, wkC, rmap, rlook, Ev.look, oldsOf, uniqN, mem, SV.al, SV.alL, Ev.hal, Blk.al, lt, rok, lp11, lk11]
  refine Round_cond (fun _ => ?_) (fun hc => ?_)
  · refine Round_cond (fun hc => ?_) (fun hc => ?_)
    · refine hnext ?_ _
      cases hh : hit w i with
      | false => rfl
      | true =>
        exfalso
        have u1 := low_of hw0 hw1 h63 hh
        have u2 := mid_of hw0 hw1 h63 hh (by rw [hk]; decide) (by rw [hk]; decide)
        have u3 := f_of hw0 hw1 h63 hh (by rw [hk]; decide)
        simp [cm, u1, u2, u3] at hc
    · clear hc
      have hw := ofU w hw0 hw1
      refine Round_cond (fun hd => ?_) (fun hd => ?_)
      · have hh : hit w i = true := by
          generalize W w = B at hw
          subst hw
          simp [U32.or, U32.and, U32.sub, U32.shl, U32.shr, U32.inv, conv64u, conv64s, conv32, shrS, e12, e13, e21] at hd
          simp [hit, hk, W_iv, rdB, r1B, r2B, numB, fieldB, signB, hasL, U32.or, U32.and, U32.sub, U32.shl, U32.shr, U32.inv, conv64u, conv64s, conv32, shrS, e12, e13, e21]
          simpa [cm_eql'] using hd
        refine ⟨_, [], [], out11_here h63 hh, ?_⟩
        generalize W w = B at *
        subst hw
        simp [WkR, sim, simL, wkH, rok, oldsOf, uniqN, asB, hk, rdB, r1B, r2B, numB, fieldB, signB, hasL, U32.or, U32.and, U32.sub, U32.shl, U32.shr, U32.inv, conv64u, conv64s, conv32, shrS, e12, e13, e21]
      · have hh : hit w i = false := by
          generalize W w = B at hw
          subst hw
          simp [U32.or, U32.and, U32.sub, U32.shl, U32.shr, U32.inv, conv64u, conv64s, conv32, shrS, e12, e13, e21] at hd
          simp [hit, hk, W_iv, rdB, r1B, r2B, numB, fieldB, signB, hasL, U32.or, U32.and, U32.sub, U32.shl, U32.shr, U32.inv, conv64u, conv64s, conv32, shrS, e12, e13, e21]
          simpa [cm_eql'] using hd
        exact hnext hh _
  · exfalso
    simp [allB, mergeB] at hc

theorem round11_83 (w : Int) (i : Nat) (h63 : i < 63) (hl : letter i = 83) (hk : nth kinds 0 i = 4) (hw0 : 0 ≤ w) (hw1 : w < 4294967296) :
    Round lp11 ok11 (fun x => 63 - x.i) vs11 hp11 out11 ⟨w, i⟩ ((evalB (E4 83) Try.prog Try.f30.results.toList (loopOf Try.f30 0) 1 lp11 (v11 w ((i : Int) + 1)) h11).view [0, 2, 3, 4]) := by
  have hr := r11_83 w ((i : Int) + 1)
  have e2 : decide (1 ≤ (i : Int) + 1) = true := decide_eq_true (by omega)
  have e3 : decide ((i : Int) + 1 ≤ 63) = true := decide_eq_true (by omega)
  have e12 : ar .sub .i64 32 12 = 20 := by decide
  have e13 : ar .sub .i64 32 13 = 19 := by decide
  have e21 : ar .sub .i64 32 21 = 11 := by decide
  simp only [cm_leq_iff h63, e2, e3, row_of, hl, decide_true, cond_true, nextOp h63] at hr
  rw [hr]
  have hnext : hit w i = false → ∀ H2, Round lp11 ok11 (fun x => 63 - x.i) vs11 hp11 out11 ⟨w, i⟩ (.norm 195 [.int false .u32 w, .ptr 1024 0 0, .bool false false, .int false .i64 (((i + 1 : Nat) : Int) + 1)] ((1024, .cells z5) :: H2)) := by
    intro hh H2
    refine ⟨rfl, ⟨w, i + 1⟩, [], ⟨h63, hw0, hw1⟩, by show 63 - (i + 1) < 63 - i; omega, out11_next h63 hh, ?_⟩
    simp [WkV, vs11, hp11, v11, h11, z5, wkF, wkS, sim, simL, wkH, wkB, wkCs, wkC, rmap, rlook, Ev.look, oldsOf, uniqN, mem, SV.al, SV.alL, Ev.hal, Blk.al, lt, rok, lp11, lk11]
  refine Round_cond (fun _ => ?_) (fun hc => ?_)
  · refine Round_cond (fun hc => ?_) (fun hc => ?_)
    · refine hnext ?_ _
      cases hh : hit w i with
      | false => rfl
      | true =>
        exfalso
        have u1 := low_of hw0 hw1 h63 hh
        have u2 := mid_of hw0 hw1 h63 hh (by rw [hk]; decide) (by rw [hk]; decide)
        simp [cm, u1, u2] at hc
    · clear hc
      have hw := ofU w hw0 hw1
      refine Round_cond (fun hd => ?_) (fun hd => ?_)
      · have hh : hit w i = true := by
          generalize W w = B at hw
          subst hw
          simp [U32.or, U32.and, U32.sub, U32.shl, U32.shr, U32.inv, conv64u, conv64s, conv32, shrS, e12, e13, e21] at hd
          simp [hit, hk, W_iv, rdB, r1B, r2B, numB, fieldB, signB, hasL, U32.or, U32.and, U32.sub, U32.shl, U32.shr, U32.inv, conv64u, conv64s, conv32, shrS, e12, e13, e21]
          rw [Nat.or_comm] at hd
          simpa [cm_eql'] using hd
        refine ⟨_, [], [], out11_here h63 hh, ?_⟩
        generalize W w = B at *
        subst hw
        simp [WkR, sim, simL, wkH, rok, oldsOf, uniqN, asB, hk, rdB, r1B, r2B, numB, fieldB, signB, hasL, U32.or, U32.and, U32.sub, U32.shl, U32.shr, U32.inv, conv64u, conv64s, conv32, shrS, e12, e13, e21]
        rw [Nat.or_comm]
      · have hh : hit w i = false := by
          generalize W w = B at hw
          subst hw
          simp [U32.or, U32.and, U32.sub, U32.shl, U32.shr, U32.inv, conv64u, conv64s, conv32, shrS, e12, e13, e21] at hd
          simp [hit, hk, W_iv, rdB, r1B, r2B, numB, fieldB, signB, hasL, U32.or, U32.and, U32.sub, U32.shl, U32.shr, U32.inv, conv64u, conv64s, conv32, shrS, e12, e13, e21]
          rw [Nat.or_comm] at hd
          simpa [cm_eql'] using hd
        exact hnext hh _
  · exfalso
    simp [allB, mergeB] at hc

theorem round11_66 (w : Int) (i : Nat) (h63 : i < 63) (hl : letter i = 66) (hk : nth kinds 0 i = 5) (hw0 : 0 ≤ w) (hw1 : w < 4294967296) :
    Round lp11 ok11 (fun x => 63 - x.i) vs11 hp11 out11 ⟨w, i⟩ ((evalB (E4 66) Try.prog Try.f30.results.toList (loopOf Try.f30 0) 1 lp11 (v11 w ((i : Int) + 1)) h11).view [0, 2, 3, 4]) := by
  have hr := r11_66 w ((i : Int) + 1)
  have e2 : decide (1 ≤ (i : Int) + 1) = true := decide_eq_true (by omega)
  have e3 : decide ((i : Int) + 1 ≤ 63) = true := decide_eq_true (by omega)
  have e12 : ar .sub .i64 32 12 = 20 := by decide
  have e13 : ar .sub .i64 32 13 = 19 := by decide
  have e21 : ar .sub .i64 32 21 = 11 := by decide
  simp only [cm_leq_iff h63, e2, e3, row_of, hl, decide_true, cond_true, nextOp h63] at hr
  rw [hr]
  have hnext : hit w i = false → ∀ H2, Round lp11 ok11 (fun x => 63 - x.i) vs11 hp11 out11 ⟨w, i⟩ (.norm 195 [.int false .u32 w, .ptr 1024 0 0, .bool false false, .int false .i64 (((i + 1 : Nat) : Int) + 1)] ((1024, .cells z5) :: H2)) := by
    intro hh H2
    refine ⟨rfl, ⟨w, i + 1⟩, [], ⟨h63, hw0, hw1⟩, by show 63 - (i + 1) < 63 - i; omega, out11_next h63 hh, ?_⟩
    simp [WkV, vs11, hp11, v11, h11, z5, wkF, wkS, sim, simL, wkH, wkB, wkCs, wkC, rmap, rlook, Ev.look, oldsOf, uniqN, mem, SV.al, SV.alL, Ev.hal, Blk.al, lt, rok, lp11, lk11]
  refine Round_cond (fun _ => ?_) (fun hc => ?_)
  · refine Round_cond (fun hc => ?_) (fun hc => ?_)
    · refine hnext ?_ _
      cases hh : hit w i with
      | false => rfl
      | true =>
        exfalso
        have u1 := low_of hw0 hw1 h63 hh
        have u2 := mid_of hw0 hw1 h63 hh (by rw [hk]; decide) (by rw [hk]; decide)
        simp [cm, u1, u2] at hc
    · clear hc
      have hw := ofU w hw0 hw1
      refine Round_cond (fun hd => ?_) (fun hd => ?_)
      · have hh : hit w i = true := by
          generalize W w = B at hw
          subst hw
          simp [U32.or, U32.and, U32.sub, U32.shl, U32.shr, U32.inv, conv64u, conv64s, conv32, shrS, e12, e13, e21] at hd
          simp [hit, hk, W_iv, rdB, r1B, r2B, numB, fieldB, signB, hasL, U32.or, U32.and, U32.sub, U32.shl, U32.shr, U32.inv, conv64u, conv64s, conv32, shrS, e12, e13, e21]
          rw [rev4] at hd
          simpa [cm_eql'] using hd
        refine ⟨_, [], [], out11_here h63 hh, ?_⟩
        generalize W w = B at *
        subst hw
        simp [WkR, sim, simL, wkH, rok, oldsOf, uniqN, asB, hk, rdB, r1B, r2B, numB, fieldB, signB, hasL, U32.or, U32.and, U32.sub, U32.shl, U32.shr, U32.inv, conv64u, conv64s, conv32, shrS, e12, e13, e21]
        rw [rev4]
      · have hh : hit w i = false := by
          generalize W w = B at hw
          subst hw
          simp [U32.or, U32.and, U32.sub, U32.shl, U32.shr, U32.inv, conv64u, conv64s, conv32, shrS, e12, e13, e21] at hd
          simp [hit, hk, W_iv, rdB, r1B, r2B, numB, fieldB, signB, hasL, U32.or, U32.and, U32.sub, U32.shl, U32.shr, U32.inv, conv64u, conv64s, conv32, shrS, e12, e13, e21]
          rw [rev4] at hd
          simpa [cm_eql'] using hd
        exact hnext hh _
  · exfalso
    simp [allB, mergeB] at hc

theorem round11_85 (w : Int) (i : Nat) (h63 : i < 63) (hl : letter i = 85) (hk : nth kinds 0 i = 6) (hw0 : 0 ≤ w) (hw1 : w < 4294967296) :
    Round lp11 ok11 (fun x => 63 - x.i) vs11 hp11 out11 ⟨w, i⟩ ((evalB (E4 85) Try.prog Try.f30.results.toList (loopOf Try.f30 0) 1 lp11 (v11 w ((i : Int) + 1)) h11).view [0, 2, 3, 4]) := by
  have hr := r11_85 w ((i : Int) + 1)
  have e2 : decide (1 ≤ (i : Int) + 1) = true := decide_eq_true (by omega)
  have e3 : decide ((i : Int) + 1 ≤ 63) = true := decide_eq_true (by omega)
  have e12 : ar .sub .i64 32 12 = 20 := by decide
  have e13 : ar .sub .i64 32 13 = 19 := by decide
  have e21 : ar .sub .i64 32 21 = 11 := by decide
  simp only [cm_leq_iff h63, e2, e3, row_of, hl, decide_true, cond_true, nextOp h63] at hr
  rw [hr]
  have hnext : hit w i = false → ∀ H2, Round lp11 ok11 (fun x => 63 - x.i) vs11 hp11 out11 ⟨w, i⟩ (.norm 195 [.int false .u32 w, .ptr 1024 0 0, .bool false false, .int false .i64 (((i + 1 : Nat) : Int) + 1)] ((1024, .cells z5) :: H2)) := by
    intro hh H2
    refine ⟨rfl, ⟨w, i + 1⟩, [], ⟨h63, hw0, hw1⟩, by show 63 - (i + 1) < 63 - i; omega, out11_next h63 hh, ?_⟩
    simp [WkV, vs11, hp11, v11, h11, z5, wkF, wkS, sim, simL, wkH, wkB, wkCs, wkC, rmap, rlook, Ev.look, oldsOf, uniqN, mem, SV.al, SV.alL, Ev.hal, Blk.al, lt, rok, lp11, lk11]
  refine Round_cond (fun hc => ?_) (fun hc => ?_)
  · refine hnext ?_ _
    cases hh : hit w i with
    | false => rfl
    | true =>
      exfalso
      have u1 := low_of hw0 hw1 h63 hh
      simp [cm, u1] at hc
  · clear hc
    have hw := ofU w hw0 hw1
    refine Round_cond (fun hd => ?_) (fun hd => ?_)
    · have hh : hit w i = true := by
        generalize W w = B at hw
        subst hw
        simp [U32.or, U32.and, U32.sub, U32.shl, U32.shr, U32.inv, conv64u, conv64s, conv32, shrS, e12, e13, e21] at hd
        simp [hit, hk, W_iv, rdB, r1B, r2B, numB, fieldB, signB, hasL, U32.or, U32.and, U32.sub, U32.shl, U32.shr, U32.inv, conv64u, conv64s, conv32, shrS, e12, e13, e21]
        simpa [cm_eql'] using hd
      refine ⟨_, [], [], out11_here h63 hh, ?_⟩
      generalize W w = B at *
      subst hw
      simp [WkR, sim, simL, wkH, rok, oldsOf, uniqN, asB, hk, rdB, r1B, r2B, numB, fieldB, signB, hasL, U32.or, U32.and, U32.sub, U32.shl, U32.shr, U32.inv, conv64u, conv64s, conv32, shrS, e12, e13, e21]
    · have hh : hit w i = false := by
        generalize W w = B at hw
        subst hw
        simp [U32.or, U32.and, U32.sub, U32.shl, U32.shr, U32.inv, conv64u, conv64s, conv32, shrS, e12, e13, e21] at hd
        simp [hit, hk, W_iv, rdB, r1B, r2B, numB, fieldB, signB, hasL, U32.or, U32.and, U32.sub, U32.shl, U32.shr, U32.inv, conv64u, conv64s, conv32, shrS, e12, e13, e21]
        simpa [cm_eql'] using hd
      exact hnext hh _

theorem round11_74 (w : Int) (i : Nat) (h63 : i < 63) (hl : letter i = 74) (hk : nth kinds 0 i = 7) (hw0 : 0 ≤ w) (hw1 : w < 4294967296) :
    Round lp11 ok11 (fun x => 63 - x.i) vs11 hp11 out11 ⟨w, i⟩ ((evalB (E4 74) Try.prog Try.f30.results.toList (loopOf Try.f30 0) 1 lp11 (v11 w ((i : Int) + 1)) h11).view [0, 2, 3, 4]) := by
  have hr := r11_74 w ((i : Int) + 1)
  have e2 : decide (1 ≤ (i : Int) + 1) = true := decide_eq_true (by omega)
  have e3 : decide ((i : Int) + 1 ≤ 63) = true := decide_eq_true (by omega)
  have e12 : ar .sub .i64 32 12 = 20 := by decide
  have e13 : ar .sub .i64 32 13 = 19 := by decide
  have e21 : ar .sub .i64 32 21 = 11 := by decide
  simp only [cm_leq_iff h63, e2, e3, row_of, hl, decide_true, cond_true, nextOp h63] at hr
  rw [hr]
  have hnext : hit w i = false → ∀ H2, Round lp11 ok11 (fun x => 63 - x.i) vs11 hp11 out11 ⟨w, i⟩ (.norm 195 [.int false .u32 w, .ptr 1024 0 0, .bool false false, .int false .i64 (((i + 1 : Nat) : Int) + 1)] ((1024, .cells z5) :: H2)) := by
    intro hh H2
    refine ⟨rfl, ⟨w, i + 1⟩, [], ⟨h63, hw0, hw1⟩, by show 63 - (i + 1) < 63 - i; omega, out11_next h63 hh, ?_⟩
    simp [WkV, vs11, hp11, v11, h11, z5, wkF, wkS, sim, simL, wkH, wkB, wkCs, wkC, rmap, rlook, Ev.look, oldsOf, uniqN, mem, SV.al, SV.alL, Ev.hal, Blk.al, lt, rok, lp11, lk11]
  refine Round_cond (fun hc => ?_) (fun hc => ?_)
  · refine hnext ?_ _
    cases hh : hit w i with
    | false => rfl
    | true =>
      exfalso
      have u1 := low_of hw0 hw1 h63 hh
      simp [cm, u1] at hc
  · clear hc
    have hw := ofU w hw0 hw1
    refine Round_cond (fun hd => ?_) (fun hd => ?_)
    · have hh : hit w i = true := by
        generalize W w = B at hw
        subst hw
        simp [U32.or, U32.and, U32.sub, U32.shl, U32.shr, U32.inv, conv64u, conv64s, conv32, shrS, e12, e13, e21] at hd
        simp [hit, hk, W_iv, rdB, r1B, r2B, numB, fieldB, signB, hasL, U32.or, U32.and, U32.sub, U32.shl, U32.shr, U32.inv, conv64u, conv64s, conv32, shrS, e12, e13, e21]
        rw [rev4] at hd
        simpa [cm_eql'] using hd
      refine ⟨_, [], [], out11_here h63 hh, ?_⟩
      generalize W w = B at *
      subst hw
      simp [WkR, sim, simL, wkH, rok, oldsOf, uniqN, asB, hk, rdB, r1B, r2B, numB, fieldB, signB, hasL, U32.or, U32.and, U32.sub, U32.shl, U32.shr, U32.inv, conv64u, conv64s, conv32, shrS, e12, e13, e21]
      rw [rev4]
    · have hh : hit w i = false := by
        generalize W w = B at hw
        subst hw
        simp [U32.or, U32.and, U32.sub, U32.shl, U32.shr, U32.inv, conv64u, conv64s, conv32, shrS, e12, e13, e21] at hd
        simp [hit, hk, W_iv, rdB, r1B, r2B, numB, fieldB, signB, hasL, U32.or, U32.and, U32.sub, U32.shl, U32.shr, U32.inv, conv64u, conv64s, conv32, shrS, e12, e13, e21]
        rw [rev4] at hd
        simpa [cm_eql'] using hd
      exact hnext hh _

theorem round11_69 (w : Int) (i : Nat) (h63 : i < 63) (hl : letter i = 69) (hk : nth kinds 0 i = 8) (hw0 : 0 ≤ w) (hw1 : w < 4294967296) :
    Round lp11 ok11 (fun x => 63 - x.i) vs11 hp11 out11 ⟨w, i⟩ ((evalB (E4 69) Try.prog Try.f30.results.toList (loopOf Try.f30 0) 1 lp11 (v11 w ((i : Int) + 1)) h11).view [0, 2, 3, 4]) := by
  have hr := r11_69 w ((i : Int) + 1)
  have e2 : decide (1 ≤ (i : Int) + 1) = true := decide_eq_true (by omega)
  have e3 : decide ((i : Int) + 1 ≤ 63) = true := decide_eq_true (by omega)
  have e12 : ar .sub .i64 32 12 = 20 := by decide
  have e13 : ar .sub .i64 32 13 = 19 := by decide
  have e21 : ar .sub .i64 32 21 = 11 := by decide
  simp only [cm_leq_iff h63, e2, e3, row_of, hl, decide_true, cond_true, nextOp h63] at hr
  rw [hr]
  have hnext : hit w i = false → ∀ H2, Round lp11 ok11 (fun x => 63 - x.i) vs11 hp11 out11 ⟨w, i⟩ (.norm 195 [.int false .u32 w, .ptr 1024 0 0, .bool false false, .int false .i64 (((i + 1 : Nat) : Int) + 1)] ((1024, .cells z5) :: H2)) := by
    intro hh H2
    refine ⟨rfl, ⟨w, i + 1⟩, [], ⟨h63, hw0, hw1⟩, by show 63 - (i + 1) < 63 - i; omega, out11_next h63 hh, ?_⟩
    simp [WkV, vs11, hp11, v11, h11, z5, wkF, wkS, sim, simL, wkH, wkB, wkCs, wkC, rmap, rlook, Ev.look, oldsOf, uniqN, mem, SV.al, SV.alL, Ev.hal, Blk.al, lt, rok, lp11, lk11]
  refine Round_cond (fun _ => ?_) (fun hc => ?_)
  · refine Round_cond (fun hc => ?_) (fun hc => ?_)
    · refine hnext ?_ _
      cases hh : hit w i with
      | false => rfl
      | true =>
        exfalso
        have u1 := low_of hw0 hw1 h63 hh
        have u2 := mid_of hw0 hw1 h63 hh (by rw [hk]; decide) (by rw [hk]; decide)
        simp [cm, u1, u2] at hc
    · clear hc
      have hw := ofU w hw0 hw1
      refine Round_cond (fun hd => ?_) (fun hd => ?_)
      · have hh : hit w i = true := by
          generalize W w = B at hw
          subst hw
          simp [U32.or, U32.and, U32.sub, U32.shl, U32.shr, U32.inv, conv64u, conv64s, conv32, shrS, e12, e13, e21] at hd
          simp [hit, hk, W_iv, rdB, r1B, r2B, numB, fieldB, signB, hasL, U32.or, U32.and, U32.sub, U32.shl, U32.shr, U32.inv, conv64u, conv64s, conv32, shrS, e12, e13, e21]
          simpa [cm_eql'] using hd
        refine ⟨_, [], [], out11_here h63 hh, ?_⟩
        generalize W w = B at *
        subst hw
        simp [WkR, sim, simL, wkH, rok, oldsOf, uniqN, asB, hk, rdB, r1B, r2B, numB, fieldB, signB, hasL, U32.or, U32.and, U32.sub, U32.shl, U32.shr, U32.inv, conv64u, conv64s, conv32, shrS, e12, e13, e21]
      · have hh : hit w i = false := by
          generalize W w = B at hw
          subst hw
          simp [U32.or, U32.and, U32.sub, U32.shl, U32.shr, U32.inv, conv64u, conv64s, conv32, shrS, e12, e13, e21] at hd
          simp [hit, hk, W_iv, rdB, r1B, r2B, numB, fieldB, signB, hasL, U32.or, U32.and, U32.sub, U32.shl, U32.shr, U32.inv, conv64u, conv64s, conv32, shrS, e12, e13, e21]
          simpa [cm_eql'] using hd
        exact hnext hh _
  · exfalso
    simp [allB, mergeB] at hc

end Go.Rv
end

section
set_option linter.unusedVariables false
open Go Go.Ev Go.Proofs
namespace Go.Rv

theorem e4_loop (K : Int) : (E4 K).loop = noLoop := rfl

attribute [local irreducible] evalB Tr.view in
theorem round11 (x : X11) (hx : ok11 x) : ∃ E' : Env, CallsOk E' Try.prog ∧ LoopsOk E' Try.prog Try.f30 (loopOf Try.f30 0) (0 + 1) ∧
    Round lp11 ok11 (fun x => 63 - x.i) vs11 hp11 out11 x ((evalB E' Try.prog Try.f30.results.toList (loopOf Try.f30 0) (0 + 1) lp11 (vs11 x) (hp11 x)).view lp11.ks) := by
  obtain ⟨w, i⟩ := x
  obtain ⟨hi, hw0, hw1⟩ := hx
  simp only at hi hw0 hw1
  have key : ∀ K, Round lp11 ok11 (fun x => 63 - x.i) vs11 hp11 out11 ⟨w, i⟩ ((evalB (E4 K) Try.prog Try.f30.results.toList (loopOf Try.f30 0) 1 lp11 (v11 w ((i : Int) + 1)) h11).view [0, 2, 3, 4]) →
      ∃ E' : Env, CallsOk E' Try.prog ∧ LoopsOk E' Try.prog Try.f30 (loopOf Try.f30 0) (0 + 1) ∧
        Round lp11 ok11 (fun x => 63 - x.i) vs11 hp11 out11 ⟨w, i⟩ ((evalB E' Try.prog Try.f30.results.toList (loopOf Try.f30 0) (0 + 1) lp11 (vs11 ⟨w, i⟩) (hp11 ⟨w, i⟩)).view lp11.ks) :=
    fun K h => ⟨E4 K, e4_calls K, loops_noLoop (e4_loop K) _ _, h⟩
  by_cases h63 : i < 63
  · rcases row_cases i h63 with ⟨a, b⟩ | ⟨a, b, _⟩ | ⟨a, b⟩ | ⟨a, b⟩ | ⟨a, b, _⟩ | ⟨a, b, _⟩ | ⟨a, b, _⟩ | ⟨a, b, _⟩ | ⟨a, b, _⟩
    · exact key 82 (round11_82 w i h63 b a hw0 hw1)
    · exact key 73 (round11_73 w i h63 b a hw0 hw1)
    · exact key 104 (round11_104 w i h63 b a hw0 hw1)
    · exact key 119 (round11_119 w i h63 b a hw0 hw1)
    · exact key 83 (round11_83 w i h63 b a hw0 hw1)
    · exact key 66 (round11_66 w i h63 b a hw0 hw1)
    · exact key 85 (round11_85 w i h63 b a hw0 hw1)
    · exact key 74 (round11_74 w i h63 b a hw0 hw1)
    · exact key 69 (round11_69 w i h63 b a hw0 hw1)
  · obtain rfl : i = 63 := by omega
    refine key 82 ?_
    rw [r11_82]
    have e1 : cm .leq (((63 : Nat) : Int) + 1) 63 = false := rfl
    simp only [e1, cond_false]
    refine ⟨rfl, v11 w 64, h11, [], ?_, ?_⟩
    · simp only [out11, d11, fstN_end]
      rfl
    · simp [WkV, v11, h11, z5, wkF, wkS, sim, simL, wkH, wkB, wkCs, wkC, rmap, rlook, Ev.look, oldsOf, uniqN, mem, SV.al, SV.alL, Ev.hal, Blk.al, lt, rok, lp11, lk11]

noncomputable def E11 : Env := ⟨E0.call, loopEnv [(0, lp11)]⟩
theorem e11_calls : CallsOk E11 Try.prog := fun f args H nm r h hn => e0_calls f args H nm r h hn
theorem loop11 : LoopOk E11 Try.prog Try.f30 0 (loopOf Try.f30 0) :=
  loop_okE mixed (fun S => rfl) (by decide) ok11 (fun x => 63 - x.i) vs11 hp11 out11 entry11 round11

theorem fn11 : Try.prog.funcs[30]? = some Try.f30 := by kernel_rfl
theorem b11 : Try.f30.body = some (bodyOf Try.f30) := by kernel_rfl
theorem n11 : (Try.f30.name == "runtime.NumGoroutine") = false := by kernel_rfl
theorem nl11 : Code.loops (bodyOf Try.f30) = 1 := by kernel_rfl
theorem nth11 : nthLoop (bodyOf Try.f30) 0 = some (loopOf Try.f30 0) := by kernel_rfl
theorem loops11 : LoopsOk E11 Try.prog Try.f30 (bodyOf Try.f30) 0 := loops1 nl11 fun a ha => by
  rw [nth11] at ha
  simp only [Option.some.injEq] at ha
  subst ha
  exact loop11

end Go.Rv
end

section
set_option linter.unusedVariables false
open Go Go.Ev Go.Proofs
namespace Go.Rv

theorem l11 (w : Int) : (evalF E11 Try.prog 30 [SV.int false IntKind.u32 w] [] 1024).leaf =
    (bif (decide (0 ≤ w)) then
      bif (decide (w < 4294967296)) then
        bif ((fstN (hit w) 63 0).blt 63) then
          .ret (.tup [(.agg [(.int false IntKind.i64 (↑(fstN (hit w) 63 0) + 1)), (.int false IntKind.i64 (rdB (nth kinds 0 (fstN (hit w) 63 0)) (W w))), (.int false IntKind.i64 (r1B (nth kinds 0 (fstN (hit w) 63 0)) (W w))), (.int false IntKind.i64 (r2B (nth kinds 0 (fstN (hit w) 63 0)) (W w))), (.int false IntKind.i64 (numB (nth kinds 0 (fstN (hit w) 63 0)) (W w)))]), (.bool false true)]) []
        else
          .ret (.tup [(.agg [(.int true IntKind.i64 0), (.int true IntKind.i64 0), (.int true IntKind.i64 0), (.int true IntKind.i64 0), (.int true IntKind.i64 0)]), (.bool true false)]) [(1024, .cells [(.int true IntKind.i64 0), (.int true IntKind.i64 0), (.int true IntKind.i64 0), (.int true IntKind.i64 0), (.int true IntKind.i64 0)])]
      else .bad
    else .bad) := by kernel_rfl

end Go.Rv
end

section
set_option linter.unusedVariables false
open Go Go.Ev Go.Proofs
namespace Go.Rv

def g11 : List SV → Heap → Option R := fun a H => match a, H with
  | [.int false .u32 w], [] => some ⟨[decide (0 ≤ w), decide (w < 4294967296)], .tup [.agg (decSV w), .bool false (decOk w)], []⟩
  | _, _ => none

attribute [local irreducible] evalF in
theorem ok11s : SpecOk Try.prog 30 (specOf g11) := by
  refine spec_ok e11_calls mixed fn11 b11 n11 loops11 g11 fun a0 H0 r h hn => ?_
  unfold g11 at h
  split at h
  · rename_i w
    simp only [Option.some.injEq] at h
    subst h
    simp only [allB, Bool.and_true, Bool.and_eq_true, decide_eq_true_eq] at hn
    obtain ⟨h0, h1⟩ := hn
    have e1 : decide (0 ≤ w) = true := decide_eq_true h0
    have e2 : decide (w < 4294967296) = true := decide_eq_true h1
    have hl := l11 w
    simp only [e1, e2, cond_true] at hl
    show GivesR _ (evalF E11 Try.prog 30 [.int false .u32 w] [] 1024).leaf
    rw [hl]
    refine GivesR_cond (fun hf => ?_) (fun hf => ?_)
    · have hf : decOk w = true := hf
      refine ⟨[], rfl, ?_, trivial, rfl⟩
      simp only [sim, simL, decSV, decV, hf, decK, cond_true, and_true, true_and]
      exact ⟨rfl, rfl, rfl, rfl, rfl⟩
    · have hf : decOk w = false := hf
      exact ⟨[], rfl, by simp [sim, simL, decSV, decV, hf, decK], trivial, rfl⟩
  · cases h

def plains2 : List Nat := plains
theorem named2 : named Try.prog plains2 = true := by kernel_rfl
end Go.Rv
end

section
set_option linter.unusedVariables false
open Go Go.Ev Go.Proofs
namespace Go.X

theorem rexI_low (w m l : Int) : 64 ≤ rexI w m l ∧ rexI w m l ≤ 79 := by
  unfold rexI
  cases cm .eql w 8 <;> cases cm .geq m 8 <;> cases cm .geq l 8 <;> simp
def sh39 (k : Int) : Bool := decide (shX k = 0) || (decide (shX k = 1) || (decide (shX k = 2) || (decide (shX k = 3) || (decide (shX k = 4) || (decide (shX k = 6) || decide (shX k = 7))))))
theorem sh39_chk : ((List.range 39).all fun i => sh39 (Int.ofNat (i + 1))) = true := by kernel_rfl
/-- the first byte of the ops that are no ways -/
theorem first39 {k : Int} (h1 : 1 ≤ k) (h2 : k ≤ 39) (w rd rs n : Int) : ∃ b l, encL k w rd rs n = b :: l ∧ (64 ≤ b ∧ b ≤ 79 ∨ b = 102) := by
  have hs : sh39 k = true := by
    have := List.all_eq_true.1 sh39_chk (k - 1).toNat (List.mem_range.2 (by omega))
    rwa [show Int.ofNat ((k - 1).toNat + 1) = k by simp only [Int.ofNat_eq_natCast]; omega] at this
  simp only [sh39, Bool.or_eq_true, decide_eq_true_eq] at hs
  unfold encL
  rcases hs with e | e | e | e | e | e | e
  · simp only [if_pos e]
    cases nth turns false (k - 1).toNat <;> exact ⟨_, _, rfl, .inl (rexI_low _ _ _)⟩
  · simp only [e]
    exact ⟨_, _, rfl, .inl (rexI_low _ _ _)⟩
  · simp only [e]
    cases nth aheads false (k - 1).toNat
    · exact ⟨_, _, rfl, .inl (rexI_low _ _ _)⟩
    · exact ⟨_, _, rfl, .inr rfl⟩
  · simp only [e]
    exact ⟨_, _, rfl, .inl (rexI_low _ _ _)⟩
  · simp only [e]
    exact ⟨_, _, rfl, .inl (rexI_low _ _ _)⟩
  · simp only [e]
    exact ⟨_, _, rfl, .inl (rexI_low _ _ _)⟩
  · simp only [e]
    exact ⟨_, _, rfl, .inl (rexI_low _ _ _)⟩
theorem l40 (w rd rs n : Int) : encL 40 w rd rs n = 232 :: tailL n 4 := by kernel_rfl
theorem l41 (w rd rs n : Int) : encL 41 w rd rs n = 195 :: tailL n 0 := by kernel_rfl
theorem l42 (w rd rs n : Int) : encL 42 w rd rs n = 233 :: tailL n 4 := by kernel_rfl
theorem l43 (w rd rs n : Int) : encL 43 w rd rs n = 235 :: tailL n 1 := by kernel_rfl
theorem l44 (w rd rs n : Int) : encL 44 w rd rs n = 15 :: (128 + rd) :: tailL n 4 := by kernel_rfl
theorem l45 (w rd rs n : Int) : encL 45 w rd rs n = (112 + rd) :: tailL n 1 := by kernel_rfl

/-- the first byte that an op's bytes have -/
def fb (k b : Int) : Prop := (k ≤ 39 ∧ (64 ≤ b ∧ b ≤ 79 ∨ b = 102)) ∨ (k = 40 ∧ b = 232) ∨ (k = 41 ∧ b = 195) ∨ (k = 42 ∧ b = 233) ∨ (k = 43 ∧ b = 235) ∨ (k = 44 ∧ b = 15) ∨ (k = 45 ∧ 112 ≤ b ∧ b ≤ 127) ∨ k = 46
theorem fb_of {k : Int} {s : ByteArray} {w rd rs n : Int} (h1 : 1 ≤ k) (h2 : k ≤ 46) (hc : k = 45 → condX rd = true) (h : starts s (encL k w rd rs n)) : fb k (chr s 0) := by
  obtain ⟨hl, hg⟩ := h
  by_cases h39 : k ≤ 39
  · obtain ⟨b, l, e, hb⟩ := first39 h1 h39 w rd rs n
    have := hg 0 (by rw [e]; exact Nat.succ_pos _)
    rw [e] at this
    exact .inl ⟨h39, by rw [this]; exact hb⟩
  · have : k = 40 ∨ k = 41 ∨ k = 42 ∨ k = 43 ∨ k = 44 ∨ k = 45 ∨ k = 46 := by omega
    unfold fb
    rcases this with rfl | rfl | rfl | rfl | rfl | rfl | rfl
    · have := hg 0 (by rw [l40]; exact Nat.succ_pos _)
      rw [l40] at this
      exact .inr (.inl ⟨rfl, this⟩)
    · have := hg 0 (by rw [l41]; exact Nat.succ_pos _)
      rw [l41] at this
      exact .inr (.inr (.inl ⟨rfl, this⟩))
    · have := hg 0 (by rw [l42]; exact Nat.succ_pos _)
      rw [l42] at this
      exact .inr (.inr (.inr (.inl ⟨rfl, this⟩)))
    · have := hg 0 (by rw [l43]; exact Nat.succ_pos _)
      rw [l43] at this
      exact .inr (.inr (.inr (.inr (.inl ⟨rfl, this⟩))))
    · have := hg 0 (by rw [l44]; exact Nat.succ_pos _)
      rw [l44] at this
      exact .inr (.inr (.inr (.inr (.inr (.inl ⟨rfl, this⟩)))))
    · have := hg 0 (by rw [l45]; exact Nat.succ_pos _)
      rw [l45] at this
      have this : chr s 0 = 112 + rd := this
      have hcc := hc rfl
      simp only [condX, Bool.or_eq_true, Bool.and_eq_true, decide_eq_true_eq] at hcc
      exact .inr (.inr (.inr (.inr (.inr (.inr (.inl ⟨rfl, by omega⟩))))))
    · exact .inr (.inr (.inr (.inr (.inr (.inr (.inr rfl))))))
theorem e45c {w c rs n : Int} (h : errX 45 w c rs n = 0) : condX c = true := by
  obtain ⟨_, _, hn, _⟩ := err_ok h
  cases hc : condX c with
  | true => rfl
  | false =>
    have : namedX (shX 45) (imX 45) c rs n = (condX c && decide (rs = 0)) := by kernel_rfl
    rw [this, hc] at hn
    cases hn
/-- a way's bytes are decoded as that way -/
theorem dec_way {k w rd n : Int} (hk : k = 40 ∨ k = 42 ∨ k = 43 ∨ k = 44 ∨ k = 45) (he : errX k w rd 0 n = 0) (hn : inI n) :
    decX (strX k w rd 0 n) = ⟨k, w, rd, 0, n, ((strX k w rd 0 n).size : Int), true⟩ := by
  have hs : starts (strX k w rd 0 n) (encL k w rd 0 n) := by
    rw [strX_ok he]
    refine (starts_iff (enc_rng he)).2 ⟨Nat.le_refl _, ?_⟩
    exact ByteArray.extract_zero_size
  have h1 : 1 ≤ k ∧ k ≤ 46 := by omega
  refine decX_is ⟨h1.1, h1.2, ⟨he, hn, hs⟩, rfl, rfl, fun j j1 j2 => ?_⟩
  rintro ⟨w', rd', rs', n', hd⟩
  have a := fb_of h1.1 h1.2 (fun e => by subst e; exact e45c he) hs
  have b := fb_of j1 (by have : j < k := j2; omega) (fun e => by subst e; exact e45c hd.1) hd.2.2
  have j2 : j < k := j2
  unfold fb at a b
  omega

end Go.X
end
