/-
  Bits by reflection: numbers made of atoms by or, and, shifts, cuts and signs.
-/
import Derived.KernelRfl
set_option linter.unusedSimpArgs false
set_option linter.unusedVariables false
namespace Go.Bx

inductive BX where
  | atom (a : Nat)
  | lit (n : Nat)
  | or (x y : BX)
  | and (x y : BX)
  | xor (x y : BX)
  | shl (x : BX) (k : Nat)
  | shr (x : BX) (k : Nat)
  /-- the lowest w bits -/
  | cut (x : BX) (w : Nat)
  /-- the lowest m bits, the highest of them spread up to w -/
  | sext (x : BX) (m w : Nat)

def sextN (n m w : Nat) : Nat := if n.testBit (m - 1) then n % 2 ^ m + (2 ^ w - 2 ^ m) else n % 2 ^ m

def BX.eval (env : Nat → Nat) : BX → Nat
  | .atom a => env a
  | .lit n => n
  | .or x y => x.eval env ||| y.eval env
  | .and x y => x.eval env &&& y.eval env
  | .xor x y => x.eval env ^^^ y.eval env
  | .shl x k => x.eval env <<< k
  | .shr x k => x.eval env >>> k
  | .cut x w => x.eval env % 2 ^ w
  | .sext x m w => sextN (x.eval env) m w

inductive Sym where
  | c (b : Bool)
  | v (a i : Nat)

def Sym.eval (env : Nat → Nat) : Sym → Bool
  | .c b => b
  | .v a i => (env a).testBit i

def Sym.beq : Sym → Sym → Bool
  | .c b, .c b' => b == b'
  | .v a i, .v a' i' => Nat.beq a a' && Nat.beq i i'
  | _, _ => false

theorem Sym.beq_eq {x y : Sym} (h : x.beq y = true) : x = y := by
  cases x <;> cases y <;> simp [Sym.beq] at h
  · rw [h]
  · rw [h.1, h.2]

def orS : Option Sym → Option Sym → Option Sym
  | some (.c false), y => y
  | some (.c true), _ => some (.c true)
  | x, some (.c false) => x
  | _, some (.c true) => some (.c true)
  | some x, some y => match x.beq y with
    | true => some x
    | false => none
  | _, _ => none

def andS : Option Sym → Option Sym → Option Sym
  | some (.c true), y => y
  | some (.c false), _ => some (.c false)
  | x, some (.c true) => x
  | _, some (.c false) => some (.c false)
  | some x, some y => match x.beq y with
    | true => some x
    | false => none
  | _, _ => none

def xorS : Option Sym → Option Sym → Option Sym
  | some (.c false), y => y
  | x, some (.c false) => x
  | some x, some y => match x.beq y with
    | true => some (.c false)
    | false => none
  | _, _ => none

/-- what is known of the atoms' bits -/
abbrev Kn := Nat → Nat → Option Bool

def Kn.ok (kn : Kn) (env : Nat → Nat) : Prop := ∀ a i b, kn a i = some b → (env a).testBit i = b

def BX.bit (kn : Kn) : BX → Nat → Option Sym
  | .atom a, i => match kn a i with
    | some b => some (.c b)
    | none => some (.v a i)
  | .lit n, i => some (.c (n.testBit i))
  | .or x y, i => orS (x.bit kn i) (y.bit kn i)
  | .and x y, i => andS (x.bit kn i) (y.bit kn i)
  | .xor x y, i => xorS (x.bit kn i) (y.bit kn i)
  | .shl x k, i => match Nat.blt i k with
    | true => some (.c false)
    | false => x.bit kn (i - k)
  | .shr x k, i => x.bit kn (k + i)
  | .cut x w, i => match Nat.blt i w with
    | true => x.bit kn i
    | false => some (.c false)
  | .sext x m w, i => match Nat.blt 0 m && Nat.ble m w with
    | true => match Nat.blt i m with
      | true => x.bit kn i
      | false => match Nat.blt i w with
        | true => x.bit kn (m - 1)
        | false => some (.c false)
    | false => none

theorem orS_spec {env : Nat → Nat} {p q : Option Sym} {s : Sym} (h : orS p q = some s) {x y : Bool} (hp : ∀ t, p = some t → x = t.eval env) (hq : ∀ t, q = some t → y = t.eval env) : (x || y) = s.eval env := by
  unfold orS at h
  split at h
  · rw [hp _ rfl, hq _ h]; simp [Sym.eval]
  · simp only [Option.some.injEq] at h; subst h; rw [hp _ rfl]; simp [Sym.eval]
  · rw [hq _ rfl, hp _ h]; simp [Sym.eval]
  · simp only [Option.some.injEq] at h; subst h; rw [hq _ rfl]; simp [Sym.eval]
  · split at h
    · rename_i hb
      simp only [Option.some.injEq] at h; subst h
      rw [hp _ rfl, hq _ rfl, ← Sym.beq_eq hb]; simp
    · cases h
  · cases h

theorem andS_spec {env : Nat → Nat} {p q : Option Sym} {s : Sym} (h : andS p q = some s) {x y : Bool} (hp : ∀ t, p = some t → x = t.eval env) (hq : ∀ t, q = some t → y = t.eval env) : (x && y) = s.eval env := by
  unfold andS at h
  split at h
  · rw [hp _ rfl, hq _ h]; simp [Sym.eval]
  · simp only [Option.some.injEq] at h; subst h; rw [hp _ rfl]; simp [Sym.eval]
  · rw [hq _ rfl, hp _ h]; simp [Sym.eval]
  · simp only [Option.some.injEq] at h; subst h; rw [hq _ rfl]; simp [Sym.eval]
  · split at h
    · rename_i hb
      simp only [Option.some.injEq] at h; subst h
      rw [hp _ rfl, hq _ rfl, ← Sym.beq_eq hb]; simp
    · cases h
  · cases h

theorem xorS_spec {env : Nat → Nat} {p q : Option Sym} {s : Sym} (h : xorS p q = some s) {x y : Bool} (hp : ∀ t, p = some t → x = t.eval env) (hq : ∀ t, q = some t → y = t.eval env) : (x ^^ y) = s.eval env := by
  unfold xorS at h
  split at h
  · rw [hp _ rfl, hq _ h]; simp [Sym.eval]
  · rw [hq _ rfl, hp _ h]; simp [Sym.eval]
  · split at h
    · rename_i hb
      simp only [Option.some.injEq] at h; subst h
      rw [hp _ rfl, hq _ rfl, ← Sym.beq_eq hb]; simp [Sym.eval]
    · cases h
  · cases h

theorem sextN_bit {n m w i : Nat} (hm : 0 < m) (hw : m ≤ w) : (sextN n m w).testBit i = if i < m then n.testBit i else if i < w then n.testBit (m - 1) else false := by
  unfold sextN
  have hlt : n % 2 ^ m < 2 ^ m := Nat.mod_lt _ (Nat.two_pow_pos m)
  have hsplit : 2 ^ w - 2 ^ m = 2 ^ m * (2 ^ (w - m) - 1) := by
    rw [Nat.mul_sub, ← Nat.pow_add, Nat.mul_one]; congr 2; omega
  split
  · rename_i hb
    rw [hsplit, Nat.add_comm, Nat.testBit_two_pow_mul_add _ hlt]
    split
    · rename_i h; rw [Nat.testBit_mod_two_pow]; simp [h]
    · rename_i h
      rw [Nat.testBit_two_pow_sub_one, hb]
      by_cases h2 : i < w
      · simp [h2]; omega
      · simp [h2]; omega
  · rename_i hb
    have hb : n.testBit (m - 1) = false := by simpa using hb
    rw [Nat.testBit_mod_two_pow]
    by_cases h1 : i < m <;> by_cases h2 : i < w <;> simp [h1, h2, hb]

theorem bit_sound {kn : Kn} {env : Nat → Nat} (hk : kn.ok env) : ∀ (x : BX) (i : Nat) (s : Sym), x.bit kn i = some s → (x.eval env).testBit i = s.eval env
  | .atom a, i, s, h => by
    simp only [BX.bit] at h
    split at h
    · rename_i b hb; simp only [Option.some.injEq] at h; subst h; exact hk a i b hb
    · simp only [Option.some.injEq] at h; subst h; rfl
  | .lit n, i, s, h => by simp only [BX.bit, Option.some.injEq] at h; subst h; rfl
  | .or x y, i, s, h => by
    simp only [BX.eval, Nat.testBit_or]
    exact orS_spec h (fun t ht => bit_sound hk x i t ht) (fun t ht => bit_sound hk y i t ht)
  | .and x y, i, s, h => by
    simp only [BX.eval, Nat.testBit_and]
    exact andS_spec h (fun t ht => bit_sound hk x i t ht) (fun t ht => bit_sound hk y i t ht)
  | .xor x y, i, s, h => by
    simp only [BX.eval, Nat.testBit_xor]
    exact xorS_spec h (fun t ht => bit_sound hk x i t ht) (fun t ht => bit_sound hk y i t ht)
  | .shl x k, i, s, h => by
    simp only [BX.bit] at h
    simp only [BX.eval, Nat.testBit_shiftLeft]
    split at h
    · rename_i hb
      simp only [Nat.blt_eq] at hb
      simp only [Option.some.injEq] at h; subst h
      simp [Sym.eval, show ¬ k ≤ i by omega]
    · rename_i hb
      have hb : ¬ i < k := by rw [← Nat.blt_eq]; simp [hb]
      rw [bit_sound hk x _ s h]
      simp [show k ≤ i by omega]
  | .shr x k, i, s, h => by
    simp only [BX.eval, Nat.testBit_shiftRight]
    exact bit_sound hk x _ s h
  | .cut x w, i, s, h => by
    simp only [BX.bit] at h
    simp only [BX.eval, Nat.testBit_mod_two_pow]
    split at h
    · rename_i hb
      simp only [Nat.blt_eq] at hb
      rw [bit_sound hk x _ s h]; simp [hb]
    · rename_i hb
      have hb : ¬ i < w := by rw [← Nat.blt_eq]; simp [hb]
      simp only [Option.some.injEq] at h; subst h
      simp [hb, Sym.eval]
  | .sext x m w, i, s, h => by
    simp only [BX.bit] at h
    split at h
    · rename_i hc
      simp only [Bool.and_eq_true, Nat.blt_eq, Nat.ble_eq] at hc
      simp only [BX.eval, sextN_bit hc.1 hc.2]
      split at h
      · rename_i hb
        simp only [Nat.blt_eq] at hb
        rw [if_pos hb]; exact bit_sound hk x _ s h
      · rename_i hb
        have hb : ¬ i < m := by rw [← Nat.blt_eq]; simp [hb]
        rw [if_neg hb]
        split at h
        · rename_i hb2
          simp only [Nat.blt_eq] at hb2
          rw [if_pos hb2]; exact bit_sound hk x _ s h
        · rename_i hb2
          have hb2 : ¬ i < w := by rw [← Nat.blt_eq]; simp [hb2]
          rw [if_neg hb2]
          simp only [Option.some.injEq] at h; subst h; rfl
    · cases h

/-- equal in so many bits -/
def eqB (kn : Kn) (x y : BX) : Nat → Bool
  | 0 => true
  | n + 1 => (match x.bit kn n, y.bit kn n with
    | some s, some t => s.beq t
    | _, _ => false) && eqB kn x y n

theorem eqB_spec {kn : Kn} {env : Nat → Nat} (hk : kn.ok env) {x y : BX} : ∀ n, eqB kn x y n = true → ∀ i, i < n → (x.eval env).testBit i = (y.eval env).testBit i
  | 0, _, i, hi => by omega
  | n + 1, h, i, hi => by
    simp only [eqB, Bool.and_eq_true] at h
    by_cases e : i = n
    · subst e
      have h1 := h.1
      split at h1
      · rename_i s t hs ht
        rw [bit_sound hk x _ s hs, bit_sound hk y _ t ht, Sym.beq_eq h1]
      · cases h1
    · exact eqB_spec hk n h.2 i (by omega)

/-- equal, both below 2 ^ n -/
theorem eq_of_bits {kn : Kn} {env : Nat → Nat} (hk : kn.ok env) {x y : BX} {n : Nat} (hx : x.eval env < 2 ^ n) (hy : y.eval env < 2 ^ n) (h : eqB kn x y n = true) : x.eval env = y.eval env := by
  refine Nat.eq_of_testBit_eq fun i => ?_
  by_cases hi : i < n
  · exact eqB_spec hk n h i hi
  · rw [Nat.testBit_lt_two_pow (Nat.lt_of_lt_of_le hx (Nat.pow_le_pow_right (by omega) (by omega))), Nat.testBit_lt_two_pow (Nat.lt_of_lt_of_le hy (Nat.pow_le_pow_right (by omega) (by omega)))]

end Go.Bx
