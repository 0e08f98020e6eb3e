/-
  The loops of a function by number.
-/
import Derived.Test.YtngponflocmgiaaB2
set_option linter.unusedSimpArgs false
set_option linter.unusedVariables false
namespace Go.Ev
open Go.RowKit
variable {P : Program}

def nthLoop : Code → Nat → Option Code
  | .seq a b, n => match Nat.blt n (Code.loops a) with
    | true => nthLoop a n
    | false => nthLoop b (n - Code.loops a)
  | .cond _ a b, n => match Nat.blt n (Code.loops a) with
    | true => nthLoop a n
    | false => nthLoop b (n - Code.loops a)
  | .block _ a, n => nthLoop a n
  | .loop a, n => match n with
    | 0 => some a
    | n + 1 => nthLoop a n
  | _, _ => none

def bodyOf (f : Func) : Code := match f.body with
  | some c => c
  | none => .skip

/-- the body of a function's n-th loop -/
def loopOf (f : Func) (n : Nat) : Code := match nthLoop (bodyOf f) n with
  | some c => c
  | none => .skip

theorem loopsOk_of {E : Env} {fn : Func} : ∀ (c : Code) (n0 : Nat), (∀ m a, m < Code.loops c → nthLoop c m = some a → LoopOk E P fn (n0 + m) a) → LoopsOk E P fn c n0
  | .seq a b, n0, h => by
    refine ⟨loopsOk_of a n0 fun m x hm hx => h m x (by simp only [Code.loops]; omega) ?_, loopsOk_of b _ fun m x hm hx => ?_⟩
    · have : Nat.blt m (Code.loops a) = true := by simpa using hm
      simp only [nthLoop, this, hx]
    · have h1 : Nat.blt (Code.loops a + m) (Code.loops a) = false := by
        cases hb : Nat.blt (Code.loops a + m) (Code.loops a) with
        | true => rw [Nat.blt_eq] at hb; omega
        | false => rfl
      have := h (Code.loops a + m) x (by simp only [Code.loops]; omega) (by simp only [nthLoop, h1, Nat.add_sub_cancel_left, hx])
      rwa [← Nat.add_assoc] at this
  | .cond _ a b, n0, h => by
    refine ⟨loopsOk_of a n0 fun m x hm hx => h m x (by simp only [Code.loops]; omega) ?_, loopsOk_of b _ fun m x hm hx => ?_⟩
    · have : Nat.blt m (Code.loops a) = true := by simpa using hm
      simp only [nthLoop, this, hx]
    · have h1 : Nat.blt (Code.loops a + m) (Code.loops a) = false := by
        cases hb : Nat.blt (Code.loops a + m) (Code.loops a) with
        | true => rw [Nat.blt_eq] at hb; omega
        | false => rfl
      have := h (Code.loops a + m) x (by simp only [Code.loops]; omega) (by simp only [nthLoop, h1, Nat.add_sub_cancel_left, hx])
      rwa [← Nat.add_assoc] at this
  | .block _ a, n0, h => loopsOk_of a n0 fun m x hm hx => h m x hm hx
  | .loop a, n0, h => h 0 a (by simp only [Code.loops]; omega) rfl
  | .skip, _, _ => trivial
  | .region _ _ _, _, _ => trivial
  | .exit _, _, _ => trivial
  | .ret, _, _ => trivial
  | .label _, _, _ => trivial
  | .goto _, _, _ => trivial
  | .rangeFunc _ _ _ _, _, _ => trivial
  | .scope _, _, _ => trivial
  | .refuse _, _, _ => trivial

/-- a function of one loop -/
theorem loops1 {E : Env} {fn : Func} {c : Code} (hc : Code.loops c = 1) (h : ∀ a, nthLoop c 0 = some a → LoopOk E P fn 0 a) : LoopsOk E P fn c 0 :=
  loopsOk_of c 0 fun m a hm ha => by
    rw [hc] at hm
    obtain rfl : m = 0 := by omega
    exact h a ha

theorem loops2 {E : Env} {fn : Func} {c : Code} (hc : Code.loops c = 2) (h0 : ∀ a, nthLoop c 0 = some a → LoopOk E P fn 0 a) (h1 : ∀ a, nthLoop c 1 = some a → LoopOk E P fn 1 a) : LoopsOk E P fn c 0 :=
  loopsOk_of c 0 fun m a hm ha => by
    rw [hc] at hm
    rcases m with _ | _ | m
    · exact h0 a ha
    · exact h1 a ha
    · omega

theorem loops0 {E : Env} {fn : Func} {c : Code} {n : Nat} (hc : Code.loops c = 0) : LoopsOk E P fn c n :=
  loopsOk_of c n fun m a hm _ => by omega

end Go.Ev
