/-
  A heap is read by name.
-/
import Derived.Test.YtngponflocmgiaaB12
set_option linter.unusedSimpArgs false
set_option linter.unusedVariables false
namespace Go.Ev

/-- a table of integers -/
def tI (k : IntKind) (rw : Bool) (H : Heap) (j : Nat) : Option (Nat × (Nat → Int)) :=
  match look H j with
  | some (.tab n [.ints k' g] rw') => match decide (k = k') && (!rw || rw') with
    | true => some (n, g)
    | false => none
  | _ => none
theorem tI_spec {k : IntKind} {rw : Bool} {H : Heap} {j n : Nat} {g : Nat → Int} (h : tI k rw H j = some (n, g)) : ∃ rw', look H j = some (.tab n [.ints k g] rw') ∧ (rw = true → rw' = true) := by
  unfold tI at h
  split at h
  · rename_i n' k' g' rw' hl
    split at h
    · rename_i hb
      simp only [Option.some.injEq, Prod.mk.injEq] at h
      obtain ⟨rfl, rfl⟩ := h
      simp only [Bool.and_eq_true, decide_eq_true_eq, Bool.or_eq_true, Bool.not_eq_true'] at hb
      obtain ⟨rfl, hb⟩ := hb
      exact ⟨rw', hl, fun h => by rcases hb with hb | hb <;> simp_all⟩
    · cases h
  · cases h
def cL (H : Heap) (j : Nat) : Option (List SV) :=
  match look H j with
  | some (.cells l) => some l
  | _ => none
theorem cL_spec {H : Heap} {j : Nat} {l : List SV} (h : cL H j = some l) : look H j = some (.cells l) := by
  unfold cL at h
  split at h
  · rename_i hl
    simp only [Option.some.injEq] at h; subst h; exact hl
  · cases h

def eqS : SV → SV → Bool
  | .int _ k n, .int _ k' n' => decide (k = k') && decide (n = n')
  | .bool _ b, .bool _ b' => b == b'
  | .sl k n, .sl k' n' => Nat.beq k k' && Nat.beq n n'
  | .ptr k r c, .ptr k' r' c' => Nat.beq k k' && (Nat.beq r r' && Nat.beq c c')
  | .val (.slice none 0 0), .val (.slice none 0 0) => true
  | _, _ => false
def eqL : List SV → List SV → Bool
  | [], [] => true
  | x :: l, y :: l' => eqS x y && eqL l l'
  | _, _ => false
theorem eqS_sim {x y : SV} (h : eqS x y = true) : sim (rmap []) x y := by
  unfold eqS at h
  split at h <;> simp_all [sim, rmap, rlook]
theorem eqL_sim : ∀ {l l' : List SV}, eqL l l' = true → simL (rmap []) l l'
  | [], [], _ => trivial
  | x :: l, y :: l', h => by
    simp only [eqL, Bool.and_eq_true] at h
    exact ⟨eqS_sim h.1, eqL_sim h.2⟩
  | [], _ :: _, h => by cases h
  | _ :: _, [], h => by cases h

end Go.Ev
