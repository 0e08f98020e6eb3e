/-
  What a tree gives, of some blocks alone.
-/
import Derived.Test.YtihfbhoodofhoaaGreatB7
set_option linter.unusedSimpArgs false
set_option linter.unusedVariables false
namespace Go.Ev
open Go.RowKit
variable {P : Program}

def pickN (H : Heap) : List Nat → Heap
  | [] => []
  | k :: t => match look H k with
    | some b => (k, b) :: pickN H t
    | none => pickN H t

def Tr.retH (ks : List Nat) : Tr → Lf
  | .ret v H => .ret v (pickN H ks)
  | .node b x y => bif b then x.retH ks else y.retH ks
  | .need b x => bif b then x.retH ks else .bad
  | _ => .bad

def Lf.retH (ks : List Nat) : Lf → Lf
  | .ret v H => .ret v (pickN H ks)
  | _ => .bad

theorem retH_leaf (ks : List Nat) (T : Tr) : T.retH ks = T.leaf.retH ks := by
  induction T with
  | node b x y ihx ihy => simp only [Tr.retH, Tr.leaf]; cases b <;> simp [ihx, ihy]
  | need b x ih => simp only [Tr.retH, Tr.leaf]; cases b <;> simp [ih, Lf.retH]
  | _ => rfl

theorem pickN_look (H : Heap) : ∀ (ks : List Nat) (k : Nat) (b : Blk), look (pickN H ks) k = some b → look H k = some b
  | [], _, _, h => by cases h
  | j :: t, k, b, h => by
    simp only [pickN] at h
    split at h
    · rename_i c hc
      simp only [look] at h
      split at h
      · rename_i hb
        have := Nat.eq_of_beq_eq_true hb
        subst this
        rw [hc]; exact h
      · exact pickN_look H t k b h
    · exact pickN_look H t k b h

theorem wkH_pick {ρ : Rn} {H : Heap} (ks : List Nat) : ∀ (u : Heap), wkH ρ (pickN H ks) u → wkH ρ H u
  | [], _ => trivial
  | (k', b') :: t, h => by
    simp only [wkH] at h ⊢
    refine ⟨?_, wkH_pick ks t h.2⟩
    have h1 := h.1
    revert h1
    cases ρ k' with
    | old k =>
      intro h1
      cases hb : look (pickN H ks) k with
      | none => simp only [hb] at h1
      | some b =>
        simp only [hb] at h1
        simp only [pickN_look H ks k b hb]
        exact h1
    | nil w =>
      intro h1
      exact h1

theorem gives_retH {r : R} {T : Tr} {l : Lf} (ks : List Nat) (h : T.retH ks = l) (hg : GivesD r l) : GivesD r T.leaf := by
  rw [retH_leaf] at h
  subst h
  generalize T.leaf = x at hg
  cases x with
  | ret v H =>
    obtain ⟨l, h1, h2, h3, h4⟩ := hg
    exact ⟨l, h1, h2, wkH_pick ks _ h3, h4⟩
  | _ => exact hg.elim

theorem GivesD_cond {r : R} {b : Bool} {x y : Lf} (h1 : b = true → GivesD r x) (h2 : b = false → GivesD r y) : GivesD r (bif b then x else y) := by
  cases b with
  | true => exact h1 rfl
  | false => exact h2 rfl

end Go.Ev
