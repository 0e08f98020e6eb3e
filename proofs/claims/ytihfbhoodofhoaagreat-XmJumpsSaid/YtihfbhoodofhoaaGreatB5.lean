/-
  Some branches alone.
-/
import Derived.Test.YtihfbhoodofhoaaGreatB3
set_option linter.unusedSimpArgs false
set_option linter.unusedVariables false
namespace Go.Ev
open Go.RowKit
variable {P : Program}

/-- the first choice's second branch is left out -/
def Tr.cutL : Tr → Tr
  | .node b x _ => .node b x (.bad 0)
  | .need b x => .need b x.cutL
  | t => t

theorem cutL_leaf : ∀ (T : Tr), T.cutL.leaf = .bad ∨ T.leaf = T.cutL.leaf
  | .node b x y => by cases b with
    | true => exact .inr rfl
    | false => exact .inl rfl
  | .need b x => by
    cases b with
    | true => exact cutL_leaf x
    | false => exact .inl rfl
  | .norm _ => .inr rfl
  | .exit _ _ => .inr rfl
  | .ret _ _ => .inr rfl
  | .bad _ => .inr rfl

theorem gives_cutL {T : Tr} {s : SV} (h : T.cutL.leaf.gives s) : T.leaf.gives s := by
  rcases cutL_leaf T with h1 | h1
  · rw [h1] at h; exact h.elim
  · rw [h1]; exact h

end Go.Ev
