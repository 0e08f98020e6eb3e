/-
  A leaf of some slots and some blocks.
-/
import Derived.Test.YtngponflocmgiaaB16
set_option linter.unusedSimpArgs false
set_option linter.unusedVariables false
namespace Go.Ev

def Vw.pick (js : List Nat) : Vw → Vw
  | .norm n l H => .norm n l (pickN H js)
  | .exit i n l H => .exit i n l (pickN H js)
  | .ret v H => .ret v (pickN H js)
  | .bad => .bad

def Tr.viewP (ks js : List Nat) : Tr → Vw
  | .norm S => .norm S.F.length (slots S.F ks) (pickN S.H js)
  | .exit i S => .exit i S.F.length (slots S.F ks) (pickN S.H js)
  | .ret v H => .ret v (pickN H js)
  | .bad _ => .bad
  | .node b x y => bif b then x.viewP ks js else y.viewP ks js
  | .need b x => bif b then x.viewP ks js else .bad

theorem viewP_view (ks js : List Nat) (T : Tr) : T.viewP ks js = (T.view ks).pick js := by
  induction T with
  | node b x y ihx ihy => simp only [Tr.viewP, Tr.view]; cases b <;> simp [ihx, ihy]
  | need b x ih => simp only [Tr.viewP, Tr.view]; cases b <;> simp [ih, Vw.pick]
  | _ => rfl

theorem round_pick {α : Type} {s : Lp} {ok : α → Prop} {μ : α → Nat} {vs : α → List SV} {hp : α → Heap} {out : α → Vw} {x : α} {v : Vw} (js : List Nat) (h : Round s ok μ vs hp out x (v.pick js)) : Round s ok μ vs hp out x v := by
  cases v with
  | norm n l H =>
    obtain ⟨h1, y, r, h2, h3, h4, a, b, c, d, e⟩ := h
    exact ⟨h1, y, r, h2, h3, h4, a, b, wkH_pick js _ c, d, e⟩
  | exit i n l H =>
    obtain ⟨h1, l', H', r, h2, a, b, c, d, e⟩ := h
    exact ⟨h1, l', H', r, h2, a, b, wkH_pick js _ c, d, e⟩
  | ret v H =>
    obtain ⟨v', H', r, h1, a, b, c, d⟩ := h
    exact ⟨v', H', r, h1, a, b, wkH_pick js _ c, d⟩
  | bad => exact h

theorem round_viewP {α : Type} {s : Lp} {ok : α → Prop} {μ : α → Nat} {vs : α → List SV} {hp : α → Heap} {out : α → Vw} {x : α} {T : Tr} {v : Vw} (js : List Nat) (hT : T.viewP s.ks js = v) (h : Round s ok μ vs hp out x v) : Round s ok μ vs hp out x (T.view s.ks) := by
  refine round_pick js ?_
  rw [← viewP_view, hT]
  exact h

end Go.Ev
