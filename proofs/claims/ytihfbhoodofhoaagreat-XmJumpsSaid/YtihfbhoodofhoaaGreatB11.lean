/-
  A heap is read by name.
-/
import Derived.Test.YtihfbhoodofhoaaGreatB9
set_option linter.unusedSimpArgs false
set_option linter.unusedVariables false
section
namespace Go.Ev

/-- a table of integers -/
def tI (k : IntKind) (rw : Bool) (H : Heap) (j : Nat) : Option (Nat × (Nat → Int)) :=
  match look H j with
  | some (.tab n [.ints k' g] rw') => match decide (k = k') && (!rw || rw') with
    | true => some (n, g)
    | false => none
  | _ => none
theorem tI_spec {k : IntKind} {rw : Bool} {H : Heap} {j n : Nat} {g : Nat → Int} (h : tI k rw H j = some (n, g)) : ∃ rw', look H j = some (.tab n [.ints k g] rw') ∧ (rw = true → rw' = true) := by
  unfold tI at h
  split at h
  · rename_i n' k' g' rw' hl
    split at h
    · rename_i hb
      simp only [Option.some.injEq, Prod.mk.injEq] at h
      obtain ⟨rfl, rfl⟩ := h
      simp only [Bool.and_eq_true, decide_eq_true_eq, Bool.or_eq_true, Bool.not_eq_true'] at hb
      obtain ⟨rfl, hb⟩ := hb
      exact ⟨rw', hl, fun h => by rcases hb with hb | hb <;> simp_all⟩
    · cases h
  · cases h
def cL (H : Heap) (j : Nat) : Option (List SV) :=
  match look H j with
  | some (.cells l) => some l
  | _ => none
theorem cL_spec {H : Heap} {j : Nat} {l : List SV} (h : cL H j = some l) : look H j = some (.cells l) := by
  unfold cL at h
  split at h
  · rename_i hl
    simp only [Option.some.injEq] at h; subst h; exact hl
  · cases h

def eqS : SV → SV → Bool
  | .int _ k n, .int _ k' n' => decide (k = k') && decide (n = n')
  | .bool _ b, .bool _ b' => b == b'
  | .sl k n, .sl k' n' => Nat.beq k k' && Nat.beq n n'
  | .ptr k r c, .ptr k' r' c' => Nat.beq k k' && (Nat.beq r r' && Nat.beq c c')
  | .val (.slice none 0 0), .val (.slice none 0 0) => true
  | _, _ => false
def eqL : List SV → List SV → Bool
  | [], [] => true
  | x :: l, y :: l' => eqS x y && eqL l l'
  | _, _ => false
theorem eqS_sim {x y : SV} (h : eqS x y = true) : sim (rmap []) x y := by
  unfold eqS at h
  split at h <;> simp_all [sim, rmap, rlook]
theorem eqL_sim : ∀ {l l' : List SV}, eqL l l' = true → simL (rmap []) l l'
  | [], [], _ => trivial
  | x :: l, y :: l', h => by
    simp only [eqL, Bool.and_eq_true] at h
    exact ⟨eqS_sim h.1, eqL_sim h.2⟩
  | [], _ :: _, h => by cases h
  | _ :: _, [], h => by cases h

end Go.Ev
end

section
namespace Go.Ev

def Vw.pick (js : List Nat) : Vw → Vw
  | .norm n l H => .norm n l (pickN H js)
  | .exit i n l H => .exit i n l (pickN H js)
  | .ret v H => .ret v (pickN H js)
  | .bad => .bad

def Tr.viewP (ks js : List Nat) : Tr → Vw
  | .norm S => .norm S.F.length (slots S.F ks) (pickN S.H js)
  | .exit i S => .exit i S.F.length (slots S.F ks) (pickN S.H js)
  | .ret v H => .ret v (pickN H js)
  | .bad _ => .bad
  | .node b x y => bif b then x.viewP ks js else y.viewP ks js
  | .need b x => bif b then x.viewP ks js else .bad

theorem viewP_view (ks js : List Nat) (T : Tr) : T.viewP ks js = (T.view ks).pick js := by
  induction T with
  | node b x y ihx ihy => simp only [Tr.viewP, Tr.view]; cases b <;> simp [ihx, ihy]
  | need b x ih => simp only [Tr.viewP, Tr.view]; cases b <;> simp [ih, Vw.pick]
  | _ => rfl

theorem round_pick {α : Type} {s : Lp} {ok : α → Prop} {μ : α → Nat} {vs : α → List SV} {hp : α → Heap} {out : α → Vw} {x : α} {v : Vw} (js : List Nat) (h : Round s ok μ vs hp out x (v.pick js)) : Round s ok μ vs hp out x v := by
  cases v with
  | norm n l H =>
    obtain ⟨h1, y, r, h2, h3, h4, a, b, c, d, e⟩ := h
    exact ⟨h1, y, r, h2, h3, h4, a, b, wkH_pick js _ c, d, e⟩
  | exit i n l H =>
    obtain ⟨h1, l', H', r, h2, a, b, c, d, e⟩ := h
    exact ⟨h1, l', H', r, h2, a, b, wkH_pick js _ c, d, e⟩
  | ret v H =>
    obtain ⟨v', H', r, h1, a, b, c, d⟩ := h
    exact ⟨v', H', r, h1, a, b, wkH_pick js _ c, d⟩
  | bad => exact h

theorem round_viewP {α : Type} {s : Lp} {ok : α → Prop} {μ : α → Nat} {vs : α → List SV} {hp : α → Heap} {out : α → Vw} {x : α} {T : Tr} {v : Vw} (js : List Nat) (hT : T.viewP s.ks js = v) (h : Round s ok μ vs hp out x v) : Round s ok μ vs hp out x (T.view s.ks) := by
  refine round_pick js ?_
  rw [← viewP_view, hT]
  exact h

end Go.Ev
end

section
namespace Go.Ev
open Go.RowKit
variable {P : Program}

def unr (E : Env) (P : Program) (res : List ResultVar) (c : Code) (n : Nat) : Nat → St → Tr
  | 0, _ => .bad 77
  | k + 1, S => (evalC E P res c (n + 1) S).bind (unr E P res c n k)

theorem unr_ok {E E0 : Env} (hE : CallsOk E0 P) (hm : P.follows .mixedOrders = true) {fn : Func} {body : Code} {n : Nat} (k : Nat) (hs : ∀ S, E.loop n S = some (unr E0 P fn.results.toList body n k S)) (hL : LoopsOk E0 P fn body (n + 1)) : LoopOk E P fn n body := by
  intro S T hT C σ a w Q hC hsat hg
  rw [hs] at hT
  simp only [Option.some.injEq] at hT
  subst hT
  refine wp_loop_ghost (fun k a w => ∃ S σ, Sat C σ S a w ∧ Good P C fn Q (unr E0 P fn.results.toList body n k S).leaf) k ⟨S, σ, hsat, hg⟩ ?_
  rintro k a w ⟨S, σ, hsat, hg⟩
  cases k with
  | zero => exact hg.elim
  | succ k =>
    refine evalC_sound hE hm hC body (n + 1) _ _ σ a w hL hsat ?_
    simp only [unr, bind_leaf] at hg
    generalize (evalC E0 P fn.results.toList body (n + 1) S).leaf = lf at hg
    cases lf with
    | norm S1 => exact fun σ1 a1 w1 h1 => ⟨k, Nat.lt_succ_self k, S1, σ1, h1, hg⟩
    | exit id S1 => exact hg
    | ret v H => exact hg
    | bad => exact hg.elim

end Go.Ev
end
