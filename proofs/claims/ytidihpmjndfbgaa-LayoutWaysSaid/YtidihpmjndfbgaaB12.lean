/-
  Loops of few rounds, evaluated round by round.
-/
import Derived.Test.YtidihpmjndfbgaaB6
set_option linter.unusedSimpArgs false
set_option linter.unusedVariables false
namespace Go.Ev
open Go.RowKit
variable {P : Program}

def unr (E : Env) (P : Program) (res : List ResultVar) (c : Code) (n : Nat) : Nat → St → Tr
  | 0, _ => .bad 77
  | k + 1, S => (evalC E P res c (n + 1) S).bind (unr E P res c n k)

theorem unr_ok {E E0 : Env} (hE : CallsOk E0 P) (hm : P.follows .mixedOrders = true) {fn : Func} {body : Code} {n : Nat} (k : Nat) (hs : ∀ S, E.loop n S = some (unr E0 P fn.results.toList body n k S)) (hL : LoopsOk E0 P fn body (n + 1)) : LoopOk E P fn n body := by
  intro S T hT C σ a w Q hC hsat hg
  rw [hs] at hT
  simp only [Option.some.injEq] at hT
  subst hT
  refine wp_loop_ghost (fun k a w => ∃ S σ, Sat C σ S a w ∧ Good P C fn Q (unr E0 P fn.results.toList body n k S).leaf) k ⟨S, σ, hsat, hg⟩ ?_
  rintro k a w ⟨S, σ, hsat, hg⟩
  cases k with
  | zero => exact hg.elim
  | succ k =>
    refine evalC_sound hE hm hC body (n + 1) _ _ σ a w hL hsat ?_
    simp only [unr, bind_leaf] at hg
    generalize (evalC E0 P fn.results.toList body (n + 1) S).leaf = lf at hg
    cases lf with
    | norm S1 => exact fun σ1 a1 w1 h1 => ⟨k, Nat.lt_succ_self k, S1, σ1, h1, hg⟩
    | exit id S1 => exact hg
    | ret v H => exact hg
    | bad => exact hg.elim

end Go.Ev
