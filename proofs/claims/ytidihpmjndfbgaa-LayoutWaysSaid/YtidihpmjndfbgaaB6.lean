/-
  The loops of a function by number.
-/
import Derived.Test.YtidihpmjndfbgaaB2
set_option linter.unusedSimpArgs false
set_option linter.unusedVariables false
section
namespace Go.Ev
open Go.RowKit
variable {P : Program}

def nthLoop : Code → Nat → Option Code
  | .seq a b, n => match Nat.blt n (Code.loops a) with
    | true => nthLoop a n
    | false => nthLoop b (n - Code.loops a)
  | .cond _ a b, n => match Nat.blt n (Code.loops a) with
    | true => nthLoop a n
    | false => nthLoop b (n - Code.loops a)
  | .block _ a, n => nthLoop a n
  | .loop a, n => match n with
    | 0 => some a
    | n + 1 => nthLoop a n
  | _, _ => none

def bodyOf (f : Func) : Code := match f.body with
  | some c => c
  | none => .skip

/-- the body of a function's n-th loop -/
def loopOf (f : Func) (n : Nat) : Code := match nthLoop (bodyOf f) n with
  | some c => c
  | none => .skip

theorem loopsOk_of {E : Env} {fn : Func} : ∀ (c : Code) (n0 : Nat), (∀ m a, m < Code.loops c → nthLoop c m = some a → LoopOk E P fn (n0 + m) a) → LoopsOk E P fn c n0
  | .seq a b, n0, h => by
    refine ⟨loopsOk_of a n0 fun m x hm hx => h m x (by simp only [Code.loops]; omega) ?_, loopsOk_of b _ fun m x hm hx => ?_⟩
    · have : Nat.blt m (Code.loops a) = true := by simpa using hm
      simp only [nthLoop, this, hx]
    · have h1 : Nat.blt (Code.loops a + m) (Code.loops a) = false := by
        cases hb : Nat.blt (Code.loops a + m) (Code.loops a) with
        | true => rw [Nat.blt_eq] at hb; omega
        | false => rfl
      have := h (Code.loops a + m) x (by simp only [Code.loops]; omega) (by simp only [nthLoop, h1, Nat.add_sub_cancel_left, hx])
      rwa [← Nat.add_assoc] at this
  | .cond _ a b, n0, h => by
    refine ⟨loopsOk_of a n0 fun m x hm hx => h m x (by simp only [Code.loops]; omega) ?_, loopsOk_of b _ fun m x hm hx => ?_⟩
    · have : Nat.blt m (Code.loops a) = true := by simpa using hm
      simp only [nthLoop, this, hx]
    · have h1 : Nat.blt (Code.loops a + m) (Code.loops a) = false := by
        cases hb : Nat.blt (Code.loops a + m) (Code.loops a) with
        | true => rw [Nat.blt_eq] at hb; omega
        | false => rfl
      have := h (Code.loops a + m) x (by simp only [Code.loops]; omega) (by simp only [nthLoop, h1, Nat.add_sub_cancel_left, hx])
      rwa [← Nat.add_assoc] at this
  | .block _ a, n0, h => loopsOk_of a n0 fun m x hm hx => h m x hm hx
  | .loop a, n0, h => h 0 a (by simp only [Code.loops]; omega) rfl
  | .skip, _, _ => trivial
  | .region _ _ _, _, _ => trivial
  | .exit _, _, _ => trivial
  | .ret, _, _ => trivial
  | .label _, _, _ => trivial
  | .goto _, _, _ => trivial
  | .rangeFunc _ _ _ _, _, _ => trivial
  | .scope _, _, _ => trivial
  | .refuse _, _, _ => trivial

/-- a function of one loop -/
theorem loops1 {E : Env} {fn : Func} {c : Code} (hc : Code.loops c = 1) (h : ∀ a, nthLoop c 0 = some a → LoopOk E P fn 0 a) : LoopsOk E P fn c 0 :=
  loopsOk_of c 0 fun m a hm ha => by
    rw [hc] at hm
    obtain rfl : m = 0 := by omega
    exact h a ha

theorem loops2 {E : Env} {fn : Func} {c : Code} (hc : Code.loops c = 2) (h0 : ∀ a, nthLoop c 0 = some a → LoopOk E P fn 0 a) (h1 : ∀ a, nthLoop c 1 = some a → LoopOk E P fn 1 a) : LoopsOk E P fn c 0 :=
  loopsOk_of c 0 fun m a hm ha => by
    rw [hc] at hm
    rcases m with _ | _ | m
    · exact h0 a ha
    · exact h1 a ha
    · omega

theorem loops0 {E : Env} {fn : Func} {c : Code} {n : Nat} (hc : Code.loops c = 0) : LoopsOk E P fn c n :=
  loopsOk_of c n fun m a hm _ => by omega

end Go.Ev
end

section
namespace Go.Ev
open Go.RowKit
variable {P : Program}

/-- what a function without a choice of its own comes to -/
def Tr.flatR : Tr → Option (List Bool × Option (SV × Heap))
  | .ret v H => some ([], some (v, H))
  | .bad _ => some ([false], none)
  | .need b x => match x.flatR with
    | some (m, l) => some (b :: m, l)
    | none => none
  | .node b x y => match x.flatR, y.flatR with
    | some (m, some l), some (_, none) => some (b :: m, some l)
    | some (_, none), some (m, l) => some ((!b) :: m, l)
    | _, _ => none
  | _ => none

theorem flatR_bad : ∀ (T : Tr) (n : List Bool), T.flatR = some (n, none) → T.leaf = .bad
  | .bad _, _, _ => rfl
  | .need b x, n, h => by
    simp only [Tr.flatR] at h
    split at h
    · rename_i m l hx
      simp only [Option.some.injEq, Prod.mk.injEq] at h
      obtain ⟨_, rfl⟩ := h
      simp only [Tr.leaf, flatR_bad x m hx]
      cases b <;> rfl
    · cases h
  | .node b x y, n, h => by
    simp only [Tr.flatR] at h
    split at h
    · simp at h
    · rename_i _ m l hx hy
      simp only [Option.some.injEq, Prod.mk.injEq] at h
      obtain ⟨_, rfl⟩ := h
      simp only [Tr.leaf, flatR_bad x _ hx, flatR_bad y _ hy]
      cases b <;> rfl
    · cases h
  | .ret _ _, n, h => by simp [Tr.flatR] at h
  | .norm _, n, h => by simp [Tr.flatR] at h
  | .exit _ _, n, h => by simp [Tr.flatR] at h

theorem flatR_sound : ∀ (T : Tr) (n : List Bool) (v : SV) (H : Heap), T.flatR = some (n, some (v, H)) → allB n = true → T.leaf = .ret v H
  | .ret _ _, n, v, H, h, _ => by simp only [Tr.flatR, Option.some.injEq, Prod.mk.injEq] at h; obtain ⟨_, rfl, rfl⟩ := h; rfl
  | .bad _, n, v, H, h, _ => by simp [Tr.flatR] at h
  | .need b x, n, v, H, h, hn => by
    simp only [Tr.flatR] at h
    split at h
    · rename_i m l hx
      simp only [Option.some.injEq, Prod.mk.injEq] at h
      obtain ⟨rfl, rfl⟩ := h
      simp only [allB, Bool.and_eq_true] at hn
      simp only [Tr.leaf, hn.1, cond_true]
      exact flatR_sound x m v H hx hn.2
    · cases h
  | .node b x y, n, v, H, h, hn => by
    simp only [Tr.flatR] at h
    split at h
    · rename_i m l n' hx hy
      simp only [Option.some.injEq, Prod.mk.injEq] at h
      obtain ⟨rfl, h2⟩ := h
      simp only [allB, Bool.and_eq_true] at hn
      simp only [Tr.leaf, hn.1, cond_true]
      exact flatR_sound x m v H (by rw [hx, h2]) hn.2
    · rename_i n' m l hx hy
      simp only [Option.some.injEq, Prod.mk.injEq] at h
      obtain ⟨rfl, h2⟩ := h
      simp only [allB, Bool.and_eq_true, Bool.not_eq_true'] at hn
      simp only [Tr.leaf, hn.1, cond_false]
      exact flatR_sound y m v H (by rw [hy, h2]) hn.2
    · cases h
  | .norm _, n, v, H, h, _ => by simp [Tr.flatR] at h
  | .exit _ _, n, v, H, h, _ => by simp [Tr.flatR] at h

/-- the old names that may be written -/
def rwNames : Heap → List Nat
  | [] => []
  | (k, b) :: t => match b with
    | .cells _ => k :: rwNames t
    | .tab _ _ true => k :: rwNames t
    | .map _ true => k :: rwNames t
    | _ => rwNames t

/-- the new names that some names reach, in order -/
def newNames (H : Heap) (l : List Nat) : List Nat := (gather H 64 l [] []).1.map (·.1) |>.filter fun k => Nat.ble base k

def pickH (f : Nat → Option Nat) (H : Heap) : List Nat → Option Heap
  | [] => some []
  | k :: t => match f k, look H k, pickH f H t with
    | some k', some b, some r => match mapB true f b with
      | some b => some ((k', b) :: r)
      | none => none
    | _, _, _ => none

def renum (ns : List Nat) (k : Nat) : Option Nat := match Nat.blt k base with
  | true => some k
  | false => match idx ns k 0 with
    | some i => some (base + i)
    | none => none

def renL : List Nat → Nat → List (Nat × Rf)
  | [], _ => []
  | k :: t, i => (base + i, .old k) :: renL t (i + 1)

def autoG (E : Env) (P : Program) (f : FuncId) : List SV → Heap → Option R := fun a H =>
  match (evalF E P f a H base).flatR with
  | some (n, some (v, H')) => forceNs (rwNames H) fun os => forceNs (newNames H' (SV.namesL [v] ++ os)) fun ns =>
    match mapN true (renum ns) v, pickH (renum ns) H' (os ++ ns) with
    | some sv, some u => match uniqN ns && uniqN (oldsOf (rmap (renL ns 0)) u) with
      | true => match roOk os H with
        | true => match namesEq (namesH u) (os ++ ns) ns with
          | true => some ⟨n, sv, u⟩
          | false => none
        | false => none
      | false => none
    | _, _ => none
  | _ => none
where
  /-- what is not told is read alone as it is -/
  roOk (os : List Nat) : Heap → Bool
    | [] => true
    | (k, b) :: t => (mem os k || (match b with
      | .ro _ => true
      | .tab _ _ rw => !rw
      | .dead => true
      | .map _ rw => !rw
      | .cells _ => false)) && roOk os t
  namesEq (a b ns : List Nat) : Bool := match a, b with
    | [], [] => true
    | x :: a, y :: b => (match renum ns y with
      | some z => Nat.beq x z
      | none => false) && namesEq a b ns
    | _, _ => false

mutual
theorem mapN_sim {cl : Bool} {f : Nat → Option Nat} {ρ : Rn} (h : ∀ k k', f k = some k' → ρ k' = .old k) : ∀ (x x' : SV), mapN cl f x = some x' → sim ρ x x'
  | .ptr k r c, x', e => by
    simp only [mapN] at e; split at e
    · rename_i k' hk; simp only [Option.some.injEq] at e; subst e; exact ⟨h k k' hk, rfl, rfl⟩
    · cases e
  | .sl k n, x', e => by
    simp only [mapN] at e; split at e
    · rename_i k' hk; simp only [Option.some.injEq] at e; subst e; exact ⟨h k k' hk, rfl⟩
    · cases e
  | .mp k, x', e => by
    simp only [mapN] at e; split at e
    · rename_i k' hk; simp only [Option.some.injEq] at e; subst e; exact h k k' hk
    · cases e
  | .fn g l, x', e => by
    simp only [mapN] at e; split at e
    · rename_i l' hl; simp only [Option.some.injEq] at e; subst e; exact ⟨rfl, mapL_sim h l l' hl⟩
    · cases e
  | .agg l, x', e => by
    simp only [mapN] at e; split at e
    · rename_i l' hl; simp only [Option.some.injEq] at e; subst e; exact mapL_sim h l l' hl
    · cases e
  | .tup l, x', e => by
    simp only [mapN] at e; split at e
    · rename_i l' hl; simp only [Option.some.injEq] at e; subst e; exact mapL_sim h l l' hl
    · cases e
  | .any, x', e => by simp only [mapN, Option.some.injEq] at e; subst e; trivial
  | .int _ _ _, x', e => by simp only [mapN, Option.some.injEq] at e; subst e; exact ⟨rfl, rfl⟩
  | .bool _ _, x', e => by simp only [mapN, Option.some.injEq] at e; subst e; exact rfl
  | .str _, x', e => by simp only [mapN, Option.some.injEq] at e; subst e; exact rfl
  | .val _, x', e => by simp only [mapN, Option.some.injEq] at e; subst e; exact rfl
theorem mapL_sim {cl : Bool} {f : Nat → Option Nat} {ρ : Rn} (h : ∀ k k', f k = some k' → ρ k' = .old k) : ∀ (x x' : List SV), mapL cl f x = some x' → simL ρ x x'
  | [], x', e => by simp only [mapL, Option.some.injEq] at e; subst e; trivial
  | x :: r, x', e => by
    simp only [mapL] at e; split at e
    · rename_i y s hy hs; simp only [Option.some.injEq] at e; subst e; exact ⟨mapN_sim h x y hy, mapL_sim h r s hs⟩
    · cases e
end

theorem wkCs_refl (n : Nat) : ∀ cols : List Col, wkCs n cols cols
  | [] => trivial
  | c :: r => ⟨by cases c with
    | ints k g => exact ⟨rfl, fun _ _ => rfl⟩
    | bools g => exact fun _ _ => rfl
    | strs g => exact fun _ _ => rfl
    | lit l => exact fun _ _ _ => rfl, wkCs_refl n r⟩

theorem mapB_wk {cl : Bool} {f : Nat → Option Nat} {ρ : Rn} (h : ∀ k k', f k = some k' → ρ k' = .old k) {b b' : Blk} (e : mapB cl f b = some b') : wkB ρ b b' := by
  cases b with
  | cells l =>
    simp only [mapB] at e; split at e
    · rename_i l' hl; simp only [Option.some.injEq] at e; subst e; exact mapL_sim h l l' hl
    · cases e
  | ro l =>
    simp only [mapB] at e; split at e
    · rename_i l' hl; simp only [Option.some.injEq] at e; subst e; exact mapL_sim h l l' hl
    · cases e
  | tab n cols rw => simp only [mapB, Option.some.injEq] at e; subst e; exact ⟨Nat.le_refl _, fun h => h, wkCs_refl n cols⟩
  | dead => simp only [mapB, Option.some.injEq] at e; subst e; trivial
  | map m rw => simp only [mapB, Option.some.injEq] at e; subst e; exact ⟨fun h => h, wkM_refl m⟩

theorem pickH_wk {f : Nat → Option Nat} {ρ : Rn} {H : Heap} (h : ∀ k k', f k = some k' → ρ k' = .old k) : ∀ (l : List Nat) (u : Heap), pickH f H l = some u → wkH ρ H u
  | [], u, e => by simp only [pickH, Option.some.injEq] at e; subst e; trivial
  | k :: t, u, e => by
    simp only [pickH] at e
    split at e
    · rename_i k' b r hk hb hr
      split at e
      · rename_i b' hb'
        simp only [Option.some.injEq] at e; subst e
        refine ⟨?_, pickH_wk h t r hr⟩
        simp only [h k k' hk, hb]
        exact mapB_wk h hb'
      · cases e
    · cases e

theorem rok_renL : ∀ (ns : List Nat) (i : Nat), rok base (renL ns i) = true
  | [], _ => rfl
  | k :: t, i => by
    simp only [renL, rok, Bool.and_eq_true, Nat.ble_eq]
    exact ⟨Nat.le_add_right _ _, rok_renL t (i + 1)⟩

theorem renL_look : ∀ (ns : List Nat) (i0 k i : Nat), idx ns k i0 = some i → rlook (renL ns i0) (base + i) = some (.old k)
  | [], _, _, _, h => by cases h
  | x :: t, i0, k, i, h => by
    simp only [idx] at h
    simp only [renL, rlook]
    split at h
    · rename_i hb
      simp only [Option.some.injEq] at h; subst h
      rw [Nat.beq_refl, Nat.eq_of_beq_eq_true hb]
    · have hlt := (idx_spec t k (i0 + 1) i h).1
      have : Nat.beq (base + i0) (base + i) = false := by
        cases hb : Nat.beq (base + i0) (base + i) with
        | true => have := Nat.eq_of_beq_eq_true hb; omega
        | false => rfl
      rw [this]
      exact renL_look t (i0 + 1) k i h

theorem renum_spec {ns : List Nat} {k k' : Nat} (h : renum ns k = some k') : rmap (renL ns 0) k' = .old k := by
  unfold renum at h
  split at h
  · rename_i hb
    simp only [Option.some.injEq] at h; subst h
    exact rok_spec _ (rok_renL ns 0) k (by simpa using hb)
  · split at h
    · rename_i i hi
      simp only [Option.some.injEq] at h; subst h
      simp only [rmap, renL_look ns 0 k i hi]
    · cases h

theorem namesEq_mem (ns : List Nat) : ∀ (a b : List Nat), autoG.namesEq a b ns = true → ∀ k, mem b k = true → renum ns k = some k → mem a k = true
  | [], [], _, k, hk, _ => hk
  | x :: a, y :: b, h, k, hk, hr => by
    simp only [autoG.namesEq, Bool.and_eq_true] at h
    rw [mem_cons] at hk ⊢
    simp only [Bool.or_eq_true, decide_eq_true_eq] at hk ⊢
    rcases hk with rfl | hk
    · left
      have h1 := h.1
      rw [hr] at h1
      simp only at h1
      exact (Nat.eq_of_beq_eq_true h1).symm
    · exact .inr (namesEq_mem ns a b h.2 k hk hr)
  | [], _ :: _, h, _, _, _ => by simp [autoG.namesEq] at h
  | _ :: _, [], h, _, _, _ => by simp [autoG.namesEq] at h

theorem roH_same (U os ns : List Nat) (hU : ∀ k, mem os k = true → mem U k = true) : ∀ (H : Heap), autoG.roOk os H = true → roH U H = H
  | [], _ => rfl
  | (k, b) :: t, h => by
    simp only [autoG.roOk, Bool.and_eq_true, Bool.or_eq_true] at h
    simp only [roH, roH_same U os ns hU t h.2]
    congr 2
    rcases h.1 with h1 | h1
    · rw [hU k h1]
    · cases mem U k with
      | true => rfl
      | false => cases b with
        | tab n c rw => simp only [Bool.not_eq_true'] at h1; subst h1; rfl
        | cells l => cases h1
        | ro l => rfl
        | dead => rfl
        | map m rw => simp only [Bool.not_eq_true'] at h1; subst h1; rfl

theorem rwNames_lt (H : Heap) (h : Ev.hal (lt base) H = true) : ∀ k, mem (rwNames H) k = true → k < base := by
  induction H with
  | nil => intro k hk; cases hk
  | cons x t ih =>
    obtain ⟨j, b⟩ := x
    simp only [Ev.hal, Bool.and_eq_true] at h
    have hj : j < base := by simpa [lt] using h.1.1
    intro k hk
    have key : ∀ l, mem (j :: l) k = true → (mem l k = true → k < base) → k < base := by
      intro l hl hr
      rw [mem_cons] at hl
      simp only [Bool.or_eq_true, decide_eq_true_eq] at hl
      rcases hl with rfl | hl
      · exact hj
      · exact hr hl
    cases b with
    | cells l => exact key _ hk (ih h.2 k)
    | ro l => exact ih h.2 k hk
    | tab n c rw => cases rw with
      | true => exact key _ hk (ih h.2 k)
      | false => exact ih h.2 k hk
    | dead => exact ih h.2 k hk
    | map m rw => cases rw with
      | true => exact key _ hk (ih h.2 k)
      | false => exact ih h.2 k hk

/-- the callee's heap has names of its own -/
def canonB : Heap → Bool
  | [] => true
  | (k, _) :: t => Nat.blt k base && canonB t

theorem mem_append (l m : List Nat) (k : Nat) : mem (l ++ m) k = (mem l k || mem m k) := by
  induction l with
  | nil => rfl
  | cons x l ih => simp only [List.cons_append, mem_cons, ih, Bool.or_assoc]

def autoS (E : Env) (P : Program) (f : FuncId) : Spec := specC true fun a H => match canonB H with
  | true => autoG E P f a H
  | false => none

theorem auto_ok {E : Env} (hE : CallsOk E P) (hm : P.follows .mixedOrders = true) {f : FuncId} {fn : Func} {c : Code} (hf : P.funcs[f]? = some fn) (hb : fn.body = some c) (hname : (fn.name == "runtime.NumGoroutine") = false) (hL : LoopsOk E P fn c 0) :
    SpecOk P f (autoS E P f) := by
  refine spec_okC true hE hm hf hb hname hL _ fun a0 H0 r hg hn => ?_
  split at hg
  case h_2 => cases hg
  rename_i hcan
  unfold autoG at hg
  split at hg
  case h_2 => cases hg
  rename_i n v H' hfl
  simp only [forceNs_eq] at hg
  split at hg
  case h_2 => cases hg
  rename_i sv u hsv hu
  split at hg
  case h_2 => cases hg
  rename_i huq
  split at hg
  case h_2 => cases hg
  rename_i hro
  split at hg
  case h_2 => cases hg
  rename_i hne
  simp only [Option.some.injEq] at hg
  subst hg
  simp only [Bool.and_eq_true] at huq
  have hlt : ∀ k, mem (rwNames H0) k = true → k < base := by
    have : ∀ H : Heap, canonB H = true → ∀ k, mem (rwNames H) k = true → k < base := by
      intro H
      induction H with
      | nil => intro _ k hk; cases hk
      | cons x t ih =>
        obtain ⟨j, b⟩ := x
        intro hc k hk
        simp only [canonB, Bool.and_eq_true, Nat.blt_eq] at hc
        have key : ∀ l, mem (j :: l) k = true → (mem l k = true → k < base) → k < base := by
          intro l hl hr
          rw [mem_cons] at hl
          simp only [Bool.or_eq_true, decide_eq_true_eq] at hl
          rcases hl with rfl | hl
          · exact hc.1
          · exact hr hl
        cases b with
        | cells l => exact key _ hk (ih hc.2 k)
        | ro l => exact ih hc.2 k hk
        | tab n c rw => cases rw with
          | true => exact key _ hk (ih hc.2 k)
          | false => exact ih hc.2 k hk
        | dead => exact ih hc.2 k hk
        | map m rw => cases rw with
          | true => exact key _ hk (ih hc.2 k)
          | false => exact ih hc.2 k hk
    exact this H0 hcan
  have hsame : roH (namesH u) H0 = H0 := by
    refine roH_same _ (rwNames H0) [] (fun k hk => ?_) H0 hro
    refine namesEq_mem _ _ _ hne k (by rw [mem_append, hk]; rfl) ?_
    have := hlt k hk
    simp only [renum, show Nat.blt k base = true by rw [Nat.blt_eq]; exact this]
  rw [hsame, flatR_sound _ n v H' hfl hn]
  exact ⟨renL _ 0, rok_renL _ 0, mapN_sim (fun k k' h => renum_spec h) v sv hsv, pickH_wk (fun k k' h => renum_spec h) _ u hu, huq.2⟩

/-- plain functions and such, evaluated where they are called -/
def inlA (P : Program) (E : Env) (ps hs : List Nat) : Nat → Env
  | 0 => ⟨E.call, noLoop⟩
  | d + 1 => ⟨fun f args H nm => match mem ps f with
    | true => (inl P (inlA P E ps hs d) [f] 1).call f args H nm
    | false => match mem hs f with
      | true => leafR (autoS (inlA P E ps hs d) P f args H nm)
      | false => E.call f args H nm, noLoop⟩

theorem named_one {ps : List Nat} (h : named P ps = true) {f : Nat} (hf : mem ps f = true) : named P [f] = true := by
  obtain ⟨fn, h1, h2, h3⟩ := named_spec h hf
  simp only [named, h1, h2, h3, Bool.not_false, Bool.and_self]

theorem inlA_calls {E : Env} (hE : CallsOk E P) (hm : P.follows .mixedOrders = true) {ps hs : List Nat} (hp : named P ps = true) (hh : named P hs = true) : ∀ d, CallsOk (inlA P E ps hs d) P ∧ (inlA P E ps hs d).loop = noLoop
  | 0 => ⟨fun f args H nm r hr hn => hE f args H nm r hr hn, rfl⟩
  | d + 1 => by
    refine ⟨fun f args H nm r hr hneed => ?_, rfl⟩
    obtain ⟨ih, ihl⟩ := inlA_calls hE hm hp hh d
    simp only [inlA] at hr
    split at hr
    · rename_i hf
      exact (inl_calls ih hm (named_one hp hf) 1).1 f args H nm r hr hneed
    · split at hr
      · rename_i hf
        obtain ⟨fn, hfn, hbody, hname⟩ := named_spec hh hf
        obtain ⟨c, hc⟩ := Option.isSome_iff_exists.1 hbody
        have := auto_ok ih hm hfn hc hname (loops_noLoop ihl c 0)
        unfold leafR at hr
        split at hr
        · rename_i r' hr'
          simp only [Option.some.injEq] at hr
          subst hr
          exact ⟨this.1, this.2 args H nm r' hr' hneed⟩
        · cases hr
      · exact hE f args H nm r hr hneed

end Go.Ev
end

section
namespace Go.Ev
open Go.RowKit
variable {P : Program}

/-- the first choice's second branch is left out -/
def Tr.cutL : Tr → Tr
  | .node b x _ => .node b x (.bad 0)
  | .need b x => .need b x.cutL
  | t => t

theorem cutL_leaf : ∀ (T : Tr), T.cutL.leaf = .bad ∨ T.leaf = T.cutL.leaf
  | .node b x y => by cases b with
    | true => exact .inr rfl
    | false => exact .inl rfl
  | .need b x => by
    cases b with
    | true => exact cutL_leaf x
    | false => exact .inl rfl
  | .norm _ => .inr rfl
  | .exit _ _ => .inr rfl
  | .ret _ _ => .inr rfl
  | .bad _ => .inr rfl

theorem gives_cutL {T : Tr} {s : SV} (h : T.cutL.leaf.gives s) : T.leaf.gives s := by
  rcases cutL_leaf T with h1 | h1
  · rw [h1] at h; exact h.elim
  · rw [h1]; exact h

end Go.Ev
end

section
namespace Go.Ev
open Go.RowKit
variable {P : Program}

/-- a leaf's answer, its new blocks by number -/
def leafA (os : List Nat) (H : Heap) (v : SV) (H' : Heap) : Option R :=
  forceNs (newNames H' (SV.namesL [v] ++ os)) fun ns =>
    match mapN true (renum ns) v, pickH (renum ns) H' (os ++ ns) with
    | some sv, some u => match uniqN ns && uniqN (oldsOf (rmap (renL ns 0)) u) with
      | true => match autoG.roOk os H with
        | true => match autoG.namesEq (namesH u) (os ++ ns) ns with
          | true => some ⟨[], sv, u⟩
          | false => none
        | false => none
      | false => none
    | _, _ => none

def lfA (os : List Nat) (H : Heap) : Lf → Option R
  | .ret v H' => leafA os H v H'
  | _ => none

def leafG (E : Env) (P : Program) (f : FuncId) : List SV → Heap → Option R := fun a H =>
  match canonB H with
  | true => lfA (rwNames H) H (evalF E P f a H base).leaf
  | false => none

theorem rwNames_canon : ∀ H : Heap, canonB H = true → ∀ k, mem (rwNames H) k = true → k < base := by
  intro H
  induction H with
  | nil => intro _ k hk; cases hk
  | cons x t ih =>
    obtain ⟨j, b⟩ := x
    intro hc k hk
    simp only [canonB, Bool.and_eq_true, Nat.blt_eq] at hc
    have key : ∀ l, mem (j :: l) k = true → (mem l k = true → k < base) → k < base := by
      intro l hl hr
      rw [mem_cons] at hl
      simp only [Bool.or_eq_true, decide_eq_true_eq] at hl
      rcases hl with rfl | hl
      · exact hc.1
      · exact hr hl
    cases b with
    | cells l => exact key _ hk (ih hc.2 k)
    | ro l => exact ih hc.2 k hk
    | tab n c rw => cases rw with
      | true => exact key _ hk (ih hc.2 k)
      | false => exact ih hc.2 k hk
    | dead => exact ih hc.2 k hk
    | map m rw => cases rw with
      | true => exact key _ hk (ih hc.2 k)
      | false => exact ih hc.2 k hk

theorem leaf_ok {E : Env} (hE : CallsOk E P) (hm : P.follows .mixedOrders = true) {f : FuncId} {fn : Func} {c : Code} (hf : P.funcs[f]? = some fn) (hb : fn.body = some c) (hname : (fn.name == "runtime.NumGoroutine") = false) (hL : LoopsOk E P fn c 0) :
    SpecOk P f (specC true (leafG E P f)) := by
  refine spec_okC true hE hm hf hb hname hL _ fun a0 H0 r hg hn => ?_
  unfold leafG at hg
  split at hg
  case h_2 => cases hg
  rename_i hcan
  unfold lfA at hg
  split at hg
  case h_2 => cases hg
  rename_i v H' hlf
  simp only [leafA, forceNs_eq] at hg
  split at hg
  case h_2 => cases hg
  rename_i sv u hsv hu
  split at hg
  case h_2 => cases hg
  rename_i huq
  split at hg
  case h_2 => cases hg
  rename_i hro
  split at hg
  case h_2 => cases hg
  rename_i hne
  simp only [Option.some.injEq] at hg
  subst hg
  simp only [Bool.and_eq_true] at huq
  have hsame : roH (namesH u) H0 = H0 := by
    refine roH_same _ (rwNames H0) [] (fun k hk => ?_) H0 hro
    refine namesEq_mem _ _ _ hne k (by rw [mem_append, hk]; rfl) ?_
    have := rwNames_canon H0 hcan k hk
    simp only [renum, show Nat.blt k base = true by rw [Nat.blt_eq]; exact this]
  rw [hsame, hlf]
  exact ⟨renL _ 0, rok_renL _ 0, mapN_sim (fun k k' h => renum_spec h) v sv hsv, pickH_wk (fun k k' h => renum_spec h) _ u hu, huq.2⟩

/-- no way: its name is too great, so nothing goes on from it -/
def badR : R := ⟨[false], .mp 1000000000000, []⟩

/-- in the caller's names -/
def outR (ns : List Nat) (nm : Nat) (H0 : Heap) : Option R → R
  | some r => forceNs (namesH r.upd) fun U => match uniqN U && (allTold r.upd || allIn U H0), mapN true (bk ns nm) r.sv, mapH true (bk ns nm) r.upd with
    | true, some sv, some upd => ⟨r.need, sv, upd⟩
    | _, _, _ => badR
  | none => badR

def toTR (os ns : List Nat) (nm : Nat) (H0 : Heap) : Tr → TR
  | .ret v H' => .leaf (outR ns nm H0 (leafA os H0 v H'))
  | .node b x y => .node b (toTR os ns nm H0 x) (toTR os ns nm H0 y)
  | .need b x => .node b (toTR os ns nm H0 x) (.leaf badR)
  | _ => .leaf badR

theorem toTR_pick (os ns : List Nat) (nm : Nat) (H0 : Heap) (T : Tr) : (toTR os ns nm H0 T).pick = outR ns nm H0 (lfA os H0 T.leaf) := by
  induction T with
  | ret v H' => rfl
  | node b x y ihx ihy =>
    simp only [toTR, TR.pick, Tr.leaf, ihx, ihy]
    cases b <;> rfl
  | need b x ih =>
    simp only [toTR, TR.pick, Tr.leaf, ih]
    cases b <;> rfl
  | norm S => rfl
  | exit i S => rfl
  | bad w => rfl

def forkS (E : Env) (P : Program) (f : FuncId) (args : List SV) (H : Heap) (nm : Nat) : Option TR :=
  forceNs (namesH H) fun ns => match uniqN ns && Nat.ble ns.length base with
    | true => match mapL true (fun k => idx ns k 0) args, mapH true (fun k => idx ns k 0) H with
      | some a0, some H0 => forceL a0 fun a0 => forceH H0 fun H0 => match canonB H0 with
        | true => forceNs (rwNames H0) fun os => some (toTR os ns nm H0 (evalF E P f a0 H0 base))
        | false => none
      | _, _ => none
    | false => none

theorem fork_spec {E : Env} {f : FuncId} {args : List SV} {H : Heap} {nm : Nat} {t : TR} (h : forkS E P f args H nm = some t) (hn : allB t.pick.need = true) : specC true (leafG E P f) args H nm = some t.pick := by
  unfold forkS at h
  unfold specC
  simp only [forceNs_eq, forceL_eq, forceH_eq] at h ⊢
  split at h
  case h_2 => cases h
  rename_i hu
  split at h
  case h_2 => cases h
  rename_i a0 H0 ha hH
  split at h
  case h_2 => cases h
  rename_i hc
  simp only [Option.some.injEq] at h
  subst h
  rw [toTR_pick] at hn ⊢
  simp only [hu, ha, hH, leafG, hc]
  cases hl : lfA (rwNames H0) H0 (evalF E P f a0 H0 base).leaf with
  | none => rw [hl] at hn; cases hn
  | some r =>
    rw [hl] at hn
    simp only [outR, forceNs_eq] at hn ⊢
    cases hb : (uniqN (namesH r.upd) && (allTold r.upd || allIn (namesH r.upd) H0)) with
    | false => simp only [hb] at hn; cases hn
    | true =>
      simp only [hb] at hn ⊢
      cases h1 : mapN true (bk (namesH H) nm) r.sv with
      | none => simp only [h1] at hn; cases hn
      | some sv =>
        cases h2 : mapH true (bk (namesH H) nm) r.upd with
        | none => simp only [h1, h2] at hn; cases hn
        | some upd => rfl

theorem fork_calls {E : Env} (hE : CallsOk E P) (hm : P.follows .mixedOrders = true) {f : FuncId} {fn : Func} {c : Code} (hf : P.funcs[f]? = some fn) (hb : fn.body = some c) (hname : (fn.name == "runtime.NumGoroutine") = false) (hL : LoopsOk E P fn c 0)
    {args : List SV} {H : Heap} {nm : Nat} {t : TR} (h : forkS E P f args H nm = some t) (hn : allB t.pick.need = true) : (∃ fn, P.funcs[f]? = some fn ∧ fn.body.isSome = true ∧ (fn.name == "runtime.NumGoroutine") = false) ∧ CallOk P f args H nm t.pick := by
  have hs := leaf_ok hE hm hf hb hname hL
  exact ⟨hs.1, hs.2 args H nm _ (fork_spec h hn) hn⟩

/-- plain functions, such of one way, such of several ways: evaluated where they are called -/
def inlF (P : Program) (E : Env) (ps hs fs : List Nat) : Nat → Env
  | 0 => ⟨E.call, noLoop⟩
  | d + 1 => ⟨fun f args H nm => match mem ps f with
    | true => (inl P (inlF P E ps hs fs d) [f] 1).call f args H nm
    | false => match mem hs f with
      | true => leafR (autoS (inlF P E ps hs fs d) P f args H nm)
      | false => match mem fs f with
        | true => forkS (inlF P E ps hs fs d) P f args H nm
        | false => E.call f args H nm, noLoop⟩

theorem inlF_calls {E : Env} (hE : CallsOk E P) (hm : P.follows .mixedOrders = true) {ps hs fs : List Nat} (hp : named P ps = true) (hh : named P hs = true) (hfs : named P fs = true) : ∀ d, CallsOk (inlF P E ps hs fs d) P ∧ (inlF P E ps hs fs d).loop = noLoop
  | 0 => ⟨fun f args H nm r hr hn => hE f args H nm r hr hn, rfl⟩
  | d + 1 => by
    refine ⟨fun f args H nm r hr hneed => ?_, rfl⟩
    obtain ⟨ih, ihl⟩ := inlF_calls hE hm hp hh hfs d
    simp only [inlF] at hr
    split at hr
    · rename_i hf
      exact (inl_calls ih hm (named_one hp hf) 1).1 f args H nm r hr hneed
    · split at hr
      · rename_i hf
        obtain ⟨fn, hfn, hbody, hname⟩ := named_spec hh hf
        obtain ⟨c, hc⟩ := Option.isSome_iff_exists.1 hbody
        have := auto_ok ih hm hfn hc hname (loops_noLoop ihl c 0)
        unfold leafR at hr
        split at hr
        · rename_i r' hr'
          simp only [Option.some.injEq] at hr
          subst hr
          exact ⟨this.1, this.2 args H nm r' hr' hneed⟩
        · cases hr
      · split at hr
        · rename_i hf
          obtain ⟨fn, hfn, hbody, hname⟩ := named_spec hfs hf
          obtain ⟨c, hc⟩ := Option.isSome_iff_exists.1 hbody
          exact fork_calls ih hm hfn hc hname (loops_noLoop ihl c 0) hr hneed
        · exact hE f args H nm r hr hneed

end Go.Ev
end

section
namespace Go.Ev
open Go.RowKit
variable {P : Program}

def pickN (H : Heap) : List Nat → Heap
  | [] => []
  | k :: t => match look H k with
    | some b => (k, b) :: pickN H t
    | none => pickN H t

def Tr.retH (ks : List Nat) : Tr → Lf
  | .ret v H => .ret v (pickN H ks)
  | .node b x y => bif b then x.retH ks else y.retH ks
  | .need b x => bif b then x.retH ks else .bad
  | _ => .bad

def Lf.retH (ks : List Nat) : Lf → Lf
  | .ret v H => .ret v (pickN H ks)
  | _ => .bad

theorem retH_leaf (ks : List Nat) (T : Tr) : T.retH ks = T.leaf.retH ks := by
  induction T with
  | node b x y ihx ihy => simp only [Tr.retH, Tr.leaf]; cases b <;> simp [ihx, ihy]
  | need b x ih => simp only [Tr.retH, Tr.leaf]; cases b <;> simp [ih, Lf.retH]
  | _ => rfl

theorem pickN_look (H : Heap) : ∀ (ks : List Nat) (k : Nat) (b : Blk), look (pickN H ks) k = some b → look H k = some b
  | [], _, _, h => by cases h
  | j :: t, k, b, h => by
    simp only [pickN] at h
    split at h
    · rename_i c hc
      simp only [look] at h
      split at h
      · rename_i hb
        have := Nat.eq_of_beq_eq_true hb
        subst this
        rw [hc]; exact h
      · exact pickN_look H t k b h
    · exact pickN_look H t k b h

theorem wkH_pick {ρ : Rn} {H : Heap} (ks : List Nat) : ∀ (u : Heap), wkH ρ (pickN H ks) u → wkH ρ H u
  | [], _ => trivial
  | (k', b') :: t, h => by
    simp only [wkH] at h ⊢
    refine ⟨?_, wkH_pick ks t h.2⟩
    have h1 := h.1
    revert h1
    cases ρ k' with
    | old k =>
      intro h1
      cases hb : look (pickN H ks) k with
      | none => simp only [hb] at h1
      | some b =>
        simp only [hb] at h1
        simp only [pickN_look H ks k b hb]
        exact h1
    | nil w =>
      intro h1
      exact h1

theorem gives_retH {r : R} {T : Tr} {l : Lf} (ks : List Nat) (h : T.retH ks = l) (hg : GivesD r l) : GivesD r T.leaf := by
  rw [retH_leaf] at h
  subst h
  generalize T.leaf = x at hg
  cases x with
  | ret v H =>
    obtain ⟨l, h1, h2, h3, h4⟩ := hg
    exact ⟨l, h1, h2, wkH_pick ks _ h3, h4⟩
  | _ => exact hg.elim

theorem GivesD_cond {r : R} {b : Bool} {x y : Lf} (h1 : b = true → GivesD r x) (h2 : b = false → GivesD r y) : GivesD r (bif b then x else y) := by
  cases b with
  | true => exact h1 rfl
  | false => exact h2 rfl

end Go.Ev
end

section
namespace Go.Ev

/-- a table of integers -/
def tI (k : IntKind) (rw : Bool) (H : Heap) (j : Nat) : Option (Nat × (Nat → Int)) :=
  match look H j with
  | some (.tab n [.ints k' g] rw') => match decide (k = k') && (!rw || rw') with
    | true => some (n, g)
    | false => none
  | _ => none
theorem tI_spec {k : IntKind} {rw : Bool} {H : Heap} {j n : Nat} {g : Nat → Int} (h : tI k rw H j = some (n, g)) : ∃ rw', look H j = some (.tab n [.ints k g] rw') ∧ (rw = true → rw' = true) := by
  unfold tI at h
  split at h
  · rename_i n' k' g' rw' hl
    split at h
    · rename_i hb
      simp only [Option.some.injEq, Prod.mk.injEq] at h
      obtain ⟨rfl, rfl⟩ := h
      simp only [Bool.and_eq_true, decide_eq_true_eq, Bool.or_eq_true, Bool.not_eq_true'] at hb
      obtain ⟨rfl, hb⟩ := hb
      exact ⟨rw', hl, fun h => by rcases hb with hb | hb <;> simp_all⟩
    · cases h
  · cases h
def cL (H : Heap) (j : Nat) : Option (List SV) :=
  match look H j with
  | some (.cells l) => some l
  | _ => none
theorem cL_spec {H : Heap} {j : Nat} {l : List SV} (h : cL H j = some l) : look H j = some (.cells l) := by
  unfold cL at h
  split at h
  · rename_i hl
    simp only [Option.some.injEq] at h; subst h; exact hl
  · cases h

def eqS : SV → SV → Bool
  | .int _ k n, .int _ k' n' => decide (k = k') && decide (n = n')
  | .bool _ b, .bool _ b' => b == b'
  | .sl k n, .sl k' n' => Nat.beq k k' && Nat.beq n n'
  | .ptr k r c, .ptr k' r' c' => Nat.beq k k' && (Nat.beq r r' && Nat.beq c c')
  | .val (.slice none 0 0), .val (.slice none 0 0) => true
  | _, _ => false
def eqL : List SV → List SV → Bool
  | [], [] => true
  | x :: l, y :: l' => eqS x y && eqL l l'
  | _, _ => false
theorem eqS_sim {x y : SV} (h : eqS x y = true) : sim (rmap []) x y := by
  unfold eqS at h
  split at h <;> simp_all [sim, rmap, rlook]
theorem eqL_sim : ∀ {l l' : List SV}, eqL l l' = true → simL (rmap []) l l'
  | [], [], _ => trivial
  | x :: l, y :: l', h => by
    simp only [eqL, Bool.and_eq_true] at h
    exact ⟨eqS_sim h.1, eqL_sim h.2⟩
  | [], _ :: _, h => by cases h
  | _ :: _, [], h => by cases h

end Go.Ev
end

section
namespace Go.Ev

def Vw.pick (js : List Nat) : Vw → Vw
  | .norm n l H => .norm n l (pickN H js)
  | .exit i n l H => .exit i n l (pickN H js)
  | .ret v H => .ret v (pickN H js)
  | .bad => .bad

def Tr.viewP (ks js : List Nat) : Tr → Vw
  | .norm S => .norm S.F.length (slots S.F ks) (pickN S.H js)
  | .exit i S => .exit i S.F.length (slots S.F ks) (pickN S.H js)
  | .ret v H => .ret v (pickN H js)
  | .bad _ => .bad
  | .node b x y => bif b then x.viewP ks js else y.viewP ks js
  | .need b x => bif b then x.viewP ks js else .bad

theorem viewP_view (ks js : List Nat) (T : Tr) : T.viewP ks js = (T.view ks).pick js := by
  induction T with
  | node b x y ihx ihy => simp only [Tr.viewP, Tr.view]; cases b <;> simp [ihx, ihy]
  | need b x ih => simp only [Tr.viewP, Tr.view]; cases b <;> simp [ih, Vw.pick]
  | _ => rfl

theorem round_pick {α : Type} {s : Lp} {ok : α → Prop} {μ : α → Nat} {vs : α → List SV} {hp : α → Heap} {out : α → Vw} {x : α} {v : Vw} (js : List Nat) (h : Round s ok μ vs hp out x (v.pick js)) : Round s ok μ vs hp out x v := by
  cases v with
  | norm n l H =>
    obtain ⟨h1, y, r, h2, h3, h4, a, b, c, d, e⟩ := h
    exact ⟨h1, y, r, h2, h3, h4, a, b, wkH_pick js _ c, d, e⟩
  | exit i n l H =>
    obtain ⟨h1, l', H', r, h2, a, b, c, d, e⟩ := h
    exact ⟨h1, l', H', r, h2, a, b, wkH_pick js _ c, d, e⟩
  | ret v H =>
    obtain ⟨v', H', r, h1, a, b, c, d⟩ := h
    exact ⟨v', H', r, h1, a, b, wkH_pick js _ c, d⟩
  | bad => exact h

theorem round_viewP {α : Type} {s : Lp} {ok : α → Prop} {μ : α → Nat} {vs : α → List SV} {hp : α → Heap} {out : α → Vw} {x : α} {T : Tr} {v : Vw} (js : List Nat) (hT : T.viewP s.ks js = v) (h : Round s ok μ vs hp out x v) : Round s ok μ vs hp out x (T.view s.ks) := by
  refine round_pick js ?_
  rw [← viewP_view, hT]
  exact h

end Go.Ev
end
