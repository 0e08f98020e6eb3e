/-
  The loops of a function by number.
-/
import Derived.Test.YtihfbhoodofhoaaGreatB2
import Derived.Test.YtihfbhoodofhoaaGreatB0
set_option linter.unusedSimpArgs false
set_option linter.unusedVariables false
section
namespace Go.Ev
open Go.RowKit
variable {P : Program}

def nthLoop : Code → Nat → Option Code
  | .seq a b, n => match Nat.blt n (Code.loops a) with
    | true => nthLoop a n
    | false => nthLoop b (n - Code.loops a)
  | .cond _ a b, n => match Nat.blt n (Code.loops a) with
    | true => nthLoop a n
    | false => nthLoop b (n - Code.loops a)
  | .block _ a, n => nthLoop a n
  | .loop a, n => match n with
    | 0 => some a
    | n + 1 => nthLoop a n
  | _, _ => none

def bodyOf (f : Func) : Code := match f.body with
  | some c => c
  | none => .skip

/-- the body of a function's n-th loop -/
def loopOf (f : Func) (n : Nat) : Code := match nthLoop (bodyOf f) n with
  | some c => c
  | none => .skip

theorem loopsOk_of {E : Env} {fn : Func} : ∀ (c : Code) (n0 : Nat), (∀ m a, m < Code.loops c → nthLoop c m = some a → LoopOk E P fn (n0 + m) a) → LoopsOk E P fn c n0
  | .seq a b, n0, h => by
    refine ⟨loopsOk_of a n0 fun m x hm hx => h m x (by simp only [Code.loops]; omega) ?_, loopsOk_of b _ fun m x hm hx => ?_⟩
    · have : Nat.blt m (Code.loops a) = true := by simpa using hm
      simp only [nthLoop, this, hx]
    · have h1 : Nat.blt (Code.loops a + m) (Code.loops a) = false := by
        cases hb : Nat.blt (Code.loops a + m) (Code.loops a) with
        | true => rw [Nat.blt_eq] at hb; omega
        | false => rfl
      have := h (Code.loops a + m) x (by simp only [Code.loops]; omega) (by simp only [nthLoop, h1, Nat.add_sub_cancel_left, hx])
      rwa [← Nat.add_assoc] at this
  | .cond _ a b, n0, h => by
    refine ⟨loopsOk_of a n0 fun m x hm hx => h m x (by simp only [Code.loops]; omega) ?_, loopsOk_of b _ fun m x hm hx => ?_⟩
    · have : Nat.blt m (Code.loops a) = true := by simpa using hm
      simp only [nthLoop, this, hx]
    · have h1 : Nat.blt (Code.loops a + m) (Code.loops a) = false := by
        cases hb : Nat.blt (Code.loops a + m) (Code.loops a) with
        | true => rw [Nat.blt_eq] at hb; omega
        | false => rfl
      have := h (Code.loops a + m) x (by simp only [Code.loops]; omega) (by simp only [nthLoop, h1, Nat.add_sub_cancel_left, hx])
      rwa [← Nat.add_assoc] at this
  | .block _ a, n0, h => loopsOk_of a n0 fun m x hm hx => h m x hm hx
  | .loop a, n0, h => h 0 a (by simp only [Code.loops]; omega) rfl
  | .skip, _, _ => trivial
  | .region _ _ _, _, _ => trivial
  | .exit _, _, _ => trivial
  | .ret, _, _ => trivial
  | .label _, _, _ => trivial
  | .goto _, _, _ => trivial
  | .rangeFunc _ _ _ _, _, _ => trivial
  | .scope _, _, _ => trivial
  | .refuse _, _, _ => trivial

/-- a function of one loop -/
theorem loops1 {E : Env} {fn : Func} {c : Code} (hc : Code.loops c = 1) (h : ∀ a, nthLoop c 0 = some a → LoopOk E P fn 0 a) : LoopsOk E P fn c 0 :=
  loopsOk_of c 0 fun m a hm ha => by
    rw [hc] at hm
    obtain rfl : m = 0 := by omega
    exact h a ha

theorem loops2 {E : Env} {fn : Func} {c : Code} (hc : Code.loops c = 2) (h0 : ∀ a, nthLoop c 0 = some a → LoopOk E P fn 0 a) (h1 : ∀ a, nthLoop c 1 = some a → LoopOk E P fn 1 a) : LoopsOk E P fn c 0 :=
  loopsOk_of c 0 fun m a hm ha => by
    rw [hc] at hm
    rcases m with _ | _ | m
    · exact h0 a ha
    · exact h1 a ha
    · omega

theorem loops0 {E : Env} {fn : Func} {c : Code} {n : Nat} (hc : Code.loops c = 0) : LoopsOk E P fn c n :=
  loopsOk_of c n fun m a hm _ => by omega

end Go.Ev
end

section
namespace Go.Ev
open Go.RowKit
variable {P : Program}

/-- what a function without a choice of its own comes to -/
def Tr.flatR : Tr → Option (List Bool × Option (SV × Heap))
  | .ret v H => some ([], some (v, H))
  | .bad _ => some ([false], none)
  | .need b x => match x.flatR with
    | some (m, l) => some (b :: m, l)
    | none => none
  | .node b x y => match x.flatR, y.flatR with
    | some (m, some l), some (_, none) => some (b :: m, some l)
    | some (_, none), some (m, l) => some ((!b) :: m, l)
    | _, _ => none
  | _ => none

theorem flatR_bad : ∀ (T : Tr) (n : List Bool), T.flatR = some (n, none) → T.leaf = .bad
  | .bad _, _, _ => rfl
  | .need b x, n, h => by
    simp only [Tr.flatR] at h
    split at h
    · rename_i m l hx
      simp only [Option.some.injEq, Prod.mk.injEq] at h
      obtain ⟨_, rfl⟩ := h
      simp only [Tr.leaf, flatR_bad x m hx]
      cases b <;> rfl
    · cases h
  | .node b x y, n, h => by
    simp only [Tr.flatR] at h
    split at h
    · simp at h
    · rename_i _ m l hx hy
      simp only [Option.some.injEq, Prod.mk.injEq] at h
      obtain ⟨_, rfl⟩ := h
      simp only [Tr.leaf, flatR_bad x _ hx, flatR_bad y _ hy]
      cases b <;> rfl
    · cases h
  | .ret _ _, n, h => by simp [Tr.flatR] at h
  | .norm _, n, h => by simp [Tr.flatR] at h
  | .exit _ _, n, h => by simp [Tr.flatR] at h

theorem flatR_sound : ∀ (T : Tr) (n : List Bool) (v : SV) (H : Heap), T.flatR = some (n, some (v, H)) → allB n = true → T.leaf = .ret v H
  | .ret _ _, n, v, H, h, _ => by simp only [Tr.flatR, Option.some.injEq, Prod.mk.injEq] at h; obtain ⟨_, rfl, rfl⟩ := h; rfl
  | .bad _, n, v, H, h, _ => by simp [Tr.flatR] at h
  | .need b x, n, v, H, h, hn => by
    simp only [Tr.flatR] at h
    split at h
    · rename_i m l hx
      simp only [Option.some.injEq, Prod.mk.injEq] at h
      obtain ⟨rfl, rfl⟩ := h
      simp only [allB, Bool.and_eq_true] at hn
      simp only [Tr.leaf, hn.1, cond_true]
      exact flatR_sound x m v H hx hn.2
    · cases h
  | .node b x y, n, v, H, h, hn => by
    simp only [Tr.flatR] at h
    split at h
    · rename_i m l n' hx hy
      simp only [Option.some.injEq, Prod.mk.injEq] at h
      obtain ⟨rfl, h2⟩ := h
      simp only [allB, Bool.and_eq_true] at hn
      simp only [Tr.leaf, hn.1, cond_true]
      exact flatR_sound x m v H (by rw [hx, h2]) hn.2
    · rename_i n' m l hx hy
      simp only [Option.some.injEq, Prod.mk.injEq] at h
      obtain ⟨rfl, h2⟩ := h
      simp only [allB, Bool.and_eq_true, Bool.not_eq_true'] at hn
      simp only [Tr.leaf, hn.1, cond_false]
      exact flatR_sound y m v H (by rw [hy, h2]) hn.2
    · cases h
  | .norm _, n, v, H, h, _ => by simp [Tr.flatR] at h
  | .exit _ _, n, v, H, h, _ => by simp [Tr.flatR] at h

/-- the old names that may be written -/
def rwNames : Heap → List Nat
  | [] => []
  | (k, b) :: t => match b with
    | .cells _ => k :: rwNames t
    | .tab _ _ true => k :: rwNames t
    | .map _ true => k :: rwNames t
    | _ => rwNames t

/-- the new names that some names reach, in order -/
def newNames (H : Heap) (l : List Nat) : List Nat := (gather H 64 l [] []).1.map (·.1) |>.filter fun k => Nat.ble base k

def pickH (f : Nat → Option Nat) (H : Heap) : List Nat → Option Heap
  | [] => some []
  | k :: t => match f k, look H k, pickH f H t with
    | some k', some b, some r => match mapB true f b with
      | some b => some ((k', b) :: r)
      | none => none
    | _, _, _ => none

def renum (ns : List Nat) (k : Nat) : Option Nat := match Nat.blt k base with
  | true => some k
  | false => match idx ns k 0 with
    | some i => some (base + i)
    | none => none

def renL : List Nat → Nat → List (Nat × Rf)
  | [], _ => []
  | k :: t, i => (base + i, .old k) :: renL t (i + 1)

def autoG (E : Env) (P : Program) (f : FuncId) : List SV → Heap → Option R := fun a H =>
  match (evalF E P f a H base).flatR with
  | some (n, some (v, H')) => forceNs (rwNames H) fun os => forceNs (newNames H' (SV.namesL [v] ++ os)) fun ns =>
    match mapN true (renum ns) v, pickH (renum ns) H' (os ++ ns) with
    | some sv, some u => match uniqN ns && uniqN (oldsOf (rmap (renL ns 0)) u) with
      | true => match roOk os H with
        | true => match namesEq (namesH u) (os ++ ns) ns with
          | true => some ⟨n, sv, u⟩
          | false => none
        | false => none
      | false => none
    | _, _ => none
  | _ => none
where
  /-- what is not told is read alone as it is -/
  roOk (os : List Nat) : Heap → Bool
    | [] => true
    | (k, b) :: t => (mem os k || (match b with
      | .ro _ => true
      | .tab _ _ rw => !rw
      | .dead => true
      | .map _ rw => !rw
      | .cells _ => false)) && roOk os t
  namesEq (a b ns : List Nat) : Bool := match a, b with
    | [], [] => true
    | x :: a, y :: b => (match renum ns y with
      | some z => Nat.beq x z
      | none => false) && namesEq a b ns
    | _, _ => false

mutual
theorem mapN_sim {cl : Bool} {f : Nat → Option Nat} {ρ : Rn} (h : ∀ k k', f k = some k' → ρ k' = .old k) : ∀ (x x' : SV), mapN cl f x = some x' → sim ρ x x'
  | .ptr k r c, x', e => by
    simp only [mapN] at e; split at e
    · rename_i k' hk; simp only [Option.some.injEq] at e; subst e; exact ⟨h k k' hk, rfl, rfl⟩
    · cases e
  | .sl k n, x', e => by
    simp only [mapN] at e; split at e
    · rename_i k' hk; simp only [Option.some.injEq] at e; subst e; exact ⟨h k k' hk, rfl⟩
    · cases e
  | .mp k, x', e => by
    simp only [mapN] at e; split at e
    · rename_i k' hk; simp only [Option.some.injEq] at e; subst e; exact h k k' hk
    · cases e
  | .fn g l, x', e => by
    simp only [mapN] at e; split at e
    · rename_i l' hl; simp only [Option.some.injEq] at e; subst e; exact ⟨rfl, mapL_sim h l l' hl⟩
    · cases e
  | .agg l, x', e => by
    simp only [mapN] at e; split at e
    · rename_i l' hl; simp only [Option.some.injEq] at e; subst e; exact mapL_sim h l l' hl
    · cases e
  | .tup l, x', e => by
    simp only [mapN] at e; split at e
    · rename_i l' hl; simp only [Option.some.injEq] at e; subst e; exact mapL_sim h l l' hl
    · cases e
  | .any, x', e => by simp only [mapN, Option.some.injEq] at e; subst e; trivial
  | .int _ _ _, x', e => by simp only [mapN, Option.some.injEq] at e; subst e; exact ⟨rfl, rfl⟩
  | .bool _ _, x', e => by simp only [mapN, Option.some.injEq] at e; subst e; exact rfl
  | .str _, x', e => by simp only [mapN, Option.some.injEq] at e; subst e; exact rfl
  | .val _, x', e => by simp only [mapN, Option.some.injEq] at e; subst e; exact rfl
theorem mapL_sim {cl : Bool} {f : Nat → Option Nat} {ρ : Rn} (h : ∀ k k', f k = some k' → ρ k' = .old k) : ∀ (x x' : List SV), mapL cl f x = some x' → simL ρ x x'
  | [], x', e => by simp only [mapL, Option.some.injEq] at e; subst e; trivial
  | x :: r, x', e => by
    simp only [mapL] at e; split at e
    · rename_i y s hy hs; simp only [Option.some.injEq] at e; subst e; exact ⟨mapN_sim h x y hy, mapL_sim h r s hs⟩
    · cases e
end

theorem wkCs_refl (n : Nat) : ∀ cols : List Col, wkCs n cols cols
  | [] => trivial
  | c :: r => ⟨by cases c with
    | ints k g => exact ⟨rfl, fun _ _ => rfl⟩
    | bools g => exact fun _ _ => rfl
    | strs g => exact fun _ _ => rfl
    | lit l => exact fun _ _ _ => rfl, wkCs_refl n r⟩

theorem mapB_wk {cl : Bool} {f : Nat → Option Nat} {ρ : Rn} (h : ∀ k k', f k = some k' → ρ k' = .old k) {b b' : Blk} (e : mapB cl f b = some b') : wkB ρ b b' := by
  cases b with
  | cells l =>
    simp only [mapB] at e; split at e
    · rename_i l' hl; simp only [Option.some.injEq] at e; subst e; exact mapL_sim h l l' hl
    · cases e
  | ro l =>
    simp only [mapB] at e; split at e
    · rename_i l' hl; simp only [Option.some.injEq] at e; subst e; exact mapL_sim h l l' hl
    · cases e
  | tab n cols rw => simp only [mapB, Option.some.injEq] at e; subst e; exact ⟨Nat.le_refl _, fun h => h, wkCs_refl n cols⟩
  | dead => simp only [mapB, Option.some.injEq] at e; subst e; trivial
  | map m rw => simp only [mapB, Option.some.injEq] at e; subst e; exact ⟨fun h => h, wkM_refl m⟩

theorem pickH_wk {f : Nat → Option Nat} {ρ : Rn} {H : Heap} (h : ∀ k k', f k = some k' → ρ k' = .old k) : ∀ (l : List Nat) (u : Heap), pickH f H l = some u → wkH ρ H u
  | [], u, e => by simp only [pickH, Option.some.injEq] at e; subst e; trivial
  | k :: t, u, e => by
    simp only [pickH] at e
    split at e
    · rename_i k' b r hk hb hr
      split at e
      · rename_i b' hb'
        simp only [Option.some.injEq] at e; subst e
        refine ⟨?_, pickH_wk h t r hr⟩
        simp only [h k k' hk, hb]
        exact mapB_wk h hb'
      · cases e
    · cases e

theorem rok_renL : ∀ (ns : List Nat) (i : Nat), rok base (renL ns i) = true
  | [], _ => rfl
  | k :: t, i => by
    simp only [renL, rok, Bool.and_eq_true, Nat.ble_eq]
    exact ⟨Nat.le_add_right _ _, rok_renL t (i + 1)⟩

theorem renL_look : ∀ (ns : List Nat) (i0 k i : Nat), idx ns k i0 = some i → rlook (renL ns i0) (base + i) = some (.old k)
  | [], _, _, _, h => by cases h
  | x :: t, i0, k, i, h => by
    simp only [idx] at h
    simp only [renL, rlook]
    split at h
    · rename_i hb
      simp only [Option.some.injEq] at h; subst h
      rw [Nat.beq_refl, Nat.eq_of_beq_eq_true hb]
    · have hlt := (idx_spec t k (i0 + 1) i h).1
      have : Nat.beq (base + i0) (base + i) = false := by
        cases hb : Nat.beq (base + i0) (base + i) with
        | true => have := Nat.eq_of_beq_eq_true hb; omega
        | false => rfl
      rw [this]
      exact renL_look t (i0 + 1) k i h

theorem renum_spec {ns : List Nat} {k k' : Nat} (h : renum ns k = some k') : rmap (renL ns 0) k' = .old k := by
  unfold renum at h
  split at h
  · rename_i hb
    simp only [Option.some.injEq] at h; subst h
    exact rok_spec _ (rok_renL ns 0) k (by simpa using hb)
  · split at h
    · rename_i i hi
      simp only [Option.some.injEq] at h; subst h
      simp only [rmap, renL_look ns 0 k i hi]
    · cases h

theorem namesEq_mem (ns : List Nat) : ∀ (a b : List Nat), autoG.namesEq a b ns = true → ∀ k, mem b k = true → renum ns k = some k → mem a k = true
  | [], [], _, k, hk, _ => hk
  | x :: a, y :: b, h, k, hk, hr => by
    simp only [autoG.namesEq, Bool.and_eq_true] at h
    rw [mem_cons] at hk ⊢
    simp only [Bool.or_eq_true, decide_eq_true_eq] at hk ⊢
    rcases hk with rfl | hk
    · left
      have h1 := h.1
      rw [hr] at h1
      simp only at h1
      exact (Nat.eq_of_beq_eq_true h1).symm
    · exact .inr (namesEq_mem ns a b h.2 k hk hr)
  | [], _ :: _, h, _, _, _ => by simp [autoG.namesEq] at h
  | _ :: _, [], h, _, _, _ => by simp [autoG.namesEq] at h

theorem roH_same (U os ns : List Nat) (hU : ∀ k, mem os k = true → mem U k = true) : ∀ (H : Heap), autoG.roOk os H = true → roH U H = H
  | [], _ => rfl
  | (k, b) :: t, h => by
    simp only [autoG.roOk, Bool.and_eq_true, Bool.or_eq_true] at h
    simp only [roH, roH_same U os ns hU t h.2]
    congr 2
    rcases h.1 with h1 | h1
    · rw [hU k h1]
    · cases mem U k with
      | true => rfl
      | false => cases b with
        | tab n c rw => simp only [Bool.not_eq_true'] at h1; subst h1; rfl
        | cells l => cases h1
        | ro l => rfl
        | dead => rfl
        | map m rw => simp only [Bool.not_eq_true'] at h1; subst h1; rfl

theorem rwNames_lt (H : Heap) (h : Ev.hal (lt base) H = true) : ∀ k, mem (rwNames H) k = true → k < base := by
  induction H with
  | nil => intro k hk; cases hk
  | cons x t ih =>
    obtain ⟨j, b⟩ := x
    simp only [Ev.hal, Bool.and_eq_true] at h
    have hj : j < base := by simpa [lt] using h.1.1
    intro k hk
    have key : ∀ l, mem (j :: l) k = true → (mem l k = true → k < base) → k < base := by
      intro l hl hr
      rw [mem_cons] at hl
      simp only [Bool.or_eq_true, decide_eq_true_eq] at hl
      rcases hl with rfl | hl
      · exact hj
      · exact hr hl
    cases b with
    | cells l => exact key _ hk (ih h.2 k)
    | ro l => exact ih h.2 k hk
    | tab n c rw => cases rw with
      | true => exact key _ hk (ih h.2 k)
      | false => exact ih h.2 k hk
    | dead => exact ih h.2 k hk
    | map m rw => cases rw with
      | true => exact key _ hk (ih h.2 k)
      | false => exact ih h.2 k hk

/-- the callee's heap has names of its own -/
def canonB : Heap → Bool
  | [] => true
  | (k, _) :: t => Nat.blt k base && canonB t

theorem mem_append (l m : List Nat) (k : Nat) : mem (l ++ m) k = (mem l k || mem m k) := by
  induction l with
  | nil => rfl
  | cons x l ih => simp only [List.cons_append, mem_cons, ih, Bool.or_assoc]

def autoS (E : Env) (P : Program) (f : FuncId) : Spec := specC true fun a H => match canonB H with
  | true => autoG E P f a H
  | false => none

theorem auto_ok {E : Env} (hE : CallsOk E P) (hm : P.follows .mixedOrders = true) {f : FuncId} {fn : Func} {c : Code} (hf : P.funcs[f]? = some fn) (hb : fn.body = some c) (hname : (fn.name == "runtime.NumGoroutine") = false) (hL : LoopsOk E P fn c 0) :
    SpecOk P f (autoS E P f) := by
  refine spec_okC true hE hm hf hb hname hL _ fun a0 H0 r hg hn => ?_
  split at hg
  case h_2 => cases hg
  rename_i hcan
  unfold autoG at hg
  split at hg
  case h_2 => cases hg
  rename_i n v H' hfl
  simp only [forceNs_eq] at hg
  split at hg
  case h_2 => cases hg
  rename_i sv u hsv hu
  split at hg
  case h_2 => cases hg
  rename_i huq
  split at hg
  case h_2 => cases hg
  rename_i hro
  split at hg
  case h_2 => cases hg
  rename_i hne
  simp only [Option.some.injEq] at hg
  subst hg
  simp only [Bool.and_eq_true] at huq
  have hlt : ∀ k, mem (rwNames H0) k = true → k < base := by
    have : ∀ H : Heap, canonB H = true → ∀ k, mem (rwNames H) k = true → k < base := by
      intro H
      induction H with
      | nil => intro _ k hk; cases hk
      | cons x t ih =>
        obtain ⟨j, b⟩ := x
        intro hc k hk
        simp only [canonB, Bool.and_eq_true, Nat.blt_eq] at hc
        have key : ∀ l, mem (j :: l) k = true → (mem l k = true → k < base) → k < base := by
          intro l hl hr
          rw [mem_cons] at hl
          simp only [Bool.or_eq_true, decide_eq_true_eq] at hl
          rcases hl with rfl | hl
          · exact hc.1
          · exact hr hl
        cases b with
        | cells l => exact key _ hk (ih hc.2 k)
        | ro l => exact ih hc.2 k hk
        | tab n c rw => cases rw with
          | true => exact key _ hk (ih hc.2 k)
          | false => exact ih hc.2 k hk
        | dead => exact ih hc.2 k hk
        | map m rw => cases rw with
          | true => exact key _ hk (ih hc.2 k)
          | false => exact ih hc.2 k hk
    exact this H0 hcan
  have hsame : roH (namesH u) H0 = H0 := by
    refine roH_same _ (rwNames H0) [] (fun k hk => ?_) H0 hro
    refine namesEq_mem _ _ _ hne k (by rw [mem_append, hk]; rfl) ?_
    have := hlt k hk
    simp only [renum, show Nat.blt k base = true by rw [Nat.blt_eq]; exact this]
  rw [hsame, flatR_sound _ n v H' hfl hn]
  exact ⟨renL _ 0, rok_renL _ 0, mapN_sim (fun k k' h => renum_spec h) v sv hsv, pickH_wk (fun k k' h => renum_spec h) _ u hu, huq.2⟩

/-- plain functions and such, evaluated where they are called -/
def inlA (P : Program) (E : Env) (ps hs : List Nat) : Nat → Env
  | 0 => ⟨E.call, noLoop⟩
  | d + 1 => ⟨fun f args H nm => match mem ps f with
    | true => (inl P (inlA P E ps hs d) [f] 1).call f args H nm
    | false => match mem hs f with
      | true => leafR (autoS (inlA P E ps hs d) P f args H nm)
      | false => E.call f args H nm, noLoop⟩

theorem named_one {ps : List Nat} (h : named P ps = true) {f : Nat} (hf : mem ps f = true) : named P [f] = true := by
  obtain ⟨fn, h1, h2, h3⟩ := named_spec h hf
  simp only [named, h1, h2, h3, Bool.not_false, Bool.and_self]

theorem inlA_calls {E : Env} (hE : CallsOk E P) (hm : P.follows .mixedOrders = true) {ps hs : List Nat} (hp : named P ps = true) (hh : named P hs = true) : ∀ d, CallsOk (inlA P E ps hs d) P ∧ (inlA P E ps hs d).loop = noLoop
  | 0 => ⟨fun f args H nm r hr hn => hE f args H nm r hr hn, rfl⟩
  | d + 1 => by
    refine ⟨fun f args H nm r hr hneed => ?_, rfl⟩
    obtain ⟨ih, ihl⟩ := inlA_calls hE hm hp hh d
    simp only [inlA] at hr
    split at hr
    · rename_i hf
      exact (inl_calls ih hm (named_one hp hf) 1).1 f args H nm r hr hneed
    · split at hr
      · rename_i hf
        obtain ⟨fn, hfn, hbody, hname⟩ := named_spec hh hf
        obtain ⟨c, hc⟩ := Option.isSome_iff_exists.1 hbody
        have := auto_ok ih hm hfn hc hname (loops_noLoop ihl c 0)
        unfold leafR at hr
        split at hr
        · rename_i r' hr'
          simp only [Option.some.injEq] at hr
          subst hr
          exact ⟨this.1, this.2 args H nm r' hr' hneed⟩
        · cases hr
      · exact hE f args H nm r hr hneed

end Go.Ev
end

section
namespace Go.Ev

def iv (k : IntKind) (B : BitVec k.bits) : Int := if k.signed then B.toInt else (B.toNat : Int)

theorem ofInt_iv (k : IntKind) (B : BitVec k.bits) : BitVec.ofInt k.bits (iv k B) = B := by
  unfold iv
  split
  · exact BitVec.ofInt_toInt
  · rw [BitVec.ofInt_natCast, BitVec.ofNat_toNat, BitVec.setWidth_eq]

theorem bits_pos (k : IntKind) : 0 < k.bits := by cases k <;> decide

theorem wrap_iv (k : IntKind) (n : Int) : k.wrap n = iv k (BitVec.ofInt k.bits n) := by
  cases k <;> simp only [IntKind.wrap, iv, IntKind.signed, IntKind.bits, BitVec.toInt_ofInt, BitVec.toNat_ofInt, Int.bmod_def, Bool.true_and, Bool.false_and, if_true] <;> simp <;> (try split) <;> omega

theorem iv_inj {k : IntKind} {A B : BitVec k.bits} (h : iv k A = iv k B) : A = B := by
  rw [← ofInt_iv k A, h, ofInt_iv]

theorem conv_iv (k : IntKind) (n : Int) : conv k n = iv k (BitVec.ofInt k.bits n) := wrap_iv k n

theorem ar_or (k : IntKind) (x y : Int) : ar .or k x y = iv k (BitVec.ofInt k.bits x ||| BitVec.ofInt k.bits y) := by
  simp only [ar, wrap_iv, BitVec.ofInt_natCast, BitVec.ofNat_toNat, BitVec.setWidth_eq]
theorem ar_and (k : IntKind) (x y : Int) : ar .and k x y = iv k (BitVec.ofInt k.bits x &&& BitVec.ofInt k.bits y) := by
  simp only [ar, wrap_iv, BitVec.ofInt_natCast, BitVec.ofNat_toNat, BitVec.setWidth_eq]
theorem ar_xor (k : IntKind) (x y : Int) : ar .xor k x y = iv k (BitVec.ofInt k.bits x ^^^ BitVec.ofInt k.bits y) := by
  simp only [ar, wrap_iv, BitVec.ofInt_natCast, BitVec.ofNat_toNat, BitVec.setWidth_eq]
theorem ar_andNot (k : IntKind) (x y : Int) : ar .andNot k x y = iv k (BitVec.ofInt k.bits x &&& ~~~BitVec.ofInt k.bits y) := by
  simp only [ar, wrap_iv, BitVec.ofInt_natCast, BitVec.ofNat_toNat, BitVec.setWidth_eq]
theorem ar_add (k : IntKind) (x y : Int) : ar .add k x y = iv k (BitVec.ofInt k.bits x + BitVec.ofInt k.bits y) := by
  simp only [ar, wrap_iv, BitVec.ofInt_add]
theorem ar_mul (k : IntKind) (x y : Int) : ar .mul k x y = iv k (BitVec.ofInt k.bits x * BitVec.ofInt k.bits y) := by
  simp only [ar, wrap_iv, BitVec.ofInt_mul]
theorem ar_sub (k : IntKind) (x y : Int) : ar .sub k x y = iv k (BitVec.ofInt k.bits x - BitVec.ofInt k.bits y) := by
  simp only [ar, wrap_iv]
  congr 1
  rw [BitVec.sub_eq_add_neg, ← BitVec.ofInt_neg, ← BitVec.ofInt_add, Int.sub_eq_add_neg]

theorem ofInt_mul_pow (w : Nat) (x : Int) (n : Nat) : BitVec.ofInt w (x * 2 ^ n) = BitVec.ofInt w x <<< n := by
  rw [BitVec.ofInt_mul, BitVec.shiftLeft_eq_mul_twoPow]
  congr 1
  apply BitVec.eq_of_toNat_eq
  rw [BitVec.toNat_ofInt, BitVec.toNat_twoPow]
  have : ((2 : Int) ^ n) = ((2 ^ n : Nat) : Int) := by simp
  rw [this]
  norm_cast

theorem ar_shl (k : IntKind) (x : Int) (n : Nat) : ar .shl k x n = iv k (BitVec.ofInt k.bits x <<< n) := by
  simp only [ar, wrap_iv, Int.toNat_natCast, ofInt_mul_pow]
  congr 1
  by_cases h : n ≤ k.bits
  · rw [Nat.min_eq_left h]
  · rw [Nat.min_eq_right (by omega), BitVec.shiftLeft_eq_zero (by omega), BitVec.shiftLeft_eq_zero (by omega)]

theorem cm_eql (k : IntKind) (A B : BitVec k.bits) : cm .eql (iv k A) (iv k B) = (A == B) := by
  simp only [cm]
  by_cases h : A = B
  · subst h; simp
  · have : iv k A ≠ iv k B := fun e => h (iv_inj e)
    rw [beq_eq_false_iff_ne.2 this, beq_eq_false_iff_ne.2 h]

theorem ar_shr_u {k : IntKind} (hk : k.signed = false) (B : BitVec k.bits) (n : Nat) : ar .shr k (iv k B) n = iv k (B >>> n) := by
  simp only [ar, iv, hk, Bool.false_eq_true, if_false, Int.toNat_natCast, BitVec.toNat_ushiftRight, Nat.shiftRight_eq_div_pow]
  rw [Int.fdiv_eq_ediv_of_nonneg _ (by exact Int.le_of_lt (Int.pow_pos (by omega)))]
  by_cases h : n ≤ k.bits
  · rw [Nat.min_eq_left h]; norm_cast
  · have h1 : B.toNat < 2 ^ k.bits := B.isLt
    have h2 : 2 ^ k.bits ≤ 2 ^ n := Nat.pow_le_pow_right (by omega) (by omega)
    rw [Nat.min_eq_right (by omega), Nat.div_eq_of_lt (Nat.lt_of_lt_of_le h1 h2)]
    have : ((B.toNat : Int) / 2 ^ k.bits) = ((B.toNat / 2 ^ k.bits : Nat) : Int) := by norm_cast
    rw [this, Nat.div_eq_of_lt h1]

theorem ar_shr_s {k : IntKind} (hk : k.signed = true) (B : BitVec k.bits) (n : Nat) (hn : n ≤ k.bits) : ar .shr k (iv k B) n = iv k (B.sshiftRight n) := by
  simp only [ar, iv, hk, if_true, Int.toNat_natCast, Nat.min_eq_left hn, BitVec.toInt_sshiftRight, Int.shiftRight_eq_div_pow]
  rw [Int.fdiv_eq_ediv_of_nonneg _ (by exact Int.le_of_lt (Int.pow_pos (by omega)))]
  norm_cast

theorem ar_shl' (k : IntKind) (x m : Int) (hm : 0 ≤ m) : ar .shl k x m = iv k (BitVec.ofInt k.bits x <<< m.toNat) := by
  have := ar_shl k x m.toNat
  rwa [Int.toNat_of_nonneg hm] at this
theorem ar_shr_u' {k : IntKind} (hk : k.signed = false) (B : BitVec k.bits) (m : Int) (hm : 0 ≤ m) : ar .shr k (iv k B) m = iv k (B >>> m.toNat) := by
  have := ar_shr_u hk B m.toNat
  rwa [Int.toNat_of_nonneg hm] at this
theorem ar_shr_s' {k : IntKind} (hk : k.signed = true) (B : BitVec k.bits) (m : Int) (hm : 0 ≤ m) (hn : m.toNat ≤ k.bits) : ar .shr k (iv k B) m = iv k (B.sshiftRight m.toNat) := by
  have := ar_shr_s hk B m.toNat hn
  rwa [Int.toNat_of_nonneg hm] at this

namespace U32
theorem inv (B : BitVec 32) : BitVec.ofInt 32 (iv .u32 B) = B := ofInt_iv .u32 B
theorem or (x y : Int) : ar .or .u32 x y = iv .u32 (BitVec.ofInt 32 x ||| BitVec.ofInt 32 y) := ar_or .u32 x y
theorem and (x y : Int) : ar .and .u32 x y = iv .u32 (BitVec.ofInt 32 x &&& BitVec.ofInt 32 y) := ar_and .u32 x y
theorem xor (x y : Int) : ar .xor .u32 x y = iv .u32 (BitVec.ofInt 32 x ^^^ BitVec.ofInt 32 y) := ar_xor .u32 x y
theorem sub (x y : Int) : ar .sub .u32 x y = iv .u32 (BitVec.ofInt 32 x - BitVec.ofInt 32 y) := ar_sub .u32 x y
theorem add (x y : Int) : ar .add .u32 x y = iv .u32 (BitVec.ofInt 32 x + BitVec.ofInt 32 y) := ar_add .u32 x y
theorem shl (x m : Int) (h : 0 ≤ m) : ar .shl .u32 x m = iv .u32 (BitVec.ofInt 32 x <<< m.toNat) := ar_shl' .u32 x m h
theorem shr (B : BitVec 32) (m : Int) (h : 0 ≤ m) : ar .shr .u32 (iv .u32 B) m = iv .u32 (B >>> m.toNat) := ar_shr_u' (k := .u32) rfl B m h
theorem conv (n : Int) : conv .u32 n = iv .u32 (BitVec.ofInt 32 n) := conv_iv .u32 n
end U32

end Go.Ev
end
