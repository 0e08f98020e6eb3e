/-
  Functions of several ways, evaluated where they are called: each way goes on by itself.
-/
import Derived.Test.YtihfbhoodofhoaaGreatB5
set_option linter.unusedSimpArgs false
set_option linter.unusedVariables false
namespace Go.Ev
open Go.RowKit
variable {P : Program}

/-- a leaf's answer, its new blocks by number -/
def leafA (os : List Nat) (H : Heap) (v : SV) (H' : Heap) : Option R :=
  forceNs (newNames H' (SV.namesL [v] ++ os)) fun ns =>
    match mapN true (renum ns) v, pickH (renum ns) H' (os ++ ns) with
    | some sv, some u => match uniqN ns && uniqN (oldsOf (rmap (renL ns 0)) u) with
      | true => match autoG.roOk os H with
        | true => match autoG.namesEq (namesH u) (os ++ ns) ns with
          | true => some ⟨[], sv, u⟩
          | false => none
        | false => none
      | false => none
    | _, _ => none

def lfA (os : List Nat) (H : Heap) : Lf → Option R
  | .ret v H' => leafA os H v H'
  | _ => none

def leafG (E : Env) (P : Program) (f : FuncId) : List SV → Heap → Option R := fun a H =>
  match canonB H with
  | true => lfA (rwNames H) H (evalF E P f a H base).leaf
  | false => none

theorem rwNames_canon : ∀ H : Heap, canonB H = true → ∀ k, mem (rwNames H) k = true → k < base := by
  intro H
  induction H with
  | nil => intro _ k hk; cases hk
  | cons x t ih =>
    obtain ⟨j, b⟩ := x
    intro hc k hk
    simp only [canonB, Bool.and_eq_true, Nat.blt_eq] at hc
    have key : ∀ l, mem (j :: l) k = true → (mem l k = true → k < base) → k < base := by
      intro l hl hr
      rw [mem_cons] at hl
      simp only [Bool.or_eq_true, decide_eq_true_eq] at hl
      rcases hl with rfl | hl
      · exact hc.1
      · exact hr hl
    cases b with
    | cells l => exact key _ hk (ih hc.2 k)
    | ro l => exact ih hc.2 k hk
    | tab n c rw => cases rw with
      | true => exact key _ hk (ih hc.2 k)
      | false => exact ih hc.2 k hk
    | dead => exact ih hc.2 k hk
    | map m rw => cases rw with
      | true => exact key _ hk (ih hc.2 k)
      | false => exact ih hc.2 k hk

theorem leaf_ok {E : Env} (hE : CallsOk E P) (hm : P.follows .mixedOrders = true) {f : FuncId} {fn : Func} {c : Code} (hf : P.funcs[f]? = some fn) (hb : fn.body = some c) (hname : (fn.name == "runtime.NumGoroutine") = false) (hL : LoopsOk E P fn c 0) :
    SpecOk P f (specC true (leafG E P f)) := by
  refine spec_okC true hE hm hf hb hname hL _ fun a0 H0 r hg hn => ?_
  unfold leafG at hg
  split at hg
  case h_2 => cases hg
  rename_i hcan
  unfold lfA at hg
  split at hg
  case h_2 => cases hg
  rename_i v H' hlf
  simp only [leafA, forceNs_eq] at hg
  split at hg
  case h_2 => cases hg
  rename_i sv u hsv hu
  split at hg
  case h_2 => cases hg
  rename_i huq
  split at hg
  case h_2 => cases hg
  rename_i hro
  split at hg
  case h_2 => cases hg
  rename_i hne
  simp only [Option.some.injEq] at hg
  subst hg
  simp only [Bool.and_eq_true] at huq
  have hsame : roH (namesH u) H0 = H0 := by
    refine roH_same _ (rwNames H0) [] (fun k hk => ?_) H0 hro
    refine namesEq_mem _ _ _ hne k (by rw [mem_append, hk]; rfl) ?_
    have := rwNames_canon H0 hcan k hk
    simp only [renum, show Nat.blt k base = true by rw [Nat.blt_eq]; exact this]
  rw [hsame, hlf]
  exact ⟨renL _ 0, rok_renL _ 0, mapN_sim (fun k k' h => renum_spec h) v sv hsv, pickH_wk (fun k k' h => renum_spec h) _ u hu, huq.2⟩

/-- no way: its name is too great, so nothing goes on from it -/
def badR : R := ⟨[false], .mp 1000000000000, []⟩

/-- in the caller's names -/
def outR (ns : List Nat) (nm : Nat) (H0 : Heap) : Option R → R
  | some r => forceNs (namesH r.upd) fun U => match uniqN U && (allTold r.upd || allIn U H0), mapN true (bk ns nm) r.sv, mapH true (bk ns nm) r.upd with
    | true, some sv, some upd => ⟨r.need, sv, upd⟩
    | _, _, _ => badR
  | none => badR

def toTR (os ns : List Nat) (nm : Nat) (H0 : Heap) : Tr → TR
  | .ret v H' => .leaf (outR ns nm H0 (leafA os H0 v H'))
  | .node b x y => .node b (toTR os ns nm H0 x) (toTR os ns nm H0 y)
  | .need b x => .node b (toTR os ns nm H0 x) (.leaf badR)
  | _ => .leaf badR

theorem toTR_pick (os ns : List Nat) (nm : Nat) (H0 : Heap) (T : Tr) : (toTR os ns nm H0 T).pick = outR ns nm H0 (lfA os H0 T.leaf) := by
  induction T with
  | ret v H' => rfl
  | node b x y ihx ihy =>
    simp only [toTR, TR.pick, Tr.leaf, ihx, ihy]
    cases b <;> rfl
  | need b x ih =>
    simp only [toTR, TR.pick, Tr.leaf, ih]
    cases b <;> rfl
  | norm S => rfl
  | exit i S => rfl
  | bad w => rfl

def forkS (E : Env) (P : Program) (f : FuncId) (args : List SV) (H : Heap) (nm : Nat) : Option TR :=
  forceNs (namesH H) fun ns => match uniqN ns && Nat.ble ns.length base with
    | true => match mapL true (fun k => idx ns k 0) args, mapH true (fun k => idx ns k 0) H with
      | some a0, some H0 => forceL a0 fun a0 => forceH H0 fun H0 => match canonB H0 with
        | true => forceNs (rwNames H0) fun os => some (toTR os ns nm H0 (evalF E P f a0 H0 base))
        | false => none
      | _, _ => none
    | false => none

theorem fork_spec {E : Env} {f : FuncId} {args : List SV} {H : Heap} {nm : Nat} {t : TR} (h : forkS E P f args H nm = some t) (hn : allB t.pick.need = true) : specC true (leafG E P f) args H nm = some t.pick := by
  unfold forkS at h
  unfold specC
  simp only [forceNs_eq, forceL_eq, forceH_eq] at h ⊢
  split at h
  case h_2 => cases h
  rename_i hu
  split at h
  case h_2 => cases h
  rename_i a0 H0 ha hH
  split at h
  case h_2 => cases h
  rename_i hc
  simp only [Option.some.injEq] at h
  subst h
  rw [toTR_pick] at hn ⊢
  simp only [hu, ha, hH, leafG, hc]
  cases hl : lfA (rwNames H0) H0 (evalF E P f a0 H0 base).leaf with
  | none => rw [hl] at hn; cases hn
  | some r =>
    rw [hl] at hn
    simp only [outR, forceNs_eq] at hn ⊢
    cases hb : (uniqN (namesH r.upd) && (allTold r.upd || allIn (namesH r.upd) H0)) with
    | false => simp only [hb] at hn; cases hn
    | true =>
      simp only [hb] at hn ⊢
      cases h1 : mapN true (bk (namesH H) nm) r.sv with
      | none => simp only [h1] at hn; cases hn
      | some sv =>
        cases h2 : mapH true (bk (namesH H) nm) r.upd with
        | none => simp only [h1, h2] at hn; cases hn
        | some upd => rfl

theorem fork_calls {E : Env} (hE : CallsOk E P) (hm : P.follows .mixedOrders = true) {f : FuncId} {fn : Func} {c : Code} (hf : P.funcs[f]? = some fn) (hb : fn.body = some c) (hname : (fn.name == "runtime.NumGoroutine") = false) (hL : LoopsOk E P fn c 0)
    {args : List SV} {H : Heap} {nm : Nat} {t : TR} (h : forkS E P f args H nm = some t) (hn : allB t.pick.need = true) : (∃ fn, P.funcs[f]? = some fn ∧ fn.body.isSome = true ∧ (fn.name == "runtime.NumGoroutine") = false) ∧ CallOk P f args H nm t.pick := by
  have hs := leaf_ok hE hm hf hb hname hL
  exact ⟨hs.1, hs.2 args H nm _ (fork_spec h hn) hn⟩

/-- plain functions, such of one way, such of several ways: evaluated where they are called -/
def inlF (P : Program) (E : Env) (ps hs fs : List Nat) : Nat → Env
  | 0 => ⟨E.call, noLoop⟩
  | d + 1 => ⟨fun f args H nm => match mem ps f with
    | true => (inl P (inlF P E ps hs fs d) [f] 1).call f args H nm
    | false => match mem hs f with
      | true => leafR (autoS (inlF P E ps hs fs d) P f args H nm)
      | false => match mem fs f with
        | true => forkS (inlF P E ps hs fs d) P f args H nm
        | false => E.call f args H nm, noLoop⟩

theorem inlF_calls {E : Env} (hE : CallsOk E P) (hm : P.follows .mixedOrders = true) {ps hs fs : List Nat} (hp : named P ps = true) (hh : named P hs = true) (hfs : named P fs = true) : ∀ d, CallsOk (inlF P E ps hs fs d) P ∧ (inlF P E ps hs fs d).loop = noLoop
  | 0 => ⟨fun f args H nm r hr hn => hE f args H nm r hr hn, rfl⟩
  | d + 1 => by
    refine ⟨fun f args H nm r hr hneed => ?_, rfl⟩
    obtain ⟨ih, ihl⟩ := inlF_calls hE hm hp hh hfs d
    simp only [inlF] at hr
    split at hr
    · rename_i hf
      exact (inl_calls ih hm (named_one hp hf) 1).1 f args H nm r hr hneed
    · split at hr
      · rename_i hf
        obtain ⟨fn, hfn, hbody, hname⟩ := named_spec hh hf
        obtain ⟨c, hc⟩ := Option.isSome_iff_exists.1 hbody
        have := auto_ok ih hm hfn hc hname (loops_noLoop ihl c 0)
        unfold leafR at hr
        split at hr
        · rename_i r' hr'
          simp only [Option.some.injEq] at hr
          subst hr
          exact ⟨this.1, this.2 args H nm r' hr' hneed⟩
        · cases hr
      · split at hr
        · rename_i hf
          obtain ⟨fn, hfn, hbody, hname⟩ := named_spec hfs hf
          obtain ⟨c, hc⟩ := Option.isSome_iff_exists.1 hbody
          exact fork_calls ih hm hfn hc hname (loops_noLoop ihl c 0) hr hneed
        · exact hE f args H nm r hr hneed

end Go.Ev
