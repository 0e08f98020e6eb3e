/-
  The evaluator is sound: code.
-/
import Derived.Test.YtdmhlhggkldnoaaB1
import Derived.Deep.LoopGhost
import Derived.Test.YtdmhlhggkldnoaaB0
set_option linter.unusedSimpArgs false
set_option linter.unusedVariables false
section
namespace Go.Ev
open Go.RowKit
variable {P : Program}

/-! ### what a function gives -/
def resVar (tmps : Array Value) : ResultVar → Sem Value
  | .tmp t => Pure.pure (tmps.getD t undef)
  | .cell a t => do loadVar t (← asAddr (tmps.getD a undef))

theorem res_run {C : Ctx} {σ : Sg} {S : St} {a : Act} {w : World} (h : Sat C σ S a w) : ∀ (res : List ResultVar) (l : List SV) (n : List Bool), resOf P S.F S.H res = some (l, n) → allB n = true → fullL l = true →
    (res.mapM (resVar a.tmps)).run P w = .ok (denL σ l) w
  | [], l, n, hr, _, _ => by
    simp only [resOf, Option.some.injEq, Prod.mk.injEq] at hr
    obtain ⟨rfl, rfl⟩ := hr
    simp [denL]
  | .tmp t :: r, l, n, hr, hn, hf => by
    simp only [resOf] at hr
    split at hr
    · rename_i l' n' hr'
      simp only [Option.some.injEq, Prod.mk.injEq] at hr
      obtain ⟨rfl, rfl⟩ := hr
      simp only [fullL, Bool.and_eq_true] at hf
      have ih := res_run h r l' n' hr' hn hf.2
      have hv : a.tmps.getD t undef = den σ ((S.F[t]?).getD .any) := by
        cases ht : S.F[t]? with
        | none => rw [ht] at hf; simp [SV.full] at hf
        | some s =>
          rw [ht] at hf
          simp only [Option.getD_some] at hf ⊢
          rw [Array.getD_eq_getD_getElem?, h.frame t s ht (fun e => by rw [e] at hf; simp [SV.full] at hf)]
          rfl
      rw [List.mapM_cons]
      simp [resVar, ih, hv, denL]
    · cases hr
  | .cell x t :: r, l, n, hr, hn, hf => by
    simp only [resOf] at hr
    split at hr
    · rename_i k i c hx
      split at hr
      · rename_i b hb
        split at hr
        · rename_i n1 sv u hld
          split at hr
          · rename_i l' n' hr'
            simp only [Option.some.injEq, Prod.mk.injEq] at hr
            obtain ⟨rfl, rfl⟩ := hr
            simp only [fullL, Bool.and_eq_true] at hf
            have hsp : ∀ (l m : List Bool), allB (l ++ m) = true → allB l = true ∧ allB m = true := by
              intro l m
              induction l with
              | nil => intro h; exact ⟨rfl, h⟩
              | cons x l ih => intro h; simp only [List.cons_append, allB, Bool.and_eq_true] at h ⊢; exact ⟨⟨h.1, (ih h.2).1⟩, (ih h.2).2⟩
            obtain ⟨hn1, hn2⟩ := hsp _ _ hn
            have ih := res_run h r l' n' hr' hn2 hf.2
            have hv : a.tmps.getD x undef = den σ (.ptr k i c) := by
              cases ht : S.F[x]? with
              | none => rw [ht] at hx; cases hx
              | some s =>
                rw [ht] at hx
                simp only [Option.getD_some] at hx
                subst hx
                rw [Array.getD_eq_getD_getElem?, h.frame x _ ht (by simp)]
                rfl
            have hload := (ld_sound (P := P) hld hn1 (h.heap.sat k b hb).see).1
            rw [List.mapM_cons]
            simp only [den] at hv
            simp [resVar, ih, hv, denL, asAddr, hload]
          · cases hr
        · cases hr
      · cases hr
    · cases hr

theorem results_run {C : Ctx} {σ : Sg} {S : St} {a : Act} {w : World} (h : Sat C σ S a w) {fn : Func} {l : List SV} {n : List Bool} (hr : resOf P S.F S.H fn.results.toList = some (l, n)) (hn : allB n = true) (hf : fullL l = true) :
    (results fn a.tmps).run P w = .ok (den σ (retOf l)) w := by
  have := res_run h _ l n hr hn hf
  have he : results fn a.tmps = (fn.results.mapM (resVar a.tmps) >>= fun vs => Pure.pure (if h : vs.size = 1 then vs[0] else .tuple vs)) := by
    unfold results
    congr 1
  rw [he, Array.mapM_eq_mapM_toList]
  simp only [map_eq_pure_bind, Sem.run_bind, this, Result.andThen_ok, Sem.run_pure]
  match l with
  | [] => simp [retOf, denL, den]
  | [x] => simp [retOf, denL]
  | x :: y :: l => simp [retOf, denL, den]

structure RetSat (P : Program) (C : Ctx) (fn : Func) (v : SV) (H : Heap) (σ : Sg) (a : Act) (w : World) : Prop where
  defers : a.defers = []
  res : (results fn a.tmps).run P w = .ok (den σ v) w
  heap : HSat σ H w
  wd : Wd C σ H w

/-- what the ways out say -/
def Good (P : Program) (C : Ctx) (fn : Func) (Q : Exit → Act → World → Prop) : Lf → Prop
  | .norm S => ∀ σ a w, Sat C σ S a w → Q .normal a w
  | .exit id S => ∀ σ a w, Sat C σ S a w → Q (.exit id) a w
  | .ret v H => ∀ σ a w, RetSat P C fn v H σ a w → Q .ret a w
  | .bad => False

theorem retT_leaf (res : List ResultVar) (S : St) : (∃ l n, resOf P S.F S.H res = some (l, n) ∧ allB n = true ∧ fullL l = true ∧ (retT P res S).leaf = .ret (retOf l) S.H) ∨ (retT P res S).leaf = .bad := by
  unfold retT
  split
  · rename_i l m hr
    split
    · rename_i hf
      rw [leaf_needs]
      cases hm : allB m with
      | true => left; exact ⟨l, m, hr, hm, hf, by simp [force2_eq, Tr.leaf]⟩
      | false => right; rfl
    · right; rfl
  · right; rfl

theorem ret_sat {C : Ctx} {σ : Sg} {S : St} {a : Act} {w : World} (h : Sat C σ S a w) {fn : Func} {l : List SV} {n : List Bool} (hr : resOf P S.F S.H fn.results.toList = some (l, n)) (hn : allB n = true) (hf : fullL l = true) :
    RetSat P C fn (retOf l) S.H σ a w := ⟨h.defers, results_run h hr hn hf, h.heap, h.wd⟩

theorem bind_leaf (T : Tr) (f : St → Tr) : (T.bind f).leaf = match T.leaf with | .norm S => (f S).leaf | l => l := by
  induction T with
  | node b x y ihx ihy => simp only [Tr.bind, Tr.leaf]; cases b <;> simp [ihx, ihy]
  | need b x ih => simp only [Tr.bind, Tr.leaf]; cases b <;> simp [ih]
  | _ => rfl

theorem block_leaf (id : Nat) (T : Tr) : (T.block id).leaf = match T.leaf with | .exit i S => (bif Nat.beq i id then .norm S else .exit i S) | l => l := by
  induction T with
  | node b x y ihx ihy => simp only [Tr.block, Tr.leaf]; cases b <;> simp [ihx, ihy]
  | need b x ih => simp only [Tr.block, Tr.leaf]; cases b <;> simp [ih]
  | exit i S => simp only [Tr.block, Tr.leaf]; cases Nat.beq i id <;> rfl
  | _ => rfl

theorem close_leaf (res : List ResultVar) (T : Tr) : (T.close P res).leaf = match T.leaf with | .norm S => (retT P res S).leaf | l => l := by
  induction T with
  | node b x y ihx ihy => simp only [Tr.close, Tr.leaf]; cases b <;> simp [ihx, ihy]
  | need b x ih => simp only [Tr.close, Tr.leaf]; cases b <;> simp [ih]
  | _ => rfl

theorem plain_leaf (T : Tr) : T.plain.leaf = match T.leaf with | .norm S => .norm S | _ => .bad := by
  induction T with
  | node b x y ihx ihy => simp only [Tr.plain, Tr.leaf]; cases b <;> simp [ihx, ihy]
  | need b x ih => simp only [Tr.plain, Tr.leaf]; cases b <;> simp [ih]
  | _ => rfl

/-- names below are the caller's -/
def base : Nat := 1024

def LoopOk (E : Env) (P : Program) (fn : Func) (n : Nat) (c : Code) : Prop :=
  ∀ S T, E.loop n S = some T → ∀ (C : Ctx) σ a w Q, C.n0 ≤ base → Sat C σ S a w → Good P C fn Q T.leaf → (Code.loop c).wp P Q a w

def LoopsOk (E : Env) (P : Program) (fn : Func) : Code → Nat → Prop
  | .seq a b, n => LoopsOk E P fn a n ∧ LoopsOk E P fn b (n + Code.loops a)
  | .cond _ a b, n => LoopsOk E P fn a n ∧ LoopsOk E P fn b (n + Code.loops a)
  | .block _ a, n => LoopsOk E P fn a n
  | .loop a, n => LoopOk E P fn n a
  | _, _ => True

theorem Sat.drawn {C : Ctx} {σ : Sg} {S : St} {a : Act} {w : World} (h : Sat C σ S a w) (n : Nat) : Sat C σ S a { w with drawn := n } :=
  ⟨h.len, h.frame, h.fal, h.defers, ⟨fun k b hk => by have := h.heap.sat k b hk; cases b <;> exact this, h.heap.dis⟩, h.hal, h.n0, ⟨h.wd.keep, h.wd.os, h.wd.tape, h.wd.output, h.wd.size, h.wd.old, h.wd.own, fun k b hk hl => h.wd.liv k b hk hl⟩⟩

theorem known_sat {C : Ctx} {σ : Sg} {S : St} {a : Act} {w : World} (h : Sat C σ S a w) {c : Operand} {v : Bool} (hc : ev S.F c = .bool false v) {α : Sort _} (f : St → α) : ∃ S', Sat C σ S' a w ∧ known S c v f = f S' := by
  obtain ⟨F, H, nm, ch⟩ := S
  cases c with
  | tmp t =>
    refine ⟨⟨F.set t (.bool true v), H, nm, ch⟩, ?_, by simp only [known, setK_eq]⟩
    simp only [ev] at hc
    cases ht : F[t]? with
    | none => rw [ht] at hc; cases hc
    | some s =>
      rw [ht] at hc
      simp only [Option.getD_some] at hc
      subst hc
      exact h.dress ht (by simp) (by simp [den]) rfl
  | const _ => exact ⟨_, h, rfl⟩
  | global _ => exact ⟨_, h, rfl⟩
  | func _ => exact ⟨_, h, rfl⟩

theorem evalC_sound {E : Env} (hE : CallsOk E P) (hm : P.follows .mixedOrders = true) {fn : Func} {C : Ctx} (hC : C.n0 ≤ base) : ∀ (c : Code) (n : Nat) (Q : Exit → Act → World → Prop) (S : St) (σ : Sg) (a : Act) (w : World), LoopsOk E P fn c n →
    Sat C σ S a w → Good P C fn Q (evalC E P fn.results.toList c n S).leaf → c.wp P Q a w
  | .skip, n, Q, S, σ, a, w, _, h, hg => wp_skip (hg σ a w h)
  | .region id ops draw, n, Q, S, σ, a, w, _, h, hg => by
    simp only [evalC, plain_leaf] at hg
    split at hg
    · rename_i S' hS'
      cases draw with
      | false => exact wp_region_list (evalR_text hE hg hS' h)
      | true => exact wp_region_any hm (evalR_draw hE hg hS' (h.drawn _))
    · exact hg.elim
  | .seq x y, n, Q, S, σ, a, w, hL, h, hg => by
    simp only [evalC, bind_leaf] at hg
    refine wp_seq (evalC_sound hE hm hC x n _ S σ a w hL.1 h ?_)
    generalize (evalC E P fn.results.toList x n S).leaf = l at hg
    cases l with
    | norm S' => exact fun σ' a' w' h' => evalC_sound hE hm hC y _ Q S' σ' a' w' hL.2 h' hg
    | exit id S' => exact hg
    | ret v H => exact hg
    | bad => exact hg
  | .cond c x y, n, Q, S, σ, a, w, hL, h, hg => by
    simp only [evalC, force_eq] at hg
    split at hg
    · rename_i v hv
      have he := (ev_den h h.fal c (by rw [hv]; simp)).1
      rw [hv] at he
      split at hg
      · exact wp_cond_true he (evalC_sound hE hm hC x n Q S σ a w hL.1 h hg)
      · exact wp_cond_false he (evalC_sound hE hm hC y _ Q S σ a w hL.2 h hg)
    · rename_i v hv
      have he := (ev_den h h.fal c (by rw [hv]; simp)).1
      rw [hv] at he
      simp only [Tr.leaf] at hg
      cases v with
      | true =>
        obtain ⟨S', h', hk⟩ := known_sat h hv (fun S => evalC E P fn.results.toList x n S)
        simp only [cond_true] at hg
        rw [hk] at hg
        exact wp_cond_true he (evalC_sound hE hm hC x n Q S' σ a w hL.1 h' hg)
      | false =>
        obtain ⟨S', h', hk⟩ := known_sat h hv (fun S => evalC E P fn.results.toList y (n + Code.loops x) S)
        simp only [cond_false] at hg
        rw [hk] at hg
        exact wp_cond_false he (evalC_sound hE hm hC y _ Q S' σ a w hL.2 h' hg)
    · exact hg.elim
  | .block id x, n, Q, S, σ, a, w, hL, h, hg => by
    simp only [evalC, block_leaf] at hg
    refine wp_block (evalC_sound hE hm hC x n _ S σ a w hL h ?_)
    generalize (evalC E P fn.results.toList x n S).leaf = l at hg
    cases l with
    | norm S' => exact hg
    | exit i S' =>
      simp only at hg
      cases hi : Nat.beq i id with
      | true =>
        rw [hi] at hg
        have := Nat.eq_of_beq_eq_true hi
        subst this
        intro σ' a' w' h'
        simp only [Exit.inBlock, if_true]
        exact hg σ' a' w' h'
      | false =>
        rw [hi] at hg
        have := Nat.ne_of_beq_eq_false hi
        intro σ' a' w' h'
        simp only [Exit.inBlock, if_neg this]
        exact hg σ' a' w' h'
    | ret v H => exact hg
    | bad => exact hg
  | .exit id, n, Q, S, σ, a, w, _, h, hg => wp_exit (hg σ a w h)
  | .ret, n, Q, S, σ, a, w, _, h, hg => by
    simp only [evalC] at hg
    rcases retT_leaf (P := P) fn.results.toList S with ⟨l, m, hr, hn, hf, hl⟩ | hl
    · rw [hl] at hg
      exact wp_ret (hg σ a w (ret_sat h hr hn hf))
    · rw [hl] at hg; exact hg.elim
  | .loop x, n, Q, S, σ, a, w, hL, h, hg => by
    simp only [evalC] at hg
    split at hg
    · rename_i T hT
      exact hL S T hT C σ a w Q hC h hg
    · exact hg.elim
  | .label _, n, Q, S, σ, a, w, _, h, hg => hg.elim
  | .goto _, n, Q, S, σ, a, w, _, h, hg => hg.elim

/-! ### a function -/
def ctxOf (σ : Sg) (H : Heap) (nm : Nat) (w : World) : Ctx := ⟨w, fun j => ∃ k b, look H k = some b ∧ b.ow (σ k) ∧ (σ k).blk = j, fun j => ∃ k b, look H k = some b ∧ b.live (σ k) ∧ (σ k).blk = j, nm, σ⟩

theorem evalF_calls {E : Env} (hE : CallsOk E P) (hm : P.follows .mixedOrders = true) {f : FuncId} {fn : Func} {c : Code} (hf : P.funcs[f]? = some fn) (hb : fn.body = some c) (hL : LoopsOk E P fn c 0)
    {args : List SV} {H : Heap} {nm : Nat} {σ : Sg} {w : World} (hs : HSat σ H w) (hH : Ev.hal (lt nm) H = true) (ha : SV.alL (lt nm) args = true) (hnm : nm ≤ base)
    {v : SV} {H' : Heap} (hl : (evalF E P f args H nm).leaf = .ret v H') {R : Ending → World → Prop}
    (hR : ∀ σ' w', HSat σ' H' w' → Wd (ctxOf σ H nm w) σ' H' w' → R (.returned (den σ' v)) w') : Calls P f (denL σ args).toArray w R := by
  refine calls_of_wp hf hb ?_
  simp only [evalF, hf, hb, forceL_eq, close_leaf] at hl
  have h0 : Sat (ctxOf σ H nm w) σ ⟨(startF fn args H nm).F, H, nm, 0⟩ { tmps := (denL σ args).toArray ++ Array.replicate (fn.ntmps - (denL σ args).toArray.size) undef, defers := [] } w := by
    refine ⟨?_, fun i s hi hne => ?_, ?_, rfl, hs, hH, Nat.le_refl _, ⟨Agree.refl _ _, rfl, rfl, rfl, Nat.le_refl _, fun _ _ _ => rfl, fun k b hk hr => .inl ⟨k, b, hk, hr, rfl⟩, fun k b hk hr => .inl ⟨k, b, hk, hr, rfl⟩⟩⟩
    · simp [startF, denL_length]
    · simp only [startF] at hi
      have : ((denL σ args).toArray ++ Array.replicate (fn.ntmps - (denL σ args).toArray.size) undef) = ((args ++ List.replicate (fn.ntmps - args.length) (SV.val undef)).map (den σ)).toArray := by
        apply Array.ext'
        simp [denL_map, den]
      rw [this]
      simp only [List.getElem?_toArray, List.getElem?_map, hi, Option.map_some]
    · have : ∀ (l m : List SV), SV.alL (lt nm) l = true → SV.alL (lt nm) m = true → SV.alL (lt nm) (l ++ m) = true := by
        intro l m hl hm
        induction l with
        | nil => exact hm
        | cons x l ih => simp only [List.cons_append, SV.alL, Bool.and_eq_true] at hl ⊢; exact ⟨hl.1, ih hl.2⟩
      refine this _ _ ha ?_
      generalize fn.ntmps - args.length = m
      induction m with
      | zero => rfl
      | succ m ih => simp only [List.replicate_succ, SV.alL, SV.al, ih, Bool.and_self]
  refine evalC_sound hE hm (C := ctxOf σ H nm w) hnm c 0 _ _ σ _ w hL h0 ?_
  have hret : ∀ σ' a' w', RetSat P (ctxOf σ H nm w) fn v H' σ' a' w' → a'.defers = [] ∧ ∃ v', (results fn a'.tmps).run P w' = .ok v' w' ∧ R (.returned v') w' :=
    fun σ' a' w' h' => ⟨h'.defers, _, h'.res, hR σ' w' h'.heap h'.wd⟩
  generalize (evalC E P fn.results.toList c 0 ⟨(startF fn args H nm).F, H, nm, 0⟩).leaf = l at hl
  cases l with
  | norm S' =>
    simp only at hl
    intro σ' a' w' h'
    rcases retT_leaf (P := P) fn.results.toList S' with ⟨l, m, hr, hn, hf, hl'⟩ | hl'
    · rw [hl'] at hl
      simp only [Lf.ret.injEq] at hl
      obtain ⟨rfl, rfl⟩ := hl
      exact hret σ' a' w' (ret_sat h' hr hn hf)
    · rw [hl'] at hl; cases hl
  | exit id S' => cases hl
  | ret v' H'' =>
    simp only [Lf.ret.injEq] at hl
    obtain ⟨rfl, rfl⟩ := hl
    exact fun σ' a' w' h' => hret σ' a' w' h'
  | bad => cases hl

end Go.Ev
end

section
namespace Go.Ev
open Go.RowKit
variable {P : Program}

abbrev Spec := List SV → Heap → Nat → Option R

def lookS : List (FuncId × Spec) → FuncId → Option Spec
  | [], _ => none
  | (g, s) :: l, f => match Nat.beq g f with
    | true => some s
    | false => lookS l f

def envOf (l : List (FuncId × Spec)) (loop : Nat → St → Option Tr) : Env :=
  ⟨fun f args H nm => match lookS l f with
    | some s => s args H nm
    | none => none, loop⟩

def noLoop : Nat → St → Option Tr := fun _ _ => none

def SpecOk (P : Program) (f : FuncId) (s : Spec) : Prop :=
  (∃ fn, P.funcs[f]? = some fn ∧ fn.body.isSome = true ∧ (fn.name == "runtime.NumGoroutine") = false) ∧
  ∀ args H nm r, s args H nm = some r → allB r.need = true → CallOk P f args H nm r

inductive SpecsOk (P : Program) : List (FuncId × Spec) → Prop
  | nil : SpecsOk P []
  | cons {f : FuncId} {s : Spec} {l : List (FuncId × Spec)} (h : SpecOk P f s) (t : SpecsOk P l) : SpecsOk P ((f, s) :: l)

theorem SpecsOk.look {l : List (FuncId × Spec)} (h : SpecsOk P l) {f : FuncId} {s : Spec} (hl : lookS l f = some s) : SpecOk P f s := by
  induction h with
  | nil => cases hl
  | cons h _ ih =>
    simp only [lookS] at hl
    split at hl
    · rename_i hb
      have := Nat.eq_of_beq_eq_true hb
      subst this
      simp only [Option.some.injEq] at hl
      exact hl ▸ h
    · exact ih hl

theorem SpecsOk.calls {l : List (FuncId × Spec)} (h : SpecsOk P l) (loop : Nat → St → Option Tr) : CallsOk (envOf l loop) P := by
  intro f args H nm r hr hn
  simp only [envOf] at hr
  split at hr
  · rename_i s hs
    have := h.look hs
    exact ⟨this.1, this.2 args H nm r hr hn⟩
  · cases hr

/-- a leaf gives this value, and no block of its own is in it -/
def Lf.gives : Lf → SV → Prop
  | .ret v _, s => ∀ σ σ', den σ' v = den σ s
  | _, _ => False

/-- a function of plain values -/
theorem pure_ok {E : Env} (hE : CallsOk E P) (hm : P.follows .mixedOrders = true) {f : FuncId} {fn : Func} {c : Code} (hf : P.funcs[f]? = some fn) (hb : fn.body = some c) (hL : LoopsOk E P fn c 0)
    {args args0 : List SV} {H : Heap} {nm : Nat} {r : R} (hu : r.upd = []) (hargs : ∀ σ σ', denL σ args = denL σ' args0) (ha : SV.alL (lt 0) args0 = true) (hl : (evalF E P f args0 [] 0).leaf.gives r.sv) : CallOk P f args H nm r := by
  intro σ w hs _ _
  rw [hargs σ σ]
  generalize hlf : (evalF E P f args0 [] 0).leaf = lf at hl
  cases lf with
  | ret v H' =>
    refine evalF_calls hE hm hf hb hL (HSat.nil σ w) rfl ha (Nat.zero_le _) hlf fun σ' w' _ hwd => ⟨σ, ?_, ?_⟩
    · rw [hl σ σ']
    · rw [hu]
      refine ⟨Agree.refl _ _, hwd.os, hwd.tape, hwd.output, hwd.size, fun j hj _ => hwd.old j hj ?_, List.Pairwise.nil, fun _ _ h => (by cases h), fun _ _ _ _ h => (by cases h), fun _ _ h => (by cases h)⟩
      rintro ⟨k, b, hk, _⟩
      cases hk
  | norm _ => exact hl.elim
  | exit _ _ => exact hl.elim
  | bad => exact hl.elim

/-! ### what a leaf says of some slots -/
inductive Vw where
  | norm (n : Nat) (l : List SV) (H : Heap)
  | exit (id : Nat) (n : Nat) (l : List SV) (H : Heap)
  | ret (v : SV) (H : Heap)
  | bad

def slots (F : List SV) : List Nat → List SV
  | [] => []
  | t :: r => (F[t]?).getD .any :: slots F r

def Lf.view (ks : List Nat) : Lf → Vw
  | .norm S => .norm S.F.length (slots S.F ks) S.H
  | .exit i S => .exit i S.F.length (slots S.F ks) S.H
  | .ret v H => .ret v H
  | .bad => .bad

/-- a leaf without its heap -/
def Lf.bare : Lf → Lf
  | .ret v _ => .ret v []
  | l => l

def Tr.bare : Tr → Lf
  | .norm S => .norm S
  | .exit i S => .exit i S
  | .ret v _ => .ret v []
  | .bad _ => .bad
  | .node b x y => bif b then x.bare else y.bare
  | .need b x => bif b then x.bare else .bad

theorem bare_leaf (T : Tr) : T.bare = T.leaf.bare := by
  induction T with
  | node b x y ihx ihy => simp only [Tr.bare, Tr.leaf]; cases b <;> simp [ihx, ihy]
  | need b x ih => simp only [Tr.bare, Tr.leaf]; cases b <;> simp [ih, Lf.bare]
  | _ => rfl

def Tr.view (ks : List Nat) : Tr → Vw
  | .norm S => .norm S.F.length (slots S.F ks) S.H
  | .exit i S => .exit i S.F.length (slots S.F ks) S.H
  | .ret v H => .ret v H
  | .bad _ => .bad
  | .node b x y => bif b then x.view ks else y.view ks
  | .need b x => bif b then x.view ks else .bad

theorem view_leaf (ks : List Nat) (T : Tr) : T.view ks = T.leaf.view ks := by
  induction T with
  | node b x y ihx ihy => simp only [Tr.view, Tr.leaf]; cases b <;> simp [ihx, ihy]
  | need b x ih => simp only [Tr.view, Tr.leaf]; cases b <;> simp [ih, Lf.view]
  | _ => rfl

theorem gives_tree {T : Tr} {l' : Lf} {s : SV} (h : T.bare = l') (hg : l'.gives s) : T.leaf.gives s := by
  rw [bare_leaf] at h
  subst h
  generalize T.leaf = l at hg
  cases l <;> exact hg

theorem gives_bare {l l' : Lf} {s : SV} (h : l.bare = l') (hg : l'.gives s) : l.gives s := by
  subst h
  cases l <;> exact hg

theorem gives_cond {b : Bool} {x y : Lf} {s : SV} (hx : b = true → x.gives s) (hy : b = false → y.gives s) : (bif b then x else y).gives s := by
  cases b with
  | true => exact hx rfl
  | false => exact hy rfl

end Go.Ev
end

section
namespace Go.Ev
open Go.RowKit
variable {P : Program}

mutual
def mergeV (b : Bool) : SV → SV → SV
  | .tup l, .tup l' => .tup (mergeVL b l l')
  | .agg l, .agg l' => .agg (mergeVL b l l')
  | .int _ k n, .int _ k' n' => match decide (k = k') with
    | true => .int false k (bif b then n else n')
    | false => .any
  | .bool _ p, .bool _ q => .bool false (bif b then p else q)
  | .str s, .str t => .str (bif b then s else t)
  | _, _ => .any
def mergeVL (b : Bool) : List SV → List SV → List SV
  | [], [] => []
  | x :: l, y :: l' => mergeV b x y :: mergeVL b l l'
  | _, _ => [.any]
end

mutual
/-- nothing unknown, no name in it -/
def SV.plain : SV → Bool
  | .int _ _ _ => true
  | .bool _ _ => true
  | .str _ => true
  | .val _ => true
  | .agg l => SV.plainL l
  | .tup l => SV.plainL l
  | _ => false
def SV.plainL : List SV → Bool
  | [] => true
  | x :: l => x.plain && SV.plainL l
end

mutual
theorem plain_den : ∀ (x : SV), x.plain = true → ∀ σ σ' : Sg, den σ x = den σ' x
  | .int _ _ _, _, _, _ => by simp only [den]
  | .bool _ _, _, _, _ => by simp only [den]
  | .str _, _, _, _ => by simp only [den]
  | .val _, _, _, _ => by simp only [den]
  | .agg l, h, σ, σ' => by simp only [den, plainL_den l (by simpa [SV.plain] using h) σ σ']
  | .tup l, h, σ, σ' => by simp only [den, plainL_den l (by simpa [SV.plain] using h) σ σ']
theorem plainL_den : ∀ (l : List SV), SV.plainL l = true → ∀ σ σ' : Sg, denL σ l = denL σ' l
  | [], _, _, _ => rfl
  | x :: l, h, σ, σ' => by
    simp only [SV.plainL, Bool.and_eq_true] at h
    simp only [denL, plain_den x h.1 σ σ', plainL_den l h.2 σ σ']
end

mutual
theorem plain_al (p : Nat → Bool) : ∀ (x : SV), x.plain = true → x.al p = true
  | .int _ _ _, _ => rfl
  | .bool _ _, _ => rfl
  | .str _, _ => rfl
  | .val _, _ => rfl
  | .agg l, h => by simp only [SV.al]; exact plainL_al p l (by simpa [SV.plain] using h)
  | .tup l, h => by simp only [SV.al]; exact plainL_al p l (by simpa [SV.plain] using h)
theorem plainL_al (p : Nat → Bool) : ∀ (l : List SV), SV.plainL l = true → SV.alL p l = true
  | [], _ => rfl
  | x :: l, h => by
    simp only [SV.plainL, Bool.and_eq_true] at h
    simp only [SV.alL, plain_al p x h.1, plainL_al p l h.2, Bool.and_self]
end

mutual
theorem mergeV_den (b : Bool) : ∀ (x y : SV), (mergeV b x y).plain = true → (bif b then x else y).plain = true ∧ ∀ σ, den σ (mergeV b x y) = den σ (bif b then x else y)
  | .tup l, .tup l', h => by
    simp only [mergeV, SV.plain] at h
    obtain ⟨h1, h2⟩ := mergeVL_den b l l' h
    cases b <;> simp only [mergeV, cond_true, cond_false, SV.plain, den] at * <;> exact ⟨h1, fun σ => by rw [h2]⟩
  | .agg l, .agg l', h => by
    simp only [mergeV, SV.plain] at h
    obtain ⟨h1, h2⟩ := mergeVL_den b l l' h
    cases b <;> simp only [mergeV, cond_true, cond_false, SV.plain, den] at * <;> exact ⟨h1, fun σ => by rw [h2]⟩
  | .int _ k n, .int _ k' n', h => by
    simp only [mergeV] at *
    split at h
    · rename_i hk
      have hk := of_decide_eq_true hk
      subst hk
      cases b <;> simp [den, SV.plain]
    · cases h
  | .bool _ p, .bool _ q, _ => by cases b <;> simp [mergeV, den, SV.plain]
  | .str s, .str t, _ => by cases b <;> simp [mergeV, den, SV.plain]
  | .any, _, h => by simp [mergeV, SV.plain] at h
  | .val _, _, h => by simp [mergeV, SV.plain] at h
  | .ptr _ _ _, _, h => by simp [mergeV, SV.plain] at h
  | .sl _ _, _, h => by simp [mergeV, SV.plain] at h
  | .mp _, _, h => by simp [mergeV, SV.plain] at h
  | .fn _ _, _, h => by simp [mergeV, SV.plain] at h
  | .tup _, .any, h => by simp [mergeV, SV.plain] at h
  | .tup _, .int _ _ _, h => by simp [mergeV, SV.plain] at h
  | .tup _, .bool _ _, h => by simp [mergeV, SV.plain] at h
  | .tup _, .str _, h => by simp [mergeV, SV.plain] at h
  | .tup _, .val _, h => by simp [mergeV, SV.plain] at h
  | .tup _, .ptr _ _ _, h => by simp [mergeV, SV.plain] at h
  | .tup _, .sl _ _, h => by simp [mergeV, SV.plain] at h
  | .tup _, .mp _, h => by simp [mergeV, SV.plain] at h
  | .tup _, .fn _ _, h => by simp [mergeV, SV.plain] at h
  | .tup _, .agg _, h => by simp [mergeV, SV.plain] at h
  | .agg _, .any, h => by simp [mergeV, SV.plain] at h
  | .agg _, .int _ _ _, h => by simp [mergeV, SV.plain] at h
  | .agg _, .bool _ _, h => by simp [mergeV, SV.plain] at h
  | .agg _, .str _, h => by simp [mergeV, SV.plain] at h
  | .agg _, .val _, h => by simp [mergeV, SV.plain] at h
  | .agg _, .ptr _ _ _, h => by simp [mergeV, SV.plain] at h
  | .agg _, .sl _ _, h => by simp [mergeV, SV.plain] at h
  | .agg _, .mp _, h => by simp [mergeV, SV.plain] at h
  | .agg _, .fn _ _, h => by simp [mergeV, SV.plain] at h
  | .agg _, .tup _, h => by simp [mergeV, SV.plain] at h
  | .int _ _ _, .any, h => by simp [mergeV, SV.plain] at h
  | .int _ _ _, .bool _ _, h => by simp [mergeV, SV.plain] at h
  | .int _ _ _, .str _, h => by simp [mergeV, SV.plain] at h
  | .int _ _ _, .val _, h => by simp [mergeV, SV.plain] at h
  | .int _ _ _, .ptr _ _ _, h => by simp [mergeV, SV.plain] at h
  | .int _ _ _, .sl _ _, h => by simp [mergeV, SV.plain] at h
  | .int _ _ _, .mp _, h => by simp [mergeV, SV.plain] at h
  | .int _ _ _, .fn _ _, h => by simp [mergeV, SV.plain] at h
  | .int _ _ _, .agg _, h => by simp [mergeV, SV.plain] at h
  | .int _ _ _, .tup _, h => by simp [mergeV, SV.plain] at h
  | .bool _ _, .any, h => by simp [mergeV, SV.plain] at h
  | .bool _ _, .int _ _ _, h => by simp [mergeV, SV.plain] at h
  | .bool _ _, .str _, h => by simp [mergeV, SV.plain] at h
  | .bool _ _, .val _, h => by simp [mergeV, SV.plain] at h
  | .bool _ _, .ptr _ _ _, h => by simp [mergeV, SV.plain] at h
  | .bool _ _, .sl _ _, h => by simp [mergeV, SV.plain] at h
  | .bool _ _, .mp _, h => by simp [mergeV, SV.plain] at h
  | .bool _ _, .fn _ _, h => by simp [mergeV, SV.plain] at h
  | .bool _ _, .agg _, h => by simp [mergeV, SV.plain] at h
  | .bool _ _, .tup _, h => by simp [mergeV, SV.plain] at h
  | .str _, .any, h => by simp [mergeV, SV.plain] at h
  | .str _, .int _ _ _, h => by simp [mergeV, SV.plain] at h
  | .str _, .bool _ _, h => by simp [mergeV, SV.plain] at h
  | .str _, .val _, h => by simp [mergeV, SV.plain] at h
  | .str _, .ptr _ _ _, h => by simp [mergeV, SV.plain] at h
  | .str _, .sl _ _, h => by simp [mergeV, SV.plain] at h
  | .str _, .mp _, h => by simp [mergeV, SV.plain] at h
  | .str _, .fn _ _, h => by simp [mergeV, SV.plain] at h
  | .str _, .agg _, h => by simp [mergeV, SV.plain] at h
  | .str _, .tup _, h => by simp [mergeV, SV.plain] at h
theorem mergeVL_den (b : Bool) : ∀ (x y : List SV), SV.plainL (mergeVL b x y) = true → SV.plainL (bif b then x else y) = true ∧ ∀ σ, denL σ (mergeVL b x y) = denL σ (bif b then x else y)
  | [], [], _ => by cases b <;> exact ⟨rfl, fun _ => rfl⟩
  | x :: l, y :: l', h => by
    simp only [mergeVL, SV.plainL, Bool.and_eq_true] at h
    obtain ⟨h1, h2⟩ := mergeV_den b x y h.1
    obtain ⟨h3, h4⟩ := mergeVL_den b l l' h.2
    cases b <;> simp only [mergeVL, cond_true, cond_false, SV.plainL, denL] at * <;> exact ⟨by rw [h1, h3]; rfl, fun σ => by rw [h2, h4]⟩
  | [], _ :: _, h => by simp [mergeVL, SV.plainL, SV.plain] at h
  | _ :: _, [], h => by simp [mergeVL, SV.plainL, SV.plain] at h
end

/-- what a function of plain values gives, its ways laid into one -/
def Tr.flatV : Tr → Option (List Bool × Option SV)
  | .ret v _ => match v.plain with
    | true => some ([], some v)
    | false => none
  | .bad _ => some ([false], none)
  | .need b x => match x.flatV with
    | some (m, l) => some (b :: m, l)
    | none => none
  | .node b x y => match x.flatV, y.flatV with
    | some (m, some v), some (n, some v') => some (mergeB b m n, some (mergeV b v v'))
    | some (m, some v), some (n, none) => some (mergeB b m n, some v)
    | some (m, none), some (n, l) => some (mergeB b m n, l)
    | _, _ => none
  | _ => none

theorem mergeB_spec {b : Bool} {m n : List Bool} (h : allB (mergeB b m n) = true) : allB (bif b then m else n) = true := by
  unfold mergeB at h
  split at h
  · cases b <;> rfl
  · cases b <;> simpa [allB] using h

theorem flatV_sound : ∀ (T : Tr) (n : List Bool) (l : Option SV), T.flatV = some (n, l) → allB n = true → ∃ v H, T.leaf = .ret v H ∧ v.plain = true ∧ ∃ s, l = some s ∧ (s.plain = true → ∀ σ, den σ v = den σ s)
  | .ret v H, n, l, h, _ => by
    simp only [Tr.flatV] at h
    split at h
    · rename_i hp
      simp only [Option.some.injEq, Prod.mk.injEq] at h
      obtain ⟨_, rfl⟩ := h
      exact ⟨v, H, rfl, hp, v, rfl, fun _ _ => rfl⟩
    · cases h
  | .bad _, n, l, h, hn => by
    simp only [Tr.flatV, Option.some.injEq, Prod.mk.injEq] at h
    rw [← h.1] at hn; cases hn
  | .need b x, n, l, h, hn => by
    simp only [Tr.flatV] at h
    split at h
    · rename_i m l' hx
      simp only [Option.some.injEq, Prod.mk.injEq] at h
      obtain ⟨rfl, rfl⟩ := h
      simp only [allB, Bool.and_eq_true] at hn
      obtain ⟨v, H, h1, h2⟩ := flatV_sound x m l' hx hn.2
      exact ⟨v, H, by simp [Tr.leaf, hn.1, h1], h2⟩
    · cases h
  | .node b x y, n, l, h, hn => by
    simp only [Tr.flatV] at h
    split at h
    · rename_i m v n' v' hx hy
      simp only [Option.some.injEq, Prod.mk.injEq] at h
      obtain ⟨rfl, rfl⟩ := h
      have hn := mergeB_spec hn
      cases b with
      | true =>
        obtain ⟨u, H, h1, h2, s, h3, h4⟩ := flatV_sound x m _ hx hn
        simp only [Option.some.injEq] at h3; subst h3
        exact ⟨u, H, by simp [Tr.leaf, h1], h2, _, rfl, fun hp σ => by obtain ⟨g1, g2⟩ := mergeV_den true v v' hp; rw [g2]; exact h4 g1 σ⟩
      | false =>
        obtain ⟨u, H, h1, h2, s, h3, h4⟩ := flatV_sound y n' _ hy hn
        simp only [Option.some.injEq] at h3; subst h3
        exact ⟨u, H, by simp [Tr.leaf, h1], h2, _, rfl, fun hp σ => by obtain ⟨g1, g2⟩ := mergeV_den false v v' hp; rw [g2]; exact h4 g1 σ⟩
    · rename_i m v n' hx hy
      simp only [Option.some.injEq, Prod.mk.injEq] at h
      obtain ⟨rfl, rfl⟩ := h
      have hn := mergeB_spec hn
      cases b with
      | true =>
        obtain ⟨u, H, h1, h2, h3⟩ := flatV_sound x m _ hx hn
        exact ⟨u, H, by simp [Tr.leaf, h1], h2, h3⟩
      | false =>
        obtain ⟨u, H, h1, h2, s, h3, h4⟩ := flatV_sound y n' _ hy hn
        cases h3
    · rename_i m n' l' hx hy
      simp only [Option.some.injEq, Prod.mk.injEq] at h
      obtain ⟨rfl, rfl⟩ := h
      have hn := mergeB_spec hn
      cases b with
      | true =>
        obtain ⟨u, H, h1, h2, s, h3, h4⟩ := flatV_sound x m _ hx hn
        cases h3
      | false =>
        obtain ⟨u, H, h1, h2, h3⟩ := flatV_sound y n' _ hy hn
        exact ⟨u, H, by simp [Tr.leaf, h1], h2, h3⟩
    · cases h
  | .norm _, n, l, h, _ => by simp [Tr.flatV] at h
  | .exit _ _, n, l, h, _ => by simp [Tr.flatV] at h

/-- functions of plain values, evaluated where they are called -/
def inl (P : Program) (E : Env) (fs : List Nat) : Nat → Env
  | 0 => ⟨E.call, noLoop⟩
  | d + 1 => ⟨fun f args H nm => match mem fs f with
    | true => match SV.plainL args with
      | true => match (evalF (inl P E fs d) P f args [] 0).flatV with
        | some (n, some v) => match v.plain with
          | true => some ⟨n, v, []⟩
          | false => none
        | _ => none
      | false => none
    | false => E.call f args H nm, noLoop⟩

theorem loops_noLoop {E : Env} {fn : Func} (h : E.loop = noLoop) : ∀ (c : Code) (n : Nat), LoopsOk E P fn c n
  | .seq a b, n => ⟨loops_noLoop h a n, loops_noLoop h b _⟩
  | .cond _ a b, n => ⟨loops_noLoop h a n, loops_noLoop h b _⟩
  | .block _ a, n => loops_noLoop h a n
  | .loop a, n => fun S T hT => by rw [h] at hT; cases hT
  | .skip, _ => trivial
  | .region _ _ _, _ => trivial
  | .exit _, _ => trivial
  | .ret, _ => trivial
  | .label _, _ => trivial
  | .goto _, _ => trivial
  | .rangeFunc _ _ _ _, _ => trivial
  | .scope _, _ => trivial
  | .refuse _, _ => trivial

theorem pure_ok0 {E : Env} (hE : CallsOk E P) (hm : P.follows .mixedOrders = true) (hl0 : E.loop = noLoop) {f : FuncId} {fn : Func} (hf : P.funcs[f]? = some fn) (hb : fn.body.isSome = true)
    {args args0 : List SV} {H : Heap} {nm : Nat} {r : R} (hu : r.upd = []) (hargs : ∀ σ σ', denL σ args = denL σ' args0) (ha : SV.alL (lt 0) args0 = true) (hl : (evalF E P f args0 [] 0).leaf.gives r.sv) : CallOk P f args H nm r := by
  obtain ⟨c, hc⟩ := Option.isSome_iff_exists.1 hb
  exact pure_ok hE hm hf hc (loops_noLoop hl0 c 0) hu hargs ha hl

def named (P : Program) : List Nat → Bool
  | [] => true
  | f :: fs => (match P.funcs[f]? with
    | some fn => fn.body.isSome && !(fn.name == "runtime.NumGoroutine")
    | none => false) && named P fs

theorem named_spec {fs : List Nat} (h : named P fs = true) {f : Nat} (hf : mem fs f = true) : ∃ fn, P.funcs[f]? = some fn ∧ fn.body.isSome = true ∧ (fn.name == "runtime.NumGoroutine") = false := by
  induction fs with
  | nil => cases hf
  | cons g fs ih =>
    simp only [named, Bool.and_eq_true] at h
    rw [mem_cons] at hf
    simp only [Bool.or_eq_true, decide_eq_true_eq] at hf
    rcases hf with rfl | hf
    · have := h.1
      split at this
      · rename_i fn hfn
        simp only [Bool.and_eq_true, Bool.not_eq_true'] at this
        exact ⟨fn, hfn, this⟩
      · cases this
    · exact ih h.2 hf

theorem inl_calls {E : Env} (hE : CallsOk E P) (hm : P.follows .mixedOrders = true) {fs : List Nat} (hn : named P fs = true) : ∀ d, CallsOk (inl P E fs d) P ∧ (inl P E fs d).loop = noLoop
  | 0 => ⟨fun f args H nm r hr hn => hE f args H nm r hr hn, rfl⟩
  | d + 1 => by
    refine ⟨fun f args H nm r hr hneed => ?_, rfl⟩
    obtain ⟨ih, ihl⟩ := inl_calls hE hm hn d
    simp only [inl] at hr
    split at hr
    · rename_i hf
      obtain ⟨fn, hfn, hbody, hname⟩ := named_spec hn hf
      refine ⟨⟨fn, hfn, hbody, hname⟩, ?_⟩
      split at hr
      · rename_i hpl
        split at hr
        · rename_i n v hfl
          split at hr
          · rename_i hv
            simp only [Option.some.injEq] at hr
            subst hr
            obtain ⟨u, H', h1, h2, s, h3, h4⟩ := flatV_sound _ _ _ hfl hneed
            simp only [Option.some.injEq] at h3
            subst h3
            cases hc : fn.body with
            | none => rw [hc] at hbody; cases hbody
            | some c =>
              refine pure_ok ih hm hfn hc (loops_noLoop ihl c 0) (args0 := args) rfl (fun σ σ' => plainL_den args hpl σ σ') (plainL_al _ args hpl) ?_
              rw [h1]
              exact fun σ σ' => (plain_den u h2 σ' σ).trans (h4 hv σ)
          · cases hr
        · cases hr
      · cases hr
    · exact hE f args H nm r hr hneed

end Go.Ev
end

section
namespace Go.Ev
open Go.RowKit
variable {P : Program}

/-- what a new name stands for: an old one, a nil slice of so many columns -/
inductive Rf where
  | old (k : Nat)
  | nil (w : Nat)

abbrev Rn := Nat → Rf

def rn (ρ : Rn) (σ : Sg) : Sg := fun k => match ρ k with
  | .old j => σ j
  | .nil w => ⟨0, 0, w, 0, true⟩

def isNilV : Value → Prop
  | .slice none 0 0 => True
  | _ => False

mutual
/-- the same value, by other names -/
def sim (ρ : Rn) : SV → SV → Prop
  | .any, .any => True
  | .int _ k n, .int _ k' n' => k = k' ∧ n = n'
  | .bool _ b, .bool _ b' => b = b'
  | .str s, .str s' => s = s'
  | .val v, .val v' => v = v'
  | .val v, .sl k n => isNilV v ∧ n = 0 ∧ ∃ w, ρ k = .nil w
  | .ptr k r c, .ptr k' r' c' => ρ k' = .old k ∧ r = r' ∧ c = c'
  | .sl k n, .sl k' n' => ρ k' = .old k ∧ n = n'
  | .mp k, .mp k' => ρ k' = .old k
  | .fn f l, .fn f' l' => f = f' ∧ simL ρ l l'
  | .agg l, .agg l' => simL ρ l l'
  | .tup l, .tup l' => simL ρ l l'
  | _, _ => False
def simL (ρ : Rn) : List SV → List SV → Prop
  | [], [] => True
  | x :: r, x' :: r' => sim ρ x x' ∧ simL ρ r r'
  | _, _ => False
end

mutual
theorem sim_den {ρ : Rn} : ∀ (x x' : SV), sim ρ x x' → ∀ σ, den σ x = den (rn ρ σ) x'
  | .any, x', h, σ => by cases x' <;> simp_all [sim, den]
  | .int _ _ _, x', h, σ => by cases x' <;> simp_all [sim, den]
  | .bool _ _, x', h, σ => by cases x' <;> simp_all [sim, den]
  | .str _, x', h, σ => by cases x' <;> simp_all [sim, den]
  | .val v, x', h, σ => by
    cases x' with
    | sl k n =>
      simp only [sim] at h
      obtain ⟨h1, rfl, w, h2⟩ := h
      unfold isNilV at h1
      split at h1
      · simp [den, rn, h2]
      · exact h1.elim
    | _ => simp_all [sim, den]
  | .ptr k r c, x', h, σ => by
    cases x' with
    | ptr k' r' c' => simp only [sim] at h; obtain ⟨h1, rfl, rfl⟩ := h; simp [den, rn, h1]
    | _ => simp [sim] at h
  | .sl k n, x', h, σ => by
    cases x' with
    | sl k' n' => simp only [sim] at h; obtain ⟨h1, rfl⟩ := h; simp [den, rn, h1]
    | _ => simp [sim] at h
  | .mp k, x', h, σ => by
    cases x' with
    | mp k' => simp only [sim] at h; simp [den, rn, h]
    | _ => simp [sim] at h
  | .fn f l, x', h, σ => by
    cases x' with
    | fn f' l' => simp only [sim] at h; simp only [den, h.1, simL_den l l' h.2 σ]
    | _ => simp [sim] at h
  | .agg l, x', h, σ => by
    cases x' with
    | agg l' => simp only [sim] at h; simp only [den, simL_den l l' h σ]
    | _ => simp [sim] at h
  | .tup l, x', h, σ => by
    cases x' with
    | tup l' => simp only [sim] at h; simp only [den, simL_den l l' h σ]
    | _ => simp [sim] at h
theorem simL_den {ρ : Rn} : ∀ (l l' : List SV), simL ρ l l' → ∀ σ, denL σ l = denL (rn ρ σ) l'
  | [], l', h, σ => by cases l' with
    | nil => rfl
    | cons _ _ => simp [simL] at h
  | x :: r, l', h, σ => by cases l' with
    | nil => simp [simL] at h
    | cons x' r' => simp only [simL] at h; simp only [denL, sim_den x x' h.1 σ, simL_den r r' h.2 σ]
end

theorem simL_length {ρ : Rn} : ∀ (l l' : List SV), simL ρ l l' → l.length = l'.length
  | [], [], _ => rfl
  | _ :: r, _ :: r', h => by simp only [simL] at h; simp [simL_length r r' h.2]
  | [], _ :: _, h => by simp [simL] at h
  | _ :: _, [], h => by simp [simL] at h

/-- a slot: forgotten, or the same -/
def wkS (ρ : Rn) : SV → SV → Prop
  | _, .any => True
  | x, x' => sim ρ x x'

def wkF (ρ : Rn) : List SV → List SV → Prop
  | [], [] => True
  | x :: r, x' :: r' => wkS ρ x x' ∧ wkF ρ r r'
  | _, _ => False

theorem wkS_spec {ρ : Rn} {x x' : SV} (h : wkS ρ x x') (hne : x' ≠ .any) : x ≠ .any ∧ ∀ σ, den σ x = den (rn ρ σ) x' := by
  have hs : sim ρ x x' := by
    cases x' with
    | any => exact absurd rfl hne
    | _ => exact h
  refine ⟨fun e => ?_, sim_den x x' hs⟩
  subst e
  cases x' <;> simp_all [sim]

theorem wkF_get {ρ : Rn} : ∀ (F F' : List SV), wkF ρ F F' → F.length = F'.length ∧ ∀ (i : Nat) (x' : SV), F'[i]? = some x' → ∃ x, F[i]? = some x ∧ wkS ρ x x'
  | [], [], _ => ⟨rfl, fun i x' h => by simp at h⟩
  | x :: r, x' :: r', h => by
    simp only [wkF] at h
    obtain ⟨h1, h2⟩ := wkF_get r r' h.2
    refine ⟨by simp [h1], fun i y hy => ?_⟩
    cases i with
    | zero => simp only [List.getElem?_cons_zero, Option.some.injEq] at hy; subst hy; exact ⟨x, rfl, h.1⟩
    | succ i => simp only [List.getElem?_cons_succ] at hy ⊢; exact h2 i y hy
  | [], _ :: _, h => by simp [wkF] at h
  | _ :: _, [], h => by simp [wkF] at h

def wkC (n : Nat) : Col → Col → Prop
  | .ints k g, .ints k' g' => k = k' ∧ ∀ r, r < n → g r = g' r
  | .bools g, .bools g' => ∀ r, r < n → g r = g' r
  | .strs g, .strs g' => ∀ r, r < n → g r = g' r
  | c, .lit l => ∀ r, r < n → ∀ σ, den σ (c.get r) = den σ ((Col.lit l).get r)
  | _, _ => False

def wkCs (n : Nat) : List Col → List Col → Prop
  | [], [] => True
  | c :: r, c' :: r' => wkC n c c' ∧ wkCs n r r'
  | _, _ => False

theorem wkCs_get {n : Nat} : ∀ (l l' : List Col), wkCs n l l' → l.length = l'.length ∧ ∀ (i r : Nat) (c' : Col), r < n → l'[i]? = some c' → ∃ c, l[i]? = some c ∧ ∀ σ, den σ (c.get r) = den σ (c'.get r)
  | [], [], _ => ⟨rfl, fun i r c' _ h => by simp at h⟩
  | c :: l, c' :: l', h => by
    simp only [wkCs] at h
    obtain ⟨h1, h2⟩ := wkCs_get l l' h.2
    refine ⟨by simp [h1], fun i r d hr hd => ?_⟩
    cases i with
    | zero =>
      simp only [List.getElem?_cons_zero, Option.some.injEq] at hd; subst hd
      refine ⟨c, rfl, ?_⟩
      have h1 := h.1
      intro σ
      cases c' with
      | lit l => cases c <;> exact h1 r hr σ
      | ints k' g' => cases c with
        | ints k g => simp only [wkC] at h1; simp only [Col.get, h1.1, h1.2 r hr]
        | _ => exact h1.elim
      | bools g' => cases c with
        | bools g => simp only [wkC] at h1; simp only [Col.get, h1 r hr]
        | _ => exact h1.elim
      | strs g' => cases c with
        | strs g => simp only [wkC] at h1; simp only [Col.get, h1 r hr]
        | _ => exact h1.elim
    | succ i => simp only [List.getElem?_cons_succ] at hd ⊢; exact h2 i r d hr hd
  | [], _ :: _, h => by simp [wkCs] at h
  | _ :: _, [], h => by simp [wkCs] at h

def wkB (ρ : Rn) : Blk → Blk → Prop
  | _, .dead => True
  | .cells l, .cells l' => simL ρ l l'
  | .cells l, .ro l' => simL ρ l l'
  | .ro l, .ro l' => simL ρ l l'
  | .tab n cols rw, .tab n' cols' rw' => n' ≤ n ∧ (rw' = true → rw = true) ∧ wkCs n' cols cols'
  | _, _ => False

def wkN (w : Nat) : Blk → Prop
  | .tab n cols _ => n = 0 ∧ cols.length = w
  | _ => False

def wkH (ρ : Rn) (H : Heap) : Heap → Prop
  | [] => True
  | (k', b') :: t => (match ρ k' with
    | .old k => match look H k with
      | some b => wkB ρ b b'
      | none => False
    | .nil w => wkN w b') ∧ wkH ρ H t

theorem wkH_look {ρ : Rn} {H : Heap} : ∀ (H' : Heap), wkH ρ H H' → ∀ k' b', look H' k' = some b' →
    (∃ k b, ρ k' = .old k ∧ look H k = some b ∧ wkB ρ b b') ∨ (∃ w, ρ k' = .nil w ∧ wkN w b')
  | [], _, k', b', h => by cases h
  | (j, c) :: t, hw, k', b', h => by
    simp only [wkH] at hw
    simp only [look] at h
    split at h
    · rename_i hj
      have := Nat.eq_of_beq_eq_true hj
      subst this
      simp only [Option.some.injEq] at h; subst h
      have h1 := hw.1
      split at h1
      · rename_i k hk
        split at h1
        · rename_i b hb; exact .inl ⟨k, b, hk, hb, h1⟩
        · exact h1.elim
      · rename_i w hk; exact .inr ⟨w, hk, h1⟩
    · exact wkH_look t hw.2 k' b' h

theorem wkB_bsat {ρ : Rn} {σ : Sg} {w : World} {k k' : Nat} {b b' : Blk} (hb : bsat σ w k b) (hk : ρ k' = .old k) (h : wkB ρ b b') : bsat (rn ρ σ) w k' b' := by
  have he : rn ρ σ k' = σ k := by simp [rn, hk]
  have hcells : ∀ l l', simL ρ l l' → bsat σ w k (.cells l) → bsat (rn ρ σ) w k' (.cells l') := by
    intro l l' hs hb
    obtain ⟨h1, h2, h3, ty, fz, h4, h5⟩ := hb
    simp only [bsat, he]
    have hl := simL_length l l' hs
    exact ⟨h1, h2, by rw [h3, hl], ty, fz, by rw [← simL_den l l' hs]; exact h4, by rw [← hl]; exact h5⟩
  cases b' with
  | dead => trivial
  | cells l' =>
    cases b with
    | cells l => exact hcells l l' h hb
    | _ => exact h.elim
  | ro l' =>
    cases b with
    | cells l => exact hcells l l' h hb
    | ro l => exact hcells l l' h hb
    | _ => exact h.elim
  | tab n' cols' rw' =>
    cases b with
    | tab n cols rw =>
      obtain ⟨hn, hrw, hc⟩ := h
      obtain ⟨hlen, hget⟩ := wkCs_get _ _ hc
      obtain ⟨h1, h2, h3, h4, h5⟩ := hb
      simp only [bsat, he]
      refine ⟨by rw [h1, hlen], by omega, fun hq => by have := h3 hq; omega, fun r c col hr hcol => ?_, fun hq hp => ?_⟩
      · obtain ⟨c0, hc0, hg⟩ := hget c r col hr hcol
        rw [h4 r c c0 (by omega) hc0, hg σ, den_col (rn ρ σ) σ]
      · obtain ⟨a1, a2, arr, ty, fz, a3, a4, a5⟩ := h5 (hrw hq) hp
        exact ⟨a1, a2, arr, ty, fz, a3, by rw [← hlen]; exact a4, a5⟩
    | _ => exact h.elim

theorem wkB_ow {ρ : Rn} {e : Ent} {b b' : Blk} (h : wkB ρ b b') (ho : b'.ow e) : b.ow e := by
  cases b' with
  | dead => exact ho.elim
  | ro _ => exact ho.elim
  | cells l' =>
    cases b with
    | cells l => trivial
    | _ => exact h.elim
  | tab n' cols' rw' =>
    cases b with
    | tab n cols rw => exact ⟨h.2.1 ho.1, ho.2⟩
    | _ => exact h.elim

theorem wkB_live {ρ : Rn} {e : Ent} {b b' : Blk} (h : wkB ρ b b') (ho : b'.live e) : b.live e := by
  cases b' with
  | dead => exact ho.elim
  | ro _ =>
    cases b with
    | cells l => trivial
    | ro l => trivial
    | _ => exact h.elim
  | cells l' =>
    cases b with
    | cells l => trivial
    | _ => exact h.elim
  | tab n' cols' rw' =>
    cases b with
    | tab n cols rw =>
      rcases ho with ⟨h1, h2⟩ | ⟨h1, h2⟩
      · exact .inl ⟨h.2.1 h1, h2⟩
      · obtain ⟨hlen, _⟩ := wkCs_get _ _ h.2.2
        refine .inr ⟨by have := h.1; omega, fun e => h2 ?_⟩
        subst e
        cases cols' with
        | nil => rfl
        | cons _ _ => simp at hlen
    | _ => exact h.elim

theorem wkN_bsat {ρ : Rn} {σ : Sg} {w : World} {k' m : Nat} {b' : Blk} (hk : ρ k' = .nil m) (h : wkN m b') : bsat (rn ρ σ) w k' b' ∧ ¬ b'.live (rn ρ σ k') ∧ ¬ b'.ow (rn ρ σ k') := by
  have he : rn ρ σ k' = ⟨0, 0, m, 0, true⟩ := by simp [rn, hk]
  cases b' with
  | tab n cols rw =>
    obtain ⟨rfl, rfl⟩ := h
    rw [he]
    refine ⟨?_, ?_, ?_⟩
    · simp only [bsat, he]
      exact ⟨trivial, Nat.le_refl _, fun _ => trivial, fun r c col hr => by omega, fun _ hp => by omega⟩
    · rintro (⟨_, h'⟩ | ⟨h', _⟩)
      · exact absurd h' (by simp)
      · omega
    · rintro ⟨_, h'⟩
      exact absurd h' (by simp)
  | _ => exact h.elim

/-- the old names of what is told -/
def oldsOf (ρ : Rn) : Heap → List Nat
  | [] => []
  | (k', b') :: t => match b' with
    | .dead => oldsOf ρ t
    | _ => match ρ k' with
      | .old k => k :: oldsOf ρ t
      | .nil _ => oldsOf ρ t

def uniqN : List Nat → Bool
  | [] => true
  | x :: r => !mem r x && uniqN r

theorem oldsOf_mem {ρ : Rn} : ∀ (H' : Heap) (k' : Nat) (b' : Blk) (k : Nat), look H' k' = some b' → (∀ e, b' = .dead → e = 0) → ρ k' = .old k → b' ≠ .dead → mem (oldsOf ρ H') k = true
  | [], _, _, _, h, _, _, _ => by cases h
  | (j, c) :: t, k', b', k, h, hd, hk, hne => by
    simp only [look] at h
    split at h
    · rename_i hj
      have := Nat.eq_of_beq_eq_true hj
      subst this
      simp only [Option.some.injEq] at h; subst h
      cases c with
      | dead => exact absurd rfl hne
      | _ => simp only [oldsOf, hk, mem_cons, decide_true, Bool.true_or]
    · have := oldsOf_mem t k' b' k h hd hk hne
      cases c with
      | dead => exact this
      | _ =>
        simp only [oldsOf]
        split
        · rw [mem_cons, this, Bool.or_true]
        · exact this

theorem olds_uniq {ρ : Rn} : ∀ (H' : Heap), uniqN (oldsOf ρ H') = true → ∀ k1 b1 k2 b2 k, look H' k1 = some b1 → look H' k2 = some b2 → b1 ≠ .dead → b2 ≠ .dead → ρ k1 = .old k → ρ k2 = .old k → k1 = k2
  | [], _, _, _, _, _, _, h, _, _, _, _, _ => by cases h
  | (j, c) :: t, hu, k1, b1, k2, b2, k, h1, h2, d1, d2, e1, e2 => by
    have htail : uniqN (oldsOf ρ t) = true := by
      cases c with
      | dead => exact hu
      | _ =>
        simp only [oldsOf] at hu
        split at hu
        · simp only [uniqN, Bool.and_eq_true] at hu; exact hu.2
        · exact hu
    have hhead : ∀ b, look t k1 = some b ∨ look t k2 = some b → b ≠ .dead → c ≠ .dead → ρ j = .old k → False := by
      intro b hb hbd hcd hj
      have hm : mem (oldsOf ρ t) k = true := by
        rcases hb with hb | hb
        · exact oldsOf_mem t k1 b k hb (fun e h => absurd h hbd) e1 hbd
        · exact oldsOf_mem t k2 b k hb (fun e h => absurd h hbd) e2 hbd
      cases c with
      | dead => exact hcd rfl
      | _ =>
        simp only [oldsOf, hj, uniqN, Bool.and_eq_true, Bool.not_eq_true'] at hu
        rw [hm] at hu
        exact absurd hu.1 (by simp)
    simp only [look] at h1 h2
    split at h1
    · rename_i hj1
      have hj1 := Nat.eq_of_beq_eq_true hj1
      simp only [Option.some.injEq] at h1; subst h1
      split at h2
      · rename_i hj2; exact hj1.symm.trans (Nat.eq_of_beq_eq_true hj2)
      · exact (hhead b2 (.inr h2) d2 d1 (hj1 ▸ e1)).elim
    · split at h2
      · rename_i hj2
        have hj2 := Nat.eq_of_beq_eq_true hj2
        simp only [Option.some.injEq] at h2; subst h2
        exact (hhead b1 (.inl h1) d1 d2 (hj2 ▸ e2)).elim
      · exact olds_uniq t htail k1 b1 k2 b2 k h1 h2 d1 d2 e1 e2

theorem live_ne {b : Blk} {e : Ent} (h : b.live e) : b ≠ .dead := fun e' => by subst e'; exact h

theorem wk_heap {ρ : Rn} {σ : Sg} {H H' : Heap} {w : World} (h : HSat σ H w) (hw : wkH ρ H H') (hu : uniqN (oldsOf ρ H') = true) : HSat (rn ρ σ) H' w := by
  refine ⟨fun k' b' hk => ?_, fun k1 b1 k2 b2 h1 ho h2 hl hne => ?_⟩
  · rcases wkH_look H' hw k' b' hk with ⟨k, b, e, hb, hwk⟩ | ⟨m, e, hwk⟩
    · exact wkB_bsat (h.sat k b hb) e hwk
    · exact (wkN_bsat e hwk).1
  · rcases wkH_look H' hw k1 b1 h1 with ⟨j1, c1, e1, hb1, hwk1⟩ | ⟨m, e1, hwk1⟩
    · rcases wkH_look H' hw k2 b2 h2 with ⟨j2, c2, e2, hb2, hwk2⟩ | ⟨m, e2, hwk2⟩
      · have r1 : rn ρ σ k1 = σ j1 := by simp [rn, e1]
        have r2 : rn ρ σ k2 = σ j2 := by simp [rn, e2]
        rw [r1] at ho ⊢
        rw [r2] at hl ⊢
        refine h.dis j1 c1 j2 c2 hb1 (wkB_ow hwk1 ho) hb2 (wkB_live hwk2 hl) fun e => ?_
        subst e
        exact hne (olds_uniq H' hu k1 b1 k2 b2 j1 h1 h2 (live_ne (Blk.live_of_rw ho)) (live_ne hl) e1 e2)
      · exact absurd hl (wkN_bsat (w := w) e2 hwk2).2.1
    · exact absurd ho (wkN_bsat (w := w) e1 hwk1).2.2

theorem wk_wd {C : Ctx} {ρ : Rn} {σ : Sg} {H H' : Heap} {w : World} (h : Wd C σ H w) (hw : wkH ρ H H') (hρ : ∀ j, j < C.n0 → ρ j = .old j) : Wd C (rn ρ σ) H' w := by
  refine ⟨fun j hj => ?_, h.os, h.tape, h.output, h.size, h.old, fun k' b' hk ho => ?_, fun k' b' hk hl => ?_⟩
  · have hj' : j < C.n0 := by simpa [lt] using hj
    rw [← h.keep j hj]
    simp [rn, hρ j hj']
  · rcases wkH_look H' hw k' b' hk with ⟨k, b, e, hb, hwk⟩ | ⟨m, e, hwk⟩
    · have r : rn ρ σ k' = σ k := by simp [rn, e]
      rw [r] at ho ⊢
      exact h.own k b hb (wkB_ow hwk ho)
    · exact absurd ho (wkN_bsat (w := w) e hwk).2.2
  · rcases wkH_look H' hw k' b' hk with ⟨k, b, e, hb, hwk⟩ | ⟨m, e, hwk⟩
    · have r : rn ρ σ k' = σ k := by simp [rn, e]
      rw [r] at hl ⊢
      exact h.liv k b hb (wkB_live hwk hl)
    · exact absurd hl (wkN_bsat (w := w) e hwk).2.1

theorem wk_sat {C : Ctx} {ρ : Rn} {σ : Sg} {S S' : St} {a : Act} {w : World} (h : Sat C σ S a w) (hρ : ∀ j, j < C.n0 → ρ j = .old j) (hF : wkF ρ S.F S'.F) (hH : wkH ρ S.H S'.H)
    (hu : uniqN (oldsOf ρ S'.H) = true) (hfal : SV.alL (lt S'.nm) S'.F = true) (hhal : Ev.hal (lt S'.nm) S'.H = true) (hn : C.n0 ≤ S'.nm) : Sat C (rn ρ σ) S' a w := by
  obtain ⟨hlen, hget⟩ := wkF_get _ _ hF
  refine ⟨h.len.trans hlen, fun i x' hx hne => ?_, hfal, h.defers, wk_heap h.heap hH hu, hhal, hn, wk_wd h.wd hH hρ⟩
  obtain ⟨x, hx0, hwk⟩ := hget i x' hx
  obtain ⟨h1, h2⟩ := wkS_spec hwk hne
  rw [h.frame i x hx0 h1, h2]

theorem wk_ret {C : Ctx} {fn : Func} {ρ : Rn} {σ : Sg} {v v' : SV} {H H' : Heap} {a : Act} {w : World} (h : RetSat P C fn v H σ a w) (hρ : ∀ j, j < C.n0 → ρ j = .old j) (hv : sim ρ v v') (hH : wkH ρ H H')
    (hu : uniqN (oldsOf ρ H') = true) : RetSat P C fn v' H' (rn ρ σ) a w :=
  ⟨h.defers, by rw [← sim_den v v' hv]; exact h.res, wk_heap h.heap hH hu, wk_wd h.wd hH hρ⟩

/-! ### new names by a list -/
def rlook : List (Nat × Rf) → Nat → Option Rf
  | [], _ => none
  | (j, r) :: l, k => match Nat.beq j k with
    | true => some r
    | false => rlook l k

def rmap (l : List (Nat × Rf)) : Rn := fun k => match rlook l k with
  | some r => r
  | none => .old k

/-- names below n are let be -/
def rok (n : Nat) : List (Nat × Rf) → Bool
  | [] => true
  | (j, _) :: l => Nat.ble n j && rok n l

theorem rok_spec {n : Nat} : ∀ (l : List (Nat × Rf)), rok n l = true → ∀ j, j < n → rmap l j = .old j
  | [], _, j, _ => rfl
  | (i, r) :: l, h, j, hj => by
    simp only [rok, Bool.and_eq_true, Nat.ble_eq] at h
    have := rok_spec l h.2 j hj
    simp only [rmap, rlook] at this ⊢
    have hne : Nat.beq i j = false := by
      cases hb : Nat.beq i j with
      | true => have := Nat.eq_of_beq_eq_true hb; omega
      | false => rfl
    rw [hne]
    exact this

end Go.Ev
end

section
namespace Go.Ev
open Go.RowKit
variable {P : Program}

def layF : List Nat → List SV → List SV → List SV
  | k :: ks, v :: vs, F => layF ks vs (F.set k v)
  | _, _, F => F

structure Lp where
  /-- how many slots -/
  len : Nat
  /-- the slots that count -/
  ks : List Nat
  nm : Nat
  get : List SV → Heap → Option Tr

def stOf (s : Lp) (l : List SV) (H : Heap) : St := ⟨layF s.ks l (List.replicate s.len .any), H, s.nm, 0⟩

def exitT (s : Lp) (id : Nat) (l : List SV) (H : Heap) : Tr :=
  forceL (layF s.ks l (List.replicate s.len .any)) fun F => forceH H fun H => .exit id ⟨F, H, s.nm, 0⟩

theorem exitT_leaf (s : Lp) (id : Nat) (l : List SV) (H : Heap) : (exitT s id l H).leaf = .exit id (stOf s l H) := by
  simp only [exitT, forceL_eq, forceH_eq, Tr.leaf, stOf]

def runLp (s : Lp) (S : St) : Option Tr :=
  match Nat.beq S.F.length s.len with
  | true => forceL (slots S.F s.ks) fun vs => s.get vs S.H
  | false => none

def lookL : List (Nat × Lp) → Nat → Option Lp
  | [], _ => none
  | (j, s) :: l, n => match Nat.beq j n with
    | true => some s
    | false => lookL l n

def loopEnv (l : List (Nat × Lp)) : Nat → St → Option Tr := fun n S => match lookL l n with
  | some s => runLp s S
  | none => none

/-- a round -/
def evalB (E : Env) (P : Program) (res : List ResultVar) (c : Code) (n : Nat) (s : Lp) (l : List SV) (H : Heap) : Tr :=
  forceL (layF s.ks l (List.replicate s.len .any)) fun F => forceH H fun H => evalC E P res c n ⟨F, H, s.nm, 0⟩

theorem evalB_eq (E : Env) (P : Program) (res : List ResultVar) (c : Code) (n : Nat) (s : Lp) (l : List SV) (H : Heap) : evalB E P res c n s l H = evalC E P res c n (stOf s l H) := by
  simp only [evalB, forceL_eq, forceH_eq, stOf]

theorem wkF_set {ρ : Rn} : ∀ (F F0 : List SV) (k : Nat) (v : SV), wkF ρ F F0 → wkS ρ ((F[k]?).getD .any) v → wkF ρ F (F0.set k v)
  | [], [], _, _, _, _ => trivial
  | x :: F, y :: F0, 0, v, h, hv => ⟨hv, h.2⟩
  | x :: F, y :: F0, k + 1, v, h, hv => ⟨h.1, wkF_set F F0 k v h.2 hv⟩
  | [], _ :: _, _, _, h, _ => h.elim
  | _ :: _, [], _, _, h, _ => h.elim

theorem wkF_lay {ρ : Rn} {F : List SV} : ∀ (ks : List Nat) (l F0 : List SV), wkF ρ F F0 → wkF ρ (slots F ks) l → wkF ρ F (layF ks l F0)
  | [], [], F0, h, _ => h
  | k :: ks, v :: l, F0, h, hl => wkF_lay ks l _ (wkF_set F F0 k v h hl.1) hl.2
  | [], _ :: _, _, _, hl => hl.elim
  | _ :: _, [], _, _, hl => hl.elim

theorem wkF_anys {ρ : Rn} : ∀ (F : List SV), wkF ρ F (List.replicate F.length .any)
  | [] => trivial
  | x :: F => by
    simp only [List.length_cons, List.replicate_succ, wkF]
    exact ⟨by cases x <;> trivial, wkF_anys F⟩

theorem alL_replicate {p : Nat → Bool} (n : Nat) : SV.alL p (List.replicate n .any) = true := by
  induction n with
  | zero => rfl
  | succ n ih => simp only [List.replicate_succ, SV.alL, SV.al, ih, Bool.and_self]

theorem alL_lay {p : Nat → Bool} : ∀ (ks : List Nat) (l F0 : List SV), SV.alL p F0 = true → SV.alL p l = true → SV.alL p (layF ks l F0) = true
  | [], _, _, h, _ => by simpa [layF] using h
  | _ :: _, [], _, h, _ => by simpa [layF] using h
  | k :: ks, v :: l, F0, h, hl => by
    simp only [SV.alL, Bool.and_eq_true] at hl
    exact alL_lay ks l _ (alL_set hl.1 F0 k h) hl.2

def WkV (r : List (Nat × Rf)) (nm : Nat) (l : List SV) (H : Heap) (l' : List SV) (H' : Heap) : Prop :=
  rok base r = true ∧ wkF (rmap r) l l' ∧ wkH (rmap r) H H' ∧ uniqN (oldsOf (rmap r) H') = true ∧ (SV.alL (lt nm) l' && Ev.hal (lt nm) H') = true

def WkR (r : List (Nat × Rf)) (v : SV) (H : Heap) (v' : SV) (H' : Heap) : Prop :=
  rok base r = true ∧ sim (rmap r) v v' ∧ wkH (rmap r) H H' ∧ uniqN (oldsOf (rmap r) H') = true

theorem WkV.sat {C : Ctx} {σ : Sg} {S : St} {a : Act} {w : World} {r : List (Nat × Rf)} {s : Lp} {l' : List SV} {H' : Heap} (hk : WkV r s.nm (slots S.F s.ks) S.H l' H') (hlen : S.F.length = s.len) (hC : C.n0 ≤ base) (hnm : base ≤ s.nm)
    (h : Sat C σ S a w) : Sat C (rn (rmap r) σ) (stOf s l' H') a w := by
  obtain ⟨h1, h2, h3, h4, h5⟩ := hk
  simp only [Bool.and_eq_true] at h5
  refine wk_sat h (fun j hj => rok_spec r h1 j (Nat.lt_of_lt_of_le hj hC)) ?_ h3 h4 ?_ h5.2 (Nat.le_trans hC hnm)
  · refine wkF_lay s.ks l' _ ?_ h2
    rw [← hlen]
    exact wkF_anys S.F
  · exact alL_lay _ _ _ (alL_replicate _) h5.1

/-- what a loop comes to -/
def toLf (s : Lp) : Vw → Lf
  | .norm _ _ _ => .bad
  | .exit id _ l H => .exit id (stOf s l H)
  | .ret v H => .ret v H
  | .bad => .bad

def Round {α : Type} (s : Lp) (ok : α → Prop) (μ : α → Nat) (vs : α → List SV) (hp : α → Heap) (out : α → Vw) (x : α) : Vw → Prop
  | .norm n l H => n = s.len ∧ ∃ y r, ok y ∧ μ y < μ x ∧ out y = out x ∧ WkV r s.nm l H (vs y) (hp y)
  | .exit id n l H => n = s.len ∧ ∃ l' H' r, out x = .exit id s.len l' H' ∧ WkV r s.nm l H l' H'
  | .ret v H => ∃ v' H' r, out x = .ret v' H' ∧ WkR r v H v' H'
  | .bad => False

theorem toLf_cond {s : Lp} {b : Bool} {x y : Vw} : toLf s (bif b then x else y) = bif b then toLf s x else toLf s y := by cases b <;> rfl

theorem needs_ne {l : List Bool} {T : Tr} (h : (Tr.needs l T).leaf ≠ .bad) : allB l = true ∧ (Tr.needs l T).leaf = T.leaf := by
  rw [leaf_needs] at h ⊢
  cases hl : allB l with
  | true => exact ⟨rfl, by simp⟩
  | false => rw [hl] at h; exact absurd rfl h

theorem Round_cond {α : Type} {s : Lp} {ok : α → Prop} {μ : α → Nat} {vs : α → List SV} {hp : α → Heap} {out : α → Vw} {x : α} {b : Bool} {p q : Vw} (h1 : b = true → Round s ok μ vs hp out x p) (h2 : b = false → Round s ok μ vs hp out x q) :
    Round s ok μ vs hp out x (bif b then p else q) := by
  cases b with
  | true => exact h1 rfl
  | false => exact h2 rfl

/-- a loop: each round may be evaluated in an environment of its own -/
theorem loop_okE {E : Env} (hm : P.follows .mixedOrders = true) {fn : Func} {body : Code} {n : Nat} {s : Lp} (hs : ∀ S, E.loop n S = runLp s S) (hnm : base ≤ s.nm)
    {α : Type} (ok : α → Prop) (μ : α → Nat) (vs : α → List SV) (hp : α → Heap) (out : α → Vw)
    (entry : ∀ l H T, s.get l H = some T → T.leaf ≠ .bad → ∃ x r, ok x ∧ WkV r s.nm l H (vs x) (hp x) ∧ T.leaf = toLf s (out x))
    (round : ∀ x, ok x → ∃ E' : Env, CallsOk E' P ∧ LoopsOk E' P fn body (n + 1) ∧ Round s ok μ vs hp out x ((evalB E' P fn.results.toList body (n + 1) s (vs x) (hp x)).view s.ks)) : LoopOk E P fn n body := by
  intro S T hT C σ a w Q hC hsat hg
  rw [hs] at hT
  unfold runLp at hT
  split at hT
  · rename_i hlen
    have hlen := Nat.eq_of_beq_eq_true hlen
    rw [forceL_eq] at hT
    obtain ⟨x0, r0, hok0, hwk0, hleaf⟩ := entry _ _ _ hT (fun e => by rw [e] at hg; exact hg)
    rw [hleaf] at hg
    refine wp_loop_ghost (fun k a w => ∃ x σ, ok x ∧ μ x = k ∧ out x = out x0 ∧ Sat C σ (stOf s (vs x) (hp x)) a w) (μ x0) ⟨x0, _, hok0, rfl, rfl, hwk0.sat hlen hC hnm hsat⟩ ?_
    rintro k a w ⟨x, σ, hok, rfl, hout, hsat⟩
    obtain ⟨E', hE, hL, hr⟩ := round x hok
    rw [view_leaf, evalB_eq] at hr
    refine evalC_sound hE hm hC body (n + 1) _ _ σ a w hL hsat ?_
    generalize (evalC E' P fn.results.toList body (n + 1) (stOf s (vs x) (hp x))).leaf = lf at hr
    cases lf with
    | norm S1 =>
      obtain ⟨hl, y, r, hoky, hμ, hy, hwk⟩ := hr
      exact fun σ1 a1 w1 h1 => ⟨μ y, hμ, y, _, hoky, rfl, hy.trans hout, hwk.sat hl hC hnm h1⟩
    | exit id S1 =>
      obtain ⟨hl, l', H', r, hx, hwk⟩ := hr
      rw [← hout, hx] at hg
      exact fun σ1 a1 w1 h1 => hg _ a1 w1 (hwk.sat hl hC hnm h1)
    | ret v H1 =>
      obtain ⟨v', H', r, hx, hwk⟩ := hr
      rw [← hout, hx] at hg
      exact fun σ1 a1 w1 h1 => hg _ a1 w1 (wk_ret h1 (fun j hj => rok_spec r hwk.1 j (Nat.lt_of_lt_of_le hj hC)) hwk.2.1 hwk.2.2.1 hwk.2.2.2)
    | bad => exact hr.elim
  · cases hT

theorem loop_ok {E : Env} (hE : CallsOk E P) (hm : P.follows .mixedOrders = true) {fn : Func} {body : Code} {n : Nat} {s : Lp} (hs : ∀ S, E.loop n S = runLp s S) (hnm : base ≤ s.nm) (hL : LoopsOk E P fn body (n + 1))
    {α : Type} (ok : α → Prop) (μ : α → Nat) (vs : α → List SV) (hp : α → Heap) (out : α → Vw)
    (entry : ∀ l H T, s.get l H = some T → T.leaf ≠ .bad → ∃ x r, ok x ∧ WkV r s.nm l H (vs x) (hp x) ∧ T.leaf = toLf s (out x))
    (round : ∀ x, ok x → Round s ok μ vs hp out x ((evalB E P fn.results.toList body (n + 1) s (vs x) (hp x)).view s.ks)) : LoopOk E P fn n body :=
  loop_okE hm hs hnm ok μ vs hp out entry fun x hx => ⟨E, hE, hL, round x hx⟩

end Go.Ev
end

section
namespace Go.Ev
open Go.RowKit
variable {P : Program}

mutual
def mapN (cl : Bool) (f : Nat → Option Nat) : SV → Option SV
  | .ptr k r c => match f k with
    | some k => some (.ptr k r c)
    | none => none
  | .sl k n => match f k with
    | some k => some (.sl k n)
    | none => none
  | .mp k => match f k with
    | some k => some (.mp k)
    | none => none
  | .fn g l => match mapL cl f l with
    | some l => some (.fn g l)
    | none => none
  | .agg l => match mapL cl f l with
    | some l => some (.agg l)
    | none => none
  | .tup l => match mapL cl f l with
    | some l => some (.tup l)
    | none => none
  | .any => some .any
  | .int l k n => some (.int (cl && l) k n)
  | .bool l b => some (.bool (cl && l) b)
  | .str s => some (.str s)
  | .val v => some (.val v)
def mapL (cl : Bool) (f : Nat → Option Nat) : List SV → Option (List SV)
  | [] => some []
  | x :: r => match mapN cl f x, mapL cl f r with
    | some x, some r => some (x :: r)
    | _, _ => none
end

def mapB (cl : Bool) (f : Nat → Option Nat) : Blk → Option Blk
  | .cells l => match mapL cl f l with
    | some l => some (.cells l)
    | none => none
  | .ro l => match mapL cl f l with
    | some l => some (.ro l)
    | none => none
  | .tab n cols rw => some (.tab n cols rw)
  | .dead => some .dead

def mapH (cl : Bool) (f : Nat → Option Nat) : Heap → Option Heap
  | [] => some []
  | (k, b) :: t => match f k, mapB cl f b, mapH cl f t with
    | some k, some b, some t => some ((k, b) :: t)
    | _, _, _ => none

mutual
theorem mapN_den {cl : Bool} {f : Nat → Option Nat} {σ τ : Sg} (h : ∀ k k', f k = some k' → σ k' = τ k) : ∀ (x x' : SV), mapN cl f x = some x' → den σ x' = den τ x
  | .ptr k r c, x', e => by
    simp only [mapN] at e; split at e
    · rename_i k' hk; simp only [Option.some.injEq] at e; subst e; simp only [den, h k k' hk]
    · cases e
  | .sl k n, x', e => by
    simp only [mapN] at e; split at e
    · rename_i k' hk; simp only [Option.some.injEq] at e; subst e; simp only [den, h k k' hk]
    · cases e
  | .mp k, x', e => by
    simp only [mapN] at e; split at e
    · rename_i k' hk; simp only [Option.some.injEq] at e; subst e; simp only [den, h k k' hk]
    · cases e
  | .fn g l, x', e => by
    simp only [mapN] at e; split at e
    · rename_i l' hl; simp only [Option.some.injEq] at e; subst e; simp only [den, mapL_den h l l' hl]
    · cases e
  | .agg l, x', e => by
    simp only [mapN] at e; split at e
    · rename_i l' hl; simp only [Option.some.injEq] at e; subst e; simp only [den, mapL_den h l l' hl]
    · cases e
  | .tup l, x', e => by
    simp only [mapN] at e; split at e
    · rename_i l' hl; simp only [Option.some.injEq] at e; subst e; simp only [den, mapL_den h l l' hl]
    · cases e
  | .any, x', e => by simp only [mapN, Option.some.injEq] at e; subst e; simp only [den]
  | .int _ _ _, x', e => by simp only [mapN, Option.some.injEq] at e; subst e; simp only [den]
  | .bool _ _, x', e => by simp only [mapN, Option.some.injEq] at e; subst e; simp only [den]
  | .str _, x', e => by simp only [mapN, Option.some.injEq] at e; subst e; simp only [den]
  | .val _, x', e => by simp only [mapN, Option.some.injEq] at e; subst e; simp only [den]
theorem mapL_den {cl : Bool} {f : Nat → Option Nat} {σ τ : Sg} (h : ∀ k k', f k = some k' → σ k' = τ k) : ∀ (x x' : List SV), mapL cl f x = some x' → denL σ x' = denL τ x
  | [], x', e => by simp only [mapL, Option.some.injEq] at e; subst e; simp only [denL]
  | x :: r, x', e => by
    simp only [mapL] at e; split at e
    · rename_i y s hy hs; simp only [Option.some.injEq] at e; subst e; simp only [denL, mapN_den h x y hy, mapL_den h r s hs]
    · cases e
end

mutual
theorem mapN_al {cl : Bool} {f : Nat → Option Nat} {p : Nat → Bool} (h : ∀ k k', f k = some k' → p k' = true) : ∀ (x x' : SV), mapN cl f x = some x' → x'.al p = true
  | .ptr k r c, x', e => by
    simp only [mapN] at e; split at e
    · rename_i k' hk; simp only [Option.some.injEq] at e; subst e; simp only [SV.al, h k k' hk]
    · cases e
  | .sl k n, x', e => by
    simp only [mapN] at e; split at e
    · rename_i k' hk; simp only [Option.some.injEq] at e; subst e; simp only [SV.al, h k k' hk]
    · cases e
  | .mp k, x', e => by
    simp only [mapN] at e; split at e
    · rename_i k' hk; simp only [Option.some.injEq] at e; subst e; simp only [SV.al, h k k' hk]
    · cases e
  | .fn g l, x', e => by
    simp only [mapN] at e; split at e
    · rename_i l' hl; simp only [Option.some.injEq] at e; subst e; simp only [SV.al, mapL_al h l l' hl]
    · cases e
  | .agg l, x', e => by
    simp only [mapN] at e; split at e
    · rename_i l' hl; simp only [Option.some.injEq] at e; subst e; simp only [SV.al, mapL_al h l l' hl]
    · cases e
  | .tup l, x', e => by
    simp only [mapN] at e; split at e
    · rename_i l' hl; simp only [Option.some.injEq] at e; subst e; simp only [SV.al, mapL_al h l l' hl]
    · cases e
  | .any, x', e => by simp only [mapN, Option.some.injEq] at e; subst e; rfl
  | .int _ _ _, x', e => by simp only [mapN, Option.some.injEq] at e; subst e; rfl
  | .bool _ _, x', e => by simp only [mapN, Option.some.injEq] at e; subst e; rfl
  | .str _, x', e => by simp only [mapN, Option.some.injEq] at e; subst e; rfl
  | .val _, x', e => by simp only [mapN, Option.some.injEq] at e; subst e; rfl
theorem mapL_al {cl : Bool} {f : Nat → Option Nat} {p : Nat → Bool} (h : ∀ k k', f k = some k' → p k' = true) : ∀ (x x' : List SV), mapL cl f x = some x' → SV.alL p x' = true
  | [], x', e => by simp only [mapL, Option.some.injEq] at e; subst e; rfl
  | x :: r, x', e => by
    simp only [mapL] at e; split at e
    · rename_i y s hy hs; simp only [Option.some.injEq] at e; subst e; simp only [SV.alL, mapN_al h x y hy, mapL_al h r s hs, Bool.and_self]
    · cases e
end

theorem mapB_bsat {cl : Bool} {f : Nat → Option Nat} {σ τ : Sg} {w : World} (h : ∀ k k', f k = some k' → σ k' = τ k) {k k' : Nat} {b b' : Blk} (hk : f k = some k') (hb : mapB cl f b = some b') (hs : bsat τ w k b) : bsat σ w k' b' := by
  have he := h k k' hk
  cases b with
  | cells l =>
    simp only [mapB] at hb; split at hb
    · rename_i l' hl
      simp only [Option.some.injEq] at hb; subst hb
      obtain ⟨h1, h2, h3, ty, fz, h4, h5⟩ := hs
      have hd := mapL_den h l l' hl
      have hlen : l'.length = l.length := by have := congrArg List.length hd; simpa [denL_length] using this
      simp only [bsat, he]
      exact ⟨h1, h2, h3.trans hlen.symm, ty, fz, by rw [hd]; exact h4, by rw [hlen]; exact h5⟩
    · cases hb
  | ro l =>
    simp only [mapB] at hb; split at hb
    · rename_i l' hl
      simp only [Option.some.injEq] at hb; subst hb
      obtain ⟨h1, h2, h3, ty, fz, h4, h5⟩ := hs
      have hd := mapL_den h l l' hl
      have hlen : l'.length = l.length := by have := congrArg List.length hd; simpa [denL_length] using this
      simp only [bsat, he]
      exact ⟨h1, h2, h3.trans hlen.symm, ty, fz, by rw [hd]; exact h4, by rw [hlen]; exact h5⟩
    · cases hb
  | tab n cols rw =>
    simp only [mapB, Option.some.injEq] at hb; subst hb
    obtain ⟨h1, h2, h3, h4, h5⟩ := hs
    simp only [bsat, he]
    exact ⟨h1, h2, h3, fun r c col hr hc => by rw [den_col τ]; exact h4 r c col hr hc, h5⟩
  | dead => simp only [mapB, Option.some.injEq] at hb; subst hb; trivial

theorem mapB_ow {cl : Bool} {f : Nat → Option Nat} {e : Ent} {b b' : Blk} (hb : mapB cl f b = some b') : (b'.ow e ↔ b.ow e) ∧ (b'.live e ↔ b.live e) ∧ b'.rw = b.rw := by
  cases b with
  | cells l =>
    simp only [mapB] at hb; split at hb
    · simp only [Option.some.injEq] at hb; subst hb; exact ⟨Iff.rfl, Iff.rfl, rfl⟩
    · cases hb
  | ro l =>
    simp only [mapB] at hb; split at hb
    · simp only [Option.some.injEq] at hb; subst hb; exact ⟨Iff.rfl, Iff.rfl, rfl⟩
    · cases hb
  | tab n cols rw => simp only [mapB, Option.some.injEq] at hb; subst hb; exact ⟨Iff.rfl, Iff.rfl, rfl⟩
  | dead => simp only [mapB, Option.some.injEq] at hb; subst hb; exact ⟨Iff.rfl, Iff.rfl, rfl⟩

theorem mapH_look {cl : Bool} {f : Nat → Option Nat} (hinj : ∀ j k i, f j = some i → f k = some i → j = k) : ∀ (H H' : Heap), mapH cl f H = some H' → ∀ k k', f k = some k' → (∀ b', look H' k' = some b' → ∃ b, look H k = some b ∧ mapB cl f b = some b') ∧ (∀ b, look H k = some b → ∃ b', look H' k' = some b' ∧ mapB cl f b = some b')
  | [], H', e, k, k', _ => by
    simp only [mapH, Option.some.injEq] at e; subst e
    exact ⟨fun b' h => (by cases h), fun b h => (by cases h)⟩
  | (j, c) :: t, H', e, k, k', hk => by
    simp only [mapH] at e; split at e
    · rename_i j' c' t' hj hc ht
      simp only [Option.some.injEq] at e; subst e
      obtain ⟨ih1, ih2⟩ := mapH_look hinj t t' ht k k' hk
      simp only [look]
      by_cases hjk : j = k
      · subst hjk
        rw [hj] at hk; simp only [Option.some.injEq] at hk; subst hk
        have r1 : Nat.beq j' j' = true := Nat.beq_refl j'
        have r2 : Nat.beq j j = true := Nat.beq_refl j
        simp only [r1, r2]
        exact ⟨fun b' h => by simp only [Option.some.injEq] at h; subst h; exact ⟨c, rfl, hc⟩, fun b h => by simp only [Option.some.injEq] at h; subst h; exact ⟨c', rfl, hc⟩⟩
      · have hjk' : j' ≠ k' := fun e => hjk (hinj j k k' (e ▸ hj) hk)
        have r1 : Nat.beq j' k' = false := by cases hb : Nat.beq j' k' with | true => exact absurd (Nat.eq_of_beq_eq_true hb) hjk' | false => rfl
        have r2 : Nat.beq j k = false := by cases hb : Nat.beq j k with | true => exact absurd (Nat.eq_of_beq_eq_true hb) hjk | false => rfl
        simp only [r1, r2]
        exact ⟨ih1, ih2⟩
    · cases e

/-- every name of the heap that comes out stands for one -/
theorem mapH_from {cl : Bool} {f : Nat → Option Nat} : ∀ (H H' : Heap), mapH cl f H = some H' → ∀ k' b', look H' k' = some b' → ∃ k, f k = some k'
  | [], H', e, k', b', h => by simp only [mapH, Option.some.injEq] at e; subst e; cases h
  | (j, c) :: t, H', e, k', b', h => by
    simp only [mapH] at e; split at e
    · rename_i j' c' t' hj hc ht
      simp only [Option.some.injEq] at e; subst e
      simp only [look] at h
      split at h
      · rename_i hb; exact ⟨j, by rw [hj, Nat.eq_of_beq_eq_true hb]⟩
      · exact mapH_from t t' ht k' b' h
    · cases e

theorem mapH_to {cl : Bool} {f : Nat → Option Nat} : ∀ (H H' : Heap), mapH cl f H = some H' → ∀ k b, look H k = some b → ∃ k', f k = some k'
  | [], H', e, k, b, h => by cases h
  | (j, c) :: t, H', e, k, b, h => by
    simp only [mapH] at e; split at e
    · rename_i j' c' t' hj hc ht
      simp only [look] at h
      split at h
      · rename_i hb; exact ⟨j', by rw [← Nat.eq_of_beq_eq_true hb, hj]⟩
      · exact mapH_to t t' ht k b h
    · cases e

theorem mapH_sat {cl : Bool} {f : Nat → Option Nat} {σ τ : Sg} {w : World} (hinj : ∀ j k i, f j = some i → f k = some i → j = k) (h : ∀ k k', f k = some k' → σ k' = τ k) {H H' : Heap} (hH : mapH cl f H = some H') (hs : HSat τ H w) : HSat σ H' w := by
  refine ⟨fun k' b' hk => ?_, fun k1 b1 k2 b2 h1 ho h2 hl hne => ?_⟩
  · obtain ⟨k, hf⟩ := mapH_from H H' hH k' b' hk
    obtain ⟨b, hb, hm⟩ := (mapH_look hinj H H' hH k k' hf).1 b' hk
    exact mapB_bsat h hf hm (hs.sat k b hb)
  · obtain ⟨j1, f1⟩ := mapH_from H H' hH k1 b1 h1
    obtain ⟨j2, f2⟩ := mapH_from H H' hH k2 b2 h2
    obtain ⟨c1, g1, m1⟩ := (mapH_look hinj H H' hH j1 k1 f1).1 b1 h1
    obtain ⟨c2, g2, m2⟩ := (mapH_look hinj H H' hH j2 k2 f2).1 b2 h2
    rw [h j1 k1 f1] at ho ⊢
    rw [h j2 k2 f2] at hl ⊢
    refine hs.dis j1 c1 j2 c2 g1 ((mapB_ow m1).1.1 ho) g2 ((mapB_ow m2).2.1.1 hl) fun e => hne ?_
    subst e
    rw [f1] at f2; simpa using f2

theorem mapH_hal {cl : Bool} {f : Nat → Option Nat} {p : Nat → Bool} (h : ∀ k k', f k = some k' → p k' = true) : ∀ (H H' : Heap), mapH cl f H = some H' → Ev.hal p H' = true
  | [], H', e => by simp only [mapH, Option.some.injEq] at e; subst e; rfl
  | (j, c) :: t, H', e => by
    simp only [mapH] at e; split at e
    · rename_i j' c' t' hj hc ht
      simp only [Option.some.injEq] at e; subst e
      simp only [Ev.hal, h j j' hj, mapH_hal h t t' ht, Bool.true_and, Bool.and_true]
      cases c with
      | cells l =>
        simp only [mapB] at hc; split at hc
        · rename_i l' hl; simp only [Option.some.injEq] at hc; subst hc; exact mapL_al h l l' hl
        · cases hc
      | ro l =>
        simp only [mapB] at hc; split at hc
        · rename_i l' hl; simp only [Option.some.injEq] at hc; subst hc; exact mapL_al h l l' hl
        · cases hc
      | tab n cols rw => simp only [mapB, Option.some.injEq] at hc; subst hc; rfl
      | dead => simp only [mapB, Option.some.injEq] at hc; subst hc; rfl
    · cases e

/-! ### names by number -/
def idx : List Nat → Nat → Nat → Option Nat
  | [], _, _ => none
  | x :: r, k, i => match Nat.beq x k with
    | true => some i
    | false => idx r k (i + 1)

theorem idx_spec : ∀ (l : List Nat) (k i j : Nat), idx l k i = some j → i ≤ j ∧ l[j - i]? = some k
  | [], _, _, _, h => by cases h
  | x :: r, k, i, j, h => by
    simp only [idx] at h
    split at h
    · rename_i hb
      simp only [Option.some.injEq] at h; subst h
      simp [Nat.eq_of_beq_eq_true hb]
    · obtain ⟨h1, h2⟩ := idx_spec r k (i + 1) j h
      refine ⟨by omega, ?_⟩
      rw [show j - i = (j - (i + 1)) + 1 by omega]
      simpa using h2

def bk (ns : List Nat) (nm k : Nat) : Option Nat :=
  match Nat.blt k base with
  | true => ns[k]?
  | false => match Nat.blt k (base + 16) with
    | true => some (nm + (k - base))
    | false => none

def namesH : Heap → List Nat
  | [] => []
  | (k, _) :: t => k :: namesH t

def isDead : Blk → Bool
  | .dead => true
  | _ => false

def allTold : Heap → Bool
  | [] => true
  | (_, b) :: t => (b.rw || isDead b) && allTold t
def allIn (U : List Nat) : Heap → Bool
  | [] => true
  | (k, b) :: t => (!b.rw || mem U k) && allIn U t

def specC (cl : Bool) (g : List SV → Heap → Option R) : Spec := fun args H nm =>
  forceNs (namesH H) fun ns => match uniqN ns && Nat.ble ns.length base with
    | true => match mapL cl (fun k => idx ns k 0) args, mapH cl (fun k => idx ns k 0) H with
      | some a0, some H0 => forceL a0 fun a0 => forceH H0 fun H0 => match g a0 H0 with
        | some r => forceNs (namesH r.upd) fun U => match uniqN U && (allTold r.upd || allIn U H0), mapN true (bk ns nm) r.sv, mapH true (bk ns nm) r.upd with
          | true, some sv, some upd => some ⟨r.need, sv, upd⟩
          | _, _, _ => none
        | none => none
      | _, _ => none
    | false => none

/-- arguments come with their flags struck -/
def specOf (g : List SV → Heap → Option R) : Spec := specC false g

/-- what is not written is read alone -/
def roB : Blk → Blk
  | .cells l => .ro l
  | .tab n cols _ => .tab n cols false
  | b => b

def roH (U : List Nat) : Heap → Heap
  | [] => []
  | (k, b) :: t => (k, match mem U k with
    | true => b
    | false => roB b) :: roH U t

def GivesR (r : R) : Lf → Prop
  | .ret v H' => ∃ l, rok base l = true ∧ sim (rmap l) v r.sv ∧ wkH (rmap l) H' r.upd ∧ uniqN (oldsOf (rmap l) r.upd) = true
  | _ => False

/-- likewise, what it is alone -/
def GivesD (r : R) : Lf → Prop
  | .ret v H' => ∃ l, rok base l = true ∧ (∀ σ, den σ v = den (rn (rmap l) σ) r.sv) ∧ wkH (rmap l) H' r.upd ∧ uniqN (oldsOf (rmap l) r.upd) = true
  | _ => False

theorem GivesR.giv {r : R} {x : Lf} (h : GivesR r x) : GivesD r x := by
  cases x with
  | ret v H' => obtain ⟨l, h1, h2, h3, h4⟩ := h; exact ⟨l, h1, fun σ => sim_den v r.sv h2 σ, h3, h4⟩
  | _ => exact h.elim

theorem gives_giv {x : Lf} {s : SV} {n : List Bool} (h : x.gives s) : GivesD ⟨n, s, []⟩ x := by
  cases x with
  | ret v H' => exact ⟨[], rfl, fun σ => h _ _, trivial, rfl⟩
  | _ => exact h.elim

theorem GivesR_cond {r : R} {b : Bool} {x y : Lf} (h1 : b = true → GivesR r x) (h2 : b = false → GivesR r y) : GivesR r (bif b then x else y) := by
  cases b with
  | true => exact h1 rfl
  | false => exact h2 rfl

theorem forceNs_eq {α : Sort _} (l : List Nat) (f : List Nat → α) : forceNs l f = f l := by
  induction l generalizing f with
  | nil => rfl
  | cons x r ih => simp only [forceNs, forceN_eq, ih]

theorem look_roH (U : List Nat) : ∀ (H : Heap) (k : Nat), look (roH U H) k = (look H k).map fun b => match mem U k with | true => b | false => roB b
  | [], _ => rfl
  | (j, c) :: t, k => by
    simp only [roH, look]
    cases hj : Nat.beq j k with
    | true => have := Nat.eq_of_beq_eq_true hj; subst this; simp
    | false => simpa using look_roH U t k

theorem roB_ow {b : Blk} {e : Ent} (h : (roB b).ow e) : False := by
  cases b with
  | cells l => exact h
  | ro l => exact h
  | tab n c rw => cases h.1
  | dead => exact h

theorem roB_live {b : Blk} {e : Ent} (h : (roB b).live e) : b.live e := by
  cases b with
  | cells l => trivial
  | ro l => trivial
  | tab n c rw =>
    rcases h with ⟨h, _⟩ | h
    · cases h
    · exact .inr h
  | dead => exact h

theorem roB_bsat {σ : Sg} {w : World} {k : Nat} {b : Blk} (h : bsat σ w k b) : bsat σ w k (roB b) := by
  cases b with
  | cells l => exact h
  | ro l => exact h
  | tab n c rw => exact ⟨h.1, h.2.1, h.2.2.1, h.2.2.2.1, fun e => (by cases e)⟩
  | dead => exact h

theorem roB_al {p : Nat → Bool} {b : Blk} (h : b.al p = true) : (roB b).al p = true := by
  cases b <;> exact h

theorem roH_hal {p : Nat → Bool} (U : List Nat) : ∀ (H : Heap), Ev.hal p H = true → Ev.hal p (roH U H) = true
  | [], _ => rfl
  | (j, c) :: t, h => by
    simp only [Ev.hal, Bool.and_eq_true] at h
    simp only [roH, Ev.hal, Bool.and_eq_true]
    refine ⟨⟨h.1.1, ?_⟩, roH_hal U t h.2⟩
    split
    · exact h.1.2
    · exact roB_al h.1.2

theorem roH_sat {σ : Sg} {w : World} (U : List Nat) {H : Heap} (h : HSat σ H w) : HSat σ (roH U H) w := by
  refine ⟨fun k b hk => ?_, fun k1 b1 k2 b2 h1 ho h2 hl hne => ?_⟩
  · rw [look_roH] at hk
    cases hb : look H k with
    | none => rw [hb] at hk; cases hk
    | some c =>
      rw [hb] at hk
      simp only [Option.map_some, Option.some.injEq] at hk
      split at hk
      · subst hk; exact h.sat k c hb
      · subst hk; exact roB_bsat (h.sat k c hb)
  · rw [look_roH] at h1 h2
    cases hb1 : look H k1 with
    | none => rw [hb1] at h1; cases h1
    | some c1 =>
      cases hb2 : look H k2 with
      | none => rw [hb2] at h2; cases h2
      | some c2 =>
        rw [hb1] at h1; rw [hb2] at h2
        simp only [Option.map_some, Option.some.injEq] at h1 h2
        have ho1 : c1.ow (σ k1) := by
          split at h1
          · subst h1; exact ho
          · subst h1; exact (roB_ow ho).elim
        have hl2 : c2.live (σ k2) := by
          split at h2
          · subst h2; exact hl
          · subst h2; exact roB_live hl
        exact h.dis k1 c1 k2 c2 hb1 ho1 hb2 hl2 hne

theorem namesH_mem : ∀ (H : Heap) (k : Nat), mem (namesH H) k = true ↔ look H k ≠ none
  | [], k => by simp [namesH, mem, look]
  | (j, c) :: t, k => by
    simp only [namesH, look, mem_cons]
    cases hj : Nat.beq j k with
    | true => have := Nat.eq_of_beq_eq_true hj; subst this; simp
    | false =>
      have := Nat.ne_of_beq_eq_false hj
      simp [Ne.symm this, namesH_mem t k]

theorem uniqN_pair : ∀ (H : Heap), uniqN (namesH H) = true → H.Pairwise (fun x y => x.1 ≠ y.1)
  | [], _ => List.Pairwise.nil
  | (j, c) :: t, h => by
    simp only [namesH, uniqN, Bool.and_eq_true, Bool.not_eq_true'] at h
    refine List.Pairwise.cons (fun y hy e => ?_) (uniqN_pair t h.2)
    have : mem (namesH t) j = true := by
      rw [namesH_mem]
      obtain ⟨j', c'⟩ := y
      simp only at e; subst e
      clear h
      induction t with
      | nil => cases hy
      | cons z t ih =>
        obtain ⟨i, d⟩ := z
        simp only [look]
        cases hb : Nat.beq i j with
        | true => simp
        | false =>
          rcases List.mem_cons.1 hy with e | hy
          · simp only [Prod.mk.injEq] at e; obtain ⟨rfl, _⟩ := e; rw [Nat.beq_refl] at hb; cases hb
          · exact ih hy
    rw [this] at h; exact absurd h.1 (by simp)

theorem uniqN_get : ∀ (l : List Nat), uniqN l = true → ∀ (i j k : Nat), l[i]? = some k → l[j]? = some k → i = j
  | [], _, i, j, k, h, _ => by simp at h
  | x :: r, h, i, j, k, hi, hj => by
    simp only [uniqN, Bool.and_eq_true, Bool.not_eq_true'] at h
    have hmem : ∀ (n : Nat), r[n]? = some x → False := fun n hn => by
      have : mem r x = true := by
        clear h hi hj
        induction r generalizing n with
        | nil => simp at hn
        | cons y r ih =>
          rw [mem_cons]
          cases n with
          | zero => simp only [List.getElem?_cons_zero, Option.some.injEq] at hn; simp [hn]
          | succ n => simp only [List.getElem?_cons_succ] at hn; simp [ih n hn]
      rw [this] at h; exact absurd h.1 (by simp)
    cases i with
    | zero =>
      cases j with
      | zero => rfl
      | succ j =>
        simp only [List.getElem?_cons_zero, Option.some.injEq] at hi; subst hi
        simp only [List.getElem?_cons_succ] at hj
        exact (hmem j hj).elim
    | succ i =>
      cases j with
      | zero =>
        simp only [List.getElem?_cons_zero, Option.some.injEq] at hj; subst hj
        simp only [List.getElem?_cons_succ] at hi
        exact (hmem i hi).elim
      | succ j =>
        simp only [List.getElem?_cons_succ] at hi hj
        rw [uniqN_get r h.2 i j k hi hj]

theorem namesH_lt {p : Nat → Bool} : ∀ (H : Heap), Ev.hal p H = true → ∀ (i k : Nat), (namesH H)[i]? = some k → p k = true
  | [], _, i, k, h => by simp [namesH] at h
  | (j, c) :: t, hh, i, k, h => by
    simp only [Ev.hal, Bool.and_eq_true] at hh
    cases i with
    | zero => simp only [namesH, List.getElem?_cons_zero, Option.some.injEq] at h; subst h; exact hh.1.1
    | succ i => simp only [namesH, List.getElem?_cons_succ] at h; exact namesH_lt t hh.2 i k h

theorem allTold_look : ∀ (H : Heap), allTold H = true → ∀ k b, look H k = some b → b.rw = true ∨ b = .dead
  | [], _, k, b, h => by cases h
  | (j, c) :: t, hh, k, b, h => by
    simp only [allTold, Bool.and_eq_true, Bool.or_eq_true] at hh
    simp only [look] at h
    split at h
    · simp only [Option.some.injEq] at h; subst h
      rcases hh.1 with h1 | h1
      · exact .inl h1
      · right; cases c <;> simp_all [isDead]
    · exact allTold_look t hh.2 k b h

theorem allIn_look (U : List Nat) : ∀ (H : Heap), allIn U H = true → ∀ k b, look H k = some b → b.rw = true → mem U k = true
  | [], _, k, b, h, _ => by cases h
  | (j, c) :: t, hh, k, b, h, hr => by
    simp only [allIn, Bool.and_eq_true, Bool.or_eq_true, Bool.not_eq_true'] at hh
    simp only [look] at h
    split at h
    · rename_i hb
      simp only [Option.some.injEq] at h; subst h
      rcases hh.1 with h1 | h1
      · rw [hr] at h1; cases h1
      · rwa [Nat.eq_of_beq_eq_true hb] at h1
    · exact allIn_look U t hh.2 k b h hr

theorem rw_live_ow {σ : Sg} {w : World} {k : Nat} {b : Blk} (hb : bsat σ w k b) (hr : b.rw = true) (hl : b.live (σ k)) : b.ow (σ k) := by
  cases b with
  | cells l => trivial
  | ro l => cases hr
  | tab n c rw =>
    refine ⟨hr, ?_⟩
    rcases hl with ⟨_, h⟩ | ⟨h, _⟩
    · exact h
    · have := hb.2.1; omega
  | dead => exact hl

theorem spec_okB (cl : Bool) (hm : P.follows .mixedOrders = true) {f : FuncId} {fn : Func} {c : Code} (hf : P.funcs[f]? = some fn) (hb : fn.body = some c) (hname : (fn.name == "runtime.NumGoroutine") = false)
    (g : List SV → Heap → Option R) (h : ∀ a0 H0 r, g a0 H0 = some r → allB r.need = true → ∃ E a1, CallsOk E P ∧ LoopsOk E P fn c 0 ∧ (SV.alL (lt base) a0 = true → SV.alL (lt base) a1 = true) ∧ (∀ σ, denL σ a1 = denL σ a0) ∧ GivesD r (evalF E P f a1 (roH (namesH r.upd) H0) base).leaf) : SpecOk P f (specC cl g) := by
  refine ⟨⟨fn, hf, by rw [hb]; rfl, hname⟩, fun args H nm r hr hneed => ?_⟩
  simp only [specC, forceNs_eq, forceL_eq, forceH_eq] at hr
  split at hr
  case h_2 => cases hr
  rename_i hns
  simp only [Bool.and_eq_true, Nat.ble_eq] at hns
  obtain ⟨huniq, hnsl⟩ := hns
  split at hr
  case h_2 => cases hr
  rename_i a0 H0 hmapA hmapH
  split at hr
  case h_2 => cases hr
  rename_i r0 hg
  split at hr
  case h_2 => cases hr
  rename_i sv upd hchk hsv hupd
  simp only [Bool.and_eq_true] at hchk
  obtain ⟨hU, hcov⟩ := hchk
  simp only [Option.some.injEq] at hr; subst hr
  obtain ⟨E, a1, hE, hL, ha1, hd1, hgives⟩ := h a0 H0 r0 hg hneed
  intro σ w hs hH ha
  -- the callee's names
  have hcinj : ∀ j k i, idx (namesH H) j 0 = some i → idx (namesH H) k 0 = some i → j = k := by
    intro j k i h1 h2
    have h1 := (idx_spec _ _ _ _ h1).2
    have h2 := (idx_spec _ _ _ _ h2).2
    rw [h1] at h2; simpa using h2
  have hσ0 : ∃ σ0 : Sg, ∀ k i, (namesH H)[i]? = some k → σ0 i = σ k := by
    refine ⟨fun i => match (namesH H)[i]? with | some k => σ k | none => σ i, fun k i h => ?_⟩
    simp only [h]
  obtain ⟨σ0, hσ0⟩ := hσ0
  have hσc : ∀ k i, idx (namesH H) k 0 = some i → σ0 i = σ k := fun k i hi => hσ0 k i (by simpa using (idx_spec _ _ _ _ hi).2)
  have hlt : ∀ k i, idx (namesH H) k 0 = some i → lt base i = true := by
    intro k i hi
    have := (idx_spec _ _ _ _ hi).2
    simp only [Nat.sub_zero] at this
    have := (List.getElem?_eq_some_iff.1 this).1
    simp only [lt, Nat.blt_eq]; omega
  have hs0 : HSat σ0 H0 w := mapH_sat hcinj hσc hmapH hs
  have hs1 := roH_sat (namesH r0.upd) hs0
  have hH1 : Ev.hal (lt base) (roH (namesH r0.upd) H0) = true := roH_hal _ _ (mapH_hal hlt H H0 hmapH)
  replace ha1 := ha1 (mapL_al hlt args a0 hmapA)
  have hargs : denL σ args = denL σ0 a1 := (mapL_den hσc args a0 hmapA).symm.trans (hd1 σ0).symm
  rw [hargs]
  generalize hlf : (evalF E P f a1 (roH (namesH r0.upd) H0) base).leaf = lf at hgives
  cases lf with
  | norm _ => exact hgives.elim
  | exit _ _ => exact hgives.elim
  | bad => exact hgives.elim
  | ret v H' =>
    obtain ⟨l, hl, hsim, hwk, hwu⟩ := hgives
    refine evalF_calls hE hm hf hb hL hs1 hH1 ha1 (Nat.le_refl _) hlf fun σ' w' hs' hwd => ?_
    have hsτ := wk_heap hs' hwk hwu
    have hwτ := wk_wd hwd hwk (fun j hj => rok_spec l hl j hj)
    have hdv := hsim σ'
    generalize rn (rmap l) σ' = τ at hsτ hwτ hdv
    clear hwk hwu hsim hs' hwd
    have hnm : ∀ i k, (namesH H)[i]? = some k → k < nm := fun i k hi => by simpa [lt] using namesH_lt H hH i k hi
    let σ2 : Sg := fun j => if nm ≤ j ∧ j < nm + 16 then τ (base + (j - nm)) else σ j
    have hσ2 : ∀ k k', bk (namesH H) nm k = some k' → σ2 k' = τ k := by
      intro k k' hk
      unfold bk at hk
      split at hk
      · rename_i hkb
        have h1 := hnm k k' hk
        have h2 : ¬ (nm ≤ k' ∧ k' < nm + 16) := by omega
        simp only [σ2, if_neg h2]
        rw [hwτ.keep k hkb]
        exact (hσ0 k' k hk).symm
      · rename_i hkb
        split at hk
        · rename_i hkc
          simp only [Option.some.injEq] at hk; subst hk
          simp only [Nat.blt_eq] at hkc
          have hkb : base ≤ k := by
            rcases Nat.lt_or_ge k base with h' | h'
            · rw [← Nat.blt_eq, hkb] at h'; cases h'
            · exact h'
          have h2 : nm ≤ nm + (k - base) ∧ nm + (k - base) < nm + 16 := by omega
          simp only [σ2, if_pos h2]
          congr 1; omega
        · cases hk
    have hbinj : ∀ j k i, bk (namesH H) nm j = some i → bk (namesH H) nm k = some i → j = k := by
      intro j k i h1 h2
      unfold bk at h1 h2
      split at h1 <;> rename_i hj <;> split at h2 <;> rename_i hk
      · exact uniqN_get _ huniq j k i h1 h2
      · split at h2
        · simp only [Option.some.injEq] at h2; have := hnm j i h1; omega
        · cases h2
      · split at h1
        · simp only [Option.some.injEq] at h1; have := hnm k i h2; omega
        · cases h1
      · have hjb : base ≤ j := by
          rcases Nat.lt_or_ge j base with h' | h'
          · rw [← Nat.blt_eq, hj] at h'; cases h'
          · exact h'
        have hkb : base ≤ k := by
          rcases Nat.lt_or_ge k base with h' | h'
          · rw [← Nat.blt_eq, hk] at h'; cases h'
          · exact h'
        split at h1 <;> split at h2 <;> simp_all
        omega
    -- a block of the callee's is one of the caller's
    have hown : ∀ k b, look (roH (namesH r0.upd) H0) k = some b → b.live (σ0 k) → ∃ k1 b1, look H k1 = some b1 ∧ (σ k1) = (σ0 k) ∧ b1.live (σ k1) ∧ (b.ow (σ0 k) → b1.ow (σ k1) ∧ look upd k1 ≠ none) ∧
        (mem (namesH r0.upd) k = true → look upd k1 ≠ none) ∧ (∃ b0, look H0 k = some b0 ∧ b1.rw = b0.rw) := by
      intro k b hk hlive
      rw [look_roH] at hk
      cases hb0 : look H0 k with
      | none => rw [hb0] at hk; cases hk
      | some b0 =>
        rw [hb0] at hk
        simp only [Option.map_some, Option.some.injEq] at hk
        obtain ⟨k1, hf1⟩ := mapH_from H H0 hmapH k b0 hb0
        obtain ⟨b1, hb1, hmb⟩ := (mapH_look hcinj H H0 hmapH k1 k hf1).1 b0 hb0
        obtain ⟨e1, e2, e3⟩ := mapB_ow (e := σ0 k) hmb
        have hse := hσc k1 k hf1
        have hin : mem (namesH r0.upd) k = true → look upd k1 ≠ none := by
          intro hmem
          rw [namesH_mem] at hmem
          cases hbu : look r0.upd k with
          | none => exact absurd hbu hmem
          | some bu =>
            have hbk : bk (namesH H) nm k = some k1 := by
              have := (idx_spec _ _ _ _ hf1).2
              simp only [Nat.sub_zero] at this
              have hb := hlt k1 k hf1
              unfold bk
              rw [show Nat.blt k base = true from hb]
              exact this
            obtain ⟨b', hb', _⟩ := (mapH_look hbinj r0.upd upd hupd k k1 hbk).2 bu hbu
            rw [hb']; simp
        refine ⟨k1, b1, hb1, hse.symm, ?_, ?_, hin, b0, rfl, e3.symm⟩
        · rw [← hse]
          refine e2.1 ?_
          split at hk
          · subst hk; exact hlive
          · subst hk; exact roB_live hlive
        · intro ho
          split at hk
          · rename_i hmem
            subst hk
            exact ⟨by rw [← hse]; exact e1.1 ho, hin hmem⟩
          · subst hk; exact (roB_ow ho).elim
    refine ⟨σ2, ?_, ?_⟩
    · rw [hdv, mapN_den hσ2 _ _ hsv]
    · have hs2 : HSat σ2 upd w' := mapH_sat hbinj hσ2 hupd hsτ
      refine ⟨fun j hj => ?_, hwτ.os, hwτ.tape, hwτ.output, hwτ.size, fun j hj hfr => hwτ.old j hj ?_, ?_, hs2.sat, hs2.dis, ?_⟩
      · simp only [off, Nat.blt_eq, Bool.or_eq_true, Nat.ble_eq] at hj
        simp only [σ2]
        rw [if_neg (by omega)]
      · rintro ⟨k, b, hk, ho, hblk⟩
        obtain ⟨k1, b1, h1, h2, h3, h4, _⟩ := hown k b hk (Blk.live_of_rw ho)
        obtain ⟨h5, h6⟩ := h4 ho
        exact hfr k1 b1 h6 h1 h5 (by rw [h2]; exact hblk.symm)
      · have hu0 := uniqN_pair r0.upd hU
        clear hs2 hcov hsτ hwτ hneed hown
        generalize r0.upd = u0 at hupd hu0
        clear hσ2
        induction u0 generalizing upd with
        | nil => simp only [mapH, Option.some.injEq] at hupd; subst hupd; exact List.Pairwise.nil
        | cons x t ih =>
          obtain ⟨j, cb⟩ := x
          simp only [mapH] at hupd; split at hupd
          · rename_i j' c' t' hj hc ht
            simp only [Option.some.injEq] at hupd; subst hupd
            refine List.Pairwise.cons (fun y hy e => ?_) (ih _ ht (List.pairwise_cons.1 hu0).2)
            have hfrom : ∀ (t t' : Heap), mapH true (bk (namesH H) nm) t = some t' → ∀ y ∈ t', ∃ z ∈ t, bk (namesH H) nm z.1 = some y.1 := by
              intro t
              induction t with
              | nil => intro t' e y hy; simp only [mapH, Option.some.injEq] at e; subst e; cases hy
              | cons x t ih =>
                intro t' e y hy
                obtain ⟨j, cb⟩ := x
                simp only [mapH] at e; split at e
                · rename_i j' c' t2 hj hc ht
                  simp only [Option.some.injEq] at e; subst e
                  rcases List.mem_cons.1 hy with rfl | hy
                  · exact ⟨_, List.mem_cons_self .., hj⟩
                  · obtain ⟨z, hz, hz2⟩ := ih t2 ht y hy
                    exact ⟨z, List.mem_cons_of_mem _ hz, hz2⟩
                · cases e
            obtain ⟨z, hz, hz2⟩ := hfrom t t' ht y hy
            have := hbinj j z.1 j' hj (by rw [hz2, ← e])
            exact (List.pairwise_cons.1 hu0).1 z hz this
          · cases hupd
      · intro k' b' hk' hlive
        obtain ⟨k, hfk⟩ := mapH_from r0.upd upd hupd k' b' hk'
        obtain ⟨b, hbk, hmb⟩ := (mapH_look hbinj r0.upd upd hupd k k' hfk).1 b' hk'
        have he := hσ2 k k' hfk
        obtain ⟨e1, e2, e3⟩ := mapB_ow (e := τ k) hmb
        rw [he] at hlive ⊢
        have hliv := e2.1 hlive
        by_cases ho : b.ow (τ k)
        · rcases hwτ.own k b hbk ho with ⟨k1, b1, h1, h2, h3⟩ | h1
          · obtain ⟨k2, b2, g1, g2, g3, g4, g5⟩ := hown k1 b1 h1 (Blk.live_of_rw h2)
            obtain ⟨g6, g7⟩ := g4 h2
            exact .inr ⟨k2, b2, g1, g3, by rw [g2]; exact h3.symm, fun _ => g6, fun _ => g7⟩
          · exact .inl h1
        · rcases hwτ.liv k b hbk hliv with ⟨k1, b1, h1, h2, h3⟩ | h1
          · obtain ⟨k2, b2, g1, g2, g3, g4, g5, b0, g6, g7⟩ := hown k1 b1 h1 h2
            refine .inr ⟨k2, b2, g1, g3, by rw [g2]; exact h3.symm, fun h' => absurd (e1.1 h') ho, fun h' => g5 ?_⟩
            simp only [Bool.or_eq_true] at hcov
            rcases hcov with hc | hc
            · rcases allTold_look _ hc k b hbk with hr | hr
              · exact absurd (rw_live_ow (hsτ.sat k b hbk) hr hliv) ho
              · subst hr; exact hliv.elim
            · exact allIn_look _ _ hc k1 b0 g6 (g7 ▸ Blk.ow_rw h')
          · exact .inl h1

theorem spec_okA (cl : Bool) {E : Env} (hE : CallsOk E P) (hm : P.follows .mixedOrders = true) {f : FuncId} {fn : Func} {c : Code} (hf : P.funcs[f]? = some fn) (hb : fn.body = some c) (hname : (fn.name == "runtime.NumGoroutine") = false) (hL : LoopsOk E P fn c 0)
    (g : List SV → Heap → Option R) (h : ∀ a0 H0 r, g a0 H0 = some r → allB r.need = true → ∃ a1, (SV.alL (lt base) a0 = true → SV.alL (lt base) a1 = true) ∧ (∀ σ, denL σ a1 = denL σ a0) ∧ GivesD r (evalF E P f a1 (roH (namesH r.upd) H0) base).leaf) : SpecOk P f (specC cl g) :=
  spec_okB cl hm hf hb hname g fun a0 H0 r hg hn => by
    obtain ⟨a1, h1, h2, h3⟩ := h a0 H0 r hg hn
    exact ⟨E, a1, hE, hL, h1, h2, h3⟩

theorem spec_okC (cl : Bool) {E : Env} (hE : CallsOk E P) (hm : P.follows .mixedOrders = true) {f : FuncId} {fn : Func} {c : Code} (hf : P.funcs[f]? = some fn) (hb : fn.body = some c) (hname : (fn.name == "runtime.NumGoroutine") = false) (hL : LoopsOk E P fn c 0)
    (g : List SV → Heap → Option R) (h : ∀ a0 H0 r, g a0 H0 = some r → allB r.need = true → GivesR r (evalF E P f a0 (roH (namesH r.upd) H0) base).leaf) : SpecOk P f (specC cl g) :=
  spec_okA cl hE hm hf hb hname hL g fun a0 H0 r hg hn => ⟨a0, id, fun _ => rfl, (h a0 H0 r hg hn).giv⟩

theorem spec_ok {E : Env} (hE : CallsOk E P) (hm : P.follows .mixedOrders = true) {f : FuncId} {fn : Func} {c : Code} (hf : P.funcs[f]? = some fn) (hb : fn.body = some c) (hname : (fn.name == "runtime.NumGoroutine") = false) (hL : LoopsOk E P fn c 0)
    (g : List SV → Heap → Option R) (h : ∀ a0 H0 r, g a0 H0 = some r → allB r.need = true → GivesR r (evalF E P f a0 (roH (namesH r.upd) H0) base).leaf) : SpecOk P f (specOf g) :=
  spec_okC false hE hm hf hb hname hL g h

end Go.Ev
end

section
namespace Go.Ev
open Go.RowKit
variable {P : Program}

def nthLoop : Code → Nat → Option Code
  | .seq a b, n => match Nat.blt n (Code.loops a) with
    | true => nthLoop a n
    | false => nthLoop b (n - Code.loops a)
  | .cond _ a b, n => match Nat.blt n (Code.loops a) with
    | true => nthLoop a n
    | false => nthLoop b (n - Code.loops a)
  | .block _ a, n => nthLoop a n
  | .loop a, n => match n with
    | 0 => some a
    | n + 1 => nthLoop a n
  | _, _ => none

def bodyOf (f : Func) : Code := match f.body with
  | some c => c
  | none => .skip

/-- the body of a function's n-th loop -/
def loopOf (f : Func) (n : Nat) : Code := match nthLoop (bodyOf f) n with
  | some c => c
  | none => .skip

theorem loopsOk_of {E : Env} {fn : Func} : ∀ (c : Code) (n0 : Nat), (∀ m a, m < Code.loops c → nthLoop c m = some a → LoopOk E P fn (n0 + m) a) → LoopsOk E P fn c n0
  | .seq a b, n0, h => by
    refine ⟨loopsOk_of a n0 fun m x hm hx => h m x (by simp only [Code.loops]; omega) ?_, loopsOk_of b _ fun m x hm hx => ?_⟩
    · have : Nat.blt m (Code.loops a) = true := by simpa using hm
      simp only [nthLoop, this, hx]
    · have h1 : Nat.blt (Code.loops a + m) (Code.loops a) = false := by
        cases hb : Nat.blt (Code.loops a + m) (Code.loops a) with
        | true => rw [Nat.blt_eq] at hb; omega
        | false => rfl
      have := h (Code.loops a + m) x (by simp only [Code.loops]; omega) (by simp only [nthLoop, h1, Nat.add_sub_cancel_left, hx])
      rwa [← Nat.add_assoc] at this
  | .cond _ a b, n0, h => by
    refine ⟨loopsOk_of a n0 fun m x hm hx => h m x (by simp only [Code.loops]; omega) ?_, loopsOk_of b _ fun m x hm hx => ?_⟩
    · have : Nat.blt m (Code.loops a) = true := by simpa using hm
      simp only [nthLoop, this, hx]
    · have h1 : Nat.blt (Code.loops a + m) (Code.loops a) = false := by
        cases hb : Nat.blt (Code.loops a + m) (Code.loops a) with
        | true => rw [Nat.blt_eq] at hb; omega
        | false => rfl
      have := h (Code.loops a + m) x (by simp only [Code.loops]; omega) (by simp only [nthLoop, h1, Nat.add_sub_cancel_left, hx])
      rwa [← Nat.add_assoc] at this
  | .block _ a, n0, h => loopsOk_of a n0 fun m x hm hx => h m x hm hx
  | .loop a, n0, h => h 0 a (by simp only [Code.loops]; omega) rfl
  | .skip, _, _ => trivial
  | .region _ _ _, _, _ => trivial
  | .exit _, _, _ => trivial
  | .ret, _, _ => trivial
  | .label _, _, _ => trivial
  | .goto _, _, _ => trivial
  | .rangeFunc _ _ _ _, _, _ => trivial
  | .scope _, _, _ => trivial
  | .refuse _, _, _ => trivial

/-- a function of one loop -/
theorem loops1 {E : Env} {fn : Func} {c : Code} (hc : Code.loops c = 1) (h : ∀ a, nthLoop c 0 = some a → LoopOk E P fn 0 a) : LoopsOk E P fn c 0 :=
  loopsOk_of c 0 fun m a hm ha => by
    rw [hc] at hm
    obtain rfl : m = 0 := by omega
    exact h a ha

theorem loops2 {E : Env} {fn : Func} {c : Code} (hc : Code.loops c = 2) (h0 : ∀ a, nthLoop c 0 = some a → LoopOk E P fn 0 a) (h1 : ∀ a, nthLoop c 1 = some a → LoopOk E P fn 1 a) : LoopsOk E P fn c 0 :=
  loopsOk_of c 0 fun m a hm ha => by
    rw [hc] at hm
    rcases m with _ | _ | m
    · exact h0 a ha
    · exact h1 a ha
    · omega

theorem loops0 {E : Env} {fn : Func} {c : Code} {n : Nat} (hc : Code.loops c = 0) : LoopsOk E P fn c n :=
  loopsOk_of c n fun m a hm _ => by omega

end Go.Ev
end

section
namespace Go.Ev
open Go.RowKit
variable {P : Program}

/-- what a function without a choice of its own comes to -/
def Tr.flatR : Tr → Option (List Bool × Option (SV × Heap))
  | .ret v H => some ([], some (v, H))
  | .bad _ => some ([false], none)
  | .need b x => match x.flatR with
    | some (m, l) => some (b :: m, l)
    | none => none
  | .node b x y => match x.flatR, y.flatR with
    | some (m, some l), some (_, none) => some (b :: m, some l)
    | some (_, none), some (m, l) => some ((!b) :: m, l)
    | _, _ => none
  | _ => none

theorem flatR_bad : ∀ (T : Tr) (n : List Bool), T.flatR = some (n, none) → T.leaf = .bad
  | .bad _, _, _ => rfl
  | .need b x, n, h => by
    simp only [Tr.flatR] at h
    split at h
    · rename_i m l hx
      simp only [Option.some.injEq, Prod.mk.injEq] at h
      obtain ⟨_, rfl⟩ := h
      simp only [Tr.leaf, flatR_bad x m hx]
      cases b <;> rfl
    · cases h
  | .node b x y, n, h => by
    simp only [Tr.flatR] at h
    split at h
    · simp at h
    · rename_i _ m l hx hy
      simp only [Option.some.injEq, Prod.mk.injEq] at h
      obtain ⟨_, rfl⟩ := h
      simp only [Tr.leaf, flatR_bad x _ hx, flatR_bad y _ hy]
      cases b <;> rfl
    · cases h
  | .ret _ _, n, h => by simp [Tr.flatR] at h
  | .norm _, n, h => by simp [Tr.flatR] at h
  | .exit _ _, n, h => by simp [Tr.flatR] at h

theorem flatR_sound : ∀ (T : Tr) (n : List Bool) (v : SV) (H : Heap), T.flatR = some (n, some (v, H)) → allB n = true → T.leaf = .ret v H
  | .ret _ _, n, v, H, h, _ => by simp only [Tr.flatR, Option.some.injEq, Prod.mk.injEq] at h; obtain ⟨_, rfl, rfl⟩ := h; rfl
  | .bad _, n, v, H, h, _ => by simp [Tr.flatR] at h
  | .need b x, n, v, H, h, hn => by
    simp only [Tr.flatR] at h
    split at h
    · rename_i m l hx
      simp only [Option.some.injEq, Prod.mk.injEq] at h
      obtain ⟨rfl, rfl⟩ := h
      simp only [allB, Bool.and_eq_true] at hn
      simp only [Tr.leaf, hn.1, cond_true]
      exact flatR_sound x m v H hx hn.2
    · cases h
  | .node b x y, n, v, H, h, hn => by
    simp only [Tr.flatR] at h
    split at h
    · rename_i m l n' hx hy
      simp only [Option.some.injEq, Prod.mk.injEq] at h
      obtain ⟨rfl, h2⟩ := h
      simp only [allB, Bool.and_eq_true] at hn
      simp only [Tr.leaf, hn.1, cond_true]
      exact flatR_sound x m v H (by rw [hx, h2]) hn.2
    · rename_i n' m l hx hy
      simp only [Option.some.injEq, Prod.mk.injEq] at h
      obtain ⟨rfl, h2⟩ := h
      simp only [allB, Bool.and_eq_true, Bool.not_eq_true'] at hn
      simp only [Tr.leaf, hn.1, cond_false]
      exact flatR_sound y m v H (by rw [hy, h2]) hn.2
    · cases h
  | .norm _, n, v, H, h, _ => by simp [Tr.flatR] at h
  | .exit _ _, n, v, H, h, _ => by simp [Tr.flatR] at h

/-- the old names that may be written -/
def rwNames : Heap → List Nat
  | [] => []
  | (k, b) :: t => match b with
    | .cells _ => k :: rwNames t
    | .tab _ _ true => k :: rwNames t
    | _ => rwNames t

/-- the new names that some names reach, in order -/
def newNames (H : Heap) (l : List Nat) : List Nat := (gather H 64 l [] []).1.map (·.1) |>.filter fun k => Nat.ble base k

def pickH (f : Nat → Option Nat) (H : Heap) : List Nat → Option Heap
  | [] => some []
  | k :: t => match f k, look H k, pickH f H t with
    | some k', some b, some r => match mapB true f b with
      | some b => some ((k', b) :: r)
      | none => none
    | _, _, _ => none

def renum (ns : List Nat) (k : Nat) : Option Nat := match Nat.blt k base with
  | true => some k
  | false => match idx ns k 0 with
    | some i => some (base + i)
    | none => none

def renL : List Nat → Nat → List (Nat × Rf)
  | [], _ => []
  | k :: t, i => (base + i, .old k) :: renL t (i + 1)

def autoG (E : Env) (P : Program) (f : FuncId) : List SV → Heap → Option R := fun a H =>
  match (evalF E P f a H base).flatR with
  | some (n, some (v, H')) => forceNs (rwNames H) fun os => forceNs (newNames H' (SV.namesL [v] ++ os)) fun ns =>
    match mapN true (renum ns) v, pickH (renum ns) H' (os ++ ns) with
    | some sv, some u => match uniqN ns && uniqN (oldsOf (rmap (renL ns 0)) u) with
      | true => match roOk os H with
        | true => match namesEq (namesH u) (os ++ ns) ns with
          | true => some ⟨n, sv, u⟩
          | false => none
        | false => none
      | false => none
    | _, _ => none
  | _ => none
where
  /-- what is not told is read alone as it is -/
  roOk (os : List Nat) : Heap → Bool
    | [] => true
    | (k, b) :: t => (mem os k || (match b with
      | .ro _ => true
      | .tab _ _ rw => !rw
      | .dead => true
      | .cells _ => false)) && roOk os t
  namesEq (a b ns : List Nat) : Bool := match a, b with
    | [], [] => true
    | x :: a, y :: b => (match renum ns y with
      | some z => Nat.beq x z
      | none => false) && namesEq a b ns
    | _, _ => false

mutual
theorem mapN_sim {cl : Bool} {f : Nat → Option Nat} {ρ : Rn} (h : ∀ k k', f k = some k' → ρ k' = .old k) : ∀ (x x' : SV), mapN cl f x = some x' → sim ρ x x'
  | .ptr k r c, x', e => by
    simp only [mapN] at e; split at e
    · rename_i k' hk; simp only [Option.some.injEq] at e; subst e; exact ⟨h k k' hk, rfl, rfl⟩
    · cases e
  | .sl k n, x', e => by
    simp only [mapN] at e; split at e
    · rename_i k' hk; simp only [Option.some.injEq] at e; subst e; exact ⟨h k k' hk, rfl⟩
    · cases e
  | .mp k, x', e => by
    simp only [mapN] at e; split at e
    · rename_i k' hk; simp only [Option.some.injEq] at e; subst e; exact h k k' hk
    · cases e
  | .fn g l, x', e => by
    simp only [mapN] at e; split at e
    · rename_i l' hl; simp only [Option.some.injEq] at e; subst e; exact ⟨rfl, mapL_sim h l l' hl⟩
    · cases e
  | .agg l, x', e => by
    simp only [mapN] at e; split at e
    · rename_i l' hl; simp only [Option.some.injEq] at e; subst e; exact mapL_sim h l l' hl
    · cases e
  | .tup l, x', e => by
    simp only [mapN] at e; split at e
    · rename_i l' hl; simp only [Option.some.injEq] at e; subst e; exact mapL_sim h l l' hl
    · cases e
  | .any, x', e => by simp only [mapN, Option.some.injEq] at e; subst e; trivial
  | .int _ _ _, x', e => by simp only [mapN, Option.some.injEq] at e; subst e; exact ⟨rfl, rfl⟩
  | .bool _ _, x', e => by simp only [mapN, Option.some.injEq] at e; subst e; exact rfl
  | .str _, x', e => by simp only [mapN, Option.some.injEq] at e; subst e; exact rfl
  | .val _, x', e => by simp only [mapN, Option.some.injEq] at e; subst e; exact rfl
theorem mapL_sim {cl : Bool} {f : Nat → Option Nat} {ρ : Rn} (h : ∀ k k', f k = some k' → ρ k' = .old k) : ∀ (x x' : List SV), mapL cl f x = some x' → simL ρ x x'
  | [], x', e => by simp only [mapL, Option.some.injEq] at e; subst e; trivial
  | x :: r, x', e => by
    simp only [mapL] at e; split at e
    · rename_i y s hy hs; simp only [Option.some.injEq] at e; subst e; exact ⟨mapN_sim h x y hy, mapL_sim h r s hs⟩
    · cases e
end

theorem wkCs_refl (n : Nat) : ∀ cols : List Col, wkCs n cols cols
  | [] => trivial
  | c :: r => ⟨by cases c with
    | ints k g => exact ⟨rfl, fun _ _ => rfl⟩
    | bools g => exact fun _ _ => rfl
    | strs g => exact fun _ _ => rfl
    | lit l => exact fun _ _ _ => rfl, wkCs_refl n r⟩

theorem mapB_wk {cl : Bool} {f : Nat → Option Nat} {ρ : Rn} (h : ∀ k k', f k = some k' → ρ k' = .old k) {b b' : Blk} (e : mapB cl f b = some b') : wkB ρ b b' := by
  cases b with
  | cells l =>
    simp only [mapB] at e; split at e
    · rename_i l' hl; simp only [Option.some.injEq] at e; subst e; exact mapL_sim h l l' hl
    · cases e
  | ro l =>
    simp only [mapB] at e; split at e
    · rename_i l' hl; simp only [Option.some.injEq] at e; subst e; exact mapL_sim h l l' hl
    · cases e
  | tab n cols rw => simp only [mapB, Option.some.injEq] at e; subst e; exact ⟨Nat.le_refl _, fun h => h, wkCs_refl n cols⟩
  | dead => simp only [mapB, Option.some.injEq] at e; subst e; trivial

theorem pickH_wk {f : Nat → Option Nat} {ρ : Rn} {H : Heap} (h : ∀ k k', f k = some k' → ρ k' = .old k) : ∀ (l : List Nat) (u : Heap), pickH f H l = some u → wkH ρ H u
  | [], u, e => by simp only [pickH, Option.some.injEq] at e; subst e; trivial
  | k :: t, u, e => by
    simp only [pickH] at e
    split at e
    · rename_i k' b r hk hb hr
      split at e
      · rename_i b' hb'
        simp only [Option.some.injEq] at e; subst e
        refine ⟨?_, pickH_wk h t r hr⟩
        simp only [h k k' hk, hb]
        exact mapB_wk h hb'
      · cases e
    · cases e

theorem rok_renL : ∀ (ns : List Nat) (i : Nat), rok base (renL ns i) = true
  | [], _ => rfl
  | k :: t, i => by
    simp only [renL, rok, Bool.and_eq_true, Nat.ble_eq]
    exact ⟨Nat.le_add_right _ _, rok_renL t (i + 1)⟩

theorem renL_look : ∀ (ns : List Nat) (i0 k i : Nat), idx ns k i0 = some i → rlook (renL ns i0) (base + i) = some (.old k)
  | [], _, _, _, h => by cases h
  | x :: t, i0, k, i, h => by
    simp only [idx] at h
    simp only [renL, rlook]
    split at h
    · rename_i hb
      simp only [Option.some.injEq] at h; subst h
      rw [Nat.beq_refl, Nat.eq_of_beq_eq_true hb]
    · have hlt := (idx_spec t k (i0 + 1) i h).1
      have : Nat.beq (base + i0) (base + i) = false := by
        cases hb : Nat.beq (base + i0) (base + i) with
        | true => have := Nat.eq_of_beq_eq_true hb; omega
        | false => rfl
      rw [this]
      exact renL_look t (i0 + 1) k i h

theorem renum_spec {ns : List Nat} {k k' : Nat} (h : renum ns k = some k') : rmap (renL ns 0) k' = .old k := by
  unfold renum at h
  split at h
  · rename_i hb
    simp only [Option.some.injEq] at h; subst h
    exact rok_spec _ (rok_renL ns 0) k (by simpa using hb)
  · split at h
    · rename_i i hi
      simp only [Option.some.injEq] at h; subst h
      simp only [rmap, renL_look ns 0 k i hi]
    · cases h

theorem namesEq_mem (ns : List Nat) : ∀ (a b : List Nat), autoG.namesEq a b ns = true → ∀ k, mem b k = true → renum ns k = some k → mem a k = true
  | [], [], _, k, hk, _ => hk
  | x :: a, y :: b, h, k, hk, hr => by
    simp only [autoG.namesEq, Bool.and_eq_true] at h
    rw [mem_cons] at hk ⊢
    simp only [Bool.or_eq_true, decide_eq_true_eq] at hk ⊢
    rcases hk with rfl | hk
    · left
      have h1 := h.1
      rw [hr] at h1
      simp only at h1
      exact (Nat.eq_of_beq_eq_true h1).symm
    · exact .inr (namesEq_mem ns a b h.2 k hk hr)
  | [], _ :: _, h, _, _, _ => by simp [autoG.namesEq] at h
  | _ :: _, [], h, _, _, _ => by simp [autoG.namesEq] at h

theorem roH_same (U os ns : List Nat) (hU : ∀ k, mem os k = true → mem U k = true) : ∀ (H : Heap), autoG.roOk os H = true → roH U H = H
  | [], _ => rfl
  | (k, b) :: t, h => by
    simp only [autoG.roOk, Bool.and_eq_true, Bool.or_eq_true] at h
    simp only [roH, roH_same U os ns hU t h.2]
    congr 2
    rcases h.1 with h1 | h1
    · rw [hU k h1]
    · cases mem U k with
      | true => rfl
      | false => cases b with
        | tab n c rw => simp only [Bool.not_eq_true'] at h1; subst h1; rfl
        | cells l => cases h1
        | ro l => rfl
        | dead => rfl

theorem rwNames_lt (H : Heap) (h : Ev.hal (lt base) H = true) : ∀ k, mem (rwNames H) k = true → k < base := by
  induction H with
  | nil => intro k hk; cases hk
  | cons x t ih =>
    obtain ⟨j, b⟩ := x
    simp only [Ev.hal, Bool.and_eq_true] at h
    have hj : j < base := by simpa [lt] using h.1.1
    intro k hk
    have key : ∀ l, mem (j :: l) k = true → (mem l k = true → k < base) → k < base := by
      intro l hl hr
      rw [mem_cons] at hl
      simp only [Bool.or_eq_true, decide_eq_true_eq] at hl
      rcases hl with rfl | hl
      · exact hj
      · exact hr hl
    cases b with
    | cells l => exact key _ hk (ih h.2 k)
    | ro l => exact ih h.2 k hk
    | tab n c rw => cases rw with
      | true => exact key _ hk (ih h.2 k)
      | false => exact ih h.2 k hk
    | dead => exact ih h.2 k hk

/-- the callee's heap has names of its own -/
def canonB : Heap → Bool
  | [] => true
  | (k, _) :: t => Nat.blt k base && canonB t

theorem mem_append (l m : List Nat) (k : Nat) : mem (l ++ m) k = (mem l k || mem m k) := by
  induction l with
  | nil => rfl
  | cons x l ih => simp only [List.cons_append, mem_cons, ih, Bool.or_assoc]

def autoS (E : Env) (P : Program) (f : FuncId) : Spec := specC true fun a H => match canonB H with
  | true => autoG E P f a H
  | false => none

theorem auto_ok {E : Env} (hE : CallsOk E P) (hm : P.follows .mixedOrders = true) {f : FuncId} {fn : Func} {c : Code} (hf : P.funcs[f]? = some fn) (hb : fn.body = some c) (hname : (fn.name == "runtime.NumGoroutine") = false) (hL : LoopsOk E P fn c 0) :
    SpecOk P f (autoS E P f) := by
  refine spec_okC true hE hm hf hb hname hL _ fun a0 H0 r hg hn => ?_
  split at hg
  case h_2 => cases hg
  rename_i hcan
  unfold autoG at hg
  split at hg
  case h_2 => cases hg
  rename_i n v H' hfl
  simp only [forceNs_eq] at hg
  split at hg
  case h_2 => cases hg
  rename_i sv u hsv hu
  split at hg
  case h_2 => cases hg
  rename_i huq
  split at hg
  case h_2 => cases hg
  rename_i hro
  split at hg
  case h_2 => cases hg
  rename_i hne
  simp only [Option.some.injEq] at hg
  subst hg
  simp only [Bool.and_eq_true] at huq
  have hlt : ∀ k, mem (rwNames H0) k = true → k < base := by
    have : ∀ H : Heap, canonB H = true → ∀ k, mem (rwNames H) k = true → k < base := by
      intro H
      induction H with
      | nil => intro _ k hk; cases hk
      | cons x t ih =>
        obtain ⟨j, b⟩ := x
        intro hc k hk
        simp only [canonB, Bool.and_eq_true, Nat.blt_eq] at hc
        have key : ∀ l, mem (j :: l) k = true → (mem l k = true → k < base) → k < base := by
          intro l hl hr
          rw [mem_cons] at hl
          simp only [Bool.or_eq_true, decide_eq_true_eq] at hl
          rcases hl with rfl | hl
          · exact hc.1
          · exact hr hl
        cases b with
        | cells l => exact key _ hk (ih hc.2 k)
        | ro l => exact ih hc.2 k hk
        | tab n c rw => cases rw with
          | true => exact key _ hk (ih hc.2 k)
          | false => exact ih hc.2 k hk
        | dead => exact ih hc.2 k hk
    exact this H0 hcan
  have hsame : roH (namesH u) H0 = H0 := by
    refine roH_same _ (rwNames H0) [] (fun k hk => ?_) H0 hro
    refine namesEq_mem _ _ _ hne k (by rw [mem_append, hk]; rfl) ?_
    have := hlt k hk
    simp only [renum, show Nat.blt k base = true by rw [Nat.blt_eq]; exact this]
  rw [hsame, flatR_sound _ n v H' hfl hn]
  exact ⟨renL _ 0, rok_renL _ 0, mapN_sim (fun k k' h => renum_spec h) v sv hsv, pickH_wk (fun k k' h => renum_spec h) _ u hu, huq.2⟩

/-- plain functions and such, evaluated where they are called -/
def inlA (P : Program) (E : Env) (ps hs : List Nat) : Nat → Env
  | 0 => ⟨E.call, noLoop⟩
  | d + 1 => ⟨fun f args H nm => match mem ps f with
    | true => (inl P (inlA P E ps hs d) [f] 1).call f args H nm
    | false => match mem hs f with
      | true => autoS (inlA P E ps hs d) P f args H nm
      | false => E.call f args H nm, noLoop⟩

theorem named_one {ps : List Nat} (h : named P ps = true) {f : Nat} (hf : mem ps f = true) : named P [f] = true := by
  obtain ⟨fn, h1, h2, h3⟩ := named_spec h hf
  simp only [named, h1, h2, h3, Bool.not_false, Bool.and_self]

theorem inlA_calls {E : Env} (hE : CallsOk E P) (hm : P.follows .mixedOrders = true) {ps hs : List Nat} (hp : named P ps = true) (hh : named P hs = true) : ∀ d, CallsOk (inlA P E ps hs d) P ∧ (inlA P E ps hs d).loop = noLoop
  | 0 => ⟨fun f args H nm r hr hn => hE f args H nm r hr hn, rfl⟩
  | d + 1 => by
    refine ⟨fun f args H nm r hr hneed => ?_, rfl⟩
    obtain ⟨ih, ihl⟩ := inlA_calls hE hm hp hh d
    simp only [inlA] at hr
    split at hr
    · rename_i hf
      exact (inl_calls ih hm (named_one hp hf) 1).1 f args H nm r hr hneed
    · split at hr
      · rename_i hf
        obtain ⟨fn, hfn, hbody, hname⟩ := named_spec hh hf
        obtain ⟨c, hc⟩ := Option.isSome_iff_exists.1 hbody
        have := auto_ok ih hm hfn hc hname (loops_noLoop ihl c 0)
        exact ⟨this.1, this.2 args H nm r hr hneed⟩
      · exact hE f args H nm r hr hneed

end Go.Ev
end

section
namespace Go.Ev

def iv (k : IntKind) (B : BitVec k.bits) : Int := if k.signed then B.toInt else (B.toNat : Int)

theorem ofInt_iv (k : IntKind) (B : BitVec k.bits) : BitVec.ofInt k.bits (iv k B) = B := by
  unfold iv
  split
  · exact BitVec.ofInt_toInt
  · rw [BitVec.ofInt_natCast, BitVec.ofNat_toNat, BitVec.setWidth_eq]

theorem bits_pos (k : IntKind) : 0 < k.bits := by cases k <;> decide

theorem wrap_iv (k : IntKind) (n : Int) : k.wrap n = iv k (BitVec.ofInt k.bits n) := by
  cases k <;> simp only [IntKind.wrap, iv, IntKind.signed, IntKind.bits, BitVec.toInt_ofInt, BitVec.toNat_ofInt, Int.bmod_def, Bool.true_and, Bool.false_and, if_true] <;> simp <;> (try split) <;> omega

theorem iv_inj {k : IntKind} {A B : BitVec k.bits} (h : iv k A = iv k B) : A = B := by
  rw [← ofInt_iv k A, h, ofInt_iv]

theorem conv_iv (k : IntKind) (n : Int) : conv k n = iv k (BitVec.ofInt k.bits n) := wrap_iv k n

theorem ar_or (k : IntKind) (x y : Int) : ar .or k x y = iv k (BitVec.ofInt k.bits x ||| BitVec.ofInt k.bits y) := by
  simp only [ar, wrap_iv, BitVec.ofInt_natCast, BitVec.ofNat_toNat, BitVec.setWidth_eq]
theorem ar_and (k : IntKind) (x y : Int) : ar .and k x y = iv k (BitVec.ofInt k.bits x &&& BitVec.ofInt k.bits y) := by
  simp only [ar, wrap_iv, BitVec.ofInt_natCast, BitVec.ofNat_toNat, BitVec.setWidth_eq]
theorem ar_xor (k : IntKind) (x y : Int) : ar .xor k x y = iv k (BitVec.ofInt k.bits x ^^^ BitVec.ofInt k.bits y) := by
  simp only [ar, wrap_iv, BitVec.ofInt_natCast, BitVec.ofNat_toNat, BitVec.setWidth_eq]
theorem ar_andNot (k : IntKind) (x y : Int) : ar .andNot k x y = iv k (BitVec.ofInt k.bits x &&& ~~~BitVec.ofInt k.bits y) := by
  simp only [ar, wrap_iv, BitVec.ofInt_natCast, BitVec.ofNat_toNat, BitVec.setWidth_eq]
theorem ar_add (k : IntKind) (x y : Int) : ar .add k x y = iv k (BitVec.ofInt k.bits x + BitVec.ofInt k.bits y) := by
  simp only [ar, wrap_iv, BitVec.ofInt_add]
theorem ar_mul (k : IntKind) (x y : Int) : ar .mul k x y = iv k (BitVec.ofInt k.bits x * BitVec.ofInt k.bits y) := by
  simp only [ar, wrap_iv, BitVec.ofInt_mul]
theorem ar_sub (k : IntKind) (x y : Int) : ar .sub k x y = iv k (BitVec.ofInt k.bits x - BitVec.ofInt k.bits y) := by
  simp only [ar, wrap_iv]
  congr 1
  rw [BitVec.sub_eq_add_neg, ← BitVec.ofInt_neg, ← BitVec.ofInt_add, Int.sub_eq_add_neg]

theorem ofInt_mul_pow (w : Nat) (x : Int) (n : Nat) : BitVec.ofInt w (x * 2 ^ n) = BitVec.ofInt w x <<< n := by
  rw [BitVec.ofInt_mul, BitVec.shiftLeft_eq_mul_twoPow]
  congr 1
  apply BitVec.eq_of_toNat_eq
  rw [BitVec.toNat_ofInt, BitVec.toNat_twoPow]
  have : ((2 : Int) ^ n) = ((2 ^ n : Nat) : Int) := by simp
  rw [this]
  norm_cast

theorem ar_shl (k : IntKind) (x : Int) (n : Nat) : ar .shl k x n = iv k (BitVec.ofInt k.bits x <<< n) := by
  simp only [ar, wrap_iv, Int.toNat_natCast, ofInt_mul_pow]
  congr 1
  by_cases h : n ≤ k.bits
  · rw [Nat.min_eq_left h]
  · rw [Nat.min_eq_right (by omega), BitVec.shiftLeft_eq_zero (by omega), BitVec.shiftLeft_eq_zero (by omega)]

theorem cm_eql (k : IntKind) (A B : BitVec k.bits) : cm .eql (iv k A) (iv k B) = (A == B) := by
  simp only [cm]
  by_cases h : A = B
  · subst h; simp
  · have : iv k A ≠ iv k B := fun e => h (iv_inj e)
    rw [beq_eq_false_iff_ne.2 this, beq_eq_false_iff_ne.2 h]

theorem ar_shr_u {k : IntKind} (hk : k.signed = false) (B : BitVec k.bits) (n : Nat) : ar .shr k (iv k B) n = iv k (B >>> n) := by
  simp only [ar, iv, hk, Bool.false_eq_true, if_false, Int.toNat_natCast, BitVec.toNat_ushiftRight, Nat.shiftRight_eq_div_pow]
  rw [Int.fdiv_eq_ediv_of_nonneg _ (by exact Int.le_of_lt (Int.pow_pos (by omega)))]
  by_cases h : n ≤ k.bits
  · rw [Nat.min_eq_left h]; norm_cast
  · have h1 : B.toNat < 2 ^ k.bits := B.isLt
    have h2 : 2 ^ k.bits ≤ 2 ^ n := Nat.pow_le_pow_right (by omega) (by omega)
    rw [Nat.min_eq_right (by omega), Nat.div_eq_of_lt (Nat.lt_of_lt_of_le h1 h2)]
    have : ((B.toNat : Int) / 2 ^ k.bits) = ((B.toNat / 2 ^ k.bits : Nat) : Int) := by norm_cast
    rw [this, Nat.div_eq_of_lt h1]

theorem ar_shr_s {k : IntKind} (hk : k.signed = true) (B : BitVec k.bits) (n : Nat) (hn : n ≤ k.bits) : ar .shr k (iv k B) n = iv k (B.sshiftRight n) := by
  simp only [ar, iv, hk, if_true, Int.toNat_natCast, Nat.min_eq_left hn, BitVec.toInt_sshiftRight, Int.shiftRight_eq_div_pow]
  rw [Int.fdiv_eq_ediv_of_nonneg _ (by exact Int.le_of_lt (Int.pow_pos (by omega)))]
  norm_cast

theorem ar_shl' (k : IntKind) (x m : Int) (hm : 0 ≤ m) : ar .shl k x m = iv k (BitVec.ofInt k.bits x <<< m.toNat) := by
  have := ar_shl k x m.toNat
  rwa [Int.toNat_of_nonneg hm] at this
theorem ar_shr_u' {k : IntKind} (hk : k.signed = false) (B : BitVec k.bits) (m : Int) (hm : 0 ≤ m) : ar .shr k (iv k B) m = iv k (B >>> m.toNat) := by
  have := ar_shr_u hk B m.toNat
  rwa [Int.toNat_of_nonneg hm] at this
theorem ar_shr_s' {k : IntKind} (hk : k.signed = true) (B : BitVec k.bits) (m : Int) (hm : 0 ≤ m) (hn : m.toNat ≤ k.bits) : ar .shr k (iv k B) m = iv k (B.sshiftRight m.toNat) := by
  have := ar_shr_s hk B m.toNat hn
  rwa [Int.toNat_of_nonneg hm] at this

namespace U32
theorem inv (B : BitVec 32) : BitVec.ofInt 32 (iv .u32 B) = B := ofInt_iv .u32 B
theorem or (x y : Int) : ar .or .u32 x y = iv .u32 (BitVec.ofInt 32 x ||| BitVec.ofInt 32 y) := ar_or .u32 x y
theorem and (x y : Int) : ar .and .u32 x y = iv .u32 (BitVec.ofInt 32 x &&& BitVec.ofInt 32 y) := ar_and .u32 x y
theorem xor (x y : Int) : ar .xor .u32 x y = iv .u32 (BitVec.ofInt 32 x ^^^ BitVec.ofInt 32 y) := ar_xor .u32 x y
theorem sub (x y : Int) : ar .sub .u32 x y = iv .u32 (BitVec.ofInt 32 x - BitVec.ofInt 32 y) := ar_sub .u32 x y
theorem add (x y : Int) : ar .add .u32 x y = iv .u32 (BitVec.ofInt 32 x + BitVec.ofInt 32 y) := ar_add .u32 x y
theorem shl (x m : Int) (h : 0 ≤ m) : ar .shl .u32 x m = iv .u32 (BitVec.ofInt 32 x <<< m.toNat) := ar_shl' .u32 x m h
theorem shr (B : BitVec 32) (m : Int) (h : 0 ≤ m) : ar .shr .u32 (iv .u32 B) m = iv .u32 (B >>> m.toNat) := ar_shr_u' (k := .u32) rfl B m h
theorem conv (n : Int) : conv .u32 n = iv .u32 (BitVec.ofInt 32 n) := conv_iv .u32 n
end U32

end Go.Ev
end
