/-
  rvm: the law's machine: its loops.
-/
import Derived.Test.YtngponflocmgiaaC15
import Derived.Test.YtngponflocmgiaaB16
set_option linter.unusedSimpArgs false
set_option linter.unusedVariables false
section
set_option linter.unusedVariables false
open Go Go.Ev Go.Proofs
namespace Go.Rv

/-- an ask -/
structure Pa where
  nL : Nat
  nW : Nat
  nX : Nat
  nM : Nat
  nI : Nat
  c0 : Nat → Int
  c1 : Nat → Int
  c2 : Nat → Int
  c3 : Nat → Int
  c4 : Nat → Int
  cw : Nat → Int
  cX : Nat → Int
  cM : Nat → Int
  cI : Nat → Int
  at_ : Int
  pc : Int
  raw : Bool
def vP (p : Pa) : List SV := [.sl 0 p.nL, .sl 1 p.nW, .sl 2 p.nX, .sl 3 p.nM, .int false .i64 p.at_, .sl 4 p.nI, .int false .i64 p.pc, .bool false p.raw]
def hP3 (p : Pa) : Heap := [(2, .tab p.nX [.ints .i64 p.cX] false), (3, .tab p.nM [.ints .u8 p.cM] false), (4, .tab p.nI [.ints .i64 p.cI] false)]
def hP (p : Pa) : Heap := [(0, .tab p.nL [.ints .i64 p.c0, .ints .i64 p.c1, .ints .i64 p.c2, .ints .i64 p.c3, .ints .i64 p.c4] false), (1, .tab p.nW [.ints .u32 p.cw] false)] ++ hP3 p
noncomputable def EMa : Env := inlF Try.prog (envOf [(33, specOf g33), (28, specOf g28)] noLoop) [32] [] [] 1
theorem named32 : named Try.prog [32] = true := by kernel_rfl
theorem ema_calls : CallsOk EMa Try.prog := (inlF_calls ((SpecsOk.cons spec33 (SpecsOk.cons spec28 SpecsOk.nil)).calls noLoop) mixed named32 rfl rfl 1).1
theorem ema_loop : EMa.loop = noLoop := rfl

def cpu0 : List SV := [.int false .i64 4096, .sl 1072 32, .bool false false, .bool false false, .bool false false, .bool false false, .sl 1073 196608, .sl 1074 0, .sl 1075 0, .int false .i64 0, .int false .i64 0]
def h18 (p : Pa) (X mem : Nat → Int) : Heap := hP3 p ++ [(1024, .cells (vP p)), (1040, .cells zeroV), (1072, .tab 32 [.ints .i64 X] true), (1073, .tab 196608 [.ints .u8 mem] true), (1074, .tab 0 [.ints .i64 fun _ => 0] true), (1075, .tab 0 [.ints .i64 fun _ => 0] true), (1088, .cells cpu0)]
def xA (g : Nat → Int) (n : Nat) : Nat → Int := fun r => bif Nat.blt 0 r && Nat.blt r n then g r else 0
def mA (a : Nat) (g : Nat → Int) (n : Nat) : Nat → Int := fun r => bif Nat.ble a r && Nat.blt r (a + n) then g (r - a) else 0
/-- told from a heap -/
noncomputable def unH18 (H : Heap) : Option (List Bool × Pa × (Nat → Int)) :=
  match tI .i64 false H 2, tI .u8 false H 3, tI .i64 false H 4, cL H 1024, tI .i64 true H 1072, tI .u8 true H 1073, tI .i64 true H 1074, tI .i64 true H 1075, cL H 1088, cL H 1040 with
  | some (nX, cX), some (nM, cM), some (nI, cI), some [.sl k0 nL, .sl k1 nW, .sl k2 n2, .sl k3 n3, .int _ .i64 at_, .sl k4 n4, .int _ .i64 pc, .bool _ raw],
    some (t1, X), some (t2, mem), some (t3, _), some (t4, _), some l1, some l2 =>
    some ([Nat.beq k0 0, Nat.beq k1 1, Nat.beq k2 2, Nat.beq k3 3, Nat.beq k4 4, Nat.beq n2 nX, Nat.beq n3 nM, Nat.beq n4 nI, Nat.beq t1 32, Nat.beq t2 196608, Nat.beq t3 0, Nat.beq t4 0, eqL l1 cpu0, eqL l2 zeroV, eqA 196608 mem (fun _ => 0)],
      ⟨nL, nW, nX, nM, nI, fun _ => 0, fun _ => 0, fun _ => 0, fun _ => 0, fun _ => 0, fun _ => 0, cX, cM, cI, at_, pc, raw⟩, X)
  | _, _, _, _, _, _, _, _, _, _ => none
/-- loop 0: registers -/
def v18a (i : Int) : List SV := [.int true .i64 32, .ptr 1024 0 0, .ptr 1088 0 0, .int false .i64 i, .ptr 1040 0 0]
def lk18a : Lp := ⟨70, [1, 2, 5, 6, 4], 1300, fun _ _ => none⟩
noncomputable def get18a : List SV → Heap → Option Tr
  | [.int _ .i64 r, .ptr kp rp cp, .ptr kc rc cc, .int _ .i64 i, .ptr kq rq cq], H => match unH18 H with
    | some (nn, p, X) => some (Tr.needs ([decide (r = 32), Nat.beq kp 1024, Nat.beq rp 0, Nat.beq cp 0, Nat.beq kc 1088, Nat.beq rc 0, Nat.beq cc 0, Nat.beq kq 1040, Nat.beq rq 0, Nat.beq cq 0, decide (i = 1), eqA 32 X (fun _ => 0)] ++ nn)
      (exitT lk18a 0 [.any, .ptr 1024 0 0, .ptr 1088 0 0, .any, .ptr 1040 0 0] (h18 p (xA p.cX p.nX) (fun _ => 0))))
    | none => none
  | _, _ => none
noncomputable def lp18a : Lp := { lk18a with get := get18a }
/-- loop 1: memory -/
def v18b (a i : Int) : List SV := [.ptr 1024 0 0, .ptr 1088 0 0, .int false .i64 a, .int false .i64 i, .ptr 1040 0 0]
def lk18b : Lp := ⟨70, [2, 5, 7, 8, 4], 1500, fun _ _ => none⟩
noncomputable def get18b : List SV → Heap → Option Tr
  | [.ptr kp rp cp, .ptr kc rc cc, .int _ .i64 a, .int _ .i64 i, .ptr kq rq cq], H => match unH18 H with
    | some (nn, p, X) => some (Tr.needs ([Nat.beq kp 1024, Nat.beq rp 0, Nat.beq cp 0, Nat.beq kc 1088, Nat.beq rc 0, Nat.beq cc 0, Nat.beq kq 1040, Nat.beq rq 0, Nat.beq cq 0, decide (i = 0), decide (0 ≤ a), decide (a < 196608)] ++ nn)
      (exitT lk18b 2 [.ptr 1024 0 0, .ptr 1088 0 0, .any, .any, .ptr 1040 0 0] (h18 p X (mA a.toNat p.cM p.nM))))
    | none => none
  | _, _ => none
noncomputable def lp18b : Lp := { lk18b with get := get18b }
noncomputable def E18 : Env := ⟨EMa.call, loopEnv [(0, lp18a), (1, lp18b)]⟩

theorem r18a (p : Pa) (X : Nat → Int) (i : Int) : (evalB EMa Try.prog Try.f18.results.toList (loopOf Try.f18 0) 1 lp18a (v18a i) (h18 p X fun x => 0)).view [1, 2, 5, 6, 4] =
    (bif (bif cm BinOp.lss i 32 then cm BinOp.lss i (↑p.nX : Int) else false) then
      bif (decide (0 ≤ i)) then
        bif (decide (i < (↑p.nX : Int))) then
          bif (Nat.blt (i.toNat) (p.nX)) then
            bif (Nat.blt (i.toNat) (p.nX)) then
              bif (decide (0 ≤ i)) then
                bif (decide (i < 32)) then
                  bif (Nat.blt (i.toNat) (32)) then
                    bif (Nat.blt (i.toNat) (32)) then
                      .norm 70 [(.int true IntKind.i64 32), (.ptr 1024 0 0), (.ptr 1088 0 0), (.int false IntKind.i64 (ar BinOp.add IntKind.i64 i 1)), (.ptr 1040 0 0)] [(2, .tab (p.nX) [.ints IntKind.i64 (p.cX)] false), (3, .tab (p.nM) [.ints IntKind.u8 (p.cM)] false), (4, .tab (p.nI) [.ints IntKind.i64 (p.cI)] false), (1024, .cells [(.sl 0 (p.nL)), (.sl 1 (p.nW)), (.sl 2 (p.nX)), (.sl 3 (p.nM)), (.int false IntKind.i64 (p.at_)), (.sl 4 (p.nI)), (.int false IntKind.i64 (p.pc)), (.bool false (p.raw))]), (1040, .cells [(.int true IntKind.i64 0), (.val (Value.slice none 0 0)), (.bool true false), (.bool true false), (.bool true false), (.bool true false), (.val (Value.slice none 0 0)), (.val (Value.slice none 0 0)), (.val (Value.slice none 0 0)), (.int true IntKind.i64 0), (.int true IntKind.i64 0)]), (1072, .tab 32 [.ints IntKind.i64 (upd X i.toNat (p.cX i.toNat))] true), (1073, .tab 196608 [.ints IntKind.u8 (fun x => 0)] true), (1074, .tab 0 [.ints IntKind.i64 (fun x => 0)] true), (1075, .tab 0 [.ints IntKind.i64 (fun x => 0)] true), (1088, .cells [(.int false IntKind.i64 4096), (.sl 1072 32), (.bool false false), (.bool false false), (.bool false false), (.bool false false), (.sl 1073 196608), (.sl 1074 0), (.sl 1075 0), (.int false IntKind.i64 0), (.int false IntKind.i64 0)])]
                    else .bad
                  else .bad
                else .bad
              else .bad
            else .bad
          else .bad
        else .bad
      else .bad
    else
      .exit 0 70 [(.int true IntKind.i64 32), (.ptr 1024 0 0), (.ptr 1088 0 0), (.int false IntKind.i64 (i)), (.ptr 1040 0 0)] [(2, .tab (p.nX) [.ints IntKind.i64 (p.cX)] false), (3, .tab (p.nM) [.ints IntKind.u8 (p.cM)] false), (4, .tab (p.nI) [.ints IntKind.i64 (p.cI)] false), (1024, .cells [(.sl 0 (p.nL)), (.sl 1 (p.nW)), (.sl 2 (p.nX)), (.sl 3 (p.nM)), (.int false IntKind.i64 (p.at_)), (.sl 4 (p.nI)), (.int false IntKind.i64 (p.pc)), (.bool false (p.raw))]), (1040, .cells [(.int true IntKind.i64 0), (.val (Value.slice none 0 0)), (.bool true false), (.bool true false), (.bool true false), (.bool true false), (.val (Value.slice none 0 0)), (.val (Value.slice none 0 0)), (.val (Value.slice none 0 0)), (.int true IntKind.i64 0), (.int true IntKind.i64 0)]), (1072, .tab 32 [.ints IntKind.i64 (X)] true), (1073, .tab 196608 [.ints IntKind.u8 (fun x => 0)] true), (1074, .tab 0 [.ints IntKind.i64 (fun x => 0)] true), (1075, .tab 0 [.ints IntKind.i64 (fun x => 0)] true), (1088, .cells [(.int false IntKind.i64 4096), (.sl 1072 32), (.bool false false), (.bool false false), (.bool false false), (.bool false false), (.sl 1073 196608), (.sl 1074 0), (.sl 1075 0), (.int false IntKind.i64 0), (.int false IntKind.i64 0)])]) := by kernel_rfl

theorem r18b (p : Pa) (X : Nat → Int) (mem : Nat → Int) (a : Int) (i : Int) : (evalB EMa Try.prog Try.f18.results.toList (loopOf Try.f18 1) 2 lp18b (v18b a i) (h18 p X mem)).view [2, 5, 7, 8, 4] =
    (bif (bif cm BinOp.lss i (↑p.nM : Int) then cm BinOp.lss (ar BinOp.add IntKind.i64 a i) 196608 else false) then
      bif (decide (0 ≤ i)) then
        bif (decide (i < (↑p.nM : Int))) then
          bif (Nat.blt (i.toNat) (p.nM)) then
            bif (Nat.blt (i.toNat) (p.nM)) then
              bif (decide (0 ≤ ar BinOp.add IntKind.i64 a i)) then
                bif (decide (ar BinOp.add IntKind.i64 a i < 196608)) then
                  bif (Nat.blt ((ar BinOp.add IntKind.i64 a i).toNat) (196608)) then
                    bif (Nat.blt ((ar BinOp.add IntKind.i64 a i).toNat) (196608)) then
                      .norm 70 [(.ptr 1024 0 0), (.ptr 1088 0 0), (.int false IntKind.i64 (a)), (.int false IntKind.i64 (ar BinOp.add IntKind.i64 i 1)), (.ptr 1040 0 0)] [(2, .tab (p.nX) [.ints IntKind.i64 (p.cX)] false), (3, .tab (p.nM) [.ints IntKind.u8 (p.cM)] false), (4, .tab (p.nI) [.ints IntKind.i64 (p.cI)] false), (1024, .cells [(.sl 0 (p.nL)), (.sl 1 (p.nW)), (.sl 2 (p.nX)), (.sl 3 (p.nM)), (.int false IntKind.i64 (p.at_)), (.sl 4 (p.nI)), (.int false IntKind.i64 (p.pc)), (.bool false (p.raw))]), (1040, .cells [(.int true IntKind.i64 0), (.val (Value.slice none 0 0)), (.bool true false), (.bool true false), (.bool true false), (.bool true false), (.val (Value.slice none 0 0)), (.val (Value.slice none 0 0)), (.val (Value.slice none 0 0)), (.int true IntKind.i64 0), (.int true IntKind.i64 0)]), (1072, .tab 32 [.ints IntKind.i64 (X)] true), (1073, .tab 196608 [.ints IntKind.u8 (upd mem (ar BinOp.add IntKind.i64 a i).toNat (p.cM i.toNat))] true), (1074, .tab 0 [.ints IntKind.i64 (fun x => 0)] true), (1075, .tab 0 [.ints IntKind.i64 (fun x => 0)] true), (1088, .cells [(.int false IntKind.i64 4096), (.sl 1072 32), (.bool false false), (.bool false false), (.bool false false), (.bool false false), (.sl 1073 196608), (.sl 1074 0), (.sl 1075 0), (.int false IntKind.i64 0), (.int false IntKind.i64 0)])]
                    else .bad
                  else .bad
                else .bad
              else .bad
            else .bad
          else .bad
        else .bad
      else .bad
    else
      .exit 2 70 [(.ptr 1024 0 0), (.ptr 1088 0 0), (.int false IntKind.i64 (a)), (.int false IntKind.i64 (i)), (.ptr 1040 0 0)] [(2, .tab (p.nX) [.ints IntKind.i64 (p.cX)] false), (3, .tab (p.nM) [.ints IntKind.u8 (p.cM)] false), (4, .tab (p.nI) [.ints IntKind.i64 (p.cI)] false), (1024, .cells [(.sl 0 (p.nL)), (.sl 1 (p.nW)), (.sl 2 (p.nX)), (.sl 3 (p.nM)), (.int false IntKind.i64 (p.at_)), (.sl 4 (p.nI)), (.int false IntKind.i64 (p.pc)), (.bool false (p.raw))]), (1040, .cells [(.int true IntKind.i64 0), (.val (Value.slice none 0 0)), (.bool true false), (.bool true false), (.bool true false), (.bool true false), (.val (Value.slice none 0 0)), (.val (Value.slice none 0 0)), (.val (Value.slice none 0 0)), (.int true IntKind.i64 0), (.int true IntKind.i64 0)]), (1072, .tab 32 [.ints IntKind.i64 (X)] true), (1073, .tab 196608 [.ints IntKind.u8 (mem)] true), (1074, .tab 0 [.ints IntKind.i64 (fun x => 0)] true), (1075, .tab 0 [.ints IntKind.i64 (fun x => 0)] true), (1088, .cells [(.int false IntKind.i64 4096), (.sl 1072 32), (.bool false false), (.bool false false), (.bool false false), (.bool false false), (.sl 1073 196608), (.sl 1074 0), (.sl 1075 0), (.int false IntKind.i64 0), (.int false IntKind.i64 0)])]) := by kernel_rfl

theorem t18M (p : Pa) : (evalF E18 Try.prog 18 [SV.agg (vP p), SV.int true IntKind.i64 32] (hP p) 1024).leaf =
    (bif (eqA 32 (fun x => 0) fun x => 0) then
      bif (Nat.beq (p.nX) (p.nX)) then
        bif (Nat.beq (p.nM) (p.nM)) then
          bif (Nat.beq (p.nI) (p.nI)) then
            bif (eqL [SV.int false IntKind.i64 4096, SV.sl (1072 + 0) 32, SV.bool false false, SV.bool false false, SV.bool false false, SV.bool false false, SV.sl (1072 + 1) 196608, SV.sl (1072 + 2) 0, SV.sl (1072 + 3) 0, SV.int false IntKind.i64 0, SV.int false IntKind.i64 0] cpu0) then
              bif (eqA 196608 (fun x => 0) fun x => 0) then
                bif (decide (0 ≤ conv IntKind.i64 (ar BinOp.rem IntKind.u64 (conv IntKind.u64 p.at_) 196608))) then
                  bif (decide (conv IntKind.i64 (ar BinOp.rem IntKind.u64 (conv IntKind.u64 p.at_) 196608) < 196608)) then
                    bif (Nat.beq (p.nX) (p.nX)) then
                      bif (Nat.beq (p.nM) (p.nM)) then
                        bif (Nat.beq (p.nI) (p.nI)) then
                          bif (eqA 196608 (fun x => 0) fun x => 0) then
                            bif (Nat.beq (p.nI) (p.nI)) then
                              bif (Nat.ble (p.nI) (100000000)) then
                                .ret (.agg [(.int false IntKind.i64 4096), (.sl 1072 32), (.bool false false), (.bool false false), (.bool false false), (.bool false false), (.sl 1073 196608), (.sl 1532 (p.nI)), (.sl 1075 0), (.int false IntKind.i64 0), (.int false IntKind.i64 0)]) [(2, .tab (p.nX) [.ints IntKind.i64 (p.cX)] false), (3, .tab (p.nM) [.ints IntKind.u8 (p.cM)] false), (4, .tab (p.nI) [.ints IntKind.i64 (p.cI)] false), (1024, .cells [(.sl 0 (p.nL)), (.sl 1 (p.nW)), (.sl 2 (p.nX)), (.sl 3 (p.nM)), (.int false IntKind.i64 (p.at_)), (.sl 4 (p.nI)), (.int false IntKind.i64 (p.pc)), (.bool false (p.raw))]), (1040, .cells [(.int false IntKind.i64 4096), (.sl 1072 32), (.bool false false), (.bool false false), (.bool false false), (.bool false false), (.sl 1073 196608), (.sl 1532 (p.nI)), (.sl 1075 0), (.int false IntKind.i64 0), (.int false IntKind.i64 0)]), (1072, .tab 32 [.ints IntKind.i64 (xA p.cX p.nX)] true), (1073, .tab 196608 [.ints IntKind.u8 (mA (conv IntKind.i64 (ar BinOp.rem IntKind.u64 (conv IntKind.u64 p.at_) 196608)).toNat p.cM p.nM)] true), (1074, .tab 0 [.ints IntKind.i64 (fun x => 0)] true), (1075, .tab 0 [.ints IntKind.i64 (fun x => 0)] true), (1088, .cells [(.int false IntKind.i64 4096), (.sl 1072 32), (.bool false false), (.bool false false), (.bool false false), (.bool false false), (.sl 1073 196608), (.sl 1532 (p.nI)), (.sl 1075 0), (.int false IntKind.i64 0), (.int false IntKind.i64 0)]), (1532, .tab (p.nI) [.ints IntKind.i64 (p.cI)] true)]
                              else .bad
                            else .bad
                          else .bad
                        else .bad
                      else .bad
                    else .bad
                  else .bad
                else .bad
              else .bad
            else .bad
          else .bad
        else .bad
      else .bad
    else .bad) := by kernel_rfl

end Go.Rv
end

section
set_option linter.unusedVariables false
open Go Go.Ev Go.Proofs
namespace Go.Rv

theorem unH18_wk {H : Heap} {nn : List Bool} {p : Pa} {X : Nat → Int} (h : unH18 H = some (nn, p, X)) (hn : allB nn = true) : wkH (rmap []) H (h18 p X fun _ => 0) := by
  unfold unH18 at h
  split at h
  · rename_i q1 q2 q3 q4 q5 q6 q7 q8 q9 q10
    simp only [Option.some.injEq, Prod.mk.injEq] at h
    obtain ⟨rfl, rfl, rfl⟩ := h
    simp only [allB, Bool.and_true, Bool.and_eq_true, Nat.beq_eq, eqA_iff] at hn
    obtain ⟨rfl, rfl, rfl, rfl, rfl, rfl, rfl, rfl, rfl, rfl, rfl, rfl, h1, h2, hm⟩ := hn
    obtain ⟨_, q1, _⟩ := tI_spec q1
    obtain ⟨_, q2, _⟩ := tI_spec q2
    obtain ⟨_, q3, _⟩ := tI_spec q3
    obtain ⟨w5, q5, g5⟩ := tI_spec q5
    obtain ⟨w6, q6, g6⟩ := tI_spec q6
    obtain ⟨w7, q7, g7⟩ := tI_spec q7
    obtain ⟨w8, q8, g8⟩ := tI_spec q8
    have q4 := cL_spec q4
    have q9 := cL_spec q9
    have q10 := cL_spec q10
    have h1 := eqL_sim h1
    have h2 := eqL_sim h2
    have r0 : ∀ j, rmap [] j = .old j := fun j => rfl
    simp only [wkH, h18, hP3, List.cons_append, List.nil_append, r0, q1, q2, q3, q4, q5, q6, q7, q8, q9, q10, wkB, and_true]
    refine ⟨?_, ?_, ?_, ?_, h2, ⟨Nat.le_refl _, fun _ => g5 rfl, ?_⟩, ⟨Nat.le_refl _, fun _ => g6 rfl, ?_⟩, ⟨Nat.le_refl _, fun _ => g7 rfl, ?_⟩, ⟨Nat.le_refl _, fun _ => g8 rfl, ?_⟩, h1⟩
    all_goals simp [wkCs, wkC, vP, simL, sim, rmap, rlook]
    exact hm
  · cases h

theorem h18_wk (p : Pa) {X X' mem mem' : Nat → Int} (hX : ∀ r, r < 32 → X r = X' r) (hm : ∀ r, r < 196608 → mem r = mem' r) : wkH (rmap []) (h18 p X mem) (h18 p X' mem') := by
  simp [wkH, h18, hP3, vP, cpu0, zeroV, rmap, rlook, Ev.look, wkB, simL, sim, wkCs, wkC]
  exact ⟨hX, hm⟩

/-! loop 0 -/
structure X18a where
  p : Pa
  i : Nat
def ok18a (x : X18a) : Prop := 1 ≤ x.i ∧ x.i ≤ 32 ∧ (x.i ≤ x.p.nX ∨ x.i = 1)
def vs18a (x : X18a) : List SV := v18a x.i
def hp18a (x : X18a) : Heap := h18 x.p (xA x.p.cX x.i) (fun _ => 0)
def out18a (x : X18a) : Vw := .exit 0 70 [.any, .ptr 1024 0 0, .ptr 1088 0 0, .any, .ptr 1040 0 0] (h18 x.p (xA x.p.cX x.p.nX) (fun _ => 0))

theorem xA_one (g : Nat → Int) (r : Nat) : xA g 1 r = 0 := by
  unfold xA
  have : (Nat.blt 0 r && Nat.blt r 1) = false := by
    cases h : (Nat.blt 0 r && Nat.blt r 1) with
    | false => rfl
    | true => simp only [Bool.and_eq_true, Nat.blt_eq] at h; omega
  rw [this]; rfl
theorem xA_eq (g : Nat → Int) (n r : Nat) : xA g n r = if 0 < r ∧ r < n then g r else 0 := by
  unfold xA
  by_cases h : 0 < r ∧ r < n
  · rw [if_pos h, blt_t h.1, blt_t h.2]; rfl
  · rw [if_neg h]
    have : (Nat.blt 0 r && Nat.blt r n) = false := by
      cases hb : (Nat.blt 0 r && Nat.blt r n) with
      | false => rfl
      | true => simp only [Bool.and_eq_true, Nat.blt_eq] at hb; exact absurd hb h
    rw [this]; rfl
theorem mA_eq (a : Nat) (g : Nat → Int) (n r : Nat) : mA a g n r = if a ≤ r ∧ r < a + n then g (r - a) else 0 := by
  unfold mA
  by_cases h : a ≤ r ∧ r < a + n
  · rw [if_pos h, ble_t h.1, blt_t h.2]; rfl
  · rw [if_neg h]
    have : (Nat.ble a r && Nat.blt r (a + n)) = false := by
      cases hb : (Nat.ble a r && Nat.blt r (a + n)) with
      | false => rfl
      | true => simp only [Bool.and_eq_true, Nat.blt_eq, Nat.ble_eq] at hb; exact absurd hb h
    rw [this]; rfl
theorem upd_eq (g : Nat → Int) (k : Nat) (v : Int) (r : Nat) : upd g k v r = if r = k then v else g r := by
  by_cases h : r = k
  · subst h; rw [if_pos rfl, upd_at]
  · rw [if_neg h, upd_ne _ h]

theorem entry18a (l : List SV) (H : Heap) (T : Tr) (h : lp18a.get l H = some T) (hb : T.leaf ≠ .bad) : ∃ x r, ok18a x ∧ WkV r lp18a.nm l H (vs18a x) (hp18a x) ∧ T.leaf = toLf lp18a (out18a x) := by
  replace h : get18a l H = some T := h
  unfold get18a at h
  split at h
  · rename_i _ r kp rp cp kc rc cc _ i kq rq cq
    split at h
    · rename_i nn p X hu
      simp only [Option.some.injEq] at h
      subst h
      obtain ⟨hn, he⟩ := needs_ne hb
      rw [he]
      rw [allB_append] at hn
      simp only [allB, Bool.and_eq_true, Bool.and_true, decide_eq_true_eq, Nat.beq_eq, eqA_iff] at hn
      obtain ⟨⟨rfl, rfl, rfl, rfl, rfl, rfl, rfl, rfl, rfl, rfl, rfl, hX⟩, hnn⟩ := hn
      refine ⟨⟨p, 1⟩, [], ⟨Nat.le_refl _, by simp, .inr rfl⟩, ⟨rfl, ?_, ?_, rfl, rfl⟩, ?_⟩
      · simp [vs18a, v18a, wkF, wkS, sim, rmap, rlook]
      · have := unH18_wk hu hnn
        simp only [hp18a]
        revert this
        simp [wkH, h18, hP3, rmap, rlook]
        intro a1 a2 a3 a4 a5 a6 a7 a8 a9 a10
        refine ⟨a1, a2, a3, a4, a5, ?_, a7, a8, a9, a10⟩
        revert a6
        cases Ev.look H 1072 with
        | none => exact fun h => h
        | some b =>
          cases b with
          | tab n c rw_ =>
            simp only [wkB]
            rintro ⟨b1, b2, b3⟩
            refine ⟨b1, b2, ?_⟩
            cases c with
            | nil => exact b3.elim
            | cons c0 cs =>
              simp only [wkCs] at b3 ⊢
              refine ⟨?_, b3.2⟩
              have b4 := b3.1
              cases c0 <;> simp only [wkC] at b4 ⊢ <;> first | exact b4.elim | skip
              refine ⟨b4.1, fun r hr => ?_⟩
              rw [b4.2 r hr, hX r hr, xA_one]
          | _ => exact fun h => h.elim
      · simp only [exitT_leaf, out18a]
        rfl
    · cases h
  · cases h

attribute [local irreducible] evalB Tr.view in
theorem round18a (x : X18a) (hx : ok18a x) : Round lp18a ok18a (fun x => 32 - x.i) vs18a hp18a out18a x ((evalB EMa Try.prog Try.f18.results.toList (loopOf Try.f18 0) (0 + 1) lp18a (vs18a x) (hp18a x)).view lp18a.ks) := by
  obtain ⟨p, i⟩ := x
  obtain ⟨h0, h1, h2⟩ := hx
  simp only at h0 h1 h2
  have hr := r18a p (xA p.cX i) i
  rw [show evalB EMa Try.prog Try.f18.results.toList (loopOf Try.f18 0) (0 + 1) lp18a (vs18a ⟨p, i⟩) (hp18a ⟨p, i⟩) = evalB EMa Try.prog Try.f18.results.toList (loopOf Try.f18 0) 1 lp18a (v18a i) (h18 p (xA p.cX i) fun _ => 0) from rfl, show lp18a.ks = [1, 2, 5, 6, 4] from rfl, hr]
  by_cases hc : i < 32 ∧ i < p.nX
  · obtain ⟨c1, c2⟩ := hc
    have e1 : cm .lss (i : Int) 32 = true := by rw [cm_lss']; exact decide_eq_true (by omega)
    have e2 : cm .lss (i : Int) (p.nX : Int) = true := by rw [cm_lss']; exact decide_eq_true (by omega)
    have e3 : decide (0 ≤ (i : Int)) = true := decide_eq_true (by omega)
    have e4 : decide ((i : Int) < (p.nX : Int)) = true := decide_eq_true (by omega)
    have e5 : decide ((i : Int) < 32) = true := decide_eq_true (by omega)
    have e6 : Nat.blt i p.nX = true := blt_t c2
    have e7 : Nat.blt i 32 = true := blt_t c1
    simp only [e1, e2, e3, e4, e5, e6, e7, cond_true, Int.toNat_natCast, addOne (show i < 9223372036854775807 by omega)]
    refine ⟨rfl, ⟨p, i + 1⟩, [], ⟨by show 1 ≤ i + 1; omega, by show i + 1 ≤ 32; omega, .inl (by show i + 1 ≤ p.nX; omega)⟩, by show 32 - (i + 1) < 32 - i; omega, rfl, rfl, ?_, ?_, rfl, rfl⟩
    · simp [vs18a, v18a, wkF, wkS, sim, rmap, rlook]
    · refine h18_wk p (X := upd (xA p.cX i) i (p.cX i)) (X' := xA p.cX (i + 1)) (mem := fun _ => 0) (mem' := fun _ => 0) (fun r hr => ?_) fun r hr => rfl
      rw [upd_eq, xA_eq, xA_eq]
      by_cases hri : r = i
      · subst hri; rw [if_pos rfl, if_pos (by omega)]
      · rw [if_neg hri]
        by_cases hrl : 0 < r ∧ r < i
        · rw [if_pos hrl, if_pos (by omega)]
        · rw [if_neg hrl, if_neg (by omega)]
  · have e : (bif cm .lss (i : Int) 32 then cm .lss (i : Int) (p.nX : Int) else false) = false := by
      rw [cm_lss', cm_lss']
      by_cases c1 : i < 32
      · have c2 : ¬ (i : Int) < p.nX := by have := fun h => hc ⟨c1, h⟩; omega
        simp [c2]
      · have c2 : ¬ (i : Int) < 32 := by omega
        simp [c2]
    simp only [e, cond_false]
    refine ⟨rfl, [.any, .ptr 1024 0 0, .ptr 1088 0 0, .any, .ptr 1040 0 0], _, [], rfl, rfl, ?_, ?_, rfl, rfl⟩
    · simp [wkF, wkS, sim, rmap, rlook]
    · refine h18_wk p (X := xA p.cX i) (X' := xA p.cX p.nX) (mem := fun _ => 0) (mem' := fun _ => 0) (fun r hr => ?_) fun r hr => rfl
      rw [xA_eq, xA_eq]
      by_cases hrl : 0 < r ∧ r < i
      · rw [if_pos hrl, if_pos (by omega)]
      · rw [if_neg hrl, if_neg (by omega)]

/-! loop 1 -/
structure X18b where
  p : Pa
  X : Nat → Int
  a : Nat
  i : Nat
def ok18b (x : X18b) : Prop := x.a < 196608 ∧ x.i ≤ x.p.nM ∧ x.a + x.i ≤ 196608
def vs18b (x : X18b) : List SV := v18b x.a x.i
def hp18b (x : X18b) : Heap := h18 x.p x.X (mA x.a x.p.cM x.i)
def out18b (x : X18b) : Vw := .exit 2 70 [.ptr 1024 0 0, .ptr 1088 0 0, .any, .any, .ptr 1040 0 0] (h18 x.p x.X (mA x.a x.p.cM x.p.nM))

theorem mA_zero (a : Nat) (g : Nat → Int) (r : Nat) : mA a g 0 r = 0 := by rw [mA_eq, if_neg (by omega)]

theorem entry18b (l : List SV) (H : Heap) (T : Tr) (h : lp18b.get l H = some T) (hb : T.leaf ≠ .bad) : ∃ x r, ok18b x ∧ WkV r lp18b.nm l H (vs18b x) (hp18b x) ∧ T.leaf = toLf lp18b (out18b x) := by
  replace h : get18b l H = some T := h
  unfold get18b at h
  split at h
  · rename_i kp rp cp kc rc cc _ a _ i kq rq cq
    split at h
    · rename_i nn p X hu
      simp only [Option.some.injEq] at h
      subst h
      obtain ⟨hn, he⟩ := needs_ne hb
      rw [he]
      rw [allB_append] at hn
      simp only [allB, Bool.and_eq_true, Bool.and_true, decide_eq_true_eq, Nat.beq_eq] at hn
      obtain ⟨⟨rfl, rfl, rfl, rfl, rfl, rfl, rfl, rfl, rfl, rfl, h0, h1⟩, hnn⟩ := hn
      obtain ⟨a, rfl⟩ : ∃ n : Nat, a = (n : Int) := ⟨a.toNat, by omega⟩
      refine ⟨⟨p, X, a, 0⟩, [], ⟨by simp only; omega, Nat.zero_le _, by simp only; omega⟩, ⟨rfl, ?_, ?_, rfl, rfl⟩, ?_⟩
      · simp [vs18b, v18b, wkF, wkS, sim, rmap, rlook]
      · have := unH18_wk hu hnn
        simp only [hp18b]
        revert this
        have e : mA a p.cM 0 = fun _ => 0 := funext (mA_zero a p.cM)
        rw [e]
        exact fun h => h
      · simp only [exitT_leaf, out18b, Int.toNat_natCast]
        rfl
    · cases h
  · cases h

attribute [local irreducible] evalB Tr.view in
theorem round18b (x : X18b) (hx : ok18b x) : Round lp18b ok18b (fun x => x.p.nM - x.i) vs18b hp18b out18b x ((evalB EMa Try.prog Try.f18.results.toList (loopOf Try.f18 1) (1 + 1) lp18b (vs18b x) (hp18b x)).view lp18b.ks) := by
  obtain ⟨p, X, a, i⟩ := x
  obtain ⟨h0, h1, h2⟩ := hx
  simp only at h0 h1 h2
  have hr := r18b p X (mA a p.cM i) a i
  rw [show evalB EMa Try.prog Try.f18.results.toList (loopOf Try.f18 1) (1 + 1) lp18b (vs18b ⟨p, X, a, i⟩) (hp18b ⟨p, X, a, i⟩) = evalB EMa Try.prog Try.f18.results.toList (loopOf Try.f18 1) 2 lp18b (v18b a i) (h18 p X (mA a p.cM i)) from rfl, show lp18b.ks = [2, 5, 7, 8, 4] from rfl, hr]
  have ea : ar .add .i64 (a : Int) (i : Int) = ((a + i : Nat) : Int) := by simp only [ar, IntKind.wrap_i64]; omega
  rw [ea]
  by_cases hc : i < p.nM ∧ a + i < 196608
  · obtain ⟨c1, c2⟩ := hc
    have e1 : cm .lss (i : Int) (p.nM : Int) = true := by rw [cm_lss']; exact decide_eq_true (by omega)
    have e2 : cm .lss ((a + i : Nat) : Int) 196608 = true := by rw [cm_lss']; exact decide_eq_true (by omega)
    have e3 : decide (0 ≤ (i : Int)) = true := decide_eq_true (by omega)
    have e4 : decide ((i : Int) < (p.nM : Int)) = true := decide_eq_true (by omega)
    have e5 : decide (0 ≤ ((a + i : Nat) : Int)) = true := decide_eq_true (by omega)
    have e6 : decide (((a + i : Nat) : Int) < 196608) = true := decide_eq_true (by omega)
    have e7 : Nat.blt i p.nM = true := blt_t c1
    have e8 : Nat.blt (a + i) 196608 = true := blt_t c2
    rw [addOne (show i < 9223372036854775807 by omega), Int.toNat_natCast, Int.toNat_natCast, e1, e2, e3, e4, e5, e6, e7, e8]
    simp only [cond_true]
    refine ⟨rfl, ⟨p, X, a, i + 1⟩, [], ⟨h0, by show i + 1 ≤ p.nM; omega, by show a + (i + 1) ≤ 196608; omega⟩, by show p.nM - (i + 1) < p.nM - i; omega, rfl, rfl, ?_, ?_, rfl, rfl⟩
    · simp [vs18b, v18b, wkF, wkS, sim, rmap, rlook]
    · refine h18_wk p (X := X) (X' := X) (mem := upd (mA a p.cM i) (a + i) (p.cM i)) (mem' := mA a p.cM (i + 1)) (fun r hr => rfl) fun r hr => ?_
      rw [upd_eq, mA_eq, mA_eq]
      by_cases hri : r = a + i
      · subst hri; rw [if_pos rfl, if_pos (by omega), Nat.add_sub_cancel_left]
      · rw [if_neg hri]
        by_cases hrl : a ≤ r ∧ r < a + i
        · rw [if_pos hrl, if_pos (by omega)]
        · rw [if_neg hrl, if_neg (by omega)]
  · have e : (bif cm .lss (i : Int) (p.nM : Int) then cm .lss ((a + i : Nat) : Int) 196608 else false) = false := by
      rw [cm_lss', cm_lss']
      by_cases c1 : i < p.nM
      · have c2 : ¬ ((a + i : Nat) : Int) < 196608 := by have := fun h => hc ⟨c1, h⟩; omega
        simp only [decide_eq_false c2]; cases decide ((i : Int) < (p.nM : Int)) <;> rfl
      · have c2 : ¬ (i : Int) < p.nM := by omega
        simp only [decide_eq_false c2]; rfl
    rw [e, cond_false]
    refine ⟨rfl, [.ptr 1024 0 0, .ptr 1088 0 0, .any, .any, .ptr 1040 0 0], _, [], rfl, rfl, ?_, ?_, rfl, rfl⟩
    · simp [wkF, wkS, sim, rmap, rlook]
    · refine h18_wk p (X := X) (X' := X) (mem := mA a p.cM i) (mem' := mA a p.cM p.nM) (fun r hr => rfl) fun r hr => ?_
      rw [mA_eq, mA_eq]
      by_cases hrl : a ≤ r ∧ r < a + i
      · rw [if_pos hrl, if_pos (by omega)]
      · rw [if_neg hrl, if_neg (by omega)]

theorem e18_calls : CallsOk E18 Try.prog := fun f args H nm r h hn => ema_calls f args H nm r h hn
attribute [local irreducible] evalB Tr.view in
theorem loop18a : LoopOk E18 Try.prog Try.f18 0 (loopOf Try.f18 0) :=
  loop_okE mixed (fun S => rfl) (by decide) ok18a (fun x => 32 - x.i) vs18a hp18a out18a entry18a fun x hx => ⟨EMa, ema_calls, loops_noLoop ema_loop _ _, round18a x hx⟩
attribute [local irreducible] evalB Tr.view in
theorem loop18b : LoopOk E18 Try.prog Try.f18 1 (loopOf Try.f18 1) :=
  loop_okE mixed (fun S => rfl) (by decide) ok18b (fun x => x.p.nM - x.i) vs18b hp18b out18b entry18b fun x hx => ⟨EMa, ema_calls, loops_noLoop ema_loop _ _, round18b x hx⟩
theorem fn18M : Try.prog.funcs[18]? = some Try.f18 := by kernel_rfl
theorem b18M : Try.f18.body = some (bodyOf Try.f18) := by kernel_rfl
theorem n18M : (Try.f18.name == "runtime.NumGoroutine") = false := by kernel_rfl
theorem nl18M : Code.loops (bodyOf Try.f18) = 2 := by kernel_rfl
theorem nth18a : nthLoop (bodyOf Try.f18) 0 = some (loopOf Try.f18 0) := by kernel_rfl
theorem nth18b : nthLoop (bodyOf Try.f18) 1 = some (loopOf Try.f18 1) := by kernel_rfl
theorem loops18 : LoopsOk E18 Try.prog Try.f18 (bodyOf Try.f18) 0 := loops2 nl18M
  (fun a ha => by rw [nth18a] at ha; simp only [Option.some.injEq] at ha; subst ha; exact loop18a)
  (fun a ha => by rw [nth18b] at ha; simp only [Option.some.injEq] at ha; subst ha; exact loop18b)

end Go.Rv
end

section
set_option linter.unusedVariables false
open Go Go.Ev Go.Proofs
namespace Go.Rv

noncomputable def ECd : Env := inlF Try.prog (envOf [(30, sEnc)] noLoop) [31] [] [] 1
theorem named31 : named Try.prog [31] = true := by kernel_rfl
theorem ecd_calls : CallsOk ECd Try.prog := (inlF_calls ((SpecsOk.cons ok7 SpecsOk.nil).calls noLoop) mixed named31 rfl rfl 1).1
theorem ecd_loop : ECd.loop = noLoop := rfl

def wordA (w : Int) : ByteArray := strOf (nth [conv .u8 w, conv .u8 (ar .shr .u32 w 8), conv .u8 (ar .shr .u32 w 16), conv .u8 (ar .shr .u32 w 24)] 0) 4
def hC (p : Pa) : Heap := [(0, .tab p.nL [.ints .i64 p.c0, .ints .i64 p.c1, .ints .i64 p.c2, .ints .i64 p.c3, .ints .i64 p.c4] false), (1, .tab p.nW [.ints .u32 p.cw] false), (1024, .cells (vP p))]
def addL (p : Pa) (i : Nat) (s : ByteArray) : ByteArray := bif cm .eql (errL (p.c0 i) (p.c1 i) (p.c2 i) (p.c3 i) (p.c4 i)) 0 then s ++ wordA (wordL (p.c0 i) (p.c1 i) (p.c2 i) (p.c3 i) (p.c4 i)) else s
def codeL (p : Pa) : Nat → Nat → ByteArray → ByteArray
  | 0, _, s => s
  | f + 1, i, s => bif Nat.blt i p.nL then codeL p f (i + 1) (addL p i s) else s
def codeW (p : Pa) : Nat → Nat → ByteArray → ByteArray
  | 0, _, s => s
  | f + 1, i, s => bif (bif Nat.blt i p.nW then p.raw else false) then codeW p f (i + 1) (s ++ wordA (p.cw i)) else s
def unHC (H : Heap) : Option (List Bool × Pa) :=
  match Ev.look H 0, Ev.look H 1, cL H 1024 with
  | some (.tab nL [.ints .i64 c0, .ints .i64 c1, .ints .i64 c2, .ints .i64 c3, .ints .i64 c4] _), some (.tab nW [.ints .u32 cw] _), some [.sl k0 n0, .sl k1 n1, .sl k2 nX, .sl k3 nM, .int _ .i64 at_, .sl k4 nI, .int _ .i64 pc, .bool _ raw] =>
    some ([Nat.beq k0 0, Nat.beq k1 1, Nat.beq k2 2, Nat.beq k3 3, Nat.beq k4 4, Nat.beq n0 nL, Nat.beq n1 nW],
      ⟨nL, nW, nX, nM, nI, c0, c1, c2, c3, c4, cw, fun _ => 0, fun _ => 0, fun _ => 0, at_, pc, raw⟩)
  | _, _, _ => none
def v17a (s : ByteArray) (i : Int) : List SV := [.ptr 1024 0 0, .str s, .int false .i64 i]
def lk17a : Lp := ⟨62, [1, 3, 4], 1300, fun _ _ => none⟩
def get17a : List SV → Heap → Option Tr
  | [.ptr kp rp cp, .str s, .int _ .i64 i], H => match unHC H with
    | some (nn, p) => some (Tr.needs ([Nat.beq kp 1024, Nat.beq rp 0, Nat.beq cp 0, decide (i = 0), Nat.beq s.size 0] ++ nn)
      (exitT lk17a 0 [.ptr 1024 0 0, .str (codeL p 24 0 s), .any] (hC p)))
    | none => none
  | _, _ => none
def lp17a : Lp := { lk17a with get := get17a }
def v17b (s : ByteArray) (i : Int) : List SV := [.ptr 1024 0 0, .str s, .int false .i64 i]
def lk17b : Lp := ⟨62, [1, 3, 7], 1500, fun _ _ => none⟩
noncomputable def lessB (s : ByteArray) (n : Nat) : Bool := @decide (s.size ≤ n) (Classical.propDecidable _)
theorem lessB_iff {s : ByteArray} {n : Nat} : lessB s n = true ↔ s.size ≤ n := @decide_eq_true_iff _ (Classical.propDecidable _)
noncomputable def get17b : List SV → Heap → Option Tr
  | [.ptr kp rp cp, .str s, .int _ .i64 i], H => match unHC H with
    | some (nn, p) => some (Tr.needs ([Nat.beq kp 1024, Nat.beq rp 0, Nat.beq cp 0, decide (i = 0), lessB s 96] ++ nn)
      (exitT lk17b 2 [.ptr 1024 0 0, .str (codeW p 4 0 s), .any] (hC p)))
    | none => none
  | _, _ => none
noncomputable def lp17b : Lp := { lk17b with get := get17b }
noncomputable def E17 : Env := ⟨ECd.call, loopEnv [(0, lp17a), (1, lp17b)]⟩

theorem r17a (p : Pa) (s : ByteArray) (i : Int) : (evalB ECd Try.prog Try.f17.results.toList (loopOf Try.f17 0) 1 lp17a (v17a s i) (hC p)).view [1, 3, 4] =
    (bif (bif cm BinOp.lss i (↑p.nL : Int) then cm BinOp.lss i 24 else false) then
      bif (decide (0 ≤ i)) then
        bif (decide (i < (↑p.nL : Int))) then
          bif (Nat.blt (i.toNat) (p.nL)) then
            bif (Nat.blt (i.toNat) (p.nL)) then
              bif (cm BinOp.eql (errL (p.c0 i.toNat) (p.c1 i.toNat) (p.c2 i.toNat) (p.c3 i.toNat) (p.c4 i.toNat)) 0) then
                bif (Nat.ble (s.size + (strOf (nth [conv IntKind.u8 (wordL (p.c0 i.toNat) (p.c1 i.toNat) (p.c2 i.toNat) (p.c3 i.toNat) (p.c4 i.toNat)), conv IntKind.u8 (ar BinOp.shr IntKind.u32 (wordL (p.c0 i.toNat) (p.c1 i.toNat) (p.c2 i.toNat) (p.c3 i.toNat) (p.c4 i.toNat)) 8), conv IntKind.u8 (ar BinOp.shr IntKind.u32 (wordL (p.c0 i.toNat) (p.c1 i.toNat) (p.c2 i.toNat) (p.c3 i.toNat) (p.c4 i.toNat)) 16), conv IntKind.u8 (ar BinOp.shr IntKind.u32 (wordL (p.c0 i.toNat) (p.c1 i.toNat) (p.c2 i.toNat) (p.c3 i.toNat) (p.c4 i.toNat)) 24)] 0) 4).size) (9223372036854775807)) then
                  .norm 62 [(.ptr 1024 0 0), (.str (s ++ strOf (nth [conv IntKind.u8 (wordL (p.c0 i.toNat) (p.c1 i.toNat) (p.c2 i.toNat) (p.c3 i.toNat) (p.c4 i.toNat)), conv IntKind.u8 (ar BinOp.shr IntKind.u32 (wordL (p.c0 i.toNat) (p.c1 i.toNat) (p.c2 i.toNat) (p.c3 i.toNat) (p.c4 i.toNat)) 8), conv IntKind.u8 (ar BinOp.shr IntKind.u32 (wordL (p.c0 i.toNat) (p.c1 i.toNat) (p.c2 i.toNat) (p.c3 i.toNat) (p.c4 i.toNat)) 16), conv IntKind.u8 (ar BinOp.shr IntKind.u32 (wordL (p.c0 i.toNat) (p.c1 i.toNat) (p.c2 i.toNat) (p.c3 i.toNat) (p.c4 i.toNat)) 24)] 0) 4)), (.int false IntKind.i64 (ar BinOp.add IntKind.i64 i 1))] [(0, .tab (p.nL) [.ints IntKind.i64 (p.c0), .ints IntKind.i64 (p.c1), .ints IntKind.i64 (p.c2), .ints IntKind.i64 (p.c3), .ints IntKind.i64 (p.c4)] false), (1, .tab (p.nW) [.ints IntKind.u32 (p.cw)] false), (1024, .cells [(.sl 0 (p.nL)), (.sl 1 (p.nW)), (.sl 2 (p.nX)), (.sl 3 (p.nM)), (.int false IntKind.i64 (p.at_)), (.sl 4 (p.nI)), (.int false IntKind.i64 (p.pc)), (.bool false (p.raw))])]
                else .bad
              else
                .norm 62 [(.ptr 1024 0 0), (.str (s)), (.int false IntKind.i64 (ar BinOp.add IntKind.i64 i 1))] [(0, .tab (p.nL) [.ints IntKind.i64 (p.c0), .ints IntKind.i64 (p.c1), .ints IntKind.i64 (p.c2), .ints IntKind.i64 (p.c3), .ints IntKind.i64 (p.c4)] false), (1, .tab (p.nW) [.ints IntKind.u32 (p.cw)] false), (1024, .cells [(.sl 0 (p.nL)), (.sl 1 (p.nW)), (.sl 2 (p.nX)), (.sl 3 (p.nM)), (.int false IntKind.i64 (p.at_)), (.sl 4 (p.nI)), (.int false IntKind.i64 (p.pc)), (.bool false (p.raw))])]
            else .bad
          else .bad
        else .bad
      else .bad
    else
      .exit 0 62 [(.ptr 1024 0 0), (.str (s)), (.int false IntKind.i64 (i))] [(0, .tab (p.nL) [.ints IntKind.i64 (p.c0), .ints IntKind.i64 (p.c1), .ints IntKind.i64 (p.c2), .ints IntKind.i64 (p.c3), .ints IntKind.i64 (p.c4)] false), (1, .tab (p.nW) [.ints IntKind.u32 (p.cw)] false), (1024, .cells [(.sl 0 (p.nL)), (.sl 1 (p.nW)), (.sl 2 (p.nX)), (.sl 3 (p.nM)), (.int false IntKind.i64 (p.at_)), (.sl 4 (p.nI)), (.int false IntKind.i64 (p.pc)), (.bool false (p.raw))])]) := by kernel_rfl

theorem r17b (p : Pa) (s : ByteArray) (i : Int) : (evalB ECd Try.prog Try.f17.results.toList (loopOf Try.f17 1) 2 lp17b (v17b s i) (hC p)).view [1, 3, 7] =
    (bif (bif cm BinOp.lss i (↑p.nW : Int) then bif cm BinOp.lss i 4 then p.raw else false else false) then
      bif (decide (0 ≤ i)) then
        bif (decide (i < (↑p.nW : Int))) then
          bif (Nat.blt (i.toNat) (p.nW)) then
            bif (Nat.blt (i.toNat) (p.nW)) then
              bif (Nat.ble (s.size + (strOf (nth [conv IntKind.u8 (p.cw i.toNat), conv IntKind.u8 (ar BinOp.shr IntKind.u32 (p.cw i.toNat) 8), conv IntKind.u8 (ar BinOp.shr IntKind.u32 (p.cw i.toNat) 16), conv IntKind.u8 (ar BinOp.shr IntKind.u32 (p.cw i.toNat) 24)] 0) 4).size) (9223372036854775807)) then
                .norm 62 [(.ptr 1024 0 0), (.str (s ++ strOf (nth [conv IntKind.u8 (p.cw i.toNat), conv IntKind.u8 (ar BinOp.shr IntKind.u32 (p.cw i.toNat) 8), conv IntKind.u8 (ar BinOp.shr IntKind.u32 (p.cw i.toNat) 16), conv IntKind.u8 (ar BinOp.shr IntKind.u32 (p.cw i.toNat) 24)] 0) 4)), (.int false IntKind.i64 (ar BinOp.add IntKind.i64 i 1))] [(0, .tab (p.nL) [.ints IntKind.i64 (p.c0), .ints IntKind.i64 (p.c1), .ints IntKind.i64 (p.c2), .ints IntKind.i64 (p.c3), .ints IntKind.i64 (p.c4)] false), (1, .tab (p.nW) [.ints IntKind.u32 (p.cw)] false), (1024, .cells [(.sl 0 (p.nL)), (.sl 1 (p.nW)), (.sl 2 (p.nX)), (.sl 3 (p.nM)), (.int false IntKind.i64 (p.at_)), (.sl 4 (p.nI)), (.int false IntKind.i64 (p.pc)), (.bool false (p.raw))])]
              else .bad
            else .bad
          else .bad
        else .bad
      else .bad
    else
      .exit 2 62 [(.ptr 1024 0 0), (.str (s)), (.int false IntKind.i64 (i))] [(0, .tab (p.nL) [.ints IntKind.i64 (p.c0), .ints IntKind.i64 (p.c1), .ints IntKind.i64 (p.c2), .ints IntKind.i64 (p.c3), .ints IntKind.i64 (p.c4)] false), (1, .tab (p.nW) [.ints IntKind.u32 (p.cw)] false), (1024, .cells [(.sl 0 (p.nL)), (.sl 1 (p.nW)), (.sl 2 (p.nX)), (.sl 3 (p.nM)), (.int false IntKind.i64 (p.at_)), (.sl 4 (p.nI)), (.int false IntKind.i64 (p.pc)), (.bool false (p.raw))])]) := by kernel_rfl

theorem t17C (p : Pa) : (evalF E17 Try.prog 17 [SV.agg (vP p)] (hP p) 1024).bare =
    (bif (Nat.beq (p.nL) (p.nL)) then
      bif (Nat.beq (p.nW) (p.nW)) then
        bif (lessB (codeL { nL := p.nL, nW := p.nW, nX := p.nX, nM := p.nM, nI := p.nI, c0 := p.c0, c1 := p.c1, c2 := p.c2, c3 := p.c3, c4 := p.c4, cw := p.cw, cX := fun x => 0, cM := fun x => 0, cI := fun x => 0, at_ := p.at_, pc := p.pc, raw := p.raw } 24 0 (ByteArray.mk #[])) 96) then
          bif (Nat.beq (p.nL) (p.nL)) then
            bif (Nat.beq (p.nW) (p.nW)) then
              .ret (.str (codeW { nL := p.nL, nW := p.nW, nX := p.nX, nM := p.nM, nI := p.nI, c0 := p.c0, c1 := p.c1, c2 := p.c2, c3 := p.c3, c4 := p.c4, cw := p.cw, cX := fun x => 0, cM := fun x => 0, cI := fun x => 0, at_ := p.at_, pc := p.pc, raw := p.raw } 4 0 (codeL { nL := p.nL, nW := p.nW, nX := p.nX, nM := p.nM, nI := p.nI, c0 := p.c0, c1 := p.c1, c2 := p.c2, c3 := p.c3, c4 := p.c4, cw := p.cw, cX := fun x => 0, cM := fun x => 0, cI := fun x => 0, at_ := p.at_, pc := p.pc, raw := p.raw } 24 0 (ByteArray.mk #[])))) []
            else .bad
          else .bad
        else .bad
      else .bad
    else .bad) := by kernel_rfl

end Go.Rv
end

section
set_option linter.unusedVariables false
open Go Go.Ev Go.Proofs
namespace Go.Rv

theorem wordA_size (w : Int) : (wordA w).size = 4 := by
  unfold wordA strOf
  simp [ByteArray.size]
theorem addL_size (p : Pa) (i : Nat) (s : ByteArray) : (addL p i s).size ≤ s.size + 4 := by
  unfold addL
  cases cm .eql (errL (p.c0 i) (p.c1 i) (p.c2 i) (p.c3 i) (p.c4 i)) 0 with
  | true => rw [cond_true, ByteArray.size_append, wordA_size]; exact Nat.le_refl _
  | false => rw [cond_false]; omega
theorem codeL_size (p : Pa) : ∀ f i s, (codeL p f i s).size ≤ s.size + 4 * f
  | 0, _, s => Nat.le_refl _
  | f + 1, i, s => by
    unfold codeL
    cases Nat.blt i p.nL with
    | true => rw [cond_true]; have := codeL_size p f (i + 1) (addL p i s); have := addL_size p i s; omega
    | false => rw [cond_false]; omega
theorem codeW_size (p : Pa) : ∀ f i s, (codeW p f i s).size ≤ s.size + 4 * f
  | 0, _, s => Nat.le_refl _
  | f + 1, i, s => by
    unfold codeW
    cases (bif Nat.blt i p.nW then p.raw else false) with
    | true => rw [cond_true]; have := codeW_size p f (i + 1) (s ++ wordA (p.cw i)); rw [ByteArray.size_append, wordA_size] at this; omega
    | false => rw [cond_false]; omega

theorem unHC_wk {H : Heap} {nn : List Bool} {p : Pa} (h : unHC H = some (nn, p)) (hn : allB nn = true) : wkH (rmap []) H (hC p) := by
  unfold unHC at h
  split at h
  · rename_i q1 q2 q3
    simp only [Option.some.injEq, Prod.mk.injEq] at h
    obtain ⟨rfl, rfl⟩ := h
    simp only [allB, Bool.and_true, Bool.and_eq_true, Nat.beq_eq] at hn
    obtain ⟨rfl, rfl, rfl, rfl, rfl, rfl, rfl⟩ := hn
    have q3 := cL_spec q3
    have r0 : ∀ j, rmap [] j = .old j := fun j => rfl
    simp only [wkH, hC, r0, q1, q2, q3, wkB, and_true]
    simp [wkCs, wkC, vP, simL, sim, rmap, rlook]
  · cases h
theorem hC_self (p : Pa) : wkH (rmap []) (hC p) (hC p) := by
  simp [wkH, hC, vP, rmap, rlook, Ev.look, wkB, simL, sim, wkCs, wkC]

structure X17 where
  p : Pa
  s : ByteArray
  i : Nat
def ok17a (x : X17) : Prop := x.i ≤ 24 ∧ x.s.size ≤ 4 * x.i
def vs17a (x : X17) : List SV := v17a x.s x.i
def hp17 (x : X17) : Heap := hC x.p
def out17a (x : X17) : Vw := .exit 0 62 [.ptr 1024 0 0, .str (codeL x.p (24 - x.i) x.i x.s), .any] (hC x.p)

theorem entry17a (l : List SV) (H : Heap) (T : Tr) (h : lp17a.get l H = some T) (hb : T.leaf ≠ .bad) : ∃ x r, ok17a x ∧ WkV r lp17a.nm l H (vs17a x) (hp17 x) ∧ T.leaf = toLf lp17a (out17a x) := by
  replace h : get17a l H = some T := h
  unfold get17a at h
  split at h
  · rename_i kp rp cp s _ i
    split at h
    · rename_i nn p hu
      simp only [Option.some.injEq] at h
      subst h
      obtain ⟨hn, he⟩ := needs_ne hb
      rw [he]
      rw [allB_append] at hn
      simp only [allB, Bool.and_eq_true, Bool.and_true, decide_eq_true_eq, Nat.beq_eq] at hn
      obtain ⟨⟨rfl, rfl, rfl, rfl, hs⟩, hnn⟩ := hn
      refine ⟨⟨p, s, 0⟩, [], ⟨Nat.zero_le _, by simp only; omega⟩, ⟨rfl, ?_, unHC_wk hu hnn, rfl, rfl⟩, ?_⟩
      · simp [vs17a, v17a, wkF, wkS, sim, rmap, rlook]
      · simp only [exitT_leaf, out17a]
        rfl
    · cases h
  · cases h

attribute [local irreducible] evalB Tr.view strOf in
theorem round17a (x : X17) (hx : ok17a x) : Round lp17a ok17a (fun x => 24 - x.i) vs17a hp17 out17a x ((evalB ECd Try.prog Try.f17.results.toList (loopOf Try.f17 0) (0 + 1) lp17a (vs17a x) (hp17 x)).view lp17a.ks) := by
  obtain ⟨p, s, i⟩ := x
  obtain ⟨h0, h1⟩ := hx
  simp only at h0 h1
  have hr := r17a p s i
  rw [show evalB ECd Try.prog Try.f17.results.toList (loopOf Try.f17 0) (0 + 1) lp17a (vs17a ⟨p, s, i⟩) (hp17 ⟨p, s, i⟩) = evalB ECd Try.prog Try.f17.results.toList (loopOf Try.f17 0) 1 lp17a (v17a s i) (hC p) from rfl, show lp17a.ks = [1, 3, 4] from rfl, hr]
  by_cases hc : i < p.nL ∧ i < 24
  · obtain ⟨c1, c2⟩ := hc
    have e1 : cm .lss (i : Int) (p.nL : Int) = true := by rw [cm_lss']; exact decide_eq_true (by omega)
    have e2 : cm .lss (i : Int) 24 = true := by rw [cm_lss']; exact decide_eq_true (by omega)
    have e3 : decide (0 ≤ (i : Int)) = true := decide_eq_true (by omega)
    have e4 : decide ((i : Int) < (p.nL : Int)) = true := decide_eq_true (by omega)
    have e5 : Nat.blt i p.nL = true := blt_t c1
    obtain ⟨f, hf⟩ : ∃ f, 24 - i = f + 1 := ⟨23 - i, by omega⟩
    have hf2 : 24 - (i + 1) = f := by omega
    have hstep : codeL p (24 - i) i s = codeL p (24 - (i + 1)) (i + 1) (addL p i s) := by
      rw [hf, hf2]
      show (bif Nat.blt i p.nL then codeL p f (i + 1) (addL p i s) else s) = _
      rw [e5, cond_true]
    rw [addOne (show i < 9223372036854775807 by omega), Int.toNat_natCast, e1, e2, e3, e4, e5]
    simp only [cond_true]
    have hnext : ∀ s', s' = addL p i s → Round lp17a ok17a (fun x => 24 - x.i) vs17a hp17 out17a ⟨p, s, i⟩ (.norm 62 [.ptr 1024 0 0, .str s', .int false .i64 ((i + 1 : Nat) : Int)] (hC p)) := by
      intro s' hs'
      subst hs'
      have hsz := addL_size p i s
      refine ⟨rfl, ⟨p, addL p i s, i + 1⟩, [], ⟨c2, by show (addL p i s).size ≤ 4 * (i + 1); omega⟩, by show 24 - (i + 1) < 24 - i; omega, ?_, rfl, ?_, hC_self p, rfl, rfl⟩
      · simp only [out17a, hstep]
      · simp [vs17a, v17a, wkF, wkS, sim, rmap, rlook]
    refine Round_cond (fun hq => ?_) (fun hq => ?_)
    · refine Round_cond (fun _ => ?_) (fun hbad => ?_)
      · refine hnext _ ?_
        unfold addL
        rw [hq, cond_true]
        rfl
      · exfalso
        have hw := wordA_size (wordL (p.c0 i) (p.c1 i) (p.c2 i) (p.c3 i) (p.c4 i))
        unfold wordA at hw
        rw [hw, ble_t (by omega)] at hbad
        cases hbad
    · refine hnext _ ?_
      unfold addL
      rw [hq, cond_false]
  · have e : (bif cm .lss (i : Int) (p.nL : Int) then cm .lss (i : Int) 24 else false) = false := by
      rw [cm_lss', cm_lss']
      by_cases c1 : i < p.nL
      · have c2 : ¬ (i : Int) < 24 := by have := fun h => hc ⟨c1, h⟩; omega
        simp only [decide_eq_false c2]; cases decide ((i : Int) < (p.nL : Int)) <;> rfl
      · have c2 : ¬ (i : Int) < p.nL := by omega
        simp only [decide_eq_false c2]; rfl
    have hend : codeL p (24 - i) i s = s := by
      by_cases c1 : i < 24
      · obtain ⟨f, hf⟩ : ∃ f, 24 - i = f + 1 := ⟨23 - i, by omega⟩
        rw [hf]
        have : Nat.blt i p.nL = false := by cases hb : Nat.blt i p.nL with | false => rfl | true => rw [Nat.blt_eq] at hb; exact absurd ⟨hb, c1⟩ hc
        show (bif Nat.blt i p.nL then codeL p f (i + 1) (addL p i s) else s) = s
        rw [this, cond_false]
      · rw [show 24 - i = 0 by omega]; rfl
    rw [e, cond_false]
    refine ⟨rfl, [.ptr 1024 0 0, .str s, .any], hC p, [], ?_, rfl, ?_, hC_self p, rfl, rfl⟩
    · simp only [out17a, hend]
      rfl
    · simp [wkF, wkS, sim, rmap, rlook]

def ok17b (x : X17) : Prop := x.i ≤ 4 ∧ x.s.size ≤ 96 + 4 * x.i
def vs17b (x : X17) : List SV := v17b x.s x.i
def out17b (x : X17) : Vw := .exit 2 62 [.ptr 1024 0 0, .str (codeW x.p (4 - x.i) x.i x.s), .any] (hC x.p)

theorem entry17b (l : List SV) (H : Heap) (T : Tr) (h : lp17b.get l H = some T) (hb : T.leaf ≠ .bad) : ∃ x r, ok17b x ∧ WkV r lp17b.nm l H (vs17b x) (hp17 x) ∧ T.leaf = toLf lp17b (out17b x) := by
  replace h : get17b l H = some T := h
  unfold get17b at h
  split at h
  · rename_i kp rp cp s _ i
    split at h
    · rename_i nn p hu
      simp only [Option.some.injEq] at h
      subst h
      obtain ⟨hn, he⟩ := needs_ne hb
      rw [he]
      rw [allB_append] at hn
      simp only [allB, Bool.and_eq_true, Bool.and_true, decide_eq_true_eq, Nat.beq_eq, lessB_iff] at hn
      obtain ⟨⟨rfl, rfl, rfl, rfl, hs⟩, hnn⟩ := hn
      refine ⟨⟨p, s, 0⟩, [], ⟨Nat.zero_le _, by simp only; omega⟩, ⟨rfl, ?_, unHC_wk hu hnn, rfl, rfl⟩, ?_⟩
      · simp [vs17b, v17b, wkF, wkS, sim, rmap, rlook]
      · simp only [exitT_leaf, out17b]
        rfl
    · cases h
  · cases h

attribute [local irreducible] evalB Tr.view strOf in
theorem round17b (x : X17) (hx : ok17b x) : Round lp17b ok17b (fun x => 4 - x.i) vs17b hp17 out17b x ((evalB ECd Try.prog Try.f17.results.toList (loopOf Try.f17 1) (1 + 1) lp17b (vs17b x) (hp17 x)).view lp17b.ks) := by
  obtain ⟨p, s, i⟩ := x
  obtain ⟨h0, h1⟩ := hx
  simp only at h0 h1
  have hr := r17b p s i
  rw [show evalB ECd Try.prog Try.f17.results.toList (loopOf Try.f17 1) (1 + 1) lp17b (vs17b ⟨p, s, i⟩) (hp17 ⟨p, s, i⟩) = evalB ECd Try.prog Try.f17.results.toList (loopOf Try.f17 1) 2 lp17b (v17b s i) (hC p) from rfl, show lp17b.ks = [1, 3, 7] from rfl, hr]
  by_cases hc : (i < p.nW ∧ i < 4) ∧ p.raw = true
  · obtain ⟨⟨c1, c2⟩, c3⟩ := hc
    have e1 : cm .lss (i : Int) (p.nW : Int) = true := by rw [cm_lss']; exact decide_eq_true (by omega)
    have e2 : cm .lss (i : Int) 4 = true := by rw [cm_lss']; exact decide_eq_true (by omega)
    have e3 : decide (0 ≤ (i : Int)) = true := decide_eq_true (by omega)
    have e4 : decide ((i : Int) < (p.nW : Int)) = true := decide_eq_true (by omega)
    have e5 : Nat.blt i p.nW = true := blt_t c1
    obtain ⟨f, hf⟩ : ∃ f, 4 - i = f + 1 := ⟨3 - i, by omega⟩
    have hf2 : 4 - (i + 1) = f := by omega
    have hstep : codeW p (4 - i) i s = codeW p (4 - (i + 1)) (i + 1) (s ++ wordA (p.cw i)) := by
      rw [hf, hf2]
      show (bif (bif Nat.blt i p.nW then p.raw else false) then codeW p f (i + 1) (s ++ wordA (p.cw i)) else s) = _
      rw [e5, c3]; rfl
    have hw := wordA_size (p.cw i)
    have hw2 := hw
    unfold wordA at hw
    have e6 : (bif cm .lss (i : Int) (p.nW : Int) then bif cm .lss (i : Int) 4 then p.raw else false else false) = true := by rw [e1, e2, c3]; rfl
    rw [addOne (show i < 9223372036854775807 by omega), Int.toNat_natCast, e6, e3, e4, e5, hw, ble_t (show s.size + 4 ≤ 9223372036854775807 by omega)]
    simp only [cond_true]
    refine ⟨rfl, ⟨p, s ++ wordA (p.cw i), i + 1⟩, [], ⟨c2, by show (s ++ wordA (p.cw i)).size ≤ 96 + 4 * (i + 1); rw [ByteArray.size_append, hw2]; omega⟩, by show 4 - (i + 1) < 4 - i; omega, ?_, rfl, ?_, hC_self p, rfl, rfl⟩
    · simp only [out17b, hstep]
    · simp [vs17b, v17b, wordA, wkF, wkS, sim, rmap, rlook]
  · have e : (bif cm .lss (i : Int) (p.nW : Int) then bif cm .lss (i : Int) 4 then p.raw else false else false) = false := by
      cases hA : cm .lss (i : Int) (p.nW : Int) with
      | false => rfl
      | true => cases hB : cm .lss (i : Int) 4 with
        | false => rfl
        | true => cases hR : p.raw with
          | false => rfl
          | true =>
            rw [cm_lss'] at hA hB
            have hA := of_decide_eq_true hA
            have hB := of_decide_eq_true hB
            exact absurd ⟨⟨by omega, by omega⟩, hR⟩ hc
    have hend : codeW p (4 - i) i s = s := by
      by_cases c1 : i < 4
      · obtain ⟨f, hf⟩ : ∃ f, 4 - i = f + 1 := ⟨3 - i, by omega⟩
        rw [hf]
        have : (bif Nat.blt i p.nW then p.raw else false) = false := by
          cases hb : Nat.blt i p.nW with
          | false => rfl
          | true => cases hR : p.raw with
            | false => rfl
            | true => rw [Nat.blt_eq] at hb; exact absurd ⟨⟨hb, c1⟩, hR⟩ hc
        show (bif (bif Nat.blt i p.nW then p.raw else false) then codeW p f (i + 1) (s ++ wordA (p.cw i)) else s) = s
        rw [this, cond_false]
      · rw [show 4 - i = 0 by omega]; rfl
    rw [e, cond_false]
    refine ⟨rfl, [.ptr 1024 0 0, .str s, .any], hC p, [], ?_, rfl, ?_, hC_self p, rfl, rfl⟩
    · simp only [out17b, hend]
      rfl
    · simp [wkF, wkS, sim, rmap, rlook]

theorem e17_calls : CallsOk E17 Try.prog := fun f args H nm r h hn => ecd_calls f args H nm r h hn
attribute [local irreducible] evalB Tr.view in
theorem loop17a : LoopOk E17 Try.prog Try.f17 0 (loopOf Try.f17 0) :=
  loop_okE mixed (fun S => rfl) (by decide) ok17a (fun x => 24 - x.i) vs17a hp17 out17a entry17a fun x hx => ⟨ECd, ecd_calls, loops_noLoop ecd_loop _ _, round17a x hx⟩
attribute [local irreducible] evalB Tr.view in
theorem loop17b : LoopOk E17 Try.prog Try.f17 1 (loopOf Try.f17 1) :=
  loop_okE mixed (fun S => rfl) (by decide) ok17b (fun x => 4 - x.i) vs17b hp17 out17b entry17b fun x hx => ⟨ECd, ecd_calls, loops_noLoop ecd_loop _ _, round17b x hx⟩
theorem fn17C : Try.prog.funcs[17]? = some Try.f17 := by kernel_rfl
theorem b17C : Try.f17.body = some (bodyOf Try.f17) := by kernel_rfl
theorem n17C : (Try.f17.name == "runtime.NumGoroutine") = false := by kernel_rfl
theorem nl17C : Code.loops (bodyOf Try.f17) = 2 := by kernel_rfl
theorem nth17a : nthLoop (bodyOf Try.f17) 0 = some (loopOf Try.f17 0) := by kernel_rfl
theorem nth17b : nthLoop (bodyOf Try.f17) 1 = some (loopOf Try.f17 1) := by kernel_rfl
theorem loops17 : LoopsOk E17 Try.prog Try.f17 (bodyOf Try.f17) 0 := loops2 nl17C
  (fun a ha => by rw [nth17a] at ha; simp only [Option.some.injEq] at ha; subst ha; exact loop17a)
  (fun a ha => by rw [nth17b] at ha; simp only [Option.some.injEq] at ha; subst ha; exact loop17b)

/-! contracts -/
def strip (p : Pa) : Pa := { p with cX := fun _ => 0, cM := fun _ => 0, cI := fun _ => 0 }
/-- the code of an ask -/
def codeP (p : Pa) : ByteArray := codeW (strip p) 4 0 (codeL (strip p) 24 0 (ByteArray.mk #[]))
theorem codeL_96 (p : Pa) : (codeL p 24 0 (ByteArray.mk #[])).size ≤ 96 := by
  have := codeL_size p 24 0 (ByteArray.mk #[])
  have e : (ByteArray.mk #[]).size = 0 := rfl
  omega
theorem codeP_size (p : Pa) : (codeP p).size ≤ 112 := by
  have := codeW_size (strip p) 4 0 (codeL (strip p) 24 0 (ByteArray.mk #[]))
  have := codeL_96 (strip p)
  unfold codeP
  omega

def unP (l : List SV) (H : Heap) : Option (List Bool × Pa) :=
  match l, H with
  | [.sl k0 nL, .sl k1 nW, .sl k2 nX, .sl k3 nM, .int false .i64 at_, .sl k4 nI, .int false .i64 pc, .bool false raw],
    [(j0, .tab t0 [.ints .i64 c0, .ints .i64 c1, .ints .i64 c2, .ints .i64 c3, .ints .i64 c4] _), (j1, .tab t1 [.ints .u32 cw] _), (j2, .tab t2 [.ints .i64 cX] _), (j3, .tab t3 [.ints .u8 cM] _), (j4, .tab t4 [.ints .i64 cI] _)] =>
    match Nat.beq k0 0 && (Nat.beq k1 1 && (Nat.beq k2 2 && (Nat.beq k3 3 && (Nat.beq k4 4 && (Nat.beq j0 0 && (Nat.beq j1 1 && (Nat.beq j2 2 && (Nat.beq j3 3 && Nat.beq j4 4)))))))) with
    | true => some ([Nat.beq t0 nL, Nat.beq t1 nW, Nat.beq t2 nX, Nat.beq t3 nM, Nat.beq t4 nI], ⟨nL, nW, nX, nM, nI, c0, c1, c2, c3, c4, cw, cX, cM, cI, at_, pc, raw⟩)
    | false => none
  | _, _ => none
theorem unP_all {l : List SV} {H : Heap} {nn : List Bool} {p : Pa} (h : unP l H = some (nn, p)) (hn : allB nn = true) : l = vP p ∧ roH [] H = hP p := by
  unfold unP at h
  split at h
  · split at h
    · rename_i hb
      simp only [Option.some.injEq, Prod.mk.injEq] at h
      obtain ⟨rfl, rfl⟩ := h
      simp only [Bool.and_eq_true, Nat.beq_eq] at hb
      obtain ⟨rfl, rfl, rfl, rfl, rfl, rfl, rfl, rfl, rfl, rfl⟩ := hb
      simp only [allB, Bool.and_true, Bool.and_eq_true, Nat.beq_eq] at hn
      obtain ⟨rfl, rfl, rfl, rfl, rfl⟩ := hn
      exact ⟨rfl, rfl⟩
    · cases h
  · cases h

def g17C : List SV → Heap → Option R
  | [.agg l], H => match unP l H with
    | some (nn, p) => some ⟨nn, .str (codeP p), []⟩
    | none => none
  | _, _ => none
attribute [local irreducible] evalF Tr.bare Tr.leaf codeL codeW in
theorem spec17C : SpecOk Try.prog 17 (specOf g17C) := spec_okU false mixed fn17C b17C n17C g17C fun a0 H0 r hg hn => by
  unfold g17C at hg
  split at hg
  · rename_i l
    split at hg
    · rename_i nn p hm
      simp only [Option.some.injEq] at hg
      subst hg
      obtain ⟨rfl, hr⟩ := unP_all hm hn
      refine ⟨E17, [.agg (vP p)], [], e17_calls, loops17, fun h => h, fun σ => rfl, fun k hk => (by cases hk), ?_⟩
      rw [hr]
      refine gives_giv (gives_tree (t17C p) ?_)
      rw [beq_t, beq_t, cond_true, cond_true, cond_true, cond_true]
      have e : lessB (codeL (strip p) 24 0 (ByteArray.mk #[])) 96 = true := lessB_iff.2 (codeL_96 _)
      refine gives_cond (fun _ => ?_) (fun hf => ?_)
      · exact gives_ret fun σ σ' => rfl
      · exact absurd (e.symm.trans hf) (by decide)
    · cases hg
  · cases hg

/-! Machine -/
def cutF (n : Nat) (g : Nat → Int) : Nat → Int := fun i => bif Nat.blt i n then g i else 0
def atP (p : Pa) : Int := conv .i64 (ar .rem .u64 (conv .u64 p.at_) 196608)
/-- the law's machine -/
def machM (p : Pa) : M := ⟨4096, false, false, false, false, 0, 0, xA p.cX p.nX, mA (atP p).toNat p.cM p.nM, p.nI, cutF p.nI p.cI, 0, fun _ => 0⟩
theorem atP_in (p : Pa) : 0 ≤ atP p ∧ atP p < 196608 := by
  unfold atP
  simp only [conv, ar, IntKind.wrap_i64, IntKind.wrap_u64]
  rw [Int.tmod_eq_emod_of_nonneg (by omega)]
  omega
def out18 (nn : List Bool) (m : M) : R := ⟨nn, .agg (cpuL m 1024 1025 1026 1027), [(1024, .tab 32 [.ints .i64 m.X] true), (1025, .tab 196608 [.ints .u8 m.mem] true), (1026, .tab m.nI [.ints .i64 m.inp] true), (1027, .tab m.nO [.ints .i64 m.out] true)]⟩
def g18M : List SV → Heap → Option R
  | [.agg l, .int _ .i64 r], H => match unP l H with
    | some (nn, p) => some (out18 (decide (r = 32) :: Nat.ble p.nI 100000000 :: nn) (machM p))
    | none => none
  | _, _ => none
theorem l18M (p : Pa) : (evalF E18 Try.prog 18 [.agg (vP p), .int true .i64 32] (hP p) 1024).retH [1072, 1073, 1532, 1075] =
    bx (eqA 32 (fun _ => 0) fun _ => 0) (bx (Nat.beq p.nX p.nX) (bx (Nat.beq p.nM p.nM) (bx (Nat.beq p.nI p.nI) (bx (eqA 196608 (fun _ => 0) fun _ => 0) (bx (decide (0 ≤ atP p)) (bx (decide (atP p < 196608))
      (bx (Nat.beq p.nX p.nX) (bx (Nat.beq p.nM p.nM) (bx (Nat.beq p.nI p.nI) (bx (eqA 196608 (fun _ => 0) fun _ => 0) (bx (Nat.beq p.nI p.nI) (bx (Nat.ble p.nI 100000000)
      (.ret (.agg [.int false .i64 4096, .sl 1072 32, .bool false false, .bool false false, .bool false false, .bool false false, .sl 1073 196608, .sl 1532 p.nI, .sl 1075 0, .int false .i64 0, .int false .i64 0])
        [(1072, .tab 32 [.ints .i64 (xA p.cX p.nX)] true), (1073, .tab 196608 [.ints .u8 (mA (atP p).toNat p.cM p.nM)] true), (1532, .tab p.nI [.ints .i64 p.cI] true), (1075, .tab 0 [.ints .i64 fun _ => 0] true)]))))))))))))) := by kernel_rfl
attribute [local irreducible] evalF Tr.retH Tr.leaf in
theorem spec18M : SpecOk Try.prog 18 (specOf g18M) := spec_okU false mixed fn18M b18M n18M g18M fun a0 H0 r hg hn => by
  unfold g18M at hg
  split at hg
  · rename_i l _ rg
    split at hg
    · rename_i nn p hm
      simp only [Option.some.injEq] at hg
      subst hg
      simp only [out18, allB, Bool.and_eq_true, decide_eq_true_eq] at hn
      obtain ⟨rfl, h2, hnn⟩ := hn
      obtain ⟨rfl, hr⟩ := unP_all hm hnn
      refine ⟨E18, [.agg (vP p), .int true .i64 32], [], e18_calls, loops18, fun h => h, fun σ => by simp only [denL, den], fun k hk => (by cases hk), ?_⟩
      rw [hr]
      refine gives_retH _ (l18M p) ?_
      have hA : ∀ n (g : Nat → Int), eqA n g g = true := fun n g => eqA_iff.2 fun _ _ => rfl
      rw [hA, hA, beq_t, beq_t, beq_t, bx_true rfl, bx_true rfl, bx_true rfl, bx_true rfl, bx_true rfl, bx_true (dec_true (atP_in p).1), bx_true (dec_true (atP_in p).2), bx_true rfl, bx_true rfl, bx_true rfl, bx_true rfl, bx_true rfl, bx_true h2]
      refine ⟨[(1024, .old 1072), (1025, .old 1073), (1026, .old 1532), (1027, .old 1075)], rfl, sim_den _ _ ?_, ?_, rfl⟩
      · simp [out18, machM, cpuL, sim, simL, rmap, rlook]
      · simp [out18, machM, wkH, cpuL, rmap, rlook, Ev.look, wkB, simL, sim, wkCs, wkC]
        intro r hr
        simp only [cutF, blt_t hr, cond_true]
    · cases hg
  · cases hg

end Go.Rv
end

section
set_option linter.unusedVariables false
open Go Go.Ev Go.Proofs
namespace Go.Rv

noncomputable def EWk : Env := inlF Try.prog (envOf [(25, specOf g25), (28, specOf g28)] noLoop) [21] [] [] 1
theorem named21 : named Try.prog [21] = true := by kernel_rfl
theorem ewk_calls : CallsOk EWk Try.prog := (inlF_calls ((SpecsOk.cons spec25 (SpecsOk.cons spec28 SpecsOk.nil)).calls noLoop) mixed named21 rfl rfl 1).1
theorem ewk_loop : EWk.loop = noLoop := rfl
def sWk : ByteArray := ByteArray.mk #[147, 0, 80, 0]
def mBl : M := ⟨4096, false, false, false, false, 0, 0, fun _ => 0, fun _ => 0, 0, fun _ => 0, 0, fun _ => 0⟩
theorem t23W : (evalF EWk Try.prog 23 [] [] 1024).bare = bif goB sWk mBl 5 then .ret (.bool false true) [] else .bad := by kernel_rfl
theorem in0 : inR 0 := by unfold inR; decide
theorem byte0 : (0 : Int) ≤ 0 ∧ (0 : Int) < 256 := by decide
theorem ms_bl : MS mBl := ⟨⟨⟨fun _ => in0, fun _ => byte0, fun _ => in0⟩, rfl, rfl, rfl, rfl, rfl, .inl rfl⟩, by unfold mBl inR; decide, by unfold mBl; decide, by unfold mBl; decide⟩
theorem go_wk : goB sWk mBl 5 = true := goB_iff.2 ⟨ms_bl, by decide, rfl, noC_ok _ _, by decide, by decide, by unfold mBl; decide⟩
def g23W : List SV → Heap → Option R
  | [], [] => some ⟨[], .bool true true, []⟩
  | _, _ => none
theorem fn23W : Try.prog.funcs[23]? = some Try.f23 := by kernel_rfl
theorem b23W : Try.f23.body = some (bodyOf Try.f23) := by kernel_rfl
theorem n23W : (Try.f23.name == "runtime.NumGoroutine") = false := by kernel_rfl
attribute [local irreducible] evalF Tr.bare Tr.leaf in
theorem spec23W : SpecOk Try.prog 23 (specOf g23W) := spec_okU false mixed fn23W b23W n23W g23W fun a0 H0 r hg hn => by
  unfold g23W at hg
  split at hg
  · simp only [Option.some.injEq] at hg
    subst hg
    refine ⟨EWk, [], [], ewk_calls, loops_noLoop ewk_loop _ _, fun h => h, fun σ => rfl, fun k hk => (by cases hk), ?_⟩
    show GivesD _ (evalF EWk Try.prog 23 [] [] 1024).leaf
    refine gives_giv (gives_tree t23W ?_)
    rw [go_wk, cond_true]
    exact gives_ret fun σ σ' => by simp only [den]
  · cases hg

/-- the laws' environment -/
noncomputable def ELw : Env := inlF Try.prog (envOf [(17, specOf g17C), (18, specOf g18M), (19, specOf g19), (20, specOf g20), (22, specOf gEq), (23, specOf g23W), (24, specOf g24), (25, specOf g25), (27, specOf g27), (28, specOf g28), (30, sEnc)] noLoop) [21, 26, 31, 32] [] [16] 1
theorem namedLw : named Try.prog [21, 26, 31, 32] = true := by kernel_rfl
theorem named16 : named Try.prog [16] = true := by kernel_rfl
theorem elw_calls : CallsOk ELw Try.prog := (inlF_calls ((SpecsOk.cons spec17C (SpecsOk.cons spec18M (SpecsOk.cons spec19 (SpecsOk.cons spec20 (SpecsOk.cons specEq (SpecsOk.cons spec23W (SpecsOk.cons spec24 (SpecsOk.cons spec25 (SpecsOk.cons spec27 (SpecsOk.cons spec28 (SpecsOk.cons ok7 SpecsOk.nil))))))))))).calls noLoop) mixed namedLw rfl named16 1).1
theorem elw_loop : ELw.loop = noLoop := rfl

end Go.Rv
end

section
set_option linter.unusedVariables false
open Go Go.Ev Go.Proofs
namespace Go.Rv

/-- a machine in memory: its record and its tables, by name -/
def hMac (m : M) (k a b c d : Nat) : Heap := [(k, .cells (cpuL m a b c d)), (a, .tab 32 [.ints .i64 m.X] true), (b, .tab 196608 [.ints .u8 m.mem] true), (c, .tab m.nI [.ints .i64 m.inp] false), (d, .tab m.nO [.ints .i64 m.out] true)]
def macAt (H : Heap) (k a b c d : Nat) : Option (List Bool × M) :=
  match cL H k, tI .i64 true H a, tI .u8 true H b, tI .i64 false H c, tI .i64 true H d with
  | some [.int _ .i64 pc, .sl k1 n1, .bool _ zf, .bool _ sf, .bool _ cf, .bool _ of_, .sl k2 n2, .sl k3 n3, .sl k4 n4, .int _ .i64 kind, .int _ .i64 code], some (t1, X), some (t2, mem), some (t3, inp), some (t4, out) =>
    some ([Nat.beq k1 a, Nat.beq k2 b, Nat.beq k3 c, Nat.beq k4 d, Nat.beq n1 32, Nat.beq n2 196608, Nat.beq t1 32, Nat.beq t2 196608, Nat.beq t3 n3, Nat.beq t4 n4], ⟨pc, zf, sf, cf, of_, kind, code, X, mem, n3, inp, n4, out⟩)
  | _, _, _, _, _ => none
theorem macAt_wk {H : Heap} {k a b c d : Nat} {nn : List Bool} {m : M} (h : macAt H k a b c d = some (nn, m)) (hn : allB nn = true) (ρ : Rn) (k' a' b' c' d' : Nat) (h0 : ρ k' = .old k) (h1 : ρ a' = .old a) (h2 : ρ b' = .old b) (h3 : ρ c' = .old c) (h4 : ρ d' = .old d) :
    wkH ρ H (hMac m k' a' b' c' d') := by
  unfold macAt at h
  split at h
  · rename_i q0 q1 q2 q3 q4
    simp only [Option.some.injEq, Prod.mk.injEq] at h
    obtain ⟨rfl, rfl⟩ := h
    simp only [allB, Bool.and_true, Bool.and_eq_true, Nat.beq_eq] at hn
    obtain ⟨rfl, rfl, rfl, rfl, rfl, rfl, rfl, rfl, rfl, rfl⟩ := hn
    have q0 := cL_spec q0
    obtain ⟨w1, q1, g1⟩ := tI_spec q1
    obtain ⟨w2, q2, g2⟩ := tI_spec q2
    obtain ⟨w3, q3, g3⟩ := tI_spec q3
    obtain ⟨w4, q4, g4⟩ := tI_spec q4
    simp only [wkH, hMac, h0, h1, h2, h3, h4, q0, q1, q2, q3, q4, wkB, and_true]
    refine ⟨?_, ⟨Nat.le_refl _, fun _ => g1 rfl, ?_⟩, ⟨Nat.le_refl _, fun _ => g2 rfl, ?_⟩, ⟨Nat.le_refl _, fun h => (by cases h), ?_⟩, ⟨Nat.le_refl _, fun _ => g4 rfl, ?_⟩⟩
    · simp [cpuL, simL, sim, h1, h2, h3, h4]
    all_goals simp [wkCs, wkC]
  · cases h
theorem wkH_append {ρ : Rn} {H : Heap} : ∀ {A B : Heap}, wkH ρ H A → wkH ρ H B → wkH ρ H (A ++ B)
  | [], _, _, h => h
  | (_, _) :: _, _, h, h' => ⟨h.1, wkH_append h.2 h'⟩

/-- machines that are the same -/
noncomputable def idB (m m' : M) : Bool := @decide (m = m') (Classical.propDecidable _)
theorem idB_iff {m m' : M} : idB m m' = true ↔ m = m' := @decide_eq_true_iff _ (Classical.propDecidable _)
/-- so many steps may be done -/
structure StepG (s : ByteArray) (m : M) (n : Nat) : Prop where
  ms : MS m
  size : s.size ≤ 258048
  nO : m.nO + n < 1000000
noncomputable def stepB (s : ByteArray) (m : M) (n : Nat) : Bool := @decide (StepG s m n) (Classical.propDecidable _)
theorem stepB_iff {s : ByteArray} {m : M} {n : Nat} : stepB s m n = true ↔ StepG s m n := @decide_eq_true_iff _ (Classical.propDecidable _)

def v3 (s : ByteArray) (i : Int) : List SV := [.str s, .ptr 1168 0 0, .ptr 1232 0 0, .int false .i64 i]
def h3S (m : M) : Heap := hMac m 1168 1152 1153 1154 1155 ++ hMac m 1232 1216 1217 1218 1219
def lk3 : Lp := ⟨40, [3, 4, 5, 6], 2000, fun _ _ => none⟩
noncomputable def get3 : List SV → Heap → Option Tr
  | [.str s, .ptr k0 r0 c0, .ptr k1 r1 c1, .int _ .i64 i], H => match macAt H 1168 1152 1153 1154 1155, macAt H 1232 1216 1217 1218 1219 with
    | some (nn, m), some (nn', m') => some (Tr.needs ([Nat.beq k0 1168, Nat.beq r0 0, Nat.beq c0 0, Nat.beq k1 1232, Nat.beq r1 0, Nat.beq c1 0, decide (i = 0), idB m m', stepB s m 12] ++ (nn ++ nn'))
      (exitT lk3 0 [.any, .any, .any, .any] []))
    | _, _ => none
  | _, _ => none
noncomputable def lp3 : Lp := { lk3 with get := get3 }
noncomputable def EL3 : Env := ⟨ELw.call, loopEnv [(0, lp3)]⟩

/-- where a round leaves both machines -/
def h3N (m m0 : M) : Heap := [(1168, .cells (cpuL m 1152 1153 2192 2193)), (1152, .tab 32 [.ints .i64 m.X] true), (1153, .tab 196608 [.ints .u8 m.mem] true), (1154, .dead), (1155, .dead), (1232, .cells (cpuL m 2064 2065 2066 2067)), (1216, .tab 32 [.ints .i64 m0.X] true), (1217, .tab 196608 [.ints .u8 m0.mem] true), (1218, .tab m0.nI [.ints .i64 m0.inp] false), (1219, .tab m0.nO [.ints .i64 m0.out] true),
  (2064, .tab 32 [.ints .i64 m.X] true), (2065, .tab 196608 [.ints .u8 m.mem] true), (2066, .tab m.nI [.ints .i64 m.inp] false), (2067, .tab m.nO [.ints .i64 m.out] true), (2128, .cells (cpuL m 2064 2065 2066 2067)), (2192, .tab m.nI [.ints .i64 m.inp] false), (2193, .tab m.nO [.ints .i64 m.out] true)]
theorem r3 (s : ByteArray) (m : M) (i : Int) : (evalB ELw Try.prog Try.f3.results.toList (loopOf Try.f3 0) 1 lp3 (v3 s i) (h3S m)).view [3, 4, 5, 6] =
    bif cm .lss i 12 then bif msB m then bif codeB s then bif Nat.beq m.nI m.nI then bif Nat.beq m.nO m.nO then bif goodB m then bif sizeB s then bif Nat.beq m.nI m.nI then bif Nat.beq m.nO m.nO then
      bif (bif false then true else allB [eqMB (stepM s m) (stepM s m), Nat.beq (stepM s m).nI (stepM s m).nI, Nat.beq (stepM s m).nO (stepM s m).nO, Nat.beq (stepM s m).nI (stepM s m).nI, Nat.beq (stepM s m).nO (stepM s m).nO]) then
        .norm 40 (v3 s (ar .add .i64 i 1)) (h3N (stepM s m) m)
      else .bad else .bad else .bad else .bad else .bad else .bad else .bad else .bad else .bad
    else .exit 0 40 (v3 s i) (h3S m) := by kernel_rfl
/-- is it let go? -/
def hvP (p : Pa) : Bool := cm .gtr (ar .add .i64 (ar .add .i64 (ar .add .i64 (ar .add .i64 (p.nX : Int) (p.nM : Int)) (p.nI : Int)) (p.nL : Int)) (p.nW : Int)) 2000
/-- an ask's tables are as long as its slices -/
def lnP (p : Pa) (x : Lf) : Lf := bx (Nat.beq p.nL p.nL) (bx (Nat.beq p.nW p.nW) (bx (Nat.beq p.nX p.nX) (bx (Nat.beq p.nM p.nM) (bx (Nat.beq p.nI p.nI) x))))
theorem t3 (p : Pa) : (evalF EL3 Try.prog 3 [.agg (vP p)] (hP p) 1024).bare =
    bif hvP p then .ret (.bool true true) [] else
      lnP p (bx (Nat.ble p.nI 100000000) (lnP p (bx (Nat.ble p.nI 100000000) (lnP p (bx (idB (machM p) (machM p)) (bx (stepB (codeP p) (machM p) 12) (bx (Nat.beq (machM p).nI (machM p).nI) (bx (Nat.beq (machM p).nI (machM p).nI) (.ret (.bool true true) []))))))))) := by kernel_rfl

end Go.Rv
end
