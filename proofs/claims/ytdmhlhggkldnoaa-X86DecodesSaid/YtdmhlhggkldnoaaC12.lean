/-
  x86: rounds of X86Decodes. Laid by the tool '#leafw'.
-/
import Derived.Test.YtdmhlhggkldnoaaC11
set_option linter.unusedSimpArgs false
set_option linter.unusedVariables false
section
set_option linter.unusedVariables false
open Go Go.Ev Go.Proofs
namespace Go.X

def v4b (i k : Int) : List SV := [.ptr 1024 0 0, .int false .i64 i, .int false .i64 k]
def lk4b : Lp := ⟨99, [1, 3, 4], 2300, fun _ _ => none⟩
def get4b : List SV → Heap → Option Tr
  | [.ptr k1 r1 p1, .int _ .i64 i, .int _ .i64 k], [(j0, .tab nL [.ints .i64 c0, .ints .i64 c1, .ints .i64 c2, .ints .i64 c3, .ints .i64 c4] false), (j1, .tab nS [.strs cs] false), (j2, .cells [.sl s0 m0, .sl s1 m1])] =>
    some (Tr.needs [Nat.beq k1 1024, Nat.beq r1 0, Nat.beq p1 0, decide (k = -1), decide (0 ≤ i), decide (i < nS), Nat.beq j0 0, Nat.beq j1 1, Nat.beq j2 1024, Nat.beq s0 0, Nat.beq m0 nL, Nat.beq s1 1, Nat.beq m1 nS]
      (exitT lk4b 2 [.ptr 1024 0 0, .int false .i64 i, .any] (h3L nL nS c0 c1 c2 c3 c4 cs)))
  | _, _ => none
def lp4b : Lp := { lk4b with get := get4b }
noncomputable def E4b : Env := ⟨ELx.call, loopEnv [(1, lp4b)]⟩
def v4 (i : Int) : List SV := [.ptr 1024 0 0, .int false .i64 i]
def lk4 : Lp := ⟨99, [1, 3], 2048, fun _ _ => none⟩
def get4 : List SV → Heap → Option Tr
  | [.ptr k1 r1 p1, .int _ .i64 i], [(j0, .tab nL [.ints .i64 c0, .ints .i64 c1, .ints .i64 c2, .ints .i64 c3, .ints .i64 c4] false), (j1, .tab nS [.strs cs] false), (j2, .cells [.sl s0 m0, .sl s1 m1])] =>
    some (Tr.needs [Nat.beq k1 1024, Nat.beq r1 0, Nat.beq p1 0, decide (i = 0), Nat.beq j0 0, Nat.beq j1 1, Nat.beq j2 1024, Nat.beq s0 0, Nat.beq m0 nL, Nat.beq s1 1, Nat.beq m1 nS]
      (exitT lk4 0 [.ptr 1024 0 0, .any] (h3L nL nS c0 c1 c2 c3 c4 cs)))
  | _, _ => none
def lp4 : Lp := { lk4 with get := get4 }
noncomputable def E4L : Env := ⟨EL.call, loopEnv [(0, lp4), (1, lp4b)]⟩

theorem r4b (i : Int) (k : Int) (nL : Nat) (nS : Nat) (c0 : Nat → Int) (c1 : Nat → Int) (c2 : Nat → Int) (c3 : Nat → Int) (c4 : Nat → Int) (cs : Nat → ByteArray) : (evalB ELx Try.prog Try.f4.results.toList (loopOf Try.f4 1) 2 lp4b (v4b i k) (h3L nL nS c0 c1 c2 c3 c4 cs)).view [1, 3, 4] =
    (bif (decide (0 ≤ i)) then
 bif (decide (i < (↑nS : Int))) then
 bif (Nat.blt (i.toNat) (nS)) then
 bif (Nat.blt (i.toNat) (nS)) then
 bif (bif cm .lss k (ar .mul .i64 8 (↑(cs i.toNat).size : Int)) then cm .lss k 64 else false) then
 bif (decide (0 ≤ i)) then
 bif (decide (i < (↑nS : Int))) then
 bif (Nat.blt (i.toNat) (nS)) then
 bif (Nat.blt (i.toNat) (nS)) then
 bif (cm .geq k 0) then
 bif (decide (0 ≤ ar .quo .i64 k 8)) then
 bif (decide (ar .quo .i64 k 8 < (↑(cs i.toNat).size : Int))) then
 bif (Nat.blt ((ar .quo .i64 k 8).toNat) ((cs i.toNat).size)) then
 bif (Nat.blt ((ar .quo .i64 k 8).toNat) ((cs i.toNat).size)) then
 bif (decide (0 ≤ ar .rem .i64 k 8)) then
 bif (decide (0 ≤ ar .quo .i64 k 8)) then
 bif (decide (ar .quo .i64 k 8 < (↑(cs i.toNat).size : Int))) then
 bif (Nat.blt ((ar .quo .i64 k 8).toNat) ((cs i.toNat).size)) then
 bif (Nat.blt ((ar .quo .i64 k 8).toNat) ((cs i.toNat).size)) then
 bif (Nat.ble ((cs i.toNat).size) ((cs i.toNat).size)) then
 bif (Nat.ble ((cs i.toNat).size) ((cs i.toNat).size)) then
 bif (bif !cm .gtr (decX (strOf (upd (chr (cs i.toNat)) (ar .quo .i64 k 8).toNat (ar .xor .u8 (chr (cs i.toNat) (ar .quo .i64 k 8).toNat) (ar .shl .u8 1 (ar .rem .i64 k 8)))) (cs i.toNat).size)).len 0 == cm .eql (bif (decX (strOf (upd (chr (cs i.toNat)) (ar .quo .i64 k 8).toNat (ar .xor .u8 (chr (cs i.toNat) (ar .quo .i64 k 8).toNat) (ar .shl .u8 1 (ar .rem .i64 k 8)))) (cs i.toNat).size)).ok then 0 else 11) 0 then true else bif cm .eql (decX (strOf (upd (chr (cs i.toNat)) (ar .quo .i64 k 8).toNat (ar .xor .u8 (chr (cs i.toNat) (ar .quo .i64 k 8).toNat) (ar .shl .u8 1 (ar .rem .i64 k 8)))) (cs i.toNat).size)).len 0 then bif cm .neq (bif (decX (strOf (upd (chr (cs i.toNat)) (ar .quo .i64 k 8).toNat (ar .xor .u8 (chr (cs i.toNat) (ar .quo .i64 k 8).toNat) (ar .shl .u8 1 (ar .rem .i64 k 8)))) (cs i.toNat).size)).ok then 0 else 11) 11 then true else bif !((decX (strOf (upd (chr (cs i.toNat)) (ar .quo .i64 k 8).toNat (ar .xor .u8 (chr (cs i.toNat) (ar .quo .i64 k 8).toNat) (ar .shl .u8 1 (ar .rem .i64 k 8)))) (cs i.toNat).size)).o == (decX (strOf (upd (chr (cs i.toNat)) (ar .quo .i64 k 8).toNat (ar .xor .u8 (chr (cs i.toNat) (ar .quo .i64 k 8).toNat) (ar .shl .u8 1 (ar .rem .i64 k 8)))) (cs i.toNat).size)).o && ((decX (strOf (upd (chr (cs i.toNat)) (ar .quo .i64 k 8).toNat (ar .xor .u8 (chr (cs i.toNat) (ar .quo .i64 k 8).toNat) (ar .shl .u8 1 (ar .rem .i64 k 8)))) (cs i.toNat).size)).w == (decX (strOf (upd (chr (cs i.toNat)) (ar .quo .i64 k 8).toNat (ar .xor .u8 (chr (cs i.toNat) (ar .quo .i64 k 8).toNat) (ar .shl .u8 1 (ar .rem .i64 k 8)))) (cs i.toNat).size)).w && ((decX (strOf (upd (chr (cs i.toNat)) (ar .quo .i64 k 8).toNat (ar .xor .u8 (chr (cs i.toNat) (ar .quo .i64 k 8).toNat) (ar .shl .u8 1 (ar .rem .i64 k 8)))) (cs i.toNat).size)).rd == (decX (strOf (upd (chr (cs i.toNat)) (ar .quo .i64 k 8).toNat (ar .xor .u8 (chr (cs i.toNat) (ar .quo .i64 k 8).toNat) (ar .shl .u8 1 (ar .rem .i64 k 8)))) (cs i.toNat).size)).rd && ((decX (strOf (upd (chr (cs i.toNat)) (ar .quo .i64 k 8).toNat (ar .xor .u8 (chr (cs i.toNat) (ar .quo .i64 k 8).toNat) (ar .shl .u8 1 (ar .rem .i64 k 8)))) (cs i.toNat).size)).rs == (decX (strOf (upd (chr (cs i.toNat)) (ar .quo .i64 k 8).toNat (ar .xor .u8 (chr (cs i.toNat) (ar .quo .i64 k 8).toNat) (ar .shl .u8 1 (ar .rem .i64 k 8)))) (cs i.toNat).size)).rs && ((decX (strOf (upd (chr (cs i.toNat)) (ar .quo .i64 k 8).toNat (ar .xor .u8 (chr (cs i.toNat) (ar .quo .i64 k 8).toNat) (ar .shl .u8 1 (ar .rem .i64 k 8)))) (cs i.toNat).size)).n == (decX (strOf (upd (chr (cs i.toNat)) (ar .quo .i64 k 8).toNat (ar .xor .u8 (chr (cs i.toNat) (ar .quo .i64 k 8).toNat) (ar .shl .u8 1 (ar .rem .i64 k 8)))) (cs i.toNat).size)).n && true))))) then true else cm .neq (decX (strOf (upd (chr (cs i.toNat)) (ar .quo .i64 k 8).toNat (ar .xor .u8 (chr (cs i.toNat) (ar .quo .i64 k 8).toNat) (ar .shl .u8 1 (ar .rem .i64 k 8)))) (cs i.toNat).size)).len (decX (strOf (upd (chr (cs i.toNat)) (ar .quo .i64 k 8).toNat (ar .xor .u8 (chr (cs i.toNat) (ar .quo .i64 k 8).toNat) (ar .shl .u8 1 (ar .rem .i64 k 8)))) (cs i.toNat).size)).len else bif !((decX (strOf (upd (chr (cs i.toNat)) (ar .quo .i64 k 8).toNat (ar .xor .u8 (chr (cs i.toNat) (ar .quo .i64 k 8).toNat) (ar .shl .u8 1 (ar .rem .i64 k 8)))) (cs i.toNat).size)).o == (decX (strOf (upd (chr (cs i.toNat)) (ar .quo .i64 k 8).toNat (ar .xor .u8 (chr (cs i.toNat) (ar .quo .i64 k 8).toNat) (ar .shl .u8 1 (ar .rem .i64 k 8)))) (cs i.toNat).size)).o && ((decX (strOf (upd (chr (cs i.toNat)) (ar .quo .i64 k 8).toNat (ar .xor .u8 (chr (cs i.toNat) (ar .quo .i64 k 8).toNat) (ar .shl .u8 1 (ar .rem .i64 k 8)))) (cs i.toNat).size)).w == (decX (strOf (upd (chr (cs i.toNat)) (ar .quo .i64 k 8).toNat (ar .xor .u8 (chr (cs i.toNat) (ar .quo .i64 k 8).toNat) (ar .shl .u8 1 (ar .rem .i64 k 8)))) (cs i.toNat).size)).w && ((decX (strOf (upd (chr (cs i.toNat)) (ar .quo .i64 k 8).toNat (ar .xor .u8 (chr (cs i.toNat) (ar .quo .i64 k 8).toNat) (ar .shl .u8 1 (ar .rem .i64 k 8)))) (cs i.toNat).size)).rd == (decX (strOf (upd (chr (cs i.toNat)) (ar .quo .i64 k 8).toNat (ar .xor .u8 (chr (cs i.toNat) (ar .quo .i64 k 8).toNat) (ar .shl .u8 1 (ar .rem .i64 k 8)))) (cs i.toNat).size)).rd && ((decX (strOf (upd (chr (cs i.toNat)) (ar .quo .i64 k 8).toNat (ar .xor .u8 (chr (cs i.toNat) (ar .quo .i64 k 8).toNat) (ar .shl .u8 1 (ar .rem .i64 k 8)))) (cs i.toNat).size)).rs == (decX (strOf (upd (chr (cs i.toNat)) (ar .quo .i64 k 8).toNat (ar .xor .u8 (chr (cs i.toNat) (ar .quo .i64 k 8).toNat) (ar .shl .u8 1 (ar .rem .i64 k 8)))) (cs i.toNat).size)).rs && ((decX (strOf (upd (chr (cs i.toNat)) (ar .quo .i64 k 8).toNat (ar .xor .u8 (chr (cs i.toNat) (ar .quo .i64 k 8).toNat) (ar .shl .u8 1 (ar .rem .i64 k 8)))) (cs i.toNat).size)).n == (decX (strOf (upd (chr (cs i.toNat)) (ar .quo .i64 k 8).toNat (ar .xor .u8 (chr (cs i.toNat) (ar .quo .i64 k 8).toNat) (ar .shl .u8 1 (ar .rem .i64 k 8)))) (cs i.toNat).size)).n && true))))) then true else cm .neq (decX (strOf (upd (chr (cs i.toNat)) (ar .quo .i64 k 8).toNat (ar .xor .u8 (chr (cs i.toNat) (ar .quo .i64 k 8).toNat) (ar .shl .u8 1 (ar .rem .i64 k 8)))) (cs i.toNat).size)).len (decX (strOf (upd (chr (cs i.toNat)) (ar .quo .i64 k 8).toNat (ar .xor .u8 (chr (cs i.toNat) (ar .quo .i64 k 8).toNat) (ar .shl .u8 1 (ar .rem .i64 k 8)))) (cs i.toNat).size)).len) then
 .ret (.bool true false) [(0, .tab (nL) [.ints .i64 (c0), .ints .i64 (c1), .ints .i64 (c2), .ints .i64 (c3), .ints .i64 (c4)] false), (1, .tab (nS) [.strs (cs)] false), (1024, .cells [(.sl 0 (nL)), (.sl 1 (nS))]), (2588, .tab ((cs i.toNat).size) [.ints .u8 (upd (chr (cs i.toNat)) (ar .quo .i64 k 8).toNat (ar .xor .u8 (chr (cs i.toNat) (ar .quo .i64 k 8).toNat) (ar .shl .u8 1 (ar .rem .i64 k 8))))] true), (2988, .cells [(.int false .i64 ((decX (strOf (upd (chr (cs i.toNat)) (ar .quo .i64 k 8).toNat (ar .xor .u8 (chr (cs i.toNat) (ar .quo .i64 k 8).toNat) (ar .shl .u8 1 (ar .rem .i64 k 8)))) (cs i.toNat).size)).o)), (.int false .i64 ((decX (strOf (upd (chr (cs i.toNat)) (ar .quo .i64 k 8).toNat (ar .xor .u8 (chr (cs i.toNat) (ar .quo .i64 k 8).toNat) (ar .shl .u8 1 (ar .rem .i64 k 8)))) (cs i.toNat).size)).w)), (.int false .i64 ((decX (strOf (upd (chr (cs i.toNat)) (ar .quo .i64 k 8).toNat (ar .xor .u8 (chr (cs i.toNat) (ar .quo .i64 k 8).toNat) (ar .shl .u8 1 (ar .rem .i64 k 8)))) (cs i.toNat).size)).rd)), (.int false .i64 ((decX (strOf (upd (chr (cs i.toNat)) (ar .quo .i64 k 8).toNat (ar .xor .u8 (chr (cs i.toNat) (ar .quo .i64 k 8).toNat) (ar .shl .u8 1 (ar .rem .i64 k 8)))) (cs i.toNat).size)).rs)), (.int false .i64 ((decX (strOf (upd (chr (cs i.toNat)) (ar .quo .i64 k 8).toNat (ar .xor .u8 (chr (cs i.toNat) (ar .quo .i64 k 8).toNat) (ar .shl .u8 1 (ar .rem .i64 k 8)))) (cs i.toNat).size)).n))]), (3148, .cells [(.int false .i64 ((decX (strOf (upd (chr (cs i.toNat)) (ar .quo .i64 k 8).toNat (ar .xor .u8 (chr (cs i.toNat) (ar .quo .i64 k 8).toNat) (ar .shl .u8 1 (ar .rem .i64 k 8)))) (cs i.toNat).size)).o)), (.int false .i64 ((decX (strOf (upd (chr (cs i.toNat)) (ar .quo .i64 k 8).toNat (ar .xor .u8 (chr (cs i.toNat) (ar .quo .i64 k 8).toNat) (ar .shl .u8 1 (ar .rem .i64 k 8)))) (cs i.toNat).size)).w)), (.int false .i64 ((decX (strOf (upd (chr (cs i.toNat)) (ar .quo .i64 k 8).toNat (ar .xor .u8 (chr (cs i.toNat) (ar .quo .i64 k 8).toNat) (ar .shl .u8 1 (ar .rem .i64 k 8)))) (cs i.toNat).size)).rd)), (.int false .i64 ((decX (strOf (upd (chr (cs i.toNat)) (ar .quo .i64 k 8).toNat (ar .xor .u8 (chr (cs i.toNat) (ar .quo .i64 k 8).toNat) (ar .shl .u8 1 (ar .rem .i64 k 8)))) (cs i.toNat).size)).rs)), (.int false .i64 ((decX (strOf (upd (chr (cs i.toNat)) (ar .quo .i64 k 8).toNat (ar .xor .u8 (chr (cs i.toNat) (ar .quo .i64 k 8).toNat) (ar .shl .u8 1 (ar .rem .i64 k 8)))) (cs i.toNat).size)).n))])]
 else
 .norm 99 [(.ptr 1024 0 0), (.int false .i64 (i)), (.int false .i64 (ar .add .i64 k 1))] [(0, .tab (nL) [.ints .i64 (c0), .ints .i64 (c1), .ints .i64 (c2), .ints .i64 (c3), .ints .i64 (c4)] false), (1, .tab (nS) [.strs (cs)] false), (1024, .cells [(.sl 0 (nL)), (.sl 1 (nS))]), (2588, .tab ((cs i.toNat).size) [.ints .u8 (upd (chr (cs i.toNat)) (ar .quo .i64 k 8).toNat (ar .xor .u8 (chr (cs i.toNat) (ar .quo .i64 k 8).toNat) (ar .shl .u8 1 (ar .rem .i64 k 8))))] true), (2988, .cells [(.int false .i64 ((decX (strOf (upd (chr (cs i.toNat)) (ar .quo .i64 k 8).toNat (ar .xor .u8 (chr (cs i.toNat) (ar .quo .i64 k 8).toNat) (ar .shl .u8 1 (ar .rem .i64 k 8)))) (cs i.toNat).size)).o)), (.int false .i64 ((decX (strOf (upd (chr (cs i.toNat)) (ar .quo .i64 k 8).toNat (ar .xor .u8 (chr (cs i.toNat) (ar .quo .i64 k 8).toNat) (ar .shl .u8 1 (ar .rem .i64 k 8)))) (cs i.toNat).size)).w)), (.int false .i64 ((decX (strOf (upd (chr (cs i.toNat)) (ar .quo .i64 k 8).toNat (ar .xor .u8 (chr (cs i.toNat) (ar .quo .i64 k 8).toNat) (ar .shl .u8 1 (ar .rem .i64 k 8)))) (cs i.toNat).size)).rd)), (.int false .i64 ((decX (strOf (upd (chr (cs i.toNat)) (ar .quo .i64 k 8).toNat (ar .xor .u8 (chr (cs i.toNat) (ar .quo .i64 k 8).toNat) (ar .shl .u8 1 (ar .rem .i64 k 8)))) (cs i.toNat).size)).rs)), (.int false .i64 ((decX (strOf (upd (chr (cs i.toNat)) (ar .quo .i64 k 8).toNat (ar .xor .u8 (chr (cs i.toNat) (ar .quo .i64 k 8).toNat) (ar .shl .u8 1 (ar .rem .i64 k 8)))) (cs i.toNat).size)).n))]), (3148, .cells [(.int false .i64 ((decX (strOf (upd (chr (cs i.toNat)) (ar .quo .i64 k 8).toNat (ar .xor .u8 (chr (cs i.toNat) (ar .quo .i64 k 8).toNat) (ar .shl .u8 1 (ar .rem .i64 k 8)))) (cs i.toNat).size)).o)), (.int false .i64 ((decX (strOf (upd (chr (cs i.toNat)) (ar .quo .i64 k 8).toNat (ar .xor .u8 (chr (cs i.toNat) (ar .quo .i64 k 8).toNat) (ar .shl .u8 1 (ar .rem .i64 k 8)))) (cs i.toNat).size)).w)), (.int false .i64 ((decX (strOf (upd (chr (cs i.toNat)) (ar .quo .i64 k 8).toNat (ar .xor .u8 (chr (cs i.toNat) (ar .quo .i64 k 8).toNat) (ar .shl .u8 1 (ar .rem .i64 k 8)))) (cs i.toNat).size)).rd)), (.int false .i64 ((decX (strOf (upd (chr (cs i.toNat)) (ar .quo .i64 k 8).toNat (ar .xor .u8 (chr (cs i.toNat) (ar .quo .i64 k 8).toNat) (ar .shl .u8 1 (ar .rem .i64 k 8)))) (cs i.toNat).size)).rs)), (.int false .i64 ((decX (strOf (upd (chr (cs i.toNat)) (ar .quo .i64 k 8).toNat (ar .xor .u8 (chr (cs i.toNat) (ar .quo .i64 k 8).toNat) (ar .shl .u8 1 (ar .rem .i64 k 8)))) (cs i.toNat).size)).n))])]
 else .bad
 else .bad
 else .bad
 else .bad
 else .bad
 else .bad
 else .bad
 else .bad
 else .bad
 else .bad
 else .bad
 else
 bif (Nat.ble ((cs i.toNat).size) ((cs i.toNat).size)) then
 bif (Nat.ble ((cs i.toNat).size) ((cs i.toNat).size)) then
 bif (bif !cm .gtr (decX (strOf (chr (cs i.toNat)) (cs i.toNat).size)).len 0 == cm .eql (bif (decX (strOf (chr (cs i.toNat)) (cs i.toNat).size)).ok then 0 else 11) 0 then true else bif cm .eql (decX (strOf (chr (cs i.toNat)) (cs i.toNat).size)).len 0 then bif cm .neq (bif (decX (strOf (chr (cs i.toNat)) (cs i.toNat).size)).ok then 0 else 11) 11 then true else bif !((decX (strOf (chr (cs i.toNat)) (cs i.toNat).size)).o == (decX (strOf (chr (cs i.toNat)) (cs i.toNat).size)).o && ((decX (strOf (chr (cs i.toNat)) (cs i.toNat).size)).w == (decX (strOf (chr (cs i.toNat)) (cs i.toNat).size)).w && ((decX (strOf (chr (cs i.toNat)) (cs i.toNat).size)).rd == (decX (strOf (chr (cs i.toNat)) (cs i.toNat).size)).rd && ((decX (strOf (chr (cs i.toNat)) (cs i.toNat).size)).rs == (decX (strOf (chr (cs i.toNat)) (cs i.toNat).size)).rs && ((decX (strOf (chr (cs i.toNat)) (cs i.toNat).size)).n == (decX (strOf (chr (cs i.toNat)) (cs i.toNat).size)).n && true))))) then true else cm .neq (decX (strOf (chr (cs i.toNat)) (cs i.toNat).size)).len (decX (strOf (chr (cs i.toNat)) (cs i.toNat).size)).len else bif !((decX (strOf (chr (cs i.toNat)) (cs i.toNat).size)).o == (decX (strOf (chr (cs i.toNat)) (cs i.toNat).size)).o && ((decX (strOf (chr (cs i.toNat)) (cs i.toNat).size)).w == (decX (strOf (chr (cs i.toNat)) (cs i.toNat).size)).w && ((decX (strOf (chr (cs i.toNat)) (cs i.toNat).size)).rd == (decX (strOf (chr (cs i.toNat)) (cs i.toNat).size)).rd && ((decX (strOf (chr (cs i.toNat)) (cs i.toNat).size)).rs == (decX (strOf (chr (cs i.toNat)) (cs i.toNat).size)).rs && ((decX (strOf (chr (cs i.toNat)) (cs i.toNat).size)).n == (decX (strOf (chr (cs i.toNat)) (cs i.toNat).size)).n && true))))) then true else cm .neq (decX (strOf (chr (cs i.toNat)) (cs i.toNat).size)).len (decX (strOf (chr (cs i.toNat)) (cs i.toNat).size)).len) then
 .ret (.bool true false) [(0, .tab (nL) [.ints .i64 (c0), .ints .i64 (c1), .ints .i64 (c2), .ints .i64 (c3), .ints .i64 (c4)] false), (1, .tab (nS) [.strs (cs)] false), (1024, .cells [(.sl 0 (nL)), (.sl 1 (nS))]), (2588, .tab ((cs i.toNat).size) [.ints .u8 (chr (cs i.toNat))] true), (2764, .cells [(.int false .i64 ((decX (strOf (chr (cs i.toNat)) (cs i.toNat).size)).o)), (.int false .i64 ((decX (strOf (chr (cs i.toNat)) (cs i.toNat).size)).w)), (.int false .i64 ((decX (strOf (chr (cs i.toNat)) (cs i.toNat).size)).rd)), (.int false .i64 ((decX (strOf (chr (cs i.toNat)) (cs i.toNat).size)).rs)), (.int false .i64 ((decX (strOf (chr (cs i.toNat)) (cs i.toNat).size)).n))]), (2924, .cells [(.int false .i64 ((decX (strOf (chr (cs i.toNat)) (cs i.toNat).size)).o)), (.int false .i64 ((decX (strOf (chr (cs i.toNat)) (cs i.toNat).size)).w)), (.int false .i64 ((decX (strOf (chr (cs i.toNat)) (cs i.toNat).size)).rd)), (.int false .i64 ((decX (strOf (chr (cs i.toNat)) (cs i.toNat).size)).rs)), (.int false .i64 ((decX (strOf (chr (cs i.toNat)) (cs i.toNat).size)).n))])]
 else
 .norm 99 [(.ptr 1024 0 0), (.int false .i64 (i)), (.int false .i64 (ar .add .i64 k 1))] [(0, .tab (nL) [.ints .i64 (c0), .ints .i64 (c1), .ints .i64 (c2), .ints .i64 (c3), .ints .i64 (c4)] false), (1, .tab (nS) [.strs (cs)] false), (1024, .cells [(.sl 0 (nL)), (.sl 1 (nS))]), (2588, .tab ((cs i.toNat).size) [.ints .u8 (chr (cs i.toNat))] true), (2764, .cells [(.int false .i64 ((decX (strOf (chr (cs i.toNat)) (cs i.toNat).size)).o)), (.int false .i64 ((decX (strOf (chr (cs i.toNat)) (cs i.toNat).size)).w)), (.int false .i64 ((decX (strOf (chr (cs i.toNat)) (cs i.toNat).size)).rd)), (.int false .i64 ((decX (strOf (chr (cs i.toNat)) (cs i.toNat).size)).rs)), (.int false .i64 ((decX (strOf (chr (cs i.toNat)) (cs i.toNat).size)).n))]), (2924, .cells [(.int false .i64 ((decX (strOf (chr (cs i.toNat)) (cs i.toNat).size)).o)), (.int false .i64 ((decX (strOf (chr (cs i.toNat)) (cs i.toNat).size)).w)), (.int false .i64 ((decX (strOf (chr (cs i.toNat)) (cs i.toNat).size)).rd)), (.int false .i64 ((decX (strOf (chr (cs i.toNat)) (cs i.toNat).size)).rs)), (.int false .i64 ((decX (strOf (chr (cs i.toNat)) (cs i.toNat).size)).n))])]
 else .bad
 else .bad
 else .bad
 else .bad
 else .bad
 else .bad
 else
 .exit 2 99 [(.ptr 1024 0 0), (.int false .i64 (i)), (.int false .i64 (k))] [(0, .tab (nL) [.ints .i64 (c0), .ints .i64 (c1), .ints .i64 (c2), .ints .i64 (c3), .ints .i64 (c4)] false), (1, .tab (nS) [.strs (cs)] false), (1024, .cells [(.sl 0 (nL)), (.sl 1 (nS))])]
 else .bad
 else .bad
 else .bad
 else .bad) := by kernel_rfl

theorem r4 (i : Int) (nL : Nat) (nS : Nat) (c0 : Nat → Int) (c1 : Nat → Int) (c2 : Nat → Int) (c3 : Nat → Int) (c4 : Nat → Int) (cs : Nat → ByteArray) : (evalB E4b Try.prog Try.f4.results.toList (loopOf Try.f4 0) 1 lp4 (v4 i) (h3L nL nS c0 c1 c2 c3 c4 cs)).view [1, 3] =
    (bif (bif cm .lss i (↑nS : Int) then cm .lss i 4 else false) then
 bif (decide (0 ≤ i)) then
 bif (decide (i < (↑nS : Int))) then
 bif (Nat.beq (nL) (nL)) then
 bif (Nat.beq (nS) (nS)) then
 .norm 99 [(.ptr 1024 0 0), (.int false .i64 (ar .add .i64 i 1))] [(0, .tab (nL) [.ints .i64 (c0), .ints .i64 (c1), .ints .i64 (c2), .ints .i64 (c3), .ints .i64 (c4)] false), (1, .tab (nS) [.strs (cs)] false), (1024, .cells [(.sl 0 (nL)), (.sl 1 (nS))])]
 else .bad
 else .bad
 else .bad
 else .bad
 else
 .exit 0 99 [(.ptr 1024 0 0), (.int false .i64 (i))] [(0, .tab (nL) [.ints .i64 (c0), .ints .i64 (c1), .ints .i64 (c2), .ints .i64 (c3), .ints .i64 (c4)] false), (1, .tab (nS) [.strs (cs)] false), (1024, .cells [(.sl 0 (nL)), (.sl 1 (nS))])]) := by kernel_rfl

theorem t4 (nL : Nat) (nS : Nat) (c0 : Nat → Int) (c1 : Nat → Int) (c2 : Nat → Int) (c3 : Nat → Int) (c4 : Nat → Int) (cs : Nat → ByteArray) : (evalF E4L Try.prog 4 [.agg [.sl 0 nL, .sl 1 nS]] (hL nL nS c0 c1 c2 c3 c4 cs) 1024).bare =
    (bif (Nat.beq (nL) (nL)) then
 bif (Nat.beq (nS) (nS)) then
 bif (Nat.ble (nS) (9223372036854775807)) then
 bif (cm .gtr (hvX nS cs nS 0 (ar .add .i64 (↑nL : Int) (↑nS : Int))) 3000) then
 .ret (.bool true true) []
 else
 bif (Nat.beq (nL) (nL)) then
 bif (Nat.beq (nS) (nS)) then
 .ret (.bool false true) []
 else .bad
 else .bad
 else .bad
 else .bad
 else .bad) := by kernel_rfl

end Go.X
end

section
set_option linter.unusedVariables false
open Go Go.Ev Go.Proofs
namespace Go.X

structure XD where
  t : Nat
  i : Nat
  nL : Nat
  nS : Nat
  c0 : Nat → Int
  c1 : Nat → Int
  c2 : Nat → Int
  c3 : Nat → Int
  c4 : Nat → Int
  cs : Nat → ByteArray
def hpD (x : XD) : Heap := h3L x.nL x.nS x.c0 x.c1 x.c2 x.c3 x.c4 x.cs
def ok4b (x : XD) : Prop := x.t ≤ 65 ∧ x.i < x.nS
def vs4b (x : XD) : List SV := v4b x.i ((x.t : Int) - 1)
def out4b (x : XD) : Vw := .exit 2 99 [.ptr 1024 0 0, .int false .i64 x.i, .any] (hpD x)

theorem entry4b (l : List SV) (H : Heap) (T : Tr) (h : lp4b.get l H = some T) (hb : T.leaf ≠ .bad) : ∃ x r, ok4b x ∧ WkV r lp4b.nm l H (vs4b x) (hpD x) ∧ T.leaf = toLf lp4b (out4b x) := by
  replace h : get4b l H = some T := h
  unfold get4b at h
  split at h
  · rename_i k1 r1 p1 _ i _ k j0 nL c0 c1 c2 c3 c4 j1 nS cs j2 s0 m0 s1 m1
    simp only [Option.some.injEq] at h
    subst h
    obtain ⟨hn, he⟩ := needs_ne hb
    rw [he]
    simp only [allB, Bool.and_eq_true, Bool.and_true, decide_eq_true_eq, Nat.beq_eq, Nat.ble_eq] at hn
    obtain ⟨rfl, rfl, rfl, rfl, hi0, hi1, rfl, rfl, rfl, rfl, rfl, rfl, rfl⟩ := hn
    obtain ⟨i, rfl⟩ : ∃ j : Nat, i = j := ⟨i.toNat, by omega⟩
    refine ⟨⟨0, i, m0, m1, c0, c1, c2, c3, c4, cs⟩, [], ⟨Nat.zero_le _, by show i < m1; omega⟩, ?_, ?_⟩
    · simp [WkV, vs4b, hpD, v4b, h3L, wkF, wkS, sim, simL, wkH, wkB, wkCs, wkC, rmap, rlook, Ev.look, oldsOf, uniqN, mem, SV.al, SV.alL, Ev.hal, Blk.al, lt, rok, lp4b, lk4b]
    · simp only [exitT_leaf, out4b, hpD]
      rfl
  · cases h

theorem same_dec (s : ByteArray) : (bif !cm .gtr (decX s).len 0 == cm .eql (bif (decX s).ok then 0 else 11) 0 then true else bif cm .eql (decX s).len 0 then bif cm .neq (bif (decX s).ok then 0 else 11) 11 then true else bif !((decX s).o == (decX s).o && ((decX s).w == (decX s).w && ((decX s).rd == (decX s).rd && ((decX s).rs == (decX s).rs && ((decX s).n == (decX s).n && true))))) then true else cm .neq (decX s).len (decX s).len else bif !((decX s).o == (decX s).o && ((decX s).w == (decX s).w && ((decX s).rd == (decX s).rd && ((decX s).rs == (decX s).rs && ((decX s).n == (decX s).n && true))))) then true else cm .neq (decX s).len (decX s).len) = false := by
  rcases dec_len s with ⟨h1, h2⟩ | h
  · have e1 : cm .gtr (decX s).len 0 = true := by rw [cm_gtr']; exact decide_eq_true (by omega)
    have e2 : cm .eql (decX s).len 0 = false := by rw [cm_eql']; exact decide_eq_false (by omega)
    simp only [e1, e2, h1, cm_neq_self, BEq.rfl, Bool.and_true, Bool.not_true, cond_true, cond_false]
    rfl
  · rw [h]; rfl

theorem quo8 {t : Nat} (h : t < 64) : ar .quo .i64 (t : Int) 8 = ((t / 8 : Nat) : Int) := by
  have e : ar .quo .i64 (t : Int) 8 = IntKind.i64.wrap ((t : Int).tdiv 8) := rfl
  rw [e, Int.tdiv_eq_ediv_of_nonneg (by omega), IntKind.wrap_i64]
  omega
theorem rem8t {t : Nat} : ar .rem .i64 (t : Int) 8 = ((t % 8 : Nat) : Int) := by
  have e : ar .rem .i64 (t : Int) 8 = (t : Int).tmod 8 := rfl
  rw [e, Int.tmod_eq_emod_of_nonneg (by omega)]
  omega
theorem fits8 {k z : Nat} (h : k < 64) (hc : (k : Int) < ar .mul .i64 8 (z : Int)) : k / 8 < z := by
  have e : ar .mul .i64 8 (z : Int) = IntKind.i64.wrap (8 * (z : Int)) := rfl
  rw [e, IntKind.wrap_i64] at hc
  omega

attribute [local irreducible] evalB Tr.view decX in
theorem round4b (x : XD) (hx : ok4b x) : Round lp4b ok4b (fun x => 65 - x.t) vs4b hpD out4b x ((evalB ELx Try.prog Try.f4.results.toList (loopOf Try.f4 1) (1 + 1) lp4b (vs4b x) (hpD x)).view lp4b.ks) := by
  obtain ⟨t, i, nL, nS, c0, c1, c2, c3, c4, cs⟩ := x
  obtain ⟨ht, hi⟩ := hx
  simp only at ht hi
  have hr := r4b i ((t : Int) - 1) nL nS c0 c1 c2 c3 c4 cs
  rw [show evalB ELx Try.prog Try.f4.results.toList (loopOf Try.f4 1) (1 + 1) lp4b (vs4b ⟨t, i, nL, nS, c0, c1, c2, c3, c4, cs⟩) (hpD ⟨t, i, nL, nS, c0, c1, c2, c3, c4, cs⟩) = evalB ELx Try.prog Try.f4.results.toList (loopOf Try.f4 1) 2 lp4b (v4b i ((t : Int) - 1)) (h3L nL nS c0 c1 c2 c3 c4 cs) from rfl, show lp4b.ks = [1, 3, 4] from rfl, hr]
  have e3 : decide (0 ≤ (i : Int)) = true := decide_eq_true (by omega)
  have e4 : decide ((i : Int) < (nS : Int)) = true := decide_eq_true (by omega)
  have e5 : Nat.blt i nS = true := by rw [Nat.blt_eq]; exact hi
  have hz : Nat.ble (cs i).size (cs i).size = true := by rw [Nat.ble_eq]; omega
  simp only [e3, e4, e5, hz, cond_true, Int.toNat_natCast]
  by_cases hc : (bif cm .lss ((t : Int) - 1) (ar .mul .i64 8 ((cs i).size : Int)) then cm .lss ((t : Int) - 1) 64 else false) = true
  · have hc2 : ((t : Int) - 1) < ar .mul .i64 8 ((cs i).size : Int) ∧ ((t : Int) - 1) < 64 := by
      rw [cm_lss', cm_lss'] at hc
      by_cases h1 : ((t : Int) - 1) < ar .mul .i64 8 ((cs i).size : Int)
      · rw [decide_eq_true h1, cond_true, decide_eq_true_eq] at hc
        exact ⟨h1, hc⟩
      · rw [decide_eq_false h1] at hc; cases hc
    have hnext : ∀ H2, Round lp4b ok4b (fun x => 65 - x.t) vs4b hpD out4b ⟨t, i, nL, nS, c0, c1, c2, c3, c4, cs⟩ (.norm 99 [.ptr 1024 0 0, .int false .i64 i, .int false .i64 (ar .add .i64 ((t : Int) - 1) 1)] ((0, .tab nL [.ints .i64 c0, .ints .i64 c1, .ints .i64 c2, .ints .i64 c3, .ints .i64 c4] false) :: (1, .tab nS [.strs cs] false) :: (1024, .cells [.sl 0 nL, .sl 1 nS]) :: H2)) := by
      intro H2
      have ea : ar .add .i64 ((t : Int) - 1) 1 = ((t + 1 : Nat) : Int) - 1 := by simp only [ar, IntKind.wrap_i64]; omega
      refine ⟨rfl, ⟨t + 1, i, nL, nS, c0, c1, c2, c3, c4, cs⟩, [], ⟨show t + 1 ≤ 65 by omega, hi⟩, by show 65 - (t + 1) < 65 - t; omega, rfl, ?_⟩
      rw [ea]
      simp [WkV, vs4b, hpD, v4b, h3L, wkF, wkS, sim, simL, wkH, wkB, wkCs, wkC, rmap, rlook, Ev.look, oldsOf, uniqN, mem, SV.al, SV.alL, Ev.hal, Blk.al, lt, rok, lp4b, lk4b]
    simp only [hc, cond_true]
    rcases Nat.eq_zero_or_pos t with rfl | hpos
    · have e6 : cm .geq (((0 : Nat) : Int) - 1) 0 = false := rfl
      simp only [e6, same_dec, cond_false]
      exact hnext _
    · obtain ⟨k, rfl⟩ : ∃ k, t = k + 1 := ⟨t - 1, by omega⟩
      have ek : ((k + 1 : Nat) : Int) - 1 = (k : Int) := by omega
      rw [ek] at hc2 hnext ⊢
      have hk : k < 64 := by omega
      have hf := fits8 hk hc2.1
      have e6 : cm .geq (k : Int) 0 = true := by rw [cm_geq']; exact decide_eq_true (by omega)
      have e7 : decide (0 ≤ ((k / 8 : Nat) : Int)) = true := decide_eq_true (by omega)
      have e8 : decide (((k / 8 : Nat) : Int) < ((cs i).size : Int)) = true := decide_eq_true (by omega)
      have e9 : Nat.blt (k / 8) (cs i).size = true := by rw [Nat.blt_eq]; exact hf
      have e10 : decide (0 ≤ ((k % 8 : Nat) : Int)) = true := decide_eq_true (by omega)
      simp only [e6, quo8 hk, rem8t, e7, e8, e9, e10, cond_true, Int.toNat_natCast, same_dec, cond_false]
      exact hnext _
  · simp only [Bool.not_eq_true] at hc
    simp only [hc, cond_false]
    refine ⟨rfl, _, _, [], rfl, ?_⟩
    simp [WkV, hpD, h3L, wkF, wkS, sim, simL, wkH, wkB, wkCs, wkC, rmap, rlook, Ev.look, oldsOf, uniqN, mem, SV.al, SV.alL, Ev.hal, Blk.al, lt, rok, lp4b, lk4b]

attribute [local irreducible] evalB Tr.view in
theorem loop4b {E : Env} (hE : ∀ S, E.loop 1 S = runLp lp4b S) : LoopOk E Try.prog Try.f4 1 (loopOf Try.f4 1) :=
  loop_okE mixed hE (by decide) ok4b (fun x => 65 - x.t) vs4b hpD out4b entry4b fun x hx => ⟨ELx, elx_calls, loops_noLoop elx_loop _ _, round4b x hx⟩
theorem e4b_calls : CallsOk E4b Try.prog := fun f args H nm r h hn => elx_calls f args H nm r h hn
theorem nl4b : Code.loops (loopOf Try.f4 0) = 1 := by kernel_rfl
theorem nth4b : nthLoop (loopOf Try.f4 0) 0 = some (loopOf Try.f4 1) := by kernel_rfl
theorem inner4 : LoopsOk E4b Try.prog Try.f4 (loopOf Try.f4 0) 1 := loopsOk_of _ 1 fun m a hm ha => by
  rw [nl4b] at hm
  obtain rfl : m = 0 := by omega
  rw [nth4b] at ha
  simp only [Option.some.injEq] at ha
  subst ha
  exact loop4b fun S => rfl

def ok4 (x : XD) : Prop := x.i ≤ 4
def vs4 (x : XD) : List SV := v4 x.i
def out4 (x : XD) : Vw := .exit 0 99 [.ptr 1024 0 0, .any] (hpD x)

theorem entry4 (l : List SV) (H : Heap) (T : Tr) (h : lp4.get l H = some T) (hb : T.leaf ≠ .bad) : ∃ x r, ok4 x ∧ WkV r lp4.nm l H (vs4 x) (hpD x) ∧ T.leaf = toLf lp4 (out4 x) := by
  replace h : get4 l H = some T := h
  unfold get4 at h
  split at h
  · rename_i k1 r1 p1 _ i j0 nL c0 c1 c2 c3 c4 j1 nS cs j2 s0 m0 s1 m1
    simp only [Option.some.injEq] at h
    subst h
    obtain ⟨hn, he⟩ := needs_ne hb
    rw [he]
    simp only [allB, Bool.and_eq_true, Bool.and_true, decide_eq_true_eq, Nat.beq_eq, Nat.ble_eq] at hn
    obtain ⟨rfl, rfl, rfl, rfl, rfl, rfl, rfl, rfl, rfl, rfl, rfl⟩ := hn
    refine ⟨⟨0, 0, m0, m1, c0, c1, c2, c3, c4, cs⟩, [], Nat.zero_le _, ?_, ?_⟩
    · simp [WkV, vs4, hpD, v4, h3L, wkF, wkS, sim, simL, wkH, wkB, wkCs, wkC, rmap, rlook, Ev.look, oldsOf, uniqN, mem, SV.al, SV.alL, Ev.hal, Blk.al, lt, rok, lp4, lk4]
    · simp only [exitT_leaf, out4, hpD]
      rfl
  · cases h

attribute [local irreducible] evalB Tr.view in
theorem round4 (x : XD) (hx : ok4 x) : Round lp4 ok4 (fun x => 4 - x.i) vs4 hpD out4 x ((evalB E4b Try.prog Try.f4.results.toList (loopOf Try.f4 0) (0 + 1) lp4 (vs4 x) (hpD x)).view lp4.ks) := by
  obtain ⟨t, i, nL, nS, c0, c1, c2, c3, c4, cs⟩ := x
  have hx : i ≤ 4 := hx
  have hr := r4 i nL nS c0 c1 c2 c3 c4 cs
  rw [show evalB E4b Try.prog Try.f4.results.toList (loopOf Try.f4 0) (0 + 1) lp4 (vs4 ⟨t, i, nL, nS, c0, c1, c2, c3, c4, cs⟩) (hpD ⟨t, i, nL, nS, c0, c1, c2, c3, c4, cs⟩) = evalB E4b Try.prog Try.f4.results.toList (loopOf Try.f4 0) 1 lp4 (v4 i) (h3L nL nS c0 c1 c2 c3 c4 cs) from rfl, show lp4.ks = [1, 3] from rfl, hr]
  by_cases h : i < nS ∧ i < 4
  · obtain ⟨h1, h2⟩ := h
    have e1 : cm .lss (i : Int) nS = true := decide_eq_true (by omega)
    have e2 : cm .lss (i : Int) 4 = true := decide_eq_true (by omega)
    have e3 : decide (0 ≤ (i : Int)) = true := decide_eq_true (by omega)
    have e4 : decide ((i : Int) < (nS : Int)) = true := decide_eq_true (by omega)
    simp only [e1, e2, e3, e4, cond_true, Nat.beq_refl, addOne (show i < 9223372036854775807 by omega)]
    refine ⟨rfl, ⟨t, i + 1, nL, nS, c0, c1, c2, c3, c4, cs⟩, [], show i + 1 ≤ 4 by omega, by show 4 - (i + 1) < 4 - i; omega, rfl, ?_⟩
    simp [WkV, vs4, hpD, v4, h3L, wkF, wkS, sim, simL, wkH, wkB, wkCs, wkC, rmap, rlook, Ev.look, oldsOf, uniqN, mem, SV.al, SV.alL, Ev.hal, Blk.al, lt, rok, lp4, lk4]
  · have e1 : (bif cm .lss (i : Int) nS then cm .lss (i : Int) 4 else false) = false := by
      rw [cm_lss', cm_lss']
      by_cases h1 : i < nS
      · have : ¬ (i : Int) < 4 := by omega
        simp [this]
      · have : ¬ (i : Int) < nS := by omega
        simp [this]
    simp only [e1, cond_false]
    refine ⟨rfl, _, _, [], rfl, ?_⟩
    simp [WkV, hpD, h3L, wkF, wkS, sim, simL, wkH, wkB, wkCs, wkC, rmap, rlook, Ev.look, oldsOf, uniqN, mem, SV.al, SV.alL, Ev.hal, Blk.al, lt, rok, lp4, lk4]

theorem e4l_calls : CallsOk E4L Try.prog := fun f args H nm r h hn => el_calls f args H nm r h hn
attribute [local irreducible] evalB Tr.view in
theorem loop4 : LoopOk E4L Try.prog Try.f4 0 (loopOf Try.f4 0) :=
  loop_okE mixed (fun S => rfl) (by decide) ok4 (fun x => 4 - x.i) vs4 hpD out4 entry4 fun x hx => ⟨E4b, e4b_calls, inner4, round4 x hx⟩
theorem fn4 : Try.prog.funcs[4]? = some Try.f4 := by kernel_rfl
theorem b4 : Try.f4.body = some (bodyOf Try.f4) := by kernel_rfl
theorem nl4 : Code.loops (bodyOf Try.f4) = 2 := by kernel_rfl
theorem nth40 : nthLoop (bodyOf Try.f4) 0 = some (loopOf Try.f4 0) := by kernel_rfl
theorem nth41 : nthLoop (bodyOf Try.f4) 1 = some (loopOf Try.f4 1) := by kernel_rfl
theorem loops4 : LoopsOk E4L Try.prog Try.f4 (bodyOf Try.f4) 0 := loops2 nl4
  (fun a ha => by
    rw [nth40] at ha
    simp only [Option.some.injEq] at ha
    subst ha
    exact loop4)
  (fun a ha => by
    rw [nth41] at ha
    simp only [Option.some.injEq] at ha
    subst ha
    exact loop4b fun S => rfl)

end Go.X
end
