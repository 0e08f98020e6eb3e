/-
  rv: rounds of the law RvDecodes. Laid by the tool '#leafw'.
-/
import Derived.Test.YtpdbbanpppppcaaC9
set_option linter.unusedSimpArgs false
set_option linter.unusedVariables false
section
set_option linter.unusedVariables false
open Go Go.Ev Go.Proofs
namespace Go.Rv

def v4i (i k : Int) : List SV := [.ptr 1024 0 0, .int false .i64 i, .int false .i64 k]
def lk4i : Lp := ⟨83, [1, 3, 4], 2048, fun _ _ => none⟩
def get4i : List SV → Heap → Option Tr
  | [.ptr k1 r1 p1, .int _ .i64 i, .int _ .i64 k], [(j0, .tab nL [.ints .i64 c0, .ints .i64 c1, .ints .i64 c2, .ints .i64 c3, .ints .i64 c4] false), (j1, .tab nW [.ints .u32 cw] false), (j2, .cells [.sl s0 m0, .sl s1 m1])] =>
    some (Tr.needs [Nat.beq k1 1024, Nat.beq r1 0, Nat.beq p1 0, decide (k = -1), Nat.beq j0 0, Nat.beq j1 1, Nat.beq j2 1024, Nat.beq s0 0, Nat.beq m0 nL, Nat.beq s1 1, Nat.beq m1 nW, decide (0 ≤ i), Nat.blt i.toNat nW, decide (0 ≤ cw i.toNat), decide (cw i.toNat < 4294967296)] (exitT lk4i 2 [.ptr 1024 0 0, .int false .i64 i, .any] (h3 nL nW c0 c1 c2 c3 c4 cw)))
  | _, _ => none
def lp4i : Lp := { lk4i with get := get4i }
noncomputable def E4i : Env := ⟨EL.call, loopEnv [(1, lp4i)]⟩
def v4 (i : Int) : List SV := [.ptr 1024 0 0, .int false .i64 i]
def lk4 : Lp := ⟨83, [1, 3], 2048, fun _ _ => none⟩
def get4 : List SV → Heap → Option Tr
  | [.ptr k1 r1 p1, .int _ .i64 a3], [(j0, .tab nL [.ints .i64 c0, .ints .i64 c1, .ints .i64 c2, .ints .i64 c3, .ints .i64 c4] false), (j1, .tab nW [.ints .u32 cw] false), (j2, .cells [.sl s0 m0, .sl s1 m1])] =>
    some (Tr.needs [Nat.beq k1 1024, Nat.beq r1 0, Nat.beq p1 0, decide (a3 = 0), Nat.beq j0 0, Nat.beq j1 1, Nat.beq j2 1024, Nat.beq s0 0, Nat.beq m0 nL, Nat.beq s1 1, Nat.beq m1 nW,
      (List.range (min nW 8)).all fun j => decide (0 ≤ cw j) && decide (cw j < 4294967296)] (exitT lk4 0 [.ptr 1024 0 0, .any] (h3 nL nW c0 c1 c2 c3 c4 cw)))
  | _, _ => none
def lp4 : Lp := { lk4 with get := get4 }

theorem r4i (i : Int) (k : Int) (nL : Nat) (nW : Nat) (c0 : Nat → Int) (c1 : Nat → Int) (c2 : Nat → Int) (c3 : Nat → Int) (c4 : Nat → Int) (cw : Nat → Int) : (evalB EL Try.prog Try.f4.results.toList (loopOf Try.f4 1) 2 lp4i (v4i i k) (h3 nL nW c0 c1 c2 c3 c4 cw)).view [1, 3, 4] =
    (bif (cm BinOp.lss k 32) then
      bif (decide (0 ≤ i)) then
        bif (decide (i < ↑nW)) then
          bif (i.toNat.blt nW) then
            bif (i.toNat.blt nW) then
              bif (cm BinOp.geq k 0) then
                bif (decide (0 ≤ k)) then
                  bif (decide (0 ≤ ar BinOp.xor IntKind.u32 (cw i.toNat) (ar BinOp.shl IntKind.u32 1 k))) then
                    bif (decide (ar BinOp.xor IntKind.u32 (cw i.toNat) (ar BinOp.shl IntKind.u32 1 k) < 4294967296)) then
                      bif (decide (0 ≤ ar BinOp.xor IntKind.u32 (cw i.toNat) (ar BinOp.shl IntKind.u32 1 k))) then
                        bif (decide (ar BinOp.xor IntKind.u32 (cw i.toNat) (ar BinOp.shl IntKind.u32 1 k) < 4294967296)) then
                          bif (bif !decOk (ar BinOp.xor IntKind.u32 (cw i.toNat) (ar BinOp.shl IntKind.u32 1 k)) == cm BinOp.eql (bif decOk (ar BinOp.xor IntKind.u32 (cw i.toNat) (ar BinOp.shl IntKind.u32 1 k)) then 0 else 11) 0 then true else bif !decOk (ar BinOp.xor IntKind.u32 (cw i.toNat) (ar BinOp.shl IntKind.u32 1 k)) then bif cm BinOp.neq (bif decOk (ar BinOp.xor IntKind.u32 (cw i.toNat) (ar BinOp.shl IntKind.u32 1 k)) then 0 else 11) 11 then true else !(decV (ar BinOp.xor IntKind.u32 (cw i.toNat) (ar BinOp.shl IntKind.u32 1 k)) (↑(decI (ar BinOp.xor IntKind.u32 (cw i.toNat) (ar BinOp.shl IntKind.u32 1 k))) + 1) == decV (ar BinOp.xor IntKind.u32 (cw i.toNat) (ar BinOp.shl IntKind.u32 1 k)) (↑(decI (ar BinOp.xor IntKind.u32 (cw i.toNat) (ar BinOp.shl IntKind.u32 1 k))) + 1) && (decV (ar BinOp.xor IntKind.u32 (cw i.toNat) (ar BinOp.shl IntKind.u32 1 k)) (rdB (decK (ar BinOp.xor IntKind.u32 (cw i.toNat) (ar BinOp.shl IntKind.u32 1 k))) (W (ar BinOp.xor IntKind.u32 (cw i.toNat) (ar BinOp.shl IntKind.u32 1 k)))) == decV (ar BinOp.xor IntKind.u32 (cw i.toNat) (ar BinOp.shl IntKind.u32 1 k)) (rdB (decK (ar BinOp.xor IntKind.u32 (cw i.toNat) (ar BinOp.shl IntKind.u32 1 k))) (W (ar BinOp.xor IntKind.u32 (cw i.toNat) (ar BinOp.shl IntKind.u32 1 k)))) && (decV (ar BinOp.xor IntKind.u32 (cw i.toNat) (ar BinOp.shl IntKind.u32 1 k)) (r1B (decK (ar BinOp.xor IntKind.u32 (cw i.toNat) (ar BinOp.shl IntKind.u32 1 k))) (W (ar BinOp.xor IntKind.u32 (cw i.toNat) (ar BinOp.shl IntKind.u32 1 k)))) == decV (ar BinOp.xor IntKind.u32 (cw i.toNat) (ar BinOp.shl IntKind.u32 1 k)) (r1B (decK (ar BinOp.xor IntKind.u32 (cw i.toNat) (ar BinOp.shl IntKind.u32 1 k))) (W (ar BinOp.xor IntKind.u32 (cw i.toNat) (ar BinOp.shl IntKind.u32 1 k)))) && (decV (ar BinOp.xor IntKind.u32 (cw i.toNat) (ar BinOp.shl IntKind.u32 1 k)) (r2B (decK (ar BinOp.xor IntKind.u32 (cw i.toNat) (ar BinOp.shl IntKind.u32 1 k))) (W (ar BinOp.xor IntKind.u32 (cw i.toNat) (ar BinOp.shl IntKind.u32 1 k)))) == decV (ar BinOp.xor IntKind.u32 (cw i.toNat) (ar BinOp.shl IntKind.u32 1 k)) (r2B (decK (ar BinOp.xor IntKind.u32 (cw i.toNat) (ar BinOp.shl IntKind.u32 1 k))) (W (ar BinOp.xor IntKind.u32 (cw i.toNat) (ar BinOp.shl IntKind.u32 1 k)))) && (decV (ar BinOp.xor IntKind.u32 (cw i.toNat) (ar BinOp.shl IntKind.u32 1 k)) (numB (decK (ar BinOp.xor IntKind.u32 (cw i.toNat) (ar BinOp.shl IntKind.u32 1 k))) (W (ar BinOp.xor IntKind.u32 (cw i.toNat) (ar BinOp.shl IntKind.u32 1 k)))) == decV (ar BinOp.xor IntKind.u32 (cw i.toNat) (ar BinOp.shl IntKind.u32 1 k)) (numB (decK (ar BinOp.xor IntKind.u32 (cw i.toNat) (ar BinOp.shl IntKind.u32 1 k))) (W (ar BinOp.xor IntKind.u32 (cw i.toNat) (ar BinOp.shl IntKind.u32 1 k)))) && true))))) else !(decV (ar BinOp.xor IntKind.u32 (cw i.toNat) (ar BinOp.shl IntKind.u32 1 k)) (↑(decI (ar BinOp.xor IntKind.u32 (cw i.toNat) (ar BinOp.shl IntKind.u32 1 k))) + 1) == decV (ar BinOp.xor IntKind.u32 (cw i.toNat) (ar BinOp.shl IntKind.u32 1 k)) (↑(decI (ar BinOp.xor IntKind.u32 (cw i.toNat) (ar BinOp.shl IntKind.u32 1 k))) + 1) && (decV (ar BinOp.xor IntKind.u32 (cw i.toNat) (ar BinOp.shl IntKind.u32 1 k)) (rdB (decK (ar BinOp.xor IntKind.u32 (cw i.toNat) (ar BinOp.shl IntKind.u32 1 k))) (W (ar BinOp.xor IntKind.u32 (cw i.toNat) (ar BinOp.shl IntKind.u32 1 k)))) == decV (ar BinOp.xor IntKind.u32 (cw i.toNat) (ar BinOp.shl IntKind.u32 1 k)) (rdB (decK (ar BinOp.xor IntKind.u32 (cw i.toNat) (ar BinOp.shl IntKind.u32 1 k))) (W (ar BinOp.xor IntKind.u32 (cw i.toNat) (ar BinOp.shl IntKind.u32 1 k)))) && (decV (ar BinOp.xor IntKind.u32 (cw i.toNat) (ar BinOp.shl IntKind.u32 1 k)) (r1B (decK (ar BinOp.xor IntKind.u32 (cw i.toNat) (ar BinOp.shl IntKind.u32 1 k))) (W (ar BinOp.xor IntKind.u32 (cw i.toNat) (ar BinOp.shl IntKind.u32 1 k)))) == decV (ar BinOp.xor IntKind.u32 (cw i.toNat) (ar BinOp.shl IntKind.u32 1 k)) (r1B (decK (ar BinOp.xor IntKind.u32 (cw i.toNat) (ar BinOp.shl IntKind.u32 1 k))) (W (ar BinOp.xor IntKind.u32 (cw i.toNat) (ar BinOp.shl IntKind.u32 1 k)))) && (decV (ar BinOp.xor IntKind.u32 (cw i.toNat) (ar BinOp.shl IntKind.u32 1 k)) (r2B (decK (ar BinOp.xor IntKind.u32 (cw i.toNat) (ar BinOp.shl IntKind.u32 1 k))) (W (ar BinOp.xor IntKind.u32 (cw i.toNat) (ar BinOp.shl IntKind.u32 1 k)))) == decV (ar BinOp.xor IntKind.u32 (cw i.toNat) (ar BinOp.shl IntKind.u32 1 k)) (r2B (decK (ar BinOp.xor IntKind.u32 (cw i.toNat) (ar BinOp.shl IntKind.u32 1 k))) (W (ar BinOp.xor IntKind.u32 (cw i.toNat) (ar BinOp.shl IntKind.u32 1 k)))) && (decV (ar BinOp.xor IntKind.u32 (cw i.toNat) (ar BinOp.shl IntKind.u32 1 k)) (numB (decK (ar BinOp.xor IntKind.u32 (cw i.toNat) (ar BinOp.shl IntKind.u32 1 k))) (W (ar BinOp.xor IntKind.u32 (cw i.toNat) (ar BinOp.shl IntKind.u32 1 k)))) == decV (ar BinOp.xor IntKind.u32 (cw i.toNat) (ar BinOp.shl IntKind.u32 1 k)) (numB (decK (ar BinOp.xor IntKind.u32 (cw i.toNat) (ar BinOp.shl IntKind.u32 1 k))) (W (ar BinOp.xor IntKind.u32 (cw i.toNat) (ar BinOp.shl IntKind.u32 1 k)))) && true)))))) then
                            .ret (.bool true false) [(0, .tab (nL) [.ints IntKind.i64 (c0), .ints IntKind.i64 (c1), .ints IntKind.i64 (c2), .ints IntKind.i64 (c3), .ints IntKind.i64 (c4)] false), (1, .tab (nW) [.ints IntKind.u32 (cw)] false), (1024, .cells [(.sl 0 (nL)), (.sl 1 (nW))]), (2368, .cells [(.int false IntKind.i64 (decV (ar BinOp.xor IntKind.u32 (cw i.toNat) (ar BinOp.shl IntKind.u32 1 k)) (↑(decI (ar BinOp.xor IntKind.u32 (cw i.toNat) (ar BinOp.shl IntKind.u32 1 k))) + 1))), (.int false IntKind.i64 (decV (ar BinOp.xor IntKind.u32 (cw i.toNat) (ar BinOp.shl IntKind.u32 1 k)) (rdB (decK (ar BinOp.xor IntKind.u32 (cw i.toNat) (ar BinOp.shl IntKind.u32 1 k))) (W (ar BinOp.xor IntKind.u32 (cw i.toNat) (ar BinOp.shl IntKind.u32 1 k)))))), (.int false IntKind.i64 (decV (ar BinOp.xor IntKind.u32 (cw i.toNat) (ar BinOp.shl IntKind.u32 1 k)) (r1B (decK (ar BinOp.xor IntKind.u32 (cw i.toNat) (ar BinOp.shl IntKind.u32 1 k))) (W (ar BinOp.xor IntKind.u32 (cw i.toNat) (ar BinOp.shl IntKind.u32 1 k)))))), (.int false IntKind.i64 (decV (ar BinOp.xor IntKind.u32 (cw i.toNat) (ar BinOp.shl IntKind.u32 1 k)) (r2B (decK (ar BinOp.xor IntKind.u32 (cw i.toNat) (ar BinOp.shl IntKind.u32 1 k))) (W (ar BinOp.xor IntKind.u32 (cw i.toNat) (ar BinOp.shl IntKind.u32 1 k)))))), (.int false IntKind.i64 (decV (ar BinOp.xor IntKind.u32 (cw i.toNat) (ar BinOp.shl IntKind.u32 1 k)) (numB (decK (ar BinOp.xor IntKind.u32 (cw i.toNat) (ar BinOp.shl IntKind.u32 1 k))) (W (ar BinOp.xor IntKind.u32 (cw i.toNat) (ar BinOp.shl IntKind.u32 1 k))))))]), (2496, .cells [(.int false IntKind.i64 (decV (ar BinOp.xor IntKind.u32 (cw i.toNat) (ar BinOp.shl IntKind.u32 1 k)) (↑(decI (ar BinOp.xor IntKind.u32 (cw i.toNat) (ar BinOp.shl IntKind.u32 1 k))) + 1))), (.int false IntKind.i64 (decV (ar BinOp.xor IntKind.u32 (cw i.toNat) (ar BinOp.shl IntKind.u32 1 k)) (rdB (decK (ar BinOp.xor IntKind.u32 (cw i.toNat) (ar BinOp.shl IntKind.u32 1 k))) (W (ar BinOp.xor IntKind.u32 (cw i.toNat) (ar BinOp.shl IntKind.u32 1 k)))))), (.int false IntKind.i64 (decV (ar BinOp.xor IntKind.u32 (cw i.toNat) (ar BinOp.shl IntKind.u32 1 k)) (r1B (decK (ar BinOp.xor IntKind.u32 (cw i.toNat) (ar BinOp.shl IntKind.u32 1 k))) (W (ar BinOp.xor IntKind.u32 (cw i.toNat) (ar BinOp.shl IntKind.u32 1 k)))))), (.int false IntKind.i64 (decV (ar BinOp.xor IntKind.u32 (cw i.toNat) (ar BinOp.shl IntKind.u32 1 k)) (r2B (decK (ar BinOp.xor IntKind.u32 (cw i.toNat) (ar BinOp.shl IntKind.u32 1 k))) (W (ar BinOp.xor IntKind.u32 (cw i.toNat) (ar BinOp.shl IntKind.u32 1 k)))))), (.int false IntKind.i64 (decV (ar BinOp.xor IntKind.u32 (cw i.toNat) (ar BinOp.shl IntKind.u32 1 k)) (numB (decK (ar BinOp.xor IntKind.u32 (cw i.toNat) (ar BinOp.shl IntKind.u32 1 k))) (W (ar BinOp.xor IntKind.u32 (cw i.toNat) (ar BinOp.shl IntKind.u32 1 k))))))])]
                          else
                            bif (!decOk (ar BinOp.xor IntKind.u32 (cw i.toNat) (ar BinOp.shl IntKind.u32 1 k))) then
                              .norm 83 [(.ptr 1024 0 0), (.int false IntKind.i64 (i)), (.int false IntKind.i64 (ar BinOp.add IntKind.i64 k 1))] [(0, .tab (nL) [.ints IntKind.i64 (c0), .ints IntKind.i64 (c1), .ints IntKind.i64 (c2), .ints IntKind.i64 (c3), .ints IntKind.i64 (c4)] false), (1, .tab (nW) [.ints IntKind.u32 (cw)] false), (1024, .cells [(.sl 0 (nL)), (.sl 1 (nW))]), (2368, .cells [(.int false IntKind.i64 (decV (ar BinOp.xor IntKind.u32 (cw i.toNat) (ar BinOp.shl IntKind.u32 1 k)) (↑(decI (ar BinOp.xor IntKind.u32 (cw i.toNat) (ar BinOp.shl IntKind.u32 1 k))) + 1))), (.int false IntKind.i64 (decV (ar BinOp.xor IntKind.u32 (cw i.toNat) (ar BinOp.shl IntKind.u32 1 k)) (rdB (decK (ar BinOp.xor IntKind.u32 (cw i.toNat) (ar BinOp.shl IntKind.u32 1 k))) (W (ar BinOp.xor IntKind.u32 (cw i.toNat) (ar BinOp.shl IntKind.u32 1 k)))))), (.int false IntKind.i64 (decV (ar BinOp.xor IntKind.u32 (cw i.toNat) (ar BinOp.shl IntKind.u32 1 k)) (r1B (decK (ar BinOp.xor IntKind.u32 (cw i.toNat) (ar BinOp.shl IntKind.u32 1 k))) (W (ar BinOp.xor IntKind.u32 (cw i.toNat) (ar BinOp.shl IntKind.u32 1 k)))))), (.int false IntKind.i64 (decV (ar BinOp.xor IntKind.u32 (cw i.toNat) (ar BinOp.shl IntKind.u32 1 k)) (r2B (decK (ar BinOp.xor IntKind.u32 (cw i.toNat) (ar BinOp.shl IntKind.u32 1 k))) (W (ar BinOp.xor IntKind.u32 (cw i.toNat) (ar BinOp.shl IntKind.u32 1 k)))))), (.int false IntKind.i64 (decV (ar BinOp.xor IntKind.u32 (cw i.toNat) (ar BinOp.shl IntKind.u32 1 k)) (numB (decK (ar BinOp.xor IntKind.u32 (cw i.toNat) (ar BinOp.shl IntKind.u32 1 k))) (W (ar BinOp.xor IntKind.u32 (cw i.toNat) (ar BinOp.shl IntKind.u32 1 k))))))]), (2496, .cells [(.int false IntKind.i64 (decV (ar BinOp.xor IntKind.u32 (cw i.toNat) (ar BinOp.shl IntKind.u32 1 k)) (↑(decI (ar BinOp.xor IntKind.u32 (cw i.toNat) (ar BinOp.shl IntKind.u32 1 k))) + 1))), (.int false IntKind.i64 (decV (ar BinOp.xor IntKind.u32 (cw i.toNat) (ar BinOp.shl IntKind.u32 1 k)) (rdB (decK (ar BinOp.xor IntKind.u32 (cw i.toNat) (ar BinOp.shl IntKind.u32 1 k))) (W (ar BinOp.xor IntKind.u32 (cw i.toNat) (ar BinOp.shl IntKind.u32 1 k)))))), (.int false IntKind.i64 (decV (ar BinOp.xor IntKind.u32 (cw i.toNat) (ar BinOp.shl IntKind.u32 1 k)) (r1B (decK (ar BinOp.xor IntKind.u32 (cw i.toNat) (ar BinOp.shl IntKind.u32 1 k))) (W (ar BinOp.xor IntKind.u32 (cw i.toNat) (ar BinOp.shl IntKind.u32 1 k)))))), (.int false IntKind.i64 (decV (ar BinOp.xor IntKind.u32 (cw i.toNat) (ar BinOp.shl IntKind.u32 1 k)) (r2B (decK (ar BinOp.xor IntKind.u32 (cw i.toNat) (ar BinOp.shl IntKind.u32 1 k))) (W (ar BinOp.xor IntKind.u32 (cw i.toNat) (ar BinOp.shl IntKind.u32 1 k)))))), (.int false IntKind.i64 (decV (ar BinOp.xor IntKind.u32 (cw i.toNat) (ar BinOp.shl IntKind.u32 1 k)) (numB (decK (ar BinOp.xor IntKind.u32 (cw i.toNat) (ar BinOp.shl IntKind.u32 1 k))) (W (ar BinOp.xor IntKind.u32 (cw i.toNat) (ar BinOp.shl IntKind.u32 1 k))))))])]
                            else
                              bif (bif cm BinOp.neq (errL (decV (ar BinOp.xor IntKind.u32 (cw i.toNat) (ar BinOp.shl IntKind.u32 1 k)) (↑(decI (ar BinOp.xor IntKind.u32 (cw i.toNat) (ar BinOp.shl IntKind.u32 1 k))) + 1)) (decV (ar BinOp.xor IntKind.u32 (cw i.toNat) (ar BinOp.shl IntKind.u32 1 k)) (rdB (decK (ar BinOp.xor IntKind.u32 (cw i.toNat) (ar BinOp.shl IntKind.u32 1 k))) (W (ar BinOp.xor IntKind.u32 (cw i.toNat) (ar BinOp.shl IntKind.u32 1 k))))) (decV (ar BinOp.xor IntKind.u32 (cw i.toNat) (ar BinOp.shl IntKind.u32 1 k)) (r1B (decK (ar BinOp.xor IntKind.u32 (cw i.toNat) (ar BinOp.shl IntKind.u32 1 k))) (W (ar BinOp.xor IntKind.u32 (cw i.toNat) (ar BinOp.shl IntKind.u32 1 k))))) (decV (ar BinOp.xor IntKind.u32 (cw i.toNat) (ar BinOp.shl IntKind.u32 1 k)) (r2B (decK (ar BinOp.xor IntKind.u32 (cw i.toNat) (ar BinOp.shl IntKind.u32 1 k))) (W (ar BinOp.xor IntKind.u32 (cw i.toNat) (ar BinOp.shl IntKind.u32 1 k))))) (decV (ar BinOp.xor IntKind.u32 (cw i.toNat) (ar BinOp.shl IntKind.u32 1 k)) (numB (decK (ar BinOp.xor IntKind.u32 (cw i.toNat) (ar BinOp.shl IntKind.u32 1 k))) (W (ar BinOp.xor IntKind.u32 (cw i.toNat) (ar BinOp.shl IntKind.u32 1 k)))))) 0 then true else cm BinOp.neq (wordL (decV (ar BinOp.xor IntKind.u32 (cw i.toNat) (ar BinOp.shl IntKind.u32 1 k)) (↑(decI (ar BinOp.xor IntKind.u32 (cw i.toNat) (ar BinOp.shl IntKind.u32 1 k))) + 1)) (decV (ar BinOp.xor IntKind.u32 (cw i.toNat) (ar BinOp.shl IntKind.u32 1 k)) (rdB (decK (ar BinOp.xor IntKind.u32 (cw i.toNat) (ar BinOp.shl IntKind.u32 1 k))) (W (ar BinOp.xor IntKind.u32 (cw i.toNat) (ar BinOp.shl IntKind.u32 1 k))))) (decV (ar BinOp.xor IntKind.u32 (cw i.toNat) (ar BinOp.shl IntKind.u32 1 k)) (r1B (decK (ar BinOp.xor IntKind.u32 (cw i.toNat) (ar BinOp.shl IntKind.u32 1 k))) (W (ar BinOp.xor IntKind.u32 (cw i.toNat) (ar BinOp.shl IntKind.u32 1 k))))) (decV (ar BinOp.xor IntKind.u32 (cw i.toNat) (ar BinOp.shl IntKind.u32 1 k)) (r2B (decK (ar BinOp.xor IntKind.u32 (cw i.toNat) (ar BinOp.shl IntKind.u32 1 k))) (W (ar BinOp.xor IntKind.u32 (cw i.toNat) (ar BinOp.shl IntKind.u32 1 k))))) (decV (ar BinOp.xor IntKind.u32 (cw i.toNat) (ar BinOp.shl IntKind.u32 1 k)) (numB (decK (ar BinOp.xor IntKind.u32 (cw i.toNat) (ar BinOp.shl IntKind.u32 1 k))) (W (ar BinOp.xor IntKind.u32 (cw i.toNat) (ar BinOp.shl IntKind.u32 1 k)))))) (ar BinOp.xor IntKind.u32 (cw i.toNat) (ar BinOp.shl IntKind.u32 1 k))) then
                                .ret (.bool true false) [(0, .tab (nL) [.ints IntKind.i64 (c0), .ints IntKind.i64 (c1), .ints IntKind.i64 (c2), .ints IntKind.i64 (c3), .ints IntKind.i64 (c4)] false), (1, .tab (nW) [.ints IntKind.u32 (cw)] false), (1024, .cells [(.sl 0 (nL)), (.sl 1 (nW))]), (2368, .cells [(.int false IntKind.i64 (decV (ar BinOp.xor IntKind.u32 (cw i.toNat) (ar BinOp.shl IntKind.u32 1 k)) (↑(decI (ar BinOp.xor IntKind.u32 (cw i.toNat) (ar BinOp.shl IntKind.u32 1 k))) + 1))), (.int false IntKind.i64 (decV (ar BinOp.xor IntKind.u32 (cw i.toNat) (ar BinOp.shl IntKind.u32 1 k)) (rdB (decK (ar BinOp.xor IntKind.u32 (cw i.toNat) (ar BinOp.shl IntKind.u32 1 k))) (W (ar BinOp.xor IntKind.u32 (cw i.toNat) (ar BinOp.shl IntKind.u32 1 k)))))), (.int false IntKind.i64 (decV (ar BinOp.xor IntKind.u32 (cw i.toNat) (ar BinOp.shl IntKind.u32 1 k)) (r1B (decK (ar BinOp.xor IntKind.u32 (cw i.toNat) (ar BinOp.shl IntKind.u32 1 k))) (W (ar BinOp.xor IntKind.u32 (cw i.toNat) (ar BinOp.shl IntKind.u32 1 k)))))), (.int false IntKind.i64 (decV (ar BinOp.xor IntKind.u32 (cw i.toNat) (ar BinOp.shl IntKind.u32 1 k)) (r2B (decK (ar BinOp.xor IntKind.u32 (cw i.toNat) (ar BinOp.shl IntKind.u32 1 k))) (W (ar BinOp.xor IntKind.u32 (cw i.toNat) (ar BinOp.shl IntKind.u32 1 k)))))), (.int false IntKind.i64 (decV (ar BinOp.xor IntKind.u32 (cw i.toNat) (ar BinOp.shl IntKind.u32 1 k)) (numB (decK (ar BinOp.xor IntKind.u32 (cw i.toNat) (ar BinOp.shl IntKind.u32 1 k))) (W (ar BinOp.xor IntKind.u32 (cw i.toNat) (ar BinOp.shl IntKind.u32 1 k))))))]), (2496, .cells [(.int false IntKind.i64 (decV (ar BinOp.xor IntKind.u32 (cw i.toNat) (ar BinOp.shl IntKind.u32 1 k)) (↑(decI (ar BinOp.xor IntKind.u32 (cw i.toNat) (ar BinOp.shl IntKind.u32 1 k))) + 1))), (.int false IntKind.i64 (decV (ar BinOp.xor IntKind.u32 (cw i.toNat) (ar BinOp.shl IntKind.u32 1 k)) (rdB (decK (ar BinOp.xor IntKind.u32 (cw i.toNat) (ar BinOp.shl IntKind.u32 1 k))) (W (ar BinOp.xor IntKind.u32 (cw i.toNat) (ar BinOp.shl IntKind.u32 1 k)))))), (.int false IntKind.i64 (decV (ar BinOp.xor IntKind.u32 (cw i.toNat) (ar BinOp.shl IntKind.u32 1 k)) (r1B (decK (ar BinOp.xor IntKind.u32 (cw i.toNat) (ar BinOp.shl IntKind.u32 1 k))) (W (ar BinOp.xor IntKind.u32 (cw i.toNat) (ar BinOp.shl IntKind.u32 1 k)))))), (.int false IntKind.i64 (decV (ar BinOp.xor IntKind.u32 (cw i.toNat) (ar BinOp.shl IntKind.u32 1 k)) (r2B (decK (ar BinOp.xor IntKind.u32 (cw i.toNat) (ar BinOp.shl IntKind.u32 1 k))) (W (ar BinOp.xor IntKind.u32 (cw i.toNat) (ar BinOp.shl IntKind.u32 1 k)))))), (.int false IntKind.i64 (decV (ar BinOp.xor IntKind.u32 (cw i.toNat) (ar BinOp.shl IntKind.u32 1 k)) (numB (decK (ar BinOp.xor IntKind.u32 (cw i.toNat) (ar BinOp.shl IntKind.u32 1 k))) (W (ar BinOp.xor IntKind.u32 (cw i.toNat) (ar BinOp.shl IntKind.u32 1 k))))))])]
                              else
                                .norm 83 [(.ptr 1024 0 0), (.int false IntKind.i64 (i)), (.int false IntKind.i64 (ar BinOp.add IntKind.i64 k 1))] [(0, .tab (nL) [.ints IntKind.i64 (c0), .ints IntKind.i64 (c1), .ints IntKind.i64 (c2), .ints IntKind.i64 (c3), .ints IntKind.i64 (c4)] false), (1, .tab (nW) [.ints IntKind.u32 (cw)] false), (1024, .cells [(.sl 0 (nL)), (.sl 1 (nW))]), (2368, .cells [(.int false IntKind.i64 (decV (ar BinOp.xor IntKind.u32 (cw i.toNat) (ar BinOp.shl IntKind.u32 1 k)) (↑(decI (ar BinOp.xor IntKind.u32 (cw i.toNat) (ar BinOp.shl IntKind.u32 1 k))) + 1))), (.int false IntKind.i64 (decV (ar BinOp.xor IntKind.u32 (cw i.toNat) (ar BinOp.shl IntKind.u32 1 k)) (rdB (decK (ar BinOp.xor IntKind.u32 (cw i.toNat) (ar BinOp.shl IntKind.u32 1 k))) (W (ar BinOp.xor IntKind.u32 (cw i.toNat) (ar BinOp.shl IntKind.u32 1 k)))))), (.int false IntKind.i64 (decV (ar BinOp.xor IntKind.u32 (cw i.toNat) (ar BinOp.shl IntKind.u32 1 k)) (r1B (decK (ar BinOp.xor IntKind.u32 (cw i.toNat) (ar BinOp.shl IntKind.u32 1 k))) (W (ar BinOp.xor IntKind.u32 (cw i.toNat) (ar BinOp.shl IntKind.u32 1 k)))))), (.int false IntKind.i64 (decV (ar BinOp.xor IntKind.u32 (cw i.toNat) (ar BinOp.shl IntKind.u32 1 k)) (r2B (decK (ar BinOp.xor IntKind.u32 (cw i.toNat) (ar BinOp.shl IntKind.u32 1 k))) (W (ar BinOp.xor IntKind.u32 (cw i.toNat) (ar BinOp.shl IntKind.u32 1 k)))))), (.int false IntKind.i64 (decV (ar BinOp.xor IntKind.u32 (cw i.toNat) (ar BinOp.shl IntKind.u32 1 k)) (numB (decK (ar BinOp.xor IntKind.u32 (cw i.toNat) (ar BinOp.shl IntKind.u32 1 k))) (W (ar BinOp.xor IntKind.u32 (cw i.toNat) (ar BinOp.shl IntKind.u32 1 k))))))]), (2496, .cells [(.int false IntKind.i64 (decV (ar BinOp.xor IntKind.u32 (cw i.toNat) (ar BinOp.shl IntKind.u32 1 k)) (↑(decI (ar BinOp.xor IntKind.u32 (cw i.toNat) (ar BinOp.shl IntKind.u32 1 k))) + 1))), (.int false IntKind.i64 (decV (ar BinOp.xor IntKind.u32 (cw i.toNat) (ar BinOp.shl IntKind.u32 1 k)) (rdB (decK (ar BinOp.xor IntKind.u32 (cw i.toNat) (ar BinOp.shl IntKind.u32 1 k))) (W (ar BinOp.xor IntKind.u32 (cw i.toNat) (ar BinOp.shl IntKind.u32 1 k)))))), (.int false IntKind.i64 (decV (ar BinOp.xor IntKind.u32 (cw i.toNat) (ar BinOp.shl IntKind.u32 1 k)) (r1B (decK (ar BinOp.xor IntKind.u32 (cw i.toNat) (ar BinOp.shl IntKind.u32 1 k))) (W (ar BinOp.xor IntKind.u32 (cw i.toNat) (ar BinOp.shl IntKind.u32 1 k)))))), (.int false IntKind.i64 (decV (ar BinOp.xor IntKind.u32 (cw i.toNat) (ar BinOp.shl IntKind.u32 1 k)) (r2B (decK (ar BinOp.xor IntKind.u32 (cw i.toNat) (ar BinOp.shl IntKind.u32 1 k))) (W (ar BinOp.xor IntKind.u32 (cw i.toNat) (ar BinOp.shl IntKind.u32 1 k)))))), (.int false IntKind.i64 (decV (ar BinOp.xor IntKind.u32 (cw i.toNat) (ar BinOp.shl IntKind.u32 1 k)) (numB (decK (ar BinOp.xor IntKind.u32 (cw i.toNat) (ar BinOp.shl IntKind.u32 1 k))) (W (ar BinOp.xor IntKind.u32 (cw i.toNat) (ar BinOp.shl IntKind.u32 1 k))))))])]
                        else .bad
                      else .bad
                    else .bad
                  else .bad
                else .bad
              else
                bif (decide (0 ≤ cw i.toNat)) then
                  bif (decide (cw i.toNat < 4294967296)) then
                    bif (decide (0 ≤ cw i.toNat)) then
                      bif (decide (cw i.toNat < 4294967296)) then
                        bif (bif !decOk (cw i.toNat) == cm BinOp.eql (bif decOk (cw i.toNat) then 0 else 11) 0 then true else bif !decOk (cw i.toNat) then bif cm BinOp.neq (bif decOk (cw i.toNat) then 0 else 11) 11 then true else !(decV (cw i.toNat) (↑(decI (cw i.toNat)) + 1) == decV (cw i.toNat) (↑(decI (cw i.toNat)) + 1) && (decV (cw i.toNat) (rdB (decK (cw i.toNat)) (W (cw i.toNat))) == decV (cw i.toNat) (rdB (decK (cw i.toNat)) (W (cw i.toNat))) && (decV (cw i.toNat) (r1B (decK (cw i.toNat)) (W (cw i.toNat))) == decV (cw i.toNat) (r1B (decK (cw i.toNat)) (W (cw i.toNat))) && (decV (cw i.toNat) (r2B (decK (cw i.toNat)) (W (cw i.toNat))) == decV (cw i.toNat) (r2B (decK (cw i.toNat)) (W (cw i.toNat))) && (decV (cw i.toNat) (numB (decK (cw i.toNat)) (W (cw i.toNat))) == decV (cw i.toNat) (numB (decK (cw i.toNat)) (W (cw i.toNat))) && true))))) else !(decV (cw i.toNat) (↑(decI (cw i.toNat)) + 1) == decV (cw i.toNat) (↑(decI (cw i.toNat)) + 1) && (decV (cw i.toNat) (rdB (decK (cw i.toNat)) (W (cw i.toNat))) == decV (cw i.toNat) (rdB (decK (cw i.toNat)) (W (cw i.toNat))) && (decV (cw i.toNat) (r1B (decK (cw i.toNat)) (W (cw i.toNat))) == decV (cw i.toNat) (r1B (decK (cw i.toNat)) (W (cw i.toNat))) && (decV (cw i.toNat) (r2B (decK (cw i.toNat)) (W (cw i.toNat))) == decV (cw i.toNat) (r2B (decK (cw i.toNat)) (W (cw i.toNat))) && (decV (cw i.toNat) (numB (decK (cw i.toNat)) (W (cw i.toNat))) == decV (cw i.toNat) (numB (decK (cw i.toNat)) (W (cw i.toNat))) && true)))))) then
                          .ret (.bool true false) [(0, .tab (nL) [.ints IntKind.i64 (c0), .ints IntKind.i64 (c1), .ints IntKind.i64 (c2), .ints IntKind.i64 (c3), .ints IntKind.i64 (c4)] false), (1, .tab (nW) [.ints IntKind.u32 (cw)] false), (1024, .cells [(.sl 0 (nL)), (.sl 1 (nW))]), (2288, .cells [(.int false IntKind.i64 (decV (cw i.toNat) (↑(decI (cw i.toNat)) + 1))), (.int false IntKind.i64 (decV (cw i.toNat) (rdB (decK (cw i.toNat)) (W (cw i.toNat))))), (.int false IntKind.i64 (decV (cw i.toNat) (r1B (decK (cw i.toNat)) (W (cw i.toNat))))), (.int false IntKind.i64 (decV (cw i.toNat) (r2B (decK (cw i.toNat)) (W (cw i.toNat))))), (.int false IntKind.i64 (decV (cw i.toNat) (numB (decK (cw i.toNat)) (W (cw i.toNat)))))]), (2416, .cells [(.int false IntKind.i64 (decV (cw i.toNat) (↑(decI (cw i.toNat)) + 1))), (.int false IntKind.i64 (decV (cw i.toNat) (rdB (decK (cw i.toNat)) (W (cw i.toNat))))), (.int false IntKind.i64 (decV (cw i.toNat) (r1B (decK (cw i.toNat)) (W (cw i.toNat))))), (.int false IntKind.i64 (decV (cw i.toNat) (r2B (decK (cw i.toNat)) (W (cw i.toNat))))), (.int false IntKind.i64 (decV (cw i.toNat) (numB (decK (cw i.toNat)) (W (cw i.toNat)))))])]
                        else
                          bif (!decOk (cw i.toNat)) then
                            .norm 83 [(.ptr 1024 0 0), (.int false IntKind.i64 (i)), (.int false IntKind.i64 (ar BinOp.add IntKind.i64 k 1))] [(0, .tab (nL) [.ints IntKind.i64 (c0), .ints IntKind.i64 (c1), .ints IntKind.i64 (c2), .ints IntKind.i64 (c3), .ints IntKind.i64 (c4)] false), (1, .tab (nW) [.ints IntKind.u32 (cw)] false), (1024, .cells [(.sl 0 (nL)), (.sl 1 (nW))]), (2288, .cells [(.int false IntKind.i64 (decV (cw i.toNat) (↑(decI (cw i.toNat)) + 1))), (.int false IntKind.i64 (decV (cw i.toNat) (rdB (decK (cw i.toNat)) (W (cw i.toNat))))), (.int false IntKind.i64 (decV (cw i.toNat) (r1B (decK (cw i.toNat)) (W (cw i.toNat))))), (.int false IntKind.i64 (decV (cw i.toNat) (r2B (decK (cw i.toNat)) (W (cw i.toNat))))), (.int false IntKind.i64 (decV (cw i.toNat) (numB (decK (cw i.toNat)) (W (cw i.toNat)))))]), (2416, .cells [(.int false IntKind.i64 (decV (cw i.toNat) (↑(decI (cw i.toNat)) + 1))), (.int false IntKind.i64 (decV (cw i.toNat) (rdB (decK (cw i.toNat)) (W (cw i.toNat))))), (.int false IntKind.i64 (decV (cw i.toNat) (r1B (decK (cw i.toNat)) (W (cw i.toNat))))), (.int false IntKind.i64 (decV (cw i.toNat) (r2B (decK (cw i.toNat)) (W (cw i.toNat))))), (.int false IntKind.i64 (decV (cw i.toNat) (numB (decK (cw i.toNat)) (W (cw i.toNat)))))])]
                          else
                            bif (bif cm BinOp.neq (errL (decV (cw i.toNat) (↑(decI (cw i.toNat)) + 1)) (decV (cw i.toNat) (rdB (decK (cw i.toNat)) (W (cw i.toNat)))) (decV (cw i.toNat) (r1B (decK (cw i.toNat)) (W (cw i.toNat)))) (decV (cw i.toNat) (r2B (decK (cw i.toNat)) (W (cw i.toNat)))) (decV (cw i.toNat) (numB (decK (cw i.toNat)) (W (cw i.toNat))))) 0 then true else cm BinOp.neq (wordL (decV (cw i.toNat) (↑(decI (cw i.toNat)) + 1)) (decV (cw i.toNat) (rdB (decK (cw i.toNat)) (W (cw i.toNat)))) (decV (cw i.toNat) (r1B (decK (cw i.toNat)) (W (cw i.toNat)))) (decV (cw i.toNat) (r2B (decK (cw i.toNat)) (W (cw i.toNat)))) (decV (cw i.toNat) (numB (decK (cw i.toNat)) (W (cw i.toNat))))) (cw i.toNat)) then
                              .ret (.bool true false) [(0, .tab (nL) [.ints IntKind.i64 (c0), .ints IntKind.i64 (c1), .ints IntKind.i64 (c2), .ints IntKind.i64 (c3), .ints IntKind.i64 (c4)] false), (1, .tab (nW) [.ints IntKind.u32 (cw)] false), (1024, .cells [(.sl 0 (nL)), (.sl 1 (nW))]), (2288, .cells [(.int false IntKind.i64 (decV (cw i.toNat) (↑(decI (cw i.toNat)) + 1))), (.int false IntKind.i64 (decV (cw i.toNat) (rdB (decK (cw i.toNat)) (W (cw i.toNat))))), (.int false IntKind.i64 (decV (cw i.toNat) (r1B (decK (cw i.toNat)) (W (cw i.toNat))))), (.int false IntKind.i64 (decV (cw i.toNat) (r2B (decK (cw i.toNat)) (W (cw i.toNat))))), (.int false IntKind.i64 (decV (cw i.toNat) (numB (decK (cw i.toNat)) (W (cw i.toNat)))))]), (2416, .cells [(.int false IntKind.i64 (decV (cw i.toNat) (↑(decI (cw i.toNat)) + 1))), (.int false IntKind.i64 (decV (cw i.toNat) (rdB (decK (cw i.toNat)) (W (cw i.toNat))))), (.int false IntKind.i64 (decV (cw i.toNat) (r1B (decK (cw i.toNat)) (W (cw i.toNat))))), (.int false IntKind.i64 (decV (cw i.toNat) (r2B (decK (cw i.toNat)) (W (cw i.toNat))))), (.int false IntKind.i64 (decV (cw i.toNat) (numB (decK (cw i.toNat)) (W (cw i.toNat)))))])]
                            else
                              .norm 83 [(.ptr 1024 0 0), (.int false IntKind.i64 (i)), (.int false IntKind.i64 (ar BinOp.add IntKind.i64 k 1))] [(0, .tab (nL) [.ints IntKind.i64 (c0), .ints IntKind.i64 (c1), .ints IntKind.i64 (c2), .ints IntKind.i64 (c3), .ints IntKind.i64 (c4)] false), (1, .tab (nW) [.ints IntKind.u32 (cw)] false), (1024, .cells [(.sl 0 (nL)), (.sl 1 (nW))]), (2288, .cells [(.int false IntKind.i64 (decV (cw i.toNat) (↑(decI (cw i.toNat)) + 1))), (.int false IntKind.i64 (decV (cw i.toNat) (rdB (decK (cw i.toNat)) (W (cw i.toNat))))), (.int false IntKind.i64 (decV (cw i.toNat) (r1B (decK (cw i.toNat)) (W (cw i.toNat))))), (.int false IntKind.i64 (decV (cw i.toNat) (r2B (decK (cw i.toNat)) (W (cw i.toNat))))), (.int false IntKind.i64 (decV (cw i.toNat) (numB (decK (cw i.toNat)) (W (cw i.toNat)))))]), (2416, .cells [(.int false IntKind.i64 (decV (cw i.toNat) (↑(decI (cw i.toNat)) + 1))), (.int false IntKind.i64 (decV (cw i.toNat) (rdB (decK (cw i.toNat)) (W (cw i.toNat))))), (.int false IntKind.i64 (decV (cw i.toNat) (r1B (decK (cw i.toNat)) (W (cw i.toNat))))), (.int false IntKind.i64 (decV (cw i.toNat) (r2B (decK (cw i.toNat)) (W (cw i.toNat))))), (.int false IntKind.i64 (decV (cw i.toNat) (numB (decK (cw i.toNat)) (W (cw i.toNat)))))])]
                      else .bad
                    else .bad
                  else .bad
                else .bad
            else .bad
          else .bad
        else .bad
      else .bad
    else
      .exit 2 83 [(.ptr 1024 0 0), (.int false IntKind.i64 (i)), (.int false IntKind.i64 (k))] [(0, .tab (nL) [.ints IntKind.i64 (c0), .ints IntKind.i64 (c1), .ints IntKind.i64 (c2), .ints IntKind.i64 (c3), .ints IntKind.i64 (c4)] false), (1, .tab (nW) [.ints IntKind.u32 (cw)] false), (1024, .cells [(.sl 0 (nL)), (.sl 1 (nW))])]) := by kernel_rfl

theorem r4 (i : Int) (nL : Nat) (nW : Nat) (c0 : Nat → Int) (c1 : Nat → Int) (c2 : Nat → Int) (c3 : Nat → Int) (c4 : Nat → Int) (cw : Nat → Int) : (evalB E4i Try.prog Try.f4.results.toList (loopOf Try.f4 0) 1 lp4 (v4 i) (h3 nL nW c0 c1 c2 c3 c4 cw)).view [1, 3] =
    (bif (bif cm BinOp.lss i ↑nW then cm BinOp.lss i 8 else false) then
      bif (nL.beq nL) then
        bif (nW.beq nW) then
          bif (decide (0 ≤ i)) then
            bif (i.toNat.blt nW) then
              bif (decide (0 ≤ cw i.toNat)) then
                bif (decide (cw i.toNat < 4294967296)) then
                  .norm 83 [(.ptr 1024 0 0), (.int false IntKind.i64 (ar BinOp.add IntKind.i64 i 1))] [(0, .tab (nL) [.ints IntKind.i64 (c0), .ints IntKind.i64 (c1), .ints IntKind.i64 (c2), .ints IntKind.i64 (c3), .ints IntKind.i64 (c4)] false), (1, .tab (nW) [.ints IntKind.u32 (cw)] false), (1024, .cells [(.sl 0 (nL)), (.sl 1 (nW))])]
                else .bad
              else .bad
            else .bad
          else .bad
        else .bad
      else .bad
    else
      .exit 0 83 [(.ptr 1024 0 0), (.int false IntKind.i64 (i))] [(0, .tab (nL) [.ints IntKind.i64 (c0), .ints IntKind.i64 (c1), .ints IntKind.i64 (c2), .ints IntKind.i64 (c3), .ints IntKind.i64 (c4)] false), (1, .tab (nW) [.ints IntKind.u32 (cw)] false), (1024, .cells [(.sl 0 (nL)), (.sl 1 (nW))])]) := by kernel_rfl

end Go.Rv
end

section
set_option linter.unusedVariables false
open Go Go.Ev Go.Proofs
namespace Go.Rv

structure X4i where
  q : Nat
  i : Nat
  nL : Nat
  nW : Nat
  c0 : Nat → Int
  c1 : Nat → Int
  c2 : Nat → Int
  c3 : Nat → Int
  c4 : Nat → Int
  cw : Nat → Int
def ok4i (x : X4i) : Prop := x.q ≤ 33 ∧ x.i < x.nW ∧ 0 ≤ x.cw x.i ∧ x.cw x.i < 4294967296
def vs4i (x : X4i) : List SV := v4i x.i ((x.q : Int) - 1)
def hp4i (x : X4i) : Heap := h3 x.nL x.nW x.c0 x.c1 x.c2 x.c3 x.c4 x.cw
def out4i (x : X4i) : Vw := .exit 2 83 [.ptr 1024 0 0, .int false .i64 x.i, .any] (hp4i x)

theorem entry4i (l : List SV) (H : Heap) (T : Tr) (h : lp4i.get l H = some T) (hb : T.leaf ≠ .bad) : ∃ x r, ok4i x ∧ WkV r lp4i.nm l H (vs4i x) (hp4i x) ∧ T.leaf = toLf lp4i (out4i x) := by
  replace h : get4i l H = some T := h
  unfold get4i at h
  split at h
  · rename_i k1 r1 p1 _ i _ k j0 nL c0 c1 c2 c3 c4 j1 nW cw j2 s0 m0 s1 m1
    simp only [Option.some.injEq] at h
    subst h
    obtain ⟨hn, he⟩ := needs_ne hb
    rw [he]
    simp only [allB, Bool.and_eq_true, Bool.and_true, decide_eq_true_eq, Nat.beq_eq, Nat.blt_eq] at hn
    obtain ⟨rfl, rfl, rfl, rfl, rfl, rfl, rfl, rfl, rfl, rfl, rfl, hi, hi2, hw0, hw1⟩ := hn
    obtain ⟨i, rfl⟩ : ∃ j : Nat, i = j := ⟨i.toNat, by omega⟩
    simp only [Int.toNat_natCast] at hi2 hw0 hw1
    refine ⟨⟨0, i, m0, m1, c0, c1, c2, c3, c4, cw⟩, [], ⟨Nat.zero_le _, hi2, hw0, hw1⟩, ?_, ?_⟩
    · simp [WkV, vs4i, hp4i, v4i, h3, wkF, wkS, sim, simL, wkH, wkB, wkCs, wkC, rmap, rlook, Ev.look, oldsOf, uniqN, mem, SV.al, SV.alL, Ev.hal, Blk.al, lt, rok, lp4i, lk4i]
    · simp only [exitT_leaf, out4i, hp4i]
      rfl
  · cases h

theorem xor_range (a b : Int) : 0 ≤ ar .xor .u32 a b ∧ ar .xor .u32 a b < 4294967296 := by
  rw [U32.xor]
  have h := (BitVec.ofInt 32 a ^^^ BitVec.ofInt 32 b).isLt
  have e : iv .u32 (BitVec.ofInt 32 a ^^^ BitVec.ofInt 32 b) = ((BitVec.ofInt 32 a ^^^ BitVec.ofInt 32 b).toNat : Int) := rfl
  rw [e]
  omega

attribute [local irreducible] evalB Tr.view in
theorem round4i (x : X4i) (hx : ok4i x) : Round lp4i ok4i (fun x => 33 - x.q) vs4i hp4i out4i x ((evalB EL Try.prog Try.f4.results.toList (loopOf Try.f4 1) (1 + 1) lp4i (vs4i x) (hp4i x)).view lp4i.ks) := by
  obtain ⟨q, i, nL, nW, c0, c1, c2, c3, c4, cw⟩ := x
  obtain ⟨hq, hi, hw0, hw1⟩ := hx
  simp only at hq hi hw0 hw1
  have hr := r4i i ((q : Int) - 1) nL nW c0 c1 c2 c3 c4 cw
  rw [show evalB EL Try.prog Try.f4.results.toList (loopOf Try.f4 1) (1 + 1) lp4i (vs4i ⟨q, i, nL, nW, c0, c1, c2, c3, c4, cw⟩) (hp4i ⟨q, i, nL, nW, c0, c1, c2, c3, c4, cw⟩) = evalB EL Try.prog Try.f4.results.toList (loopOf Try.f4 1) 2 lp4i (v4i i ((q : Int) - 1)) (h3 nL nW c0 c1 c2 c3 c4 cw) from rfl, show lp4i.ks = [1, 3, 4] from rfl, hr]
  have hnext : q < 33 → ∀ H2, Round lp4i ok4i (fun x => 33 - x.q) vs4i hp4i out4i ⟨q, i, nL, nW, c0, c1, c2, c3, c4, cw⟩ (.norm 83 [.ptr 1024 0 0, .int false .i64 i, .int false .i64 (ar .add .i64 ((q : Int) - 1) 1)] ((0, .tab nL [.ints .i64 c0, .ints .i64 c1, .ints .i64 c2, .ints .i64 c3, .ints .i64 c4] false) :: (1, .tab nW [.ints .u32 cw] false) :: (1024, .cells [.sl 0 nL, .sl 1 nW]) :: H2)) := by
    intro h H2
    refine ⟨rfl, ⟨q + 1, i, nL, nW, c0, c1, c2, c3, c4, cw⟩, [], ⟨h, hi, hw0, hw1⟩, by show 33 - (q + 1) < 33 - q; omega, rfl, ?_⟩
    have e : ar .add .i64 ((q : Int) - 1) 1 = ((q + 1 : Nat) : Int) - 1 := by simp only [ar, IntKind.wrap_i64]; omega
    rw [e]
    simp [WkV, vs4i, hp4i, v4i, h3, wkF, wkS, sim, simL, wkH, wkB, wkCs, wkC, rmap, rlook, Ev.look, oldsOf, uniqN, mem, SV.al, SV.alL, Ev.hal, Blk.al, lt, rok, lp4i, lk4i]
  by_cases h : q < 33
  · have e1 : cm .lss ((q : Int) - 1) 32 = true := decide_eq_true (by omega)
    have e3 : decide (0 ≤ (i : Int)) = true := decide_eq_true (by omega)
    have e4 : decide ((i : Int) < (nW : Int)) = true := decide_eq_true (by omega)
    have e5 : Nat.blt i nW = true := by rw [Nat.blt_eq]; exact hi
    have e6 : decide (0 ≤ cw i) = true := decide_eq_true hw0
    have e7 : decide (cw i < 4294967296) = true := decide_eq_true hw1
    have e8 : ∀ a b, decide (0 ≤ ar .xor .u32 a b) = true := fun a b => decide_eq_true (xor_range a b).1
    have e9 : ∀ a b, decide (ar .xor .u32 a b < 4294967296) = true := fun a b => decide_eq_true (xor_range a b).2
    simp only [e1, e3, e4, e5, e6, e7, e8, e9, cond_true, Int.toNat_natCast]
    refine Round_cond (fun hg => ?_) (fun hg => ?_)
    · have hk : decide (0 ≤ (q : Int) - 1) = true := hg
      simp only [hk, cond_true]
      generalize ar .xor .u32 (cw i) (ar .shl .u32 1 ((q : Int) - 1)) = y
      cases hd : decOk y with
      | false =>
        simp only [hd, decV, cm, cond_true, cond_false, Bool.not_false, Bool.not_true, BEq.rfl, Bool.and_self, bne_self_eq_false, beq_self_eq_true]
        exact hnext h _
      | true =>
        obtain ⟨g1, g2⟩ := enc_dec hd
        simp only [hd, decV, cm, g1, g2, cond_true, cond_false, Bool.not_false, Bool.not_true, BEq.rfl, Bool.and_self, bne_self_eq_false, beq_self_eq_true]
        exact hnext h _
    · generalize cw i = y at *
      cases hd : decOk y with
      | false =>
        simp only [hd, decV, cm, cond_true, cond_false, Bool.not_false, Bool.not_true, BEq.rfl, Bool.and_self, bne_self_eq_false, beq_self_eq_true]
        exact hnext h _
      | true =>
        obtain ⟨g1, g2⟩ := enc_dec hd
        simp only [hd, decV, cm, g1, g2, cond_true, cond_false, Bool.not_false, Bool.not_true, BEq.rfl, Bool.and_self, bne_self_eq_false, beq_self_eq_true]
        exact hnext h _
  · obtain rfl : q = 33 := by omega
    have e1 : cm .lss (((33 : Nat) : Int) - 1) 32 = false := rfl
    simp only [e1, cond_false]
    refine ⟨rfl, _, _, [], rfl, ?_⟩
    simp [WkV, hp4i, h3, wkF, wkS, sim, simL, wkH, wkB, wkCs, wkC, rmap, rlook, Ev.look, oldsOf, uniqN, mem, SV.al, SV.alL, Ev.hal, Blk.al, lt, rok, lp4i, lk4i]

end Go.Rv
end

section
set_option linter.unusedVariables false
open Go Go.Ev Go.Proofs
namespace Go.Rv

theorem e4i_calls : CallsOk E4i Try.prog := fun f args H nm r h hn => el_calls f args H nm r h hn
attribute [local irreducible] evalB Tr.view in
theorem loop4i {E : Env} (hE : ∀ S, E.loop 1 S = runLp lp4i S) : LoopOk E Try.prog Try.f4 1 (loopOf Try.f4 1) :=
  loop_okE mixed hE (by decide) ok4i (fun x => 33 - x.q) vs4i hp4i out4i entry4i fun x hx => ⟨EL, el_calls, loops_noLoop el_loop _ _, round4i x hx⟩
theorem nl4i : Code.loops (loopOf Try.f4 0) = 1 := by kernel_rfl
theorem nth4i : nthLoop (loopOf Try.f4 0) 0 = some (loopOf Try.f4 1) := by kernel_rfl
theorem inner4 : LoopsOk E4i Try.prog Try.f4 (loopOf Try.f4 0) 1 := loopsOk_of _ 1 fun m a hm ha => by
  rw [nl4i] at hm
  obtain rfl : m = 0 := by omega
  rw [nth4i] at ha
  simp only [Option.some.injEq] at ha
  subst ha
  exact loop4i fun S => rfl

structure X4 where
  i : Nat
  nL : Nat
  nW : Nat
  c0 : Nat → Int
  c1 : Nat → Int
  c2 : Nat → Int
  c3 : Nat → Int
  c4 : Nat → Int
  cw : Nat → Int
def ok4 (x : X4) : Prop := x.i ≤ 8 ∧ ∀ j, j < x.nW → j < 8 → 0 ≤ x.cw j ∧ x.cw j < 4294967296
def vs4 (x : X4) : List SV := v4 x.i
def hp4 (x : X4) : Heap := h3 x.nL x.nW x.c0 x.c1 x.c2 x.c3 x.c4 x.cw
def out4 (x : X4) : Vw := .exit 0 83 [.ptr 1024 0 0, .any] (hp4 x)

theorem entry4 (l : List SV) (H : Heap) (T : Tr) (h : lp4.get l H = some T) (hb : T.leaf ≠ .bad) : ∃ x r, ok4 x ∧ WkV r lp4.nm l H (vs4 x) (hp4 x) ∧ T.leaf = toLf lp4 (out4 x) := by
  replace h : get4 l H = some T := h
  unfold get4 at h
  split at h
  · rename_i k1 r1 p1 _ a3 j0 nL c0 c1 c2 c3 c4 j1 nW cw j2 s0 m0 s1 m1
    simp only [Option.some.injEq] at h
    subst h
    obtain ⟨hn, he⟩ := needs_ne hb
    rw [he]
    simp only [allB, Bool.and_eq_true, Bool.and_true, decide_eq_true_eq, Nat.beq_eq, List.all_eq_true, List.mem_range] at hn
    obtain ⟨rfl, rfl, rfl, rfl, rfl, rfl, rfl, rfl, rfl, rfl, rfl, hw⟩ := hn
    refine ⟨⟨0, m0, m1, c0, c1, c2, c3, c4, cw⟩, [], ⟨Nat.zero_le _, fun j h1 h2 => hw j (by simp only [] at h1; omega)⟩, ?_, ?_⟩
    · simp [WkV, vs4, hp4, v4, h3, wkF, wkS, sim, simL, wkH, wkB, wkCs, wkC, rmap, rlook, Ev.look, oldsOf, uniqN, mem, SV.al, SV.alL, Ev.hal, Blk.al, lt, rok, lp4, lk4]
    · simp only [exitT_leaf, out4, hp4]
      rfl
  · cases h

attribute [local irreducible] evalB Tr.view in
theorem round4 (x : X4) (hx : ok4 x) : Round lp4 ok4 (fun x => 8 - x.i) vs4 hp4 out4 x ((evalB E4i Try.prog Try.f4.results.toList (loopOf Try.f4 0) (0 + 1) lp4 (vs4 x) (hp4 x)).view lp4.ks) := by
  obtain ⟨i, nL, nW, c0, c1, c2, c3, c4, cw⟩ := x
  obtain ⟨hx, hw⟩ := hx
  simp only at hx hw
  have hr := r4 i nL nW c0 c1 c2 c3 c4 cw
  rw [show evalB E4i Try.prog Try.f4.results.toList (loopOf Try.f4 0) (0 + 1) lp4 (vs4 ⟨i, nL, nW, c0, c1, c2, c3, c4, cw⟩) (hp4 ⟨i, nL, nW, c0, c1, c2, c3, c4, cw⟩) = evalB E4i Try.prog Try.f4.results.toList (loopOf Try.f4 0) 1 lp4 (v4 i) (h3 nL nW c0 c1 c2 c3 c4 cw) from rfl, show lp4.ks = [1, 3] from rfl, hr]
  by_cases h : i < nW ∧ i < 8
  · obtain ⟨h1, h2⟩ := h
    obtain ⟨hw0, hw1⟩ := hw i h1 h2
    have e1 : cm .lss (i : Int) nW = true := decide_eq_true (by omega)
    have e2 : cm .lss (i : Int) 8 = true := decide_eq_true (by omega)
    have e3 : decide (0 ≤ (i : Int)) = true := decide_eq_true (by omega)
    have e5 : Nat.blt i nW = true := by rw [Nat.blt_eq]; exact h1
    have e6 : decide (0 ≤ cw i) = true := decide_eq_true hw0
    have e7 : decide (cw i < 4294967296) = true := decide_eq_true hw1
    simp only [e1, e2, e3, e5, e6, e7, cond_true, Int.toNat_natCast, Nat.beq_refl]
    refine ⟨rfl, ⟨i + 1, nL, nW, c0, c1, c2, c3, c4, cw⟩, [], ⟨h2, hw⟩, by show 8 - (i + 1) < 8 - i; omega, rfl, ?_⟩
    rw [addOne (show i < 9223372036854775807 by omega)]
    simp [WkV, vs4, hp4, v4, h3, wkF, wkS, sim, simL, wkH, wkB, wkCs, wkC, rmap, rlook, Ev.look, oldsOf, uniqN, mem, SV.al, SV.alL, Ev.hal, Blk.al, lt, rok, lp4, lk4]
  · have e1 : (bif cm .lss (i : Int) nW then cm .lss (i : Int) 8 else false) = false := by
      rw [cm_lss', cm_lss']
      by_cases h1 : i < nW
      · have : ¬ (i : Int) < 8 := by omega
        simp [this]
      · have : ¬ (i : Int) < nW := by omega
        simp [this]
    simp only [e1, cond_false]
    refine ⟨rfl, _, _, [], rfl, ?_⟩
    simp [WkV, hp4, h3, wkF, wkS, sim, simL, wkH, wkB, wkCs, wkC, rmap, rlook, Ev.look, oldsOf, uniqN, mem, SV.al, SV.alL, Ev.hal, Blk.al, lt, rok, lp4, lk4]

noncomputable def E4L : Env := ⟨EL.call, loopEnv [(0, lp4), (1, lp4i)]⟩
theorem e4l_calls : CallsOk E4L Try.prog := fun f args H nm r h hn => el_calls f args H nm r h hn
attribute [local irreducible] evalB Tr.view in
theorem loop4 : LoopOk E4L Try.prog Try.f4 0 (loopOf Try.f4 0) :=
  loop_okE mixed (fun S => rfl) (by decide) ok4 (fun x => 8 - x.i) vs4 hp4 out4 entry4 fun x hx => ⟨E4i, e4i_calls, inner4, round4 x hx⟩
theorem fn4 : Try.prog.funcs[4]? = some Try.f4 := by kernel_rfl
theorem b4 : Try.f4.body = some (bodyOf Try.f4) := by kernel_rfl
theorem nl4 : Code.loops (bodyOf Try.f4) = 2 := by kernel_rfl
theorem nth4 : nthLoop (bodyOf Try.f4) 0 = some (loopOf Try.f4 0) := by kernel_rfl
theorem nth4b : nthLoop (bodyOf Try.f4) 1 = some (loopOf Try.f4 1) := by kernel_rfl
theorem loops4 : LoopsOk E4L Try.prog Try.f4 (bodyOf Try.f4) 0 := loops2 nl4
  (fun a ha => by rw [nth4] at ha; simp only [Option.some.injEq] at ha; subst ha; exact loop4)
  (fun a ha => by rw [nth4b] at ha; simp only [Option.some.injEq] at ha; subst ha; exact loop4i fun S => rfl)
theorem t4 (nL nW : Nat) (c0 c1 c2 c3 c4 cw : Nat → Int) : ((evalF E4L Try.prog 4 [.agg [.sl 0 nL, .sl 1 nW]] (hL nL nW c0 c1 c2 c3 c4 cw) 1024).bare) =
    (bif Nat.beq nL nL then bif Nat.beq nW nW then bif (List.range (min nW 8)).all fun j => decide (0 ≤ cw j) && decide (cw j < 4294967296) then .ret (.bool false true) [] else .bad else .bad else .bad) := by kernel_rfl

end Go.Rv
end
