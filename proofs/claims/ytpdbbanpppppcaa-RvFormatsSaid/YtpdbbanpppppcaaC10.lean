/-
  rv: rounds of the law RvFormats. Laid by the tool '#leafw'.
-/
import Derived.Test.YtpdbbanpppppcaaC9
set_option linter.unusedSimpArgs false
set_option linter.unusedVariables false
section
set_option linter.unusedVariables false
open Go Go.Ev Go.Proofs
namespace Go.Rv

def h5 (nL nW : Nat) (c0 c1 c2 c3 c4 cw cn : Nat → Int) : Heap := [(0, .tab nL [.ints .i64 c0, .ints .i64 c1, .ints .i64 c2, .ints .i64 c3, .ints .i64 c4] false), (1, .tab nW [.ints .u32 cw] false), (1024, .cells [.sl 0 nL, .sl 1 nW]), (1056, .tab 22 [.ints .i64 cn] true)]
def v5c (op k t : Int) : List SV := [.ptr 1024 0 0, .sl 1056 22, .int false .i64 op, .int false .i64 k, .int false .i64 t]
def lk5c : Lp := ⟨86, [1, 3, 4, 5, 6], 2048, fun _ _ => none⟩
def get5c : List SV → Heap → Option Tr
  | [.ptr k1 r1 p1, .sl s3 m3, .int _ .i64 op, .int _ .i64 k, .int _ .i64 t], [(j0, .tab nL [.ints .i64 c0, .ints .i64 c1, .ints .i64 c2, .ints .i64 c3, .ints .i64 c4] false), (j1, .tab nW [.ints .u32 cw] false), (j2, .cells [.sl s0 m0, .sl s1 m1]), (j3, .tab n3 [.ints .i64 cn] true)] =>
    some (Tr.needs [Nat.beq k1 1024, Nat.beq r1 0, Nat.beq p1 0, Nat.beq s3 1056, Nat.beq m3 22, Nat.beq j0 0, Nat.beq j1 1, Nat.beq j2 1024, Nat.beq s0 0, Nat.beq m0 nL, Nat.beq s1 1, Nat.beq m1 nW, Nat.beq j3 1056, Nat.beq n3 22, decide (t = 0), decide (0 ≤ k), decide (k < 22)] (exitT lk5c 4 [.ptr 1024 0 0, .sl 1056 22, .int false .i64 op, .int false .i64 k, .any] (h5 nL nW c0 c1 c2 c3 c4 cw cn)))
  | _, _ => none
def lp5c : Lp := { lk5c with get := get5c }
noncomputable def E5c : Env := ⟨EL.call, loopEnv [(2, lp5c)]⟩
def v5b (op k : Int) : List SV := [.ptr 1024 0 0, .sl 1056 22, .int false .i64 op, .int false .i64 k]
def lk5b : Lp := ⟨86, [1, 3, 4, 5], 2048, fun _ _ => none⟩
def get5b : List SV → Heap → Option Tr
  | [.ptr k1 r1 p1, .sl s3 m3, .int _ .i64 op, .int _ .i64 k], [(j0, .tab nL [.ints .i64 c0, .ints .i64 c1, .ints .i64 c2, .ints .i64 c3, .ints .i64 c4] false), (j1, .tab nW [.ints .u32 cw] false), (j2, .cells [.sl s0 m0, .sl s1 m1]), (j3, .tab n3 [.ints .i64 cn] true)] =>
    some (Tr.needs [Nat.beq k1 1024, Nat.beq r1 0, Nat.beq p1 0, Nat.beq s3 1056, Nat.beq m3 22, Nat.beq j0 0, Nat.beq j1 1, Nat.beq j2 1024, Nat.beq s0 0, Nat.beq m0 nL, Nat.beq s1 1, Nat.beq m1 nW, Nat.beq j3 1056, Nat.beq n3 22, decide (k = 0)] (exitT lk5b 2 [.ptr 1024 0 0, .sl 1056 22, .int false .i64 op, .any] (h5 nL nW c0 c1 c2 c3 c4 cw cn)))
  | _, _ => none
def lp5b : Lp := { lk5b with get := get5b }
noncomputable def E5b : Env := ⟨EL.call, loopEnv [(1, lp5b), (2, lp5c)]⟩
def v5 (op : Int) : List SV := [.ptr 1024 0 0, .sl 1056 22, .int false .i64 op]
def lk5 : Lp := ⟨86, [1, 3, 4], 2048, fun _ _ => none⟩
def get5 : List SV → Heap → Option Tr
  | [.ptr k1 r1 p1, .sl s3 m3, .int _ .i64 op], [(j0, .tab nL [.ints .i64 c0, .ints .i64 c1, .ints .i64 c2, .ints .i64 c3, .ints .i64 c4] false), (j1, .tab nW [.ints .u32 cw] false), (j2, .cells [.sl s0 m0, .sl s1 m1]), (j3, .tab n3 [.ints .i64 cn] true)] =>
    some (Tr.needs [Nat.beq k1 1024, Nat.beq r1 0, Nat.beq p1 0, Nat.beq s3 1056, Nat.beq m3 22, Nat.beq j0 0, Nat.beq j1 1, Nat.beq j2 1024, Nat.beq s0 0, Nat.beq m0 nL, Nat.beq s1 1, Nat.beq m1 nW, Nat.beq j3 1056, Nat.beq n3 22, decide (op = 0)] (exitT lk5 0 [.ptr 1024 0 0, .any, .any] (h5 nL nW c0 c1 c2 c3 c4 cw cn)))
  | _, _ => none
def lp5 : Lp := { lk5 with get := get5 }

theorem r5c (op : Int) (k : Int) (t : Int) (nL : Nat) (nW : Nat) (c0 : Nat → Int) (c1 : Nat → Int) (c2 : Nat → Int) (c3 : Nat → Int) (c4 : Nat → Int) (cw : Nat → Int) (cn : Nat → Int) : (evalB EL Try.prog Try.f5.results.toList (loopOf Try.f5 2) 3 lp5c (v5c op k t) (h5 nL nW c0 c1 c2 c3 c4 cw cn)).view [1, 3, 4, 5, 6] =
    (bif (cm BinOp.lss t 8) then
      bif (decide (0 ≤ k)) then
        bif (decide (k < ↑22)) then
          bif (k.toNat.blt 22) then
            bif (k.toNat.blt 22) then
              bif (bif cm BinOp.neq (errL op (ar BinOp.mul IntKind.i64 31 (ar BinOp.and IntKind.i64 t 1)) (ar BinOp.mul IntKind.i64 17 (ar BinOp.and IntKind.i64 (ar BinOp.shr IntKind.i64 t 1) 1)) (ar BinOp.mul IntKind.i64 9 (ar BinOp.shr IntKind.i64 t 2)) (cn k.toNat)) (errL op (ar BinOp.mul IntKind.i64 31 (ar BinOp.and IntKind.i64 t 1)) (ar BinOp.mul IntKind.i64 17 (ar BinOp.and IntKind.i64 (ar BinOp.shr IntKind.i64 t 1) 1)) (ar BinOp.mul IntKind.i64 9 (ar BinOp.shr IntKind.i64 t 2)) (cn k.toNat)) then true else cm BinOp.neq (wordL op (ar BinOp.mul IntKind.i64 31 (ar BinOp.and IntKind.i64 t 1)) (ar BinOp.mul IntKind.i64 17 (ar BinOp.and IntKind.i64 (ar BinOp.shr IntKind.i64 t 1) 1)) (ar BinOp.mul IntKind.i64 9 (ar BinOp.shr IntKind.i64 t 2)) (cn k.toNat)) (wordL op (ar BinOp.mul IntKind.i64 31 (ar BinOp.and IntKind.i64 t 1)) (ar BinOp.mul IntKind.i64 17 (ar BinOp.and IntKind.i64 (ar BinOp.shr IntKind.i64 t 1) 1)) (ar BinOp.mul IntKind.i64 9 (ar BinOp.shr IntKind.i64 t 2)) (cn k.toNat))) then
                .ret (.bool true false) [(0, .tab (nL) [.ints IntKind.i64 (c0), .ints IntKind.i64 (c1), .ints IntKind.i64 (c2), .ints IntKind.i64 (c3), .ints IntKind.i64 (c4)] false), (1, .tab (nW) [.ints IntKind.u32 (cw)] false), (1024, .cells [(.sl 0 (nL)), (.sl 1 (nW))]), (1056, .tab 22 [.ints IntKind.i64 (cn)] true), (2336, .cells [(.int false IntKind.i64 (op)), (.int false IntKind.i64 (ar BinOp.mul IntKind.i64 31 (ar BinOp.and IntKind.i64 t 1))), (.int false IntKind.i64 (ar BinOp.mul IntKind.i64 17 (ar BinOp.and IntKind.i64 (ar BinOp.shr IntKind.i64 t 1) 1))), (.int false IntKind.i64 (ar BinOp.mul IntKind.i64 9 (ar BinOp.shr IntKind.i64 t 2))), (.int false IntKind.i64 (cn k.toNat))])]
              else
                bif (cm BinOp.neq (errL op (ar BinOp.mul IntKind.i64 31 (ar BinOp.and IntKind.i64 t 1)) (ar BinOp.mul IntKind.i64 17 (ar BinOp.and IntKind.i64 (ar BinOp.shr IntKind.i64 t 1) 1)) (ar BinOp.mul IntKind.i64 9 (ar BinOp.shr IntKind.i64 t 2)) (cn k.toNat)) 0) then
                  .norm 86 [(.ptr 1024 0 0), (.sl 1056 22), (.int false IntKind.i64 (op)), (.int false IntKind.i64 (k)), (.int false IntKind.i64 (ar BinOp.add IntKind.i64 t 1))] [(0, .tab (nL) [.ints IntKind.i64 (c0), .ints IntKind.i64 (c1), .ints IntKind.i64 (c2), .ints IntKind.i64 (c3), .ints IntKind.i64 (c4)] false), (1, .tab (nW) [.ints IntKind.u32 (cw)] false), (1024, .cells [(.sl 0 (nL)), (.sl 1 (nW))]), (1056, .tab 22 [.ints IntKind.i64 (cn)] true), (2336, .cells [(.int false IntKind.i64 (op)), (.int false IntKind.i64 (ar BinOp.mul IntKind.i64 31 (ar BinOp.and IntKind.i64 t 1))), (.int false IntKind.i64 (ar BinOp.mul IntKind.i64 17 (ar BinOp.and IntKind.i64 (ar BinOp.shr IntKind.i64 t 1) 1))), (.int false IntKind.i64 (ar BinOp.mul IntKind.i64 9 (ar BinOp.shr IntKind.i64 t 2))), (.int false IntKind.i64 (cn k.toNat))])]
                else
                  bif (decide (0 ≤ wordL op (ar BinOp.mul IntKind.i64 31 (ar BinOp.and IntKind.i64 t 1)) (ar BinOp.mul IntKind.i64 17 (ar BinOp.and IntKind.i64 (ar BinOp.shr IntKind.i64 t 1) 1)) (ar BinOp.mul IntKind.i64 9 (ar BinOp.shr IntKind.i64 t 2)) (cn k.toNat))) then
                    bif (decide (wordL op (ar BinOp.mul IntKind.i64 31 (ar BinOp.and IntKind.i64 t 1)) (ar BinOp.mul IntKind.i64 17 (ar BinOp.and IntKind.i64 (ar BinOp.shr IntKind.i64 t 1) 1)) (ar BinOp.mul IntKind.i64 9 (ar BinOp.shr IntKind.i64 t 2)) (cn k.toNat) < 4294967296)) then
                      bif (bif cm BinOp.neq (bif decOk (wordL op (ar BinOp.mul IntKind.i64 31 (ar BinOp.and IntKind.i64 t 1)) (ar BinOp.mul IntKind.i64 17 (ar BinOp.and IntKind.i64 (ar BinOp.shr IntKind.i64 t 1) 1)) (ar BinOp.mul IntKind.i64 9 (ar BinOp.shr IntKind.i64 t 2)) (cn k.toNat)) then 0 else 11) 0 then true else !(decV (wordL op (ar BinOp.mul IntKind.i64 31 (ar BinOp.and IntKind.i64 t 1)) (ar BinOp.mul IntKind.i64 17 (ar BinOp.and IntKind.i64 (ar BinOp.shr IntKind.i64 t 1) 1)) (ar BinOp.mul IntKind.i64 9 (ar BinOp.shr IntKind.i64 t 2)) (cn k.toNat)) (↑(decI (wordL op (ar BinOp.mul IntKind.i64 31 (ar BinOp.and IntKind.i64 t 1)) (ar BinOp.mul IntKind.i64 17 (ar BinOp.and IntKind.i64 (ar BinOp.shr IntKind.i64 t 1) 1)) (ar BinOp.mul IntKind.i64 9 (ar BinOp.shr IntKind.i64 t 2)) (cn k.toNat))) + 1) == op && (decV (wordL op (ar BinOp.mul IntKind.i64 31 (ar BinOp.and IntKind.i64 t 1)) (ar BinOp.mul IntKind.i64 17 (ar BinOp.and IntKind.i64 (ar BinOp.shr IntKind.i64 t 1) 1)) (ar BinOp.mul IntKind.i64 9 (ar BinOp.shr IntKind.i64 t 2)) (cn k.toNat)) (rdB (decK (wordL op (ar BinOp.mul IntKind.i64 31 (ar BinOp.and IntKind.i64 t 1)) (ar BinOp.mul IntKind.i64 17 (ar BinOp.and IntKind.i64 (ar BinOp.shr IntKind.i64 t 1) 1)) (ar BinOp.mul IntKind.i64 9 (ar BinOp.shr IntKind.i64 t 2)) (cn k.toNat))) (W (wordL op (ar BinOp.mul IntKind.i64 31 (ar BinOp.and IntKind.i64 t 1)) (ar BinOp.mul IntKind.i64 17 (ar BinOp.and IntKind.i64 (ar BinOp.shr IntKind.i64 t 1) 1)) (ar BinOp.mul IntKind.i64 9 (ar BinOp.shr IntKind.i64 t 2)) (cn k.toNat)))) == ar BinOp.mul IntKind.i64 31 (ar BinOp.and IntKind.i64 t 1) && (decV (wordL op (ar BinOp.mul IntKind.i64 31 (ar BinOp.and IntKind.i64 t 1)) (ar BinOp.mul IntKind.i64 17 (ar BinOp.and IntKind.i64 (ar BinOp.shr IntKind.i64 t 1) 1)) (ar BinOp.mul IntKind.i64 9 (ar BinOp.shr IntKind.i64 t 2)) (cn k.toNat)) (r1B (decK (wordL op (ar BinOp.mul IntKind.i64 31 (ar BinOp.and IntKind.i64 t 1)) (ar BinOp.mul IntKind.i64 17 (ar BinOp.and IntKind.i64 (ar BinOp.shr IntKind.i64 t 1) 1)) (ar BinOp.mul IntKind.i64 9 (ar BinOp.shr IntKind.i64 t 2)) (cn k.toNat))) (W (wordL op (ar BinOp.mul IntKind.i64 31 (ar BinOp.and IntKind.i64 t 1)) (ar BinOp.mul IntKind.i64 17 (ar BinOp.and IntKind.i64 (ar BinOp.shr IntKind.i64 t 1) 1)) (ar BinOp.mul IntKind.i64 9 (ar BinOp.shr IntKind.i64 t 2)) (cn k.toNat)))) == ar BinOp.mul IntKind.i64 17 (ar BinOp.and IntKind.i64 (ar BinOp.shr IntKind.i64 t 1) 1) && (decV (wordL op (ar BinOp.mul IntKind.i64 31 (ar BinOp.and IntKind.i64 t 1)) (ar BinOp.mul IntKind.i64 17 (ar BinOp.and IntKind.i64 (ar BinOp.shr IntKind.i64 t 1) 1)) (ar BinOp.mul IntKind.i64 9 (ar BinOp.shr IntKind.i64 t 2)) (cn k.toNat)) (r2B (decK (wordL op (ar BinOp.mul IntKind.i64 31 (ar BinOp.and IntKind.i64 t 1)) (ar BinOp.mul IntKind.i64 17 (ar BinOp.and IntKind.i64 (ar BinOp.shr IntKind.i64 t 1) 1)) (ar BinOp.mul IntKind.i64 9 (ar BinOp.shr IntKind.i64 t 2)) (cn k.toNat))) (W (wordL op (ar BinOp.mul IntKind.i64 31 (ar BinOp.and IntKind.i64 t 1)) (ar BinOp.mul IntKind.i64 17 (ar BinOp.and IntKind.i64 (ar BinOp.shr IntKind.i64 t 1) 1)) (ar BinOp.mul IntKind.i64 9 (ar BinOp.shr IntKind.i64 t 2)) (cn k.toNat)))) == ar BinOp.mul IntKind.i64 9 (ar BinOp.shr IntKind.i64 t 2) && (decV (wordL op (ar BinOp.mul IntKind.i64 31 (ar BinOp.and IntKind.i64 t 1)) (ar BinOp.mul IntKind.i64 17 (ar BinOp.and IntKind.i64 (ar BinOp.shr IntKind.i64 t 1) 1)) (ar BinOp.mul IntKind.i64 9 (ar BinOp.shr IntKind.i64 t 2)) (cn k.toNat)) (numB (decK (wordL op (ar BinOp.mul IntKind.i64 31 (ar BinOp.and IntKind.i64 t 1)) (ar BinOp.mul IntKind.i64 17 (ar BinOp.and IntKind.i64 (ar BinOp.shr IntKind.i64 t 1) 1)) (ar BinOp.mul IntKind.i64 9 (ar BinOp.shr IntKind.i64 t 2)) (cn k.toNat))) (W (wordL op (ar BinOp.mul IntKind.i64 31 (ar BinOp.and IntKind.i64 t 1)) (ar BinOp.mul IntKind.i64 17 (ar BinOp.and IntKind.i64 (ar BinOp.shr IntKind.i64 t 1) 1)) (ar BinOp.mul IntKind.i64 9 (ar BinOp.shr IntKind.i64 t 2)) (cn k.toNat)))) == cn k.toNat && true)))))) then
                        .ret (.bool true false) [(0, .tab (nL) [.ints IntKind.i64 (c0), .ints IntKind.i64 (c1), .ints IntKind.i64 (c2), .ints IntKind.i64 (c3), .ints IntKind.i64 (c4)] false), (1, .tab (nW) [.ints IntKind.u32 (cw)] false), (1024, .cells [(.sl 0 (nL)), (.sl 1 (nW))]), (1056, .tab 22 [.ints IntKind.i64 (cn)] true), (2336, .cells [(.int false IntKind.i64 (op)), (.int false IntKind.i64 (ar BinOp.mul IntKind.i64 31 (ar BinOp.and IntKind.i64 t 1))), (.int false IntKind.i64 (ar BinOp.mul IntKind.i64 17 (ar BinOp.and IntKind.i64 (ar BinOp.shr IntKind.i64 t 1) 1))), (.int false IntKind.i64 (ar BinOp.mul IntKind.i64 9 (ar BinOp.shr IntKind.i64 t 2))), (.int false IntKind.i64 (cn k.toNat))]), (2848, .cells [(.int false IntKind.i64 (decV (wordL op (ar BinOp.mul IntKind.i64 31 (ar BinOp.and IntKind.i64 t 1)) (ar BinOp.mul IntKind.i64 17 (ar BinOp.and IntKind.i64 (ar BinOp.shr IntKind.i64 t 1) 1)) (ar BinOp.mul IntKind.i64 9 (ar BinOp.shr IntKind.i64 t 2)) (cn k.toNat)) (↑(decI (wordL op (ar BinOp.mul IntKind.i64 31 (ar BinOp.and IntKind.i64 t 1)) (ar BinOp.mul IntKind.i64 17 (ar BinOp.and IntKind.i64 (ar BinOp.shr IntKind.i64 t 1) 1)) (ar BinOp.mul IntKind.i64 9 (ar BinOp.shr IntKind.i64 t 2)) (cn k.toNat))) + 1))), (.int false IntKind.i64 (decV (wordL op (ar BinOp.mul IntKind.i64 31 (ar BinOp.and IntKind.i64 t 1)) (ar BinOp.mul IntKind.i64 17 (ar BinOp.and IntKind.i64 (ar BinOp.shr IntKind.i64 t 1) 1)) (ar BinOp.mul IntKind.i64 9 (ar BinOp.shr IntKind.i64 t 2)) (cn k.toNat)) (rdB (decK (wordL op (ar BinOp.mul IntKind.i64 31 (ar BinOp.and IntKind.i64 t 1)) (ar BinOp.mul IntKind.i64 17 (ar BinOp.and IntKind.i64 (ar BinOp.shr IntKind.i64 t 1) 1)) (ar BinOp.mul IntKind.i64 9 (ar BinOp.shr IntKind.i64 t 2)) (cn k.toNat))) (W (wordL op (ar BinOp.mul IntKind.i64 31 (ar BinOp.and IntKind.i64 t 1)) (ar BinOp.mul IntKind.i64 17 (ar BinOp.and IntKind.i64 (ar BinOp.shr IntKind.i64 t 1) 1)) (ar BinOp.mul IntKind.i64 9 (ar BinOp.shr IntKind.i64 t 2)) (cn k.toNat)))))), (.int false IntKind.i64 (decV (wordL op (ar BinOp.mul IntKind.i64 31 (ar BinOp.and IntKind.i64 t 1)) (ar BinOp.mul IntKind.i64 17 (ar BinOp.and IntKind.i64 (ar BinOp.shr IntKind.i64 t 1) 1)) (ar BinOp.mul IntKind.i64 9 (ar BinOp.shr IntKind.i64 t 2)) (cn k.toNat)) (r1B (decK (wordL op (ar BinOp.mul IntKind.i64 31 (ar BinOp.and IntKind.i64 t 1)) (ar BinOp.mul IntKind.i64 17 (ar BinOp.and IntKind.i64 (ar BinOp.shr IntKind.i64 t 1) 1)) (ar BinOp.mul IntKind.i64 9 (ar BinOp.shr IntKind.i64 t 2)) (cn k.toNat))) (W (wordL op (ar BinOp.mul IntKind.i64 31 (ar BinOp.and IntKind.i64 t 1)) (ar BinOp.mul IntKind.i64 17 (ar BinOp.and IntKind.i64 (ar BinOp.shr IntKind.i64 t 1) 1)) (ar BinOp.mul IntKind.i64 9 (ar BinOp.shr IntKind.i64 t 2)) (cn k.toNat)))))), (.int false IntKind.i64 (decV (wordL op (ar BinOp.mul IntKind.i64 31 (ar BinOp.and IntKind.i64 t 1)) (ar BinOp.mul IntKind.i64 17 (ar BinOp.and IntKind.i64 (ar BinOp.shr IntKind.i64 t 1) 1)) (ar BinOp.mul IntKind.i64 9 (ar BinOp.shr IntKind.i64 t 2)) (cn k.toNat)) (r2B (decK (wordL op (ar BinOp.mul IntKind.i64 31 (ar BinOp.and IntKind.i64 t 1)) (ar BinOp.mul IntKind.i64 17 (ar BinOp.and IntKind.i64 (ar BinOp.shr IntKind.i64 t 1) 1)) (ar BinOp.mul IntKind.i64 9 (ar BinOp.shr IntKind.i64 t 2)) (cn k.toNat))) (W (wordL op (ar BinOp.mul IntKind.i64 31 (ar BinOp.and IntKind.i64 t 1)) (ar BinOp.mul IntKind.i64 17 (ar BinOp.and IntKind.i64 (ar BinOp.shr IntKind.i64 t 1) 1)) (ar BinOp.mul IntKind.i64 9 (ar BinOp.shr IntKind.i64 t 2)) (cn k.toNat)))))), (.int false IntKind.i64 (decV (wordL op (ar BinOp.mul IntKind.i64 31 (ar BinOp.and IntKind.i64 t 1)) (ar BinOp.mul IntKind.i64 17 (ar BinOp.and IntKind.i64 (ar BinOp.shr IntKind.i64 t 1) 1)) (ar BinOp.mul IntKind.i64 9 (ar BinOp.shr IntKind.i64 t 2)) (cn k.toNat)) (numB (decK (wordL op (ar BinOp.mul IntKind.i64 31 (ar BinOp.and IntKind.i64 t 1)) (ar BinOp.mul IntKind.i64 17 (ar BinOp.and IntKind.i64 (ar BinOp.shr IntKind.i64 t 1) 1)) (ar BinOp.mul IntKind.i64 9 (ar BinOp.shr IntKind.i64 t 2)) (cn k.toNat))) (W (wordL op (ar BinOp.mul IntKind.i64 31 (ar BinOp.and IntKind.i64 t 1)) (ar BinOp.mul IntKind.i64 17 (ar BinOp.and IntKind.i64 (ar BinOp.shr IntKind.i64 t 1) 1)) (ar BinOp.mul IntKind.i64 9 (ar BinOp.shr IntKind.i64 t 2)) (cn k.toNat))))))])]
                      else
                        .norm 86 [(.ptr 1024 0 0), (.sl 1056 22), (.int false IntKind.i64 (op)), (.int false IntKind.i64 (k)), (.int false IntKind.i64 (ar BinOp.add IntKind.i64 t 1))] [(0, .tab (nL) [.ints IntKind.i64 (c0), .ints IntKind.i64 (c1), .ints IntKind.i64 (c2), .ints IntKind.i64 (c3), .ints IntKind.i64 (c4)] false), (1, .tab (nW) [.ints IntKind.u32 (cw)] false), (1024, .cells [(.sl 0 (nL)), (.sl 1 (nW))]), (1056, .tab 22 [.ints IntKind.i64 (cn)] true), (2336, .cells [(.int false IntKind.i64 (op)), (.int false IntKind.i64 (ar BinOp.mul IntKind.i64 31 (ar BinOp.and IntKind.i64 t 1))), (.int false IntKind.i64 (ar BinOp.mul IntKind.i64 17 (ar BinOp.and IntKind.i64 (ar BinOp.shr IntKind.i64 t 1) 1))), (.int false IntKind.i64 (ar BinOp.mul IntKind.i64 9 (ar BinOp.shr IntKind.i64 t 2))), (.int false IntKind.i64 (cn k.toNat))]), (2848, .cells [(.int false IntKind.i64 (decV (wordL op (ar BinOp.mul IntKind.i64 31 (ar BinOp.and IntKind.i64 t 1)) (ar BinOp.mul IntKind.i64 17 (ar BinOp.and IntKind.i64 (ar BinOp.shr IntKind.i64 t 1) 1)) (ar BinOp.mul IntKind.i64 9 (ar BinOp.shr IntKind.i64 t 2)) (cn k.toNat)) (↑(decI (wordL op (ar BinOp.mul IntKind.i64 31 (ar BinOp.and IntKind.i64 t 1)) (ar BinOp.mul IntKind.i64 17 (ar BinOp.and IntKind.i64 (ar BinOp.shr IntKind.i64 t 1) 1)) (ar BinOp.mul IntKind.i64 9 (ar BinOp.shr IntKind.i64 t 2)) (cn k.toNat))) + 1))), (.int false IntKind.i64 (decV (wordL op (ar BinOp.mul IntKind.i64 31 (ar BinOp.and IntKind.i64 t 1)) (ar BinOp.mul IntKind.i64 17 (ar BinOp.and IntKind.i64 (ar BinOp.shr IntKind.i64 t 1) 1)) (ar BinOp.mul IntKind.i64 9 (ar BinOp.shr IntKind.i64 t 2)) (cn k.toNat)) (rdB (decK (wordL op (ar BinOp.mul IntKind.i64 31 (ar BinOp.and IntKind.i64 t 1)) (ar BinOp.mul IntKind.i64 17 (ar BinOp.and IntKind.i64 (ar BinOp.shr IntKind.i64 t 1) 1)) (ar BinOp.mul IntKind.i64 9 (ar BinOp.shr IntKind.i64 t 2)) (cn k.toNat))) (W (wordL op (ar BinOp.mul IntKind.i64 31 (ar BinOp.and IntKind.i64 t 1)) (ar BinOp.mul IntKind.i64 17 (ar BinOp.and IntKind.i64 (ar BinOp.shr IntKind.i64 t 1) 1)) (ar BinOp.mul IntKind.i64 9 (ar BinOp.shr IntKind.i64 t 2)) (cn k.toNat)))))), (.int false IntKind.i64 (decV (wordL op (ar BinOp.mul IntKind.i64 31 (ar BinOp.and IntKind.i64 t 1)) (ar BinOp.mul IntKind.i64 17 (ar BinOp.and IntKind.i64 (ar BinOp.shr IntKind.i64 t 1) 1)) (ar BinOp.mul IntKind.i64 9 (ar BinOp.shr IntKind.i64 t 2)) (cn k.toNat)) (r1B (decK (wordL op (ar BinOp.mul IntKind.i64 31 (ar BinOp.and IntKind.i64 t 1)) (ar BinOp.mul IntKind.i64 17 (ar BinOp.and IntKind.i64 (ar BinOp.shr IntKind.i64 t 1) 1)) (ar BinOp.mul IntKind.i64 9 (ar BinOp.shr IntKind.i64 t 2)) (cn k.toNat))) (W (wordL op (ar BinOp.mul IntKind.i64 31 (ar BinOp.and IntKind.i64 t 1)) (ar BinOp.mul IntKind.i64 17 (ar BinOp.and IntKind.i64 (ar BinOp.shr IntKind.i64 t 1) 1)) (ar BinOp.mul IntKind.i64 9 (ar BinOp.shr IntKind.i64 t 2)) (cn k.toNat)))))), (.int false IntKind.i64 (decV (wordL op (ar BinOp.mul IntKind.i64 31 (ar BinOp.and IntKind.i64 t 1)) (ar BinOp.mul IntKind.i64 17 (ar BinOp.and IntKind.i64 (ar BinOp.shr IntKind.i64 t 1) 1)) (ar BinOp.mul IntKind.i64 9 (ar BinOp.shr IntKind.i64 t 2)) (cn k.toNat)) (r2B (decK (wordL op (ar BinOp.mul IntKind.i64 31 (ar BinOp.and IntKind.i64 t 1)) (ar BinOp.mul IntKind.i64 17 (ar BinOp.and IntKind.i64 (ar BinOp.shr IntKind.i64 t 1) 1)) (ar BinOp.mul IntKind.i64 9 (ar BinOp.shr IntKind.i64 t 2)) (cn k.toNat))) (W (wordL op (ar BinOp.mul IntKind.i64 31 (ar BinOp.and IntKind.i64 t 1)) (ar BinOp.mul IntKind.i64 17 (ar BinOp.and IntKind.i64 (ar BinOp.shr IntKind.i64 t 1) 1)) (ar BinOp.mul IntKind.i64 9 (ar BinOp.shr IntKind.i64 t 2)) (cn k.toNat)))))), (.int false IntKind.i64 (decV (wordL op (ar BinOp.mul IntKind.i64 31 (ar BinOp.and IntKind.i64 t 1)) (ar BinOp.mul IntKind.i64 17 (ar BinOp.and IntKind.i64 (ar BinOp.shr IntKind.i64 t 1) 1)) (ar BinOp.mul IntKind.i64 9 (ar BinOp.shr IntKind.i64 t 2)) (cn k.toNat)) (numB (decK (wordL op (ar BinOp.mul IntKind.i64 31 (ar BinOp.and IntKind.i64 t 1)) (ar BinOp.mul IntKind.i64 17 (ar BinOp.and IntKind.i64 (ar BinOp.shr IntKind.i64 t 1) 1)) (ar BinOp.mul IntKind.i64 9 (ar BinOp.shr IntKind.i64 t 2)) (cn k.toNat))) (W (wordL op (ar BinOp.mul IntKind.i64 31 (ar BinOp.and IntKind.i64 t 1)) (ar BinOp.mul IntKind.i64 17 (ar BinOp.and IntKind.i64 (ar BinOp.shr IntKind.i64 t 1) 1)) (ar BinOp.mul IntKind.i64 9 (ar BinOp.shr IntKind.i64 t 2)) (cn k.toNat))))))])]
                    else .bad
                  else .bad
            else .bad
          else .bad
        else .bad
      else .bad
    else
      .exit 4 86 [(.ptr 1024 0 0), (.sl 1056 22), (.int false IntKind.i64 (op)), (.int false IntKind.i64 (k)), (.int false IntKind.i64 (t))] [(0, .tab (nL) [.ints IntKind.i64 (c0), .ints IntKind.i64 (c1), .ints IntKind.i64 (c2), .ints IntKind.i64 (c3), .ints IntKind.i64 (c4)] false), (1, .tab (nW) [.ints IntKind.u32 (cw)] false), (1024, .cells [(.sl 0 (nL)), (.sl 1 (nW))]), (1056, .tab 22 [.ints IntKind.i64 (cn)] true)]) := by kernel_rfl

theorem r5b (op : Int) (k : Int) (nL : Nat) (nW : Nat) (c0 : Nat → Int) (c1 : Nat → Int) (c2 : Nat → Int) (c3 : Nat → Int) (c4 : Nat → Int) (cw : Nat → Int) (cn : Nat → Int) : (evalB E5c Try.prog Try.f5.results.toList (loopOf Try.f5 1) 2 lp5b (v5b op k) (h5 nL nW c0 c1 c2 c3 c4 cw cn)).view [1, 3, 4, 5] =
    (bif (cm BinOp.lss k ↑22) then
      bif (nL.beq nL) then
        bif (nW.beq nW) then
          bif (decide (0 ≤ k)) then
            bif (decide (k < 22)) then
              .norm 86 [(.ptr 1024 0 0), (.sl 1056 22), (.int false IntKind.i64 (op)), (.int false IntKind.i64 (ar BinOp.add IntKind.i64 k 1))] [(0, .tab (nL) [.ints IntKind.i64 (c0), .ints IntKind.i64 (c1), .ints IntKind.i64 (c2), .ints IntKind.i64 (c3), .ints IntKind.i64 (c4)] false), (1, .tab (nW) [.ints IntKind.u32 (cw)] false), (1024, .cells [(.sl 0 (nL)), (.sl 1 (nW))]), (1056, .tab 22 [.ints IntKind.i64 (cn)] true)]
            else .bad
          else .bad
        else .bad
      else .bad
    else
      .exit 2 86 [(.ptr 1024 0 0), (.sl 1056 22), (.int false IntKind.i64 (op)), (.int false IntKind.i64 (k))] [(0, .tab (nL) [.ints IntKind.i64 (c0), .ints IntKind.i64 (c1), .ints IntKind.i64 (c2), .ints IntKind.i64 (c3), .ints IntKind.i64 (c4)] false), (1, .tab (nW) [.ints IntKind.u32 (cw)] false), (1024, .cells [(.sl 0 (nL)), (.sl 1 (nW))]), (1056, .tab 22 [.ints IntKind.i64 (cn)] true)]) := by kernel_rfl

theorem r5 (op : Int) (nL : Nat) (nW : Nat) (c0 : Nat → Int) (c1 : Nat → Int) (c2 : Nat → Int) (c3 : Nat → Int) (c4 : Nat → Int) (cw : Nat → Int) (cn : Nat → Int) : (evalB E5b Try.prog Try.f5.results.toList (loopOf Try.f5 0) 1 lp5 (v5 op) (h5 nL nW c0 c1 c2 c3 c4 cw cn)).view [1, 3, 4] =
    (bif (cm BinOp.leq op 64) then
      bif (nL.beq nL) then
        bif (nW.beq nW) then
          .norm 86 [(.ptr 1024 0 0), (.sl 1056 22), (.int false IntKind.i64 (ar BinOp.add IntKind.i64 op 1))] [(0, .tab (nL) [.ints IntKind.i64 (c0), .ints IntKind.i64 (c1), .ints IntKind.i64 (c2), .ints IntKind.i64 (c3), .ints IntKind.i64 (c4)] false), (1, .tab (nW) [.ints IntKind.u32 (cw)] false), (1024, .cells [(.sl 0 (nL)), (.sl 1 (nW))]), (1056, .tab 22 [.ints IntKind.i64 (cn)] true)]
        else .bad
      else .bad
    else
      .exit 0 86 [(.ptr 1024 0 0), (.sl 1056 22), (.int false IntKind.i64 (op))] [(0, .tab (nL) [.ints IntKind.i64 (c0), .ints IntKind.i64 (c1), .ints IntKind.i64 (c2), .ints IntKind.i64 (c3), .ints IntKind.i64 (c4)] false), (1, .tab (nW) [.ints IntKind.u32 (cw)] false), (1024, .cells [(.sl 0 (nL)), (.sl 1 (nW))]), (1056, .tab 22 [.ints IntKind.i64 (cn)] true)]) := by kernel_rfl

end Go.Rv
end

section
set_option linter.unusedVariables false
open Go Go.Ev Go.Proofs
namespace Go.Rv

structure X5c where
  t : Nat
  op : Int
  k : Nat
  nL : Nat
  nW : Nat
  c0 : Nat → Int
  c1 : Nat → Int
  c2 : Nat → Int
  c3 : Nat → Int
  c4 : Nat → Int
  cw : Nat → Int
  cn : Nat → Int
def ok5c (x : X5c) : Prop := x.t ≤ 8 ∧ x.k < 22
def vs5c (x : X5c) : List SV := v5c x.op x.k x.t
def hp5c (x : X5c) : Heap := h5 x.nL x.nW x.c0 x.c1 x.c2 x.c3 x.c4 x.cw x.cn
def out5c (x : X5c) : Vw := .exit 4 86 [.ptr 1024 0 0, .sl 1056 22, .int false .i64 x.op, .int false .i64 x.k, .any] (hp5c x)

theorem entry5c (l : List SV) (H : Heap) (T : Tr) (h : lp5c.get l H = some T) (hb : T.leaf ≠ .bad) : ∃ x r, ok5c x ∧ WkV r lp5c.nm l H (vs5c x) (hp5c x) ∧ T.leaf = toLf lp5c (out5c x) := by
  replace h : get5c l H = some T := h
  unfold get5c at h
  split at h
  · rename_i k1 r1 p1 s3 m3 _ op _ k _ t j0 nL c0 c1 c2 c3 c4 j1 nW cw j2 s0 m0 s1 m1 j3 n3 cn
    simp only [Option.some.injEq] at h
    subst h
    obtain ⟨hn, he⟩ := needs_ne hb
    rw [he]
    simp only [allB, Bool.and_eq_true, Bool.and_true, decide_eq_true_eq, Nat.beq_eq] at hn
    obtain ⟨rfl, rfl, rfl, rfl, rfl, rfl, rfl, rfl, rfl, rfl, rfl, rfl, rfl, rfl, rfl, hk0, hk1⟩ := hn
    obtain ⟨k, rfl⟩ : ∃ j : Nat, k = j := ⟨k.toNat, by omega⟩
    refine ⟨⟨0, op, k, m0, m1, c0, c1, c2, c3, c4, cw, cn⟩, [], ⟨Nat.zero_le _, by simp only []; omega⟩, ?_, ?_⟩
    · simp [WkV, vs5c, hp5c, v5c, h5, wkF, wkS, sim, simL, wkH, wkB, wkCs, wkC, rmap, rlook, Ev.look, oldsOf, uniqN, mem, SV.al, SV.alL, Ev.hal, Blk.al, lt, rok, lp5c, lk5c]
    · simp only [exitT_leaf, out5c, hp5c]
      rfl
  · cases h

attribute [local irreducible] evalB Tr.view in
theorem round5c (x : X5c) (hx : ok5c x) : Round lp5c ok5c (fun x => 8 - x.t) vs5c hp5c out5c x ((evalB EL Try.prog Try.f5.results.toList (loopOf Try.f5 2) (2 + 1) lp5c (vs5c x) (hp5c x)).view lp5c.ks) := by
  obtain ⟨t, op, k, nL, nW, c0, c1, c2, c3, c4, cw, cn⟩ := x
  obtain ⟨hx, hk⟩ := hx
  simp only at hx hk
  have hr := r5c op k t nL nW c0 c1 c2 c3 c4 cw cn
  rw [show evalB EL Try.prog Try.f5.results.toList (loopOf Try.f5 2) (2 + 1) lp5c (vs5c ⟨t, op, k, nL, nW, c0, c1, c2, c3, c4, cw, cn⟩) (hp5c ⟨t, op, k, nL, nW, c0, c1, c2, c3, c4, cw, cn⟩) = evalB EL Try.prog Try.f5.results.toList (loopOf Try.f5 2) 3 lp5c (v5c op k t) (h5 nL nW c0 c1 c2 c3 c4 cw cn) from rfl, show lp5c.ks = [1, 3, 4, 5, 6] from rfl, hr]
  by_cases h : t < 8
  · have e1 : cm .lss (t : Int) 8 = true := decide_eq_true (by omega)
    have e2 : decide (0 ≤ (k : Int)) = true := decide_eq_true (by omega)
    have e3 : decide ((k : Int) < ((22 : Nat) : Int)) = true := decide_eq_true (by omega)
    have e3' : decide ((k : Int) < 22) = true := decide_eq_true (by omega)
    have e5 : Nat.blt k 22 = true := by rw [Nat.blt_eq]; exact hk
    have e6 : ∀ op rd r1 r2 n, decide (0 ≤ wordL op rd r1 r2 n) = true := fun op rd r1 r2 n => decide_eq_true word_range.1
    have e7 : ∀ op rd r1 r2 n, decide (wordL op rd r1 r2 n < 4294967296) = true := fun op rd r1 r2 n => decide_eq_true word_range.2
    have hnext : ∀ H2, Round lp5c ok5c (fun x => 8 - x.t) vs5c hp5c out5c ⟨t, op, k, nL, nW, c0, c1, c2, c3, c4, cw, cn⟩ (.norm 86 [.ptr 1024 0 0, .sl 1056 22, .int false .i64 op, .int false .i64 k, .int false .i64 (ar .add .i64 t 1)] ((0, .tab nL [.ints .i64 c0, .ints .i64 c1, .ints .i64 c2, .ints .i64 c3, .ints .i64 c4] false) :: (1, .tab nW [.ints .u32 cw] false) :: (1024, .cells [.sl 0 nL, .sl 1 nW]) :: (1056, .tab 22 [.ints .i64 cn] true) :: H2)) := by
      intro H2
      refine ⟨rfl, ⟨t + 1, op, k, nL, nW, c0, c1, c2, c3, c4, cw, cn⟩, [], ⟨h, hk⟩, by show 8 - (t + 1) < 8 - t; omega, rfl, ?_⟩
      rw [addOne (show t < 9223372036854775807 by omega)]
      simp [WkV, vs5c, hp5c, v5c, h5, wkF, wkS, sim, simL, wkH, wkB, wkCs, wkC, rmap, rlook, Ev.look, oldsOf, uniqN, mem, SV.al, SV.alL, Ev.hal, Blk.al, lt, rok, lp5c, lk5c]
    simp only [e1, e2, e3, e3', e5, e6, e7, cond_true, cond_false, Int.toNat_natCast, cm_neq_self]
    generalize ar .mul .i64 31 (ar .and .i64 (t : Int) 1) = rd
    generalize ar .mul .i64 17 (ar .and .i64 (ar .shr .i64 (t : Int) 1) 1) = r1
    generalize ar .mul .i64 9 (ar .shr .i64 (t : Int) 2) = r2
    refine Round_cond (fun _ => hnext _) (fun he => ?_)
    have he : errL op rd r1 r2 (cn k) = 0 := by simpa [cm] using he
    obtain ⟨q1, q2, q3, q4, q5, q6⟩ := dec_enc he
    simp only [q1, q2, q3, q4, q5, q6, decV, cond_true, cm_neq_self, cond_false, allB, Bool.and_true, BEq.rfl, Bool.not_true]
    exact hnext _
  · obtain rfl : t = 8 := by omega
    have e1 : cm .lss ((8 : Nat) : Int) 8 = false := rfl
    simp only [e1, cond_false]
    refine ⟨rfl, _, _, [], rfl, ?_⟩
    simp [WkV, hp5c, h5, wkF, wkS, sim, simL, wkH, wkB, wkCs, wkC, rmap, rlook, Ev.look, oldsOf, uniqN, mem, SV.al, SV.alL, Ev.hal, Blk.al, lt, rok, lp5c, lk5c]

attribute [local irreducible] evalB Tr.view in
theorem loop5c {E : Env} (hE : ∀ S, E.loop 2 S = runLp lp5c S) : LoopOk E Try.prog Try.f5 2 (loopOf Try.f5 2) :=
  loop_okE mixed hE (by decide) ok5c (fun x => 8 - x.t) vs5c hp5c out5c entry5c fun x hx => ⟨EL, el_calls, loops_noLoop el_loop _ _, round5c x hx⟩
theorem e5c_calls : CallsOk E5c Try.prog := fun f args H nm r h hn => el_calls f args H nm r h hn
theorem nl5b : Code.loops (loopOf Try.f5 1) = 1 := by kernel_rfl
theorem nth5b : nthLoop (loopOf Try.f5 1) 0 = some (loopOf Try.f5 2) := by kernel_rfl
theorem inner5b : LoopsOk E5c Try.prog Try.f5 (loopOf Try.f5 1) 2 := loopsOk_of _ 2 fun m a hm ha => by
  rw [nl5b] at hm
  obtain rfl : m = 0 := by omega
  rw [nth5b] at ha
  simp only [Option.some.injEq] at ha
  subst ha
  exact loop5c fun S => rfl

structure X5b where
  k : Nat
  op : Int
  nL : Nat
  nW : Nat
  c0 : Nat → Int
  c1 : Nat → Int
  c2 : Nat → Int
  c3 : Nat → Int
  c4 : Nat → Int
  cw : Nat → Int
  cn : Nat → Int
def ok5b (x : X5b) : Prop := x.k ≤ 22
def vs5b (x : X5b) : List SV := v5b x.op x.k
def hp5b (x : X5b) : Heap := h5 x.nL x.nW x.c0 x.c1 x.c2 x.c3 x.c4 x.cw x.cn
def out5b (x : X5b) : Vw := .exit 2 86 [.ptr 1024 0 0, .sl 1056 22, .int false .i64 x.op, .any] (hp5b x)

theorem entry5b (l : List SV) (H : Heap) (T : Tr) (h : lp5b.get l H = some T) (hb : T.leaf ≠ .bad) : ∃ x r, ok5b x ∧ WkV r lp5b.nm l H (vs5b x) (hp5b x) ∧ T.leaf = toLf lp5b (out5b x) := by
  replace h : get5b l H = some T := h
  unfold get5b at h
  split at h
  · rename_i k1 r1 p1 s3 m3 _ op _ k j0 nL c0 c1 c2 c3 c4 j1 nW cw j2 s0 m0 s1 m1 j3 n3 cn
    simp only [Option.some.injEq] at h
    subst h
    obtain ⟨hn, he⟩ := needs_ne hb
    rw [he]
    simp only [allB, Bool.and_eq_true, Bool.and_true, decide_eq_true_eq, Nat.beq_eq] at hn
    obtain ⟨rfl, rfl, rfl, rfl, rfl, rfl, rfl, rfl, rfl, rfl, rfl, rfl, rfl, rfl, rfl⟩ := hn
    refine ⟨⟨0, op, m0, m1, c0, c1, c2, c3, c4, cw, cn⟩, [], Nat.zero_le _, ?_, ?_⟩
    · simp [WkV, vs5b, hp5b, v5b, h5, wkF, wkS, sim, simL, wkH, wkB, wkCs, wkC, rmap, rlook, Ev.look, oldsOf, uniqN, mem, SV.al, SV.alL, Ev.hal, Blk.al, lt, rok, lp5b, lk5b]
    · simp only [exitT_leaf, out5b, hp5b]
      rfl
  · cases h

attribute [local irreducible] evalB Tr.view in
theorem round5b (x : X5b) (hx : ok5b x) : Round lp5b ok5b (fun x => 22 - x.k) vs5b hp5b out5b x ((evalB E5c Try.prog Try.f5.results.toList (loopOf Try.f5 1) (1 + 1) lp5b (vs5b x) (hp5b x)).view lp5b.ks) := by
  obtain ⟨k, op, nL, nW, c0, c1, c2, c3, c4, cw, cn⟩ := x
  have hx : k ≤ 22 := hx
  have hr := r5b op k nL nW c0 c1 c2 c3 c4 cw cn
  rw [show evalB E5c Try.prog Try.f5.results.toList (loopOf Try.f5 1) (1 + 1) lp5b (vs5b ⟨k, op, nL, nW, c0, c1, c2, c3, c4, cw, cn⟩) (hp5b ⟨k, op, nL, nW, c0, c1, c2, c3, c4, cw, cn⟩) = evalB E5c Try.prog Try.f5.results.toList (loopOf Try.f5 1) 2 lp5b (v5b op k) (h5 nL nW c0 c1 c2 c3 c4 cw cn) from rfl, show lp5b.ks = [1, 3, 4, 5] from rfl, hr]
  by_cases h : k < 22
  · have e1 : cm .lss (k : Int) ((22 : Nat) : Int) = true := decide_eq_true (by omega)
    have e1' : cm .lss (k : Int) 22 = true := decide_eq_true (by omega)
    have e2 : decide (0 ≤ (k : Int)) = true := decide_eq_true (by omega)
    have e3 : decide ((k : Int) < 22) = true := decide_eq_true (by omega)
    simp only [e1, e1', e2, e3, cond_true, Nat.beq_refl]
    refine ⟨rfl, ⟨k + 1, op, nL, nW, c0, c1, c2, c3, c4, cw, cn⟩, [], h, by show 22 - (k + 1) < 22 - k; omega, rfl, ?_⟩
    rw [addOne (show k < 9223372036854775807 by omega)]
    simp [WkV, vs5b, hp5b, v5b, h5, wkF, wkS, sim, simL, wkH, wkB, wkCs, wkC, rmap, rlook, Ev.look, oldsOf, uniqN, mem, SV.al, SV.alL, Ev.hal, Blk.al, lt, rok, lp5b, lk5b]
  · obtain rfl : k = 22 := by omega
    have e1 : cm .lss ((22 : Nat) : Int) ((22 : Nat) : Int) = false := rfl
    have e1' : cm .lss ((22 : Nat) : Int) 22 = false := rfl
    simp only [e1, e1', cond_false]
    refine ⟨rfl, _, _, [], rfl, ?_⟩
    simp [WkV, hp5b, h5, wkF, wkS, sim, simL, wkH, wkB, wkCs, wkC, rmap, rlook, Ev.look, oldsOf, uniqN, mem, SV.al, SV.alL, Ev.hal, Blk.al, lt, rok, lp5b, lk5b]

attribute [local irreducible] evalB Tr.view in
theorem loop5b {E : Env} (hE : ∀ S, E.loop 1 S = runLp lp5b S) : LoopOk E Try.prog Try.f5 1 (loopOf Try.f5 1) :=
  loop_okE mixed hE (by decide) ok5b (fun x => 22 - x.k) vs5b hp5b out5b entry5b fun x hx => ⟨E5c, e5c_calls, inner5b, round5b x hx⟩
theorem e5b_calls : CallsOk E5b Try.prog := fun f args H nm r h hn => el_calls f args H nm r h hn
theorem nl5 : Code.loops (loopOf Try.f5 0) = 2 := by kernel_rfl
theorem nth5 : nthLoop (loopOf Try.f5 0) 0 = some (loopOf Try.f5 1) := by kernel_rfl
theorem nth5' : nthLoop (loopOf Try.f5 0) 1 = some (loopOf Try.f5 2) := by kernel_rfl
theorem inner5 : LoopsOk E5b Try.prog Try.f5 (loopOf Try.f5 0) 1 := loopsOk_of _ 1 fun m a hm ha => by
  rw [nl5] at hm
  rcases m with _ | _ | m
  · rw [nth5] at ha
    simp only [Option.some.injEq] at ha
    subst ha
    exact loop5b fun S => rfl
  · rw [nth5'] at ha
    simp only [Option.some.injEq] at ha
    subst ha
    exact loop5c fun S => rfl
  · omega

structure X5 where
  i : Nat
  nL : Nat
  nW : Nat
  c0 : Nat → Int
  c1 : Nat → Int
  c2 : Nat → Int
  c3 : Nat → Int
  c4 : Nat → Int
  cw : Nat → Int
  cn : Nat → Int
def ok5 (x : X5) : Prop := x.i ≤ 65
def vs5 (x : X5) : List SV := v5 x.i
def hp5 (x : X5) : Heap := h5 x.nL x.nW x.c0 x.c1 x.c2 x.c3 x.c4 x.cw x.cn
def out5 (x : X5) : Vw := .exit 0 86 [.ptr 1024 0 0, .any, .any] (hp5 x)

theorem entry5 (l : List SV) (H : Heap) (T : Tr) (h : lp5.get l H = some T) (hb : T.leaf ≠ .bad) : ∃ x r, ok5 x ∧ WkV r lp5.nm l H (vs5 x) (hp5 x) ∧ T.leaf = toLf lp5 (out5 x) := by
  replace h : get5 l H = some T := h
  unfold get5 at h
  split at h
  · rename_i k1 r1 p1 s3 m3 _ op j0 nL c0 c1 c2 c3 c4 j1 nW cw j2 s0 m0 s1 m1 j3 n3 cn
    simp only [Option.some.injEq] at h
    subst h
    obtain ⟨hn, he⟩ := needs_ne hb
    rw [he]
    simp only [allB, Bool.and_eq_true, Bool.and_true, decide_eq_true_eq, Nat.beq_eq] at hn
    obtain ⟨rfl, rfl, rfl, rfl, rfl, rfl, rfl, rfl, rfl, rfl, rfl, rfl, rfl, rfl, rfl⟩ := hn
    refine ⟨⟨0, m0, m1, c0, c1, c2, c3, c4, cw, cn⟩, [], Nat.zero_le _, ?_, ?_⟩
    · simp [WkV, vs5, hp5, v5, h5, wkF, wkS, sim, simL, wkH, wkB, wkCs, wkC, rmap, rlook, Ev.look, oldsOf, uniqN, mem, SV.al, SV.alL, Ev.hal, Blk.al, lt, rok, lp5, lk5]
    · simp only [exitT_leaf, out5, hp5]
      rfl
  · cases h

attribute [local irreducible] evalB Tr.view in
theorem round5 (x : X5) (hx : ok5 x) : Round lp5 ok5 (fun x => 65 - x.i) vs5 hp5 out5 x ((evalB E5b Try.prog Try.f5.results.toList (loopOf Try.f5 0) (0 + 1) lp5 (vs5 x) (hp5 x)).view lp5.ks) := by
  obtain ⟨i, nL, nW, c0, c1, c2, c3, c4, cw, cn⟩ := x
  have hx : i ≤ 65 := hx
  have hr := r5 i nL nW c0 c1 c2 c3 c4 cw cn
  rw [show evalB E5b Try.prog Try.f5.results.toList (loopOf Try.f5 0) (0 + 1) lp5 (vs5 ⟨i, nL, nW, c0, c1, c2, c3, c4, cw, cn⟩) (hp5 ⟨i, nL, nW, c0, c1, c2, c3, c4, cw, cn⟩) = evalB E5b Try.prog Try.f5.results.toList (loopOf Try.f5 0) 1 lp5 (v5 i) (h5 nL nW c0 c1 c2 c3 c4 cw cn) from rfl, show lp5.ks = [1, 3, 4] from rfl, hr]
  by_cases h : i < 65
  · have e1 : cm .leq (i : Int) 64 = true := decide_eq_true (by omega)
    simp only [e1, cond_true, Nat.beq_refl]
    refine ⟨rfl, ⟨i + 1, nL, nW, c0, c1, c2, c3, c4, cw, cn⟩, [], h, by show 65 - (i + 1) < 65 - i; omega, rfl, ?_⟩
    rw [addOne (show i < 9223372036854775807 by omega)]
    simp [WkV, vs5, hp5, v5, h5, wkF, wkS, sim, simL, wkH, wkB, wkCs, wkC, rmap, rlook, Ev.look, oldsOf, uniqN, mem, SV.al, SV.alL, Ev.hal, Blk.al, lt, rok, lp5, lk5]
  · obtain rfl : i = 65 := by omega
    have e1 : cm .leq ((65 : Nat) : Int) 64 = false := rfl
    simp only [e1, cond_false]
    refine ⟨rfl, _, _, [], rfl, ?_⟩
    simp [WkV, hp5, h5, wkF, wkS, sim, simL, wkH, wkB, wkCs, wkC, rmap, rlook, Ev.look, oldsOf, uniqN, mem, SV.al, SV.alL, Ev.hal, Blk.al, lt, rok, lp5, lk5]

noncomputable def E5L : Env := ⟨EL.call, loopEnv [(0, lp5), (1, lp5b), (2, lp5c)]⟩
theorem e5l_calls : CallsOk E5L Try.prog := fun f args H nm r h hn => el_calls f args H nm r h hn
attribute [local irreducible] evalB Tr.view in
theorem loop5 : LoopOk E5L Try.prog Try.f5 0 (loopOf Try.f5 0) :=
  loop_okE mixed (fun S => rfl) (by decide) ok5 (fun x => 65 - x.i) vs5 hp5 out5 entry5 fun x hx => ⟨E5b, e5b_calls, inner5, round5 x hx⟩
theorem fn5 : Try.prog.funcs[5]? = some Try.f5 := by kernel_rfl
theorem b5 : Try.f5.body = some (bodyOf Try.f5) := by kernel_rfl
theorem nl5' : Code.loops (bodyOf Try.f5) = 3 := by kernel_rfl
theorem nth50 : nthLoop (bodyOf Try.f5) 0 = some (loopOf Try.f5 0) := by kernel_rfl
theorem nth51 : nthLoop (bodyOf Try.f5) 1 = some (loopOf Try.f5 1) := by kernel_rfl
theorem nth52 : nthLoop (bodyOf Try.f5) 2 = some (loopOf Try.f5 2) := by kernel_rfl
theorem loops5 : LoopsOk E5L Try.prog Try.f5 (bodyOf Try.f5) 0 := loopsOk_of _ 0 fun m a hm ha => by
  rw [nl5'] at hm
  rcases m with _ | _ | _ | m
  · rw [nth50] at ha
    simp only [Option.some.injEq] at ha
    subst ha
    exact loop5
  · rw [nth51] at ha
    simp only [Option.some.injEq] at ha
    subst ha
    exact loop5b fun S => rfl
  · rw [nth52] at ha
    simp only [Option.some.injEq] at ha
    subst ha
    exact loop5c fun S => rfl
  · omega
theorem t5 (nL nW : Nat) (c0 c1 c2 c3 c4 cw : Nat → Int) : ((evalF E5L Try.prog 5 [.agg [.sl 0 nL, .sl 1 nW]] (hL nL nW c0 c1 c2 c3 c4 cw) 1024).bare) =
    (bif Nat.beq nL nL then bif Nat.beq nW nW then bif cm .geq (nL : Int) 0 then .ret (.bool false true) [] else .ret (.bool true false) [] else .bad else .bad) := by kernel_rfl

end Go.Rv
end
