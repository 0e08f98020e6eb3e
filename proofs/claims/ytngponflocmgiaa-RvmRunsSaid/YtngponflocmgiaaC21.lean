/-
  rvm: one step of each op: its loops.
-/
import Derived.Test.YtngponflocmgiaaC19
import Derived.Test.YtngponflocmgiaaB20
set_option linter.unusedSimpArgs false
set_option linter.unusedVariables false
section
set_option linter.unusedVariables false
open Go Go.Ev Go.Proofs
namespace Go.Rv

structure Tr5 where
  a0 : Nat → Int
  a1 : Nat → Int
  a2 : Nat → Int
  a3 : Nat → Int
  a4 : Nat → Int
def Tr5.cols (q : Tr5) : List Col := [.ints .i64 q.a0, .ints .i64 q.a1, .ints .i64 q.a2, .ints .i64 q.a3, .ints .i64 q.a4]
def hO (p : Pa) (n : Nat) (g : Nat → Int) : Heap := [(0, .tab p.nL [.ints .i64 p.c0, .ints .i64 p.c1, .ints .i64 p.c2, .ints .i64 p.c3, .ints .i64 p.c4] false), (5, .tab n [.ints .i64 g] false), (1024, .cells (vP p))]
def h29 (p : Pa) (n : Nat) (g : Nat → Int) (m : M) : Heap := hO p n g ++ hMac m 1120 1104 1105 1106 1107
def v29b (n : Nat) (i k : Int) : List SV := [.sl 5 n, .ptr 1024 0 0, .ptr 1120 0 0, .int false .i64 i, .int false .i64 k]
def lk29b : Lp := ⟨157, [1, 2, 5, 6, 7], 2000, fun _ _ => none⟩
def h29c (p : Pa) (n : Nat) (g : Nat → Int) (m : M) (q : Tr5) : Heap := h29 p n g m ++ [(2960, .tab 6 q.cols true)]
def v29c (n : Nat) (i k t : Int) : List SV := [.sl 5 n, .ptr 1024 0 0, .ptr 1120 0 0, .int false .i64 i, .int false .i64 k, .sl 2960 6, .int false .i64 t]
def lk29c : Lp := ⟨157, [1, 2, 5, 6, 7, 9, 10], 3100, fun _ _ => none⟩

/-- what is tried: the ask's instruction with an op, in six ways -/
def tryQ (p : Pa) (i : Nat) (op : Int) : Tr5 := ⟨nth [op, op, op, op, op, op] 0, nth [p.c1 i, p.c1 i, p.c1 i, 0, p.c1 i, 0] 0, nth [p.c2 i, p.c2 i, p.c2 i, p.c2 i, 0, 0] 0, nth [p.c3 i, p.c3 i, 0, p.c3 i, 0, 0] 0,
  nth [p.c4 i, 0, ar .and .i64 (p.c4 i) 31, ar .rem .i64 (ar .andNot .i64 (p.c4 i) 3) 2048, ar .and .i64 (p.c4 i) 4092, 0] 0⟩
def errQ (q : Tr5) (t : Nat) : Int := errL (q.a0 t) (q.a1 t) (q.a2 t) (q.a3 t) (q.a4 t)
def wrdQ (q : Tr5) (t : Nat) : ByteArray := wordA (wordL (q.a0 t) (q.a1 t) (q.a2 t) (q.a3 t) (q.a4 t))
def valT (p : Pa) : Int := ar .add .i64 262144 (conv .i64 (ar .rem .u64 (conv .u64 p.at_) 200704))
def vx (b : Bool) (x : Vw) : Vw := bif b then x else .bad
def vxN (i : Int) (n : Nat) (x : Vw) : Vw := vx (decide (0 ≤ i)) (vx (decide (i < (n : Int))) (vx (Nat.blt i.toNat n) (vx (Nat.blt i.toNat n) x)))
def vx6 (i : Int) (x : Vw) : Vw := vx (decide (0 ≤ i)) (vx (decide (i < 6)) (vx (Nat.blt i.toNat 6) (vx (Nat.blt i.toNat 6) x)))
def vx32 (i : Int) (x : Vw) : Vw := vx (decide (0 ≤ i)) (vx (decide (i < 32)) (vx (Nat.blt i.toNat 32) (vx (Nat.blt i.toNat 32) x)))
/-- one step is done, on both sides -/
noncomputable def stepV (w : ByteArray) (m : M) (x : Vw) : Vw :=
  vx (Nat.ble m.nI 100000000) (vx (Nat.ble m.nO 100000000) (vx (Nat.beq m.nI m.nI) (vx (Nat.beq m.nO m.nO) (vx (msB m) (vx (codeB w) (vx (Nat.beq m.nI m.nI) (vx (Nat.beq m.nO m.nO)
    (vx (goodB m) (vx (sizeB w) (vx (Nat.beq m.nI m.nI) (vx (Nat.beq m.nO m.nO)
      (vx (bif false then true else allB [eqMB (stepM w m) (stepM w m), Nat.beq (stepM w m).nI (stepM w m).nI, Nat.beq (stepM w m).nO (stepM w m).nO, Nat.beq (stepM w m).nI (stepM w m).nI, Nat.beq (stepM w m).nO (stepM w m).nO]) x))))))))))))
def setX (m : M) (X : Nat → Int) : M := { m with X := X }
theorem r29c (p : Pa) (n : Nat) (g : Nat → Int) (m : M) (q : Tr5) (i k t : Int) : (evalB ELw Try.prog Try.f29.results.toList (loopOf Try.f29 2) 3 lk29c (v29c n i k t) (h29c p n g m q)).viewP [1, 2, 5, 6, 7, 9, 10] [0, 5, 1024, 1120, 1104, 1105, 1106, 1107, 2960] =
    bif cm .lss t 6 then vx6 t (bif cm .neq (errQ q t.toNat) 0 then .norm 157 (v29c n i k (ar .add .i64 t 1)) (h29c p n g m q) else
      bif cm .eql (ar .rem .i64 i 2) 1 then vx6 t (bif cm .gtr (q.a2 t.toNat) 0 then vx6 t (vx32 (q.a2 t.toNat)
          (stepV (wrdQ q t.toNat) (setX m (upd (upd m.X (q.a2 t.toNat).toNat (valT p)) 17 (ar .add .i64 1 (ar .rem .i64 t 4)))) (.exit 4 157 (v29c n i k t) (h29c p n g (setX m (upd (upd m.X (q.a2 t.toNat).toNat (valT p)) 17 (ar .add .i64 1 (ar .rem .i64 t 4)))) q))))
        else stepV (wrdQ q t.toNat) (setX m (upd m.X 17 (ar .add .i64 1 (ar .rem .i64 t 4)))) (.exit 4 157 (v29c n i k t) (h29c p n g (setX m (upd m.X 17 (ar .add .i64 1 (ar .rem .i64 t 4)))) q)))
      else stepV (wrdQ q t.toNat) m (.exit 4 157 (v29c n i k t) (h29c p n g m q)))
    else .exit 4 157 (v29c n i k t) (h29c p n g m q) := by kernel_rfl

end Go.Rv
end

section
set_option linter.unusedVariables false
open Go Go.Ev Go.Proofs
namespace Go.Rv

/-- a run that is refused -/
noncomputable def refB (fuel : Int) : Bool := @decide (fuel < 0 ∨ 2000000 < fuel) (Classical.propDecidable _)
theorem refB_iff {fuel : Int} : refB fuel = true ↔ (fuel < 0 ∨ 2000000 < fuel) := @decide_eq_true_iff _ (Classical.propDecidable _)
noncomputable def g25x : List SV → Heap → Option R
  | [.str s, .agg l, .int _ .i64 fuel], H => match unW l H with
    | some (nn, m) => some ⟨refB fuel :: nn, .tup [.agg zeroV, .int true .i64 0, .int true .i64 1], []⟩
    | none => none
  | _, _ => none
noncomputable def ELx : Env := inlF Try.prog (envOf [(18, specOf g18M), (24, specOf g24), (25, specOf g25x), (22, specOf gEq), (27, specOf g27)] noLoop) [21, 26] [] [] 1
def fuelF : Nat → Int := nth [0, 7, 60, -1, 2000001] 0
def h4 (p : Pa) : Heap := hP p ++ [(1024, .cells (vP p)), (1136, .tab 5 [.ints .i64 fuelF] true)]
def v4R (s : ByteArray) (k : Int) : List SV := [.ptr 1024 0 0, .str s, .sl 1136 5, .int false .i64 k]
def lk4R : Lp := ⟨130, [1, 3, 4, 5], 2000, fun _ _ => none⟩

def pcM (p : Pa) : M := { machM p with pc := p.pc }
def vx5 (i : Int) (x : Vw) : Vw := vx (decide (0 ≤ i)) (vx (decide (i < 5)) (vx (Nat.blt i.toNat 5) (vx (Nat.blt i.toNat 5) x)))
def nmB (f : Int) : Bool := !bif cm .geq f 0 then cm .leq f 2000000 else false
noncomputable def goV (s : ByteArray) (m : M) (k f : Int) (n r : Vw) : Vw :=
  vx (Nat.ble m.nI 100000000) (vx (Nat.beq m.nI m.nI) (vx5 k (vx (goB s m f) (vx (Nat.beq m.nI m.nI) (vx5 k (
    bif nmB f then (bif (bif true then true else bif cm .neq (stepsM s f.toNat m : Int) 0 then true else true) then r else n) else
      vx (Nat.ble m.nI 100000000) (vx (Nat.beq m.nI m.nI) (vx5 k (vx (goB s m f) (vx (Nat.beq m.nI m.nI)
        (vx (bif false then true else allB [bif cm .neq (stepsM s f.toNat m : Int) (stepsM s f.toNat m : Int) then true else allB [eqMB (runM s f.toNat m) (runM s f.toNat m), Nat.beq (runM s f.toNat m).nI (runM s f.toNat m).nI, Nat.beq (runM s f.toNat m).nO (runM s f.toNat m).nO, Nat.beq (runM s f.toNat m).nI (runM s f.toNat m).nI, Nat.beq (runM s f.toNat m).nO (runM s f.toNat m).nO,
            eqMB m m, Nat.beq m.nI m.nI, Nat.beq m.nO m.nO, Nat.beq m.nI m.nI, Nat.beq m.nO m.nO]])
          (bif (bif false then true else bif cm .neq (stepsM s f.toNat m : Int) (stepsM s f.toNat m : Int) then true else false) then r else n))))))))))))
noncomputable def goX (s : ByteArray) (m : M) (k f : Int) (n r : Vw) : Vw :=
  vx (Nat.ble m.nI 100000000) (vx (Nat.beq m.nI m.nI) (vx5 k (vx (refB f) (vx (Nat.beq m.nI m.nI) (vx5 k (
    bif nmB f then n else vx (Nat.ble m.nI 100000000) (vx (Nat.beq m.nI m.nI) (vx5 k (vx (goB s m f) (vx (Nat.beq m.nI m.nI) r)))))))))) 
def lnV (p : Pa) (x : Vw) : Vw := vx (Nat.beq p.nL p.nL) (vx (Nat.beq p.nW p.nW) (vx (Nat.beq p.nX p.nX) (vx (Nat.beq p.nM p.nM) (vx (Nat.beq p.nI p.nI) x))))
def js4 : List Nat := [0, 1, 2, 3, 4, 1024, 1136]
theorem r4g (p : Pa) (s : ByteArray) (k : Int) : (evalB ELw Try.prog Try.f4.results.toList (loopOf Try.f4 0) 1 lk4R (v4R s k) (h4 p)).viewP [1, 3, 4, 5] js4 =
    bif cm .lss k 5 then vx (Nat.ble p.nI 100000000) (lnV p (bif p.raw then goV s (pcM p) k (fuelF k.toNat) (.norm 130 (v4R s (ar .add .i64 k 1)) (h4 p)) (.ret (.bool true false) (h4 p))
      else goV s (machM p) k (fuelF k.toNat) (.norm 130 (v4R s (ar .add .i64 k 1)) (h4 p)) (.ret (.bool true false) (h4 p))))
    else .exit 0 130 (v4R s k) (h4 p) := by kernel_rfl
theorem r4x (p : Pa) (s : ByteArray) (k : Int) : (evalB ELx Try.prog Try.f4.results.toList (loopOf Try.f4 0) 1 lk4R (v4R s k) (h4 p)).viewP [1, 3, 4, 5] js4 =
    bif cm .lss k 5 then vx (Nat.ble p.nI 100000000) (lnV p (bif p.raw then goX s (pcM p) k (fuelF k.toNat) (.norm 130 (v4R s (ar .add .i64 k 1)) (h4 p)) (.ret (.bool true false) (h4 p))
      else goX s (machM p) k (fuelF k.toNat) (.norm 130 (v4R s (ar .add .i64 k 1)) (h4 p)) (.ret (.bool true false) (h4 p))))
    else .exit 0 130 (v4R s k) (h4 p) := by kernel_rfl

end Go.Rv
end

section
set_option linter.unusedVariables false
open Go Go.Ev Go.Proofs
namespace Go.Rv

/-- runs that are asked -/
structure RunsG (p : Pa) (s : ByteArray) : Prop where
  pa : PaOk p
  nI : p.nI ≤ 2000
  size : s.size ≤ 1000
noncomputable def runsB (p : Pa) (s : ByteArray) : Bool := @decide (RunsG p s) (Classical.propDecidable _)
theorem runsB_iff {p : Pa} {s : ByteArray} : runsB p s = true ↔ RunsG p s := @decide_eq_true_iff _ (Classical.propDecidable _)
def unHP (H : Heap) : Option (List Bool × Pa) :=
  match Ev.look H 0, Ev.look H 1, tI .i64 false H 2, tI .u8 false H 3, tI .i64 false H 4, cL H 1024 with
  | some (.tab nL [.ints .i64 c0, .ints .i64 c1, .ints .i64 c2, .ints .i64 c3, .ints .i64 c4] _), some (.tab nW [.ints .u32 cw] _), some (nX, cX), some (nM, cM), some (nI, cI),
    some [.sl k0 n0, .sl k1 n1, .sl k2 n2, .sl k3 n3, .int _ .i64 at_, .sl k4 n4, .int _ .i64 pc, .bool _ raw] =>
    some ([Nat.beq k0 0, Nat.beq k1 1, Nat.beq k2 2, Nat.beq k3 3, Nat.beq k4 4, Nat.beq n0 nL, Nat.beq n1 nW, Nat.beq n2 nX, Nat.beq n3 nM, Nat.beq n4 nI],
      ⟨nL, nW, nX, nM, nI, c0, c1, c2, c3, c4, cw, cX, cM, cI, at_, pc, raw⟩)
  | _, _, _, _, _, _ => none
noncomputable def get4R : List SV → Heap → Option Tr
  | [.ptr kp rp cp, .str s, .sl kf nf, .int _ .i64 k], H => match unHP H, tI .i64 true H 1136 with
    | some (nn, p), some (n5, F) => some (Tr.needs ([Nat.beq kp 1024, Nat.beq rp 0, Nat.beq cp 0, Nat.beq kf 1136, Nat.beq nf 5, Nat.beq n5 5, eqA 5 F fuelF, decide (k = 0), runsB p s] ++ nn)
      (exitT lk4R 0 [.any, .str s, .any, .any] []))
    | _, _ => none
  | _, _ => none
noncomputable def lp4R : Lp := { lk4R with get := get4R }

/-! the machines that may not be -/
def hQuad (a nX : Nat) (X : Nat → Int) (rw : Bool) : Heap := [(a, .tab nX [.ints .i64 X] rw), (a + 1, .tab 196608 [.ints .u8 fun _ => 0] rw), (a + 2, .tab 0 [.ints .i64 fun _ => 0] rw), (a + 3, .tab 0 [.ints .i64 fun _ => 0] rw)]
def oneX : Nat → Int := upd (fun _ => 0) 0 1
def zerX : Nat → Int := fun _ => 0
def badV (a nX : Nat) (kind : Int) : List SV := [.int false .i64 4096, .sl a nX, .bool false false, .bool false false, .bool false false, .bool false false, .sl (a + 1) 196608, .sl (a + 2) 0, .sl (a + 3) 0, .int false .i64 kind, .int false .i64 0]
def badN (a nX : Nat) (kind : Int) : List SV := [.int false .i64 4096, .sl a nX, .bool false false, .bool false false, .bool false false, .bool false false, .val (.slice none 0 0), .sl (a + 2) 0, .sl (a + 3) 0, .int false .i64 kind, .int false .i64 0]
def h4b : Heap := hQuad 2000 31 zerX true ++ (hQuad 2016 32 oneX true ++ (hQuad 2032 32 zerX true ++ (hQuad 2048 32 zerX true ++ [(2064, .cells (badV 2000 31 0 ++ (badV 2016 32 0 ++ (badN 2032 32 0 ++ badV 2048 32 3))))])))
/-- as arguments -/
def badL (K : Nat) : List SV := match K with
  | 0 => badV 0 31 0
  | 1 => badV 0 32 0
  | 2 => [.int false .i64 4096, .sl 0 32, .bool false false, .bool false false, .bool false false, .bool false false, .val (.slice none 0 0), .sl 1 0, .sl 2 0, .int false .i64 0, .int false .i64 0]
  | _ => badV 0 32 3
def badH (K : Nat) : Heap := match K with
  | 0 => hQuad 0 31 zerX false
  | 1 => hQuad 0 32 oneX false
  | 2 => [(0, .tab 32 [.ints .i64 zerX] false), (1, .tab 0 [.ints .i64 fun _ => 0] false), (2, .tab 0 [.ints .i64 fun _ => 0] false)]
  | _ => hQuad 0 32 zerX false
noncomputable def isBad (K : Nat) (l : List SV) (H : Heap) : Bool := @decide (l = badL K ∧ roH [] H = badH K) (Classical.propDecidable _)
theorem isBad_iff {K : Nat} {l : List SV} {H : Heap} : isBad K l H = true ↔ (l = badL K ∧ roH [] H = badH K) := @decide_eq_true_iff _ (Classical.propDecidable _)
noncomputable def g19x (K : Nat) : List SV → Heap → Option R
  | [.str s, .agg l], H => some ⟨[isBad K l H], .tup [.agg zeroV, .int true .i64 1], []⟩
  | _, _ => none
theorem l19x0 (s : ByteArray) : (evalF ET Try.prog 19 [.str s, .agg (badL 0)] (badH 0) 1024).bare = .ret (.tup [.agg zeroV, .int true .i64 1]) [] := by kernel_rfl
theorem l19x1 (s : ByteArray) : (evalF ET Try.prog 19 [.str s, .agg (badL 1)] (badH 1) 1024).bare = .ret (.tup [.agg zeroV, .int true .i64 1]) [] := by kernel_rfl
theorem l19x2 (s : ByteArray) : (evalF ET Try.prog 19 [.str s, .agg (badL 2)] (badH 2) 1024).bare = .ret (.tup [.agg zeroV, .int true .i64 1]) [] := by kernel_rfl
theorem l19x3 (s : ByteArray) : (evalF ET Try.prog 19 [.str s, .agg (badL 3)] (badH 3) 1024).bare = .ret (.tup [.agg zeroV, .int true .i64 1]) [] := by kernel_rfl

noncomputable def ELb (K : Nat) : Env := inlF Try.prog (envOf [(19, specOf (g19x K))] noLoop) [21] [] [] 1
def v4b (s : ByteArray) (k : Int) : List SV := [.str s, .sl 2064 4, .int true .i64 k]
def lk4b : Lp := ⟨130, [3, 13, 14], 2400, fun _ _ => none⟩
def js4b : List Nat := [2000, 2001, 2002, 2003, 2016, 2017, 2018, 2019, 2032, 2033, 2034, 2035, 2048, 2049, 2050, 2051, 2064]
theorem r4b0 (s : ByteArray) : (evalB (ELb 0) Try.prog Try.f4.results.toList (loopOf Try.f4 1) 2 lk4b (v4b s 0) h4b).viewP [3, 13, 14] js4b = vx (isBad 0 (badL 0) (hQuad 0 31 zerX true)) (.norm 130 (v4b s 1) h4b) := by kernel_rfl
theorem r4b1 (s : ByteArray) : (evalB (ELb 1) Try.prog Try.f4.results.toList (loopOf Try.f4 1) 2 lk4b (v4b s 1) h4b).viewP [3, 13, 14] js4b = vx (isBad 1 (badL 1) (hQuad 0 32 oneX true)) (.norm 130 (v4b s 2) h4b) := by kernel_rfl
theorem r4b2 (s : ByteArray) : (evalB (ELb 2) Try.prog Try.f4.results.toList (loopOf Try.f4 1) 2 lk4b (v4b s 2) h4b).viewP [3, 13, 14] js4b = vx (isBad 2 (badL 2) [(0, .tab 32 [.ints .i64 zerX] true), (1, .tab 0 [.ints .i64 fun _ => 0] true), (2, .tab 0 [.ints .i64 fun _ => 0] true)]) (.norm 130 (v4b s 3) h4b) := by kernel_rfl
theorem r4b3 (s : ByteArray) : (evalB (ELb 3) Try.prog Try.f4.results.toList (loopOf Try.f4 1) 2 lk4b (v4b s 3) h4b).viewP [3, 13, 14] js4b = vx (isBad 3 (badL 3) (hQuad 0 32 zerX true)) (.norm 130 (v4b s 4) h4b) := by kernel_rfl
theorem r4b4 (s : ByteArray) : (evalB (ELb 0) Try.prog Try.f4.results.toList (loopOf Try.f4 1) 2 lk4b (v4b s 4) h4b).viewP [3, 13, 14] js4b = .exit 2 130 (v4b s 4) h4b := by kernel_rfl

noncomputable def quadB (H : Heap) (a nX : Nat) (X : Nat → Int) : Option (List Bool) :=
  match tI .i64 true H a, tI .u8 true H (a + 1), tI .i64 true H (a + 2), tI .i64 true H (a + 3) with
  | some (t1, X'), some (t2, m), some (t3, _), some (t4, _) => some [Nat.beq t1 nX, Nat.beq t2 196608, Nat.beq t3 0, Nat.beq t4 0, eqA nX X' X, eqA 196608 m (fun _ => 0)]
  | _, _, _, _ => none
noncomputable def get4b : List SV → Heap → Option Tr
  | [.str s, .sl kb nb, .int _ .i64 k], H => match quadB H 2000 31 zerX, quadB H 2016 32 oneX, quadB H 2032 32 zerX, quadB H 2048 32 zerX, cL H 2064 with
    | some n1, some n2, some n3, some n4, some l => some (Tr.needs ([Nat.beq kb 2064, Nat.beq nb 4, decide (k = 0), eqL l (badV 2000 31 0 ++ (badV 2016 32 0 ++ (badN 2032 32 0 ++ badV 2048 32 3)))] ++ (n1 ++ (n2 ++ (n3 ++ n4))))
      (exitT lk4b 2 [.any, .any, .any] []))
    | _, _, _, _, _ => none
  | _, _ => none
noncomputable def lp4b : Lp := { lk4b with get := get4b }
noncomputable def E4R : Env := ⟨ELw.call, loopEnv [(0, lp4R), (1, lp4b)]⟩
theorem t4R (p : Pa) : (evalF E4R Try.prog 4 [.agg (vP p)] (hP p) 1024).bare =
    bif hvP p then .ret (.bool true true) [] else
      lnP p (bx (eqA 5 (nth [0, 7, 60, -1, 2000001] 0) fuelF) (bx (runsB p (codeP p)) (lnP p (bx (eqA 31 (fun _ => 0) zerX) (bx (eqA 196608 (fun _ => 0) fun _ => 0) (bx (eqA 32 (upd (fun _ => 0) 0 1) oneX) (bx (eqA 196608 (fun _ => 0) fun _ => 0)
        (bx (eqA 32 (fun _ => 0) zerX) (bx (eqA 196608 (fun _ => 0) fun _ => 0) (bx (eqA 32 (fun _ => 0) zerX) (bx (eqA 196608 (fun _ => 0) fun _ => 0) (.ret (.bool true true) [])))))))))))) := by kernel_rfl
end Go.Rv
end

section
set_option linter.unusedVariables false
open Go Go.Ev Go.Proofs
namespace Go.Rv

/-- the registers behind a try -/
def nextX (p : Pa) (i : Int) (q : Tr5) (t : Nat) (X : Nat → Int) : Nat → Int :=
  bif cm .eql (ar .rem .i64 i 2) 1 then (bif cm .gtr (q.a2 t) 0 then upd (upd X (q.a2 t).toNat (valT p)) 17 (ar .add .i64 1 (ar .rem .i64 (t : Int) 4)) else upd X 17 (ar .add .i64 1 (ar .rem .i64 (t : Int) 4))) else X
def tX (p : Pa) (i : Int) (q : Tr5) : Nat → Nat → (Nat → Int) → (Nat → Int)
  | 0, _, X => X
  | f + 1, t, X => bif cm .neq (errQ q t) 0 then tX p i q f (t + 1) X else nextX p i q t X
/-- without what no try looks at -/
def sp (p : Pa) : Pa := { p with cw := fun _ => 0, cX := fun _ => 0, cM := fun _ => 0, cI := fun _ => 0 }
def kX (p : Pa) (i : Nat) (g : Nat → Int) : Nat → Nat → (Nat → Int) → (Nat → Int)
  | 0, _, X => X
  | f + 1, k, X => kX p i g f (k + 1) (tX (sp p) i (tryQ p i (g k)) 6 0 X)
/-- the machine of the tries -/
structure CG (m : M) : Prop where
  ms : MS m
  nO : m.nO = 0
noncomputable def cgB (m : M) : Bool := @decide (CG m) (Classical.propDecidable _)
theorem cgB_iff {m : M} : cgB m = true ↔ CG m := @decide_eq_true_iff _ (Classical.propDecidable _)
def unHO (H : Heap) : Option (List Bool × Pa × Nat × (Nat → Int)) :=
  match Ev.look H 0, tI .i64 false H 5, cL H 1024 with
  | some (.tab nL [.ints .i64 c0, .ints .i64 c1, .ints .i64 c2, .ints .i64 c3, .ints .i64 c4] _), some (n, g), some [.sl k0 n0, .sl k1 nW, .sl k2 nX, .sl k3 nM, .int _ .i64 at_, .sl k4 nI, .int _ .i64 pc, .bool _ raw] =>
    some ([Nat.beq k0 0, Nat.beq k1 1, Nat.beq k2 2, Nat.beq k3 3, Nat.beq k4 4, Nat.beq n0 nL],
      ⟨nL, nW, nX, nM, nI, c0, c1, c2, c3, c4, fun _ => 0, fun _ => 0, fun _ => 0, fun _ => 0, at_, pc, raw⟩, n, g)
  | _, _, _ => none
def unQ5 (H : Heap) : Option (List Bool × Tr5) :=
  match Ev.look H 2960 with
  | some (.tab n [.ints .i64 a0, .ints .i64 a1, .ints .i64 a2, .ints .i64 a3, .ints .i64 a4] true) => some ([Nat.beq n 6], ⟨a0, a1, a2, a3, a4⟩)
  | _ => none
noncomputable def get29c : List SV → Heap → Option Tr
  | [.sl k5 n, .ptr kp rp cp, .ptr kc rc cc, .int _ .i64 i, .int _ .i64 k, .sl kq nq, .int _ .i64 t], H => match unHO H, macAt H 1120 1104 1105 1106 1107, unQ5 H with
    | some (nn, p, n', g), some (nn', m), some (nn'', q) => some (Tr.needs ([Nat.beq k5 5, Nat.beq n n', Nat.beq kp 1024, Nat.beq rp 0, Nat.beq cp 0, Nat.beq kc 1120, Nat.beq rc 0, Nat.beq cc 0, Nat.beq kq 2960, Nat.beq nq 6, decide (t = 0), cgB m] ++ (nn ++ (nn' ++ nn'')))
      (exitT lk29c 4 [.sl 5 n, .ptr 1024 0 0, .ptr 1120 0 0, .int false .i64 i, .int false .i64 k, .any, .any] (h29 p n g (setX m (tX p i q 6 0 m.X)))))
    | _, _, _ => none
  | _, _ => none
noncomputable def lp29c : Lp := { lk29c with get := get29c }
noncomputable def E29c : Env := ⟨ELw.call, loopEnv [(2, lp29c)]⟩
noncomputable def get29b : List SV → Heap → Option Tr
  | [.sl k5 n, .ptr kp rp cp, .ptr kc rc cc, .int _ .i64 i, .int _ .i64 k], H => match unHO H, macAt H 1120 1104 1105 1106 1107 with
    | some (nn, p, n', g), some (nn', m) => some (Tr.needs ([Nat.beq k5 5, Nat.beq n n', Nat.beq kp 1024, Nat.beq rp 0, Nat.beq cp 0, Nat.beq kc 1120, Nat.beq rc 0, Nat.beq cc 0, decide (k = 0), cgB m, decide (0 ≤ i), decide (i < (p.nL : Int)), Nat.ble n 1000] ++ (nn ++ nn'))
      (exitT lk29b 2 [.sl 5 n, .ptr 1024 0 0, .ptr 1120 0 0, .int false .i64 i, .any] (h29 p n g (setX m (kX p i.toNat g n 0 m.X)))))
    | _, _ => none
  | _, _ => none
noncomputable def lp29b : Lp := { lk29b with get := get29b }
noncomputable def E29b : Env := ⟨ELw.call, loopEnv [(1, lp29b), (2, lp29c)]⟩
def v29a (n : Nat) (i : Int) : List SV := [.sl 5 n, .ptr 1024 0 0, .ptr 1120 0 0, .int false .i64 i]
def lk29a : Lp := ⟨157, [1, 2, 5, 6], 1900, fun _ _ => none⟩
noncomputable def get29a : List SV → Heap → Option Tr
  | [.sl k5 n, .ptr kp rp cp, .ptr kc rc cc, .int _ .i64 i], H => match unHO H, macAt H 1120 1104 1105 1106 1107 with
    | some (nn, p, n', g), some (nn', m) => some (Tr.needs ([Nat.beq k5 5, Nat.beq n n', Nat.beq kp 1024, Nat.beq rp 0, Nat.beq cp 0, Nat.beq kc 1120, Nat.beq rc 0, Nat.beq cc 0, decide (i = 0), cgB m, Nat.ble n 1000] ++ (nn ++ nn'))
      (exitT lk29a 0 [.any, .any, .any, .any] []))
    | _, _ => none
  | _, _ => none
noncomputable def lp29a : Lp := { lk29a with get := get29a }
noncomputable def E29a : Env := ⟨ELw.call, loopEnv [(0, lp29a), (1, lp29b), (2, lp29c)]⟩

theorem r29b (p : Pa) (n : Nat) (g : Nat → Int) (m : M) (i k : Int) : (evalB E29c Try.prog Try.f29.results.toList (loopOf Try.f29 1) 2 lp29b (v29b n i k) (h29 p n g m)).view [1, 2, 5, 6, 7] =
    bif cm .lss k (n : Int) then vxN i p.nL (vxN k n (vx (Nat.beq n n) (vx (cgB m) (vx (Nat.beq p.nL p.nL) (vx (Nat.beq m.nI m.nI) (vx (Nat.beq m.nO m.nO)
      (.norm 157 (v29b n i (ar .add .i64 k 1)) (h29 p n g (setX m (tX (sp p) i (tryQ p i.toNat (g k.toNat)) 6 0 m.X))))))))))
    else .exit 2 157 (v29b n i k) (h29 p n g m) := by kernel_rfl
theorem r29a (p : Pa) (n : Nat) (g : Nat → Int) (m : M) (i : Int) : (evalB E29b Try.prog Try.f29.results.toList (loopOf Try.f29 0) 1 lp29a (v29a n i) (h29 p n g m)).view [1, 2, 5, 6] =
    bif (bif cm .lss i (p.nL : Int) then cm .lss i 3 else false) then vx (Nat.beq n n) (vx (cgB m) (vx (decide (0 ≤ i)) (vx (decide (i < (p.nL : Int))) (vx (Nat.ble n 1000) (vx (Nat.beq p.nL p.nL) (vx (Nat.beq m.nI m.nI) (vx (Nat.beq m.nO m.nO)
      (.norm 157 (v29a n (ar .add .i64 i 1)) (h29 p n g (setX m (kX (sp p) i.toNat g n 0 m.X)))))))))))
    else .exit 0 157 (v29a n i) (h29 p n g m) := by kernel_rfl
theorem t29 (p : Pa) (n : Nat) (g : Nat → Int) : (evalF E29a Try.prog 29 [.agg (vP p), .sl 5 n] (hP p ++ [(5, .tab n [.ints .i64 g] false)]) 1024).bare =
    bif hvP p then .ret (.bool true true) [] else bx (Nat.ble p.nI 100000000) (lnP p (bx (Nat.beq n n) (bx (cgB (machM p)) (bx (Nat.ble n 1000) (bx (Nat.beq p.nL p.nL) (bx (Nat.beq (machM p).nI (machM p).nI) (.ret (.bool true true) []))))))) := by kernel_rfl

end Go.Rv
end

section
set_option linter.unusedVariables false
open Go Go.Ev Go.Proofs
namespace Go.Rv

theorem vx_true {b : Bool} (h : b = true) (x : Vw) : vx b x = x := by subst h; rfl
theorem vxN_ok {i n : Nat} (h : i < n) (x : Vw) : vxN (i : Int) n x = x := by
  unfold vxN
  rw [vx_true (dec_true (by omega)), vx_true (dec_true (by omega)), Int.toNat_natCast, vx_true (blt_t h), vx_true (blt_t h)]
theorem vx6_ok {i : Nat} (h : i < 6) (x : Vw) : vx6 (i : Int) x = x := by
  unfold vx6
  rw [vx_true (dec_true (by omega)), vx_true (dec_true (by omega)), Int.toNat_natCast, vx_true (blt_t h), vx_true (blt_t h)]
theorem vx32_ok {i : Int} (h : 0 ≤ i ∧ i < 32) (x : Vw) : vx32 i x = x := by
  unfold vx32
  rw [vx_true (dec_true h.1), vx_true (dec_true h.2), vx_true (blt_t (by omega)), vx_true (blt_t (by omega))]

theorem stepV_ok {w : ByteArray} {m : M} (h : CG m) (hw : w.size = 4) (x : Vw) : stepV w m x = x := by
  obtain ⟨hm, hn⟩ := h
  have hs := runM_ms (s := w) (j := 1) (fuel := 1) hm (by omega) (by omega)
  have hs : MS (stepM w m) := hs
  unfold stepV
  rw [vx_true (ble_t hm.nI), vx_true (ble_t (by omega)), vx_true (beq_t _), vx_true (beq_t _), vx_true (msB_iff.2 hm), vx_true (codeB_iff.2 (by omega)), vx_true (beq_t _), vx_true (beq_t _),
    vx_true (goodB_iff.2 ⟨hm.mv.mx.X, hm.mv.mx.mem, hm.nO⟩), vx_true (sizeB_iff.2 (by omega)), vx_true (beq_t _), vx_true (beq_t _), eqMB_iff.2 (same_self hs), beq_t, beq_t]
  exact vx_true rfl x

theorem setX_cg {m : M} (h : CG m) {X : Nat → Int} (hX : ∀ r, inR (X r)) (h0 : X 0 = 0) : CG (setX m X) :=
  ⟨⟨⟨⟨hX, h.ms.mv.mx.mem, h.ms.mv.mx.inp⟩, h0, h.ms.mv.f1, h.ms.mv.f2, h.ms.mv.f3, h.ms.mv.f4, h.ms.mv.kd⟩, h.ms.pc, h.ms.nO, h.ms.nI⟩, h.nO⟩

theorem valT_in (p : Pa) : inR (valT p) := by unfold valT; exact ar_range .add (by simp) _ _
theorem err_r1 {q : Tr5} {t : Nat} (h : errQ q t = 0) : 0 ≤ q.a2 t ∧ q.a2 t < 32 := by
  obtain ⟨q1, q2, q3, q4, q5, q6⟩ := dec_enc h
  have := dR1_in (wordL (q.a0 t) (q.a1 t) (q.a2 t) (q.a3 t) (q.a4 t))
  unfold dR1 decV at this
  rw [q1, cond_true] at this
  rw [q4] at this
  exact this

theorem nextX_ok {p : Pa} {i : Int} {q : Tr5} {t : Nat} {X : Nat → Int} (hq : errQ q t = 0) (hX : ∀ r, inR (X r)) (h0 : X 0 = 0) : (∀ r, inR (nextX p i q t X r)) ∧ nextX p i q t X 0 = 0 := by
  unfold nextX
  have hr := err_r1 hq
  cases cm .eql (ar .rem .i64 i 2) 1 with
  | false => exact ⟨hX, h0⟩
  | true =>
    cases hc : cm .gtr (q.a2 t) 0 with
    | false => exact ⟨upd_in hX 17 (ar_range .add (by simp) _ _), upd_zero (k := 17) h0 (by decide) (ar .add .i64 1 (ar .rem .i64 (t : Int) 4))⟩
    | true =>
      have hc : 0 < q.a2 t := by simpa [cm] using hc
      exact ⟨upd_in (upd_in hX _ (valT_in p)) 17 (ar_range .add (by simp) _ _), upd_zero (k := 17) (upd_zero (k := (q.a2 t).toNat) h0 (by omega) (valT p)) (by decide) (ar .add .i64 1 (ar .rem .i64 (t : Int) 4))⟩
theorem tX_ok {p : Pa} {i : Int} {q : Tr5} : ∀ f t X, (∀ r, inR (X r)) → X 0 = 0 → (∀ r, inR (tX p i q f t X r)) ∧ tX p i q f t X 0 = 0
  | 0, _, X, h, h0 => ⟨h, h0⟩
  | f + 1, t, X, h, h0 => by
    unfold tX
    cases hc : cm .neq (errQ q t) 0 with
    | true => exact tX_ok f (t + 1) X h h0
    | false =>
      have : errQ q t = 0 := by simpa [cm] using hc
      exact nextX_ok this h h0
theorem kX_ok {p : Pa} {i : Nat} {g : Nat → Int} : ∀ f k X, (∀ r, inR (X r)) → X 0 = 0 → (∀ r, inR (kX p i g f k X r)) ∧ kX p i g f k X 0 = 0
  | 0, _, X, h, h0 => ⟨h, h0⟩
  | f + 1, k, X, h, h0 => by
    unfold kX
    obtain ⟨h1, h2⟩ := tX_ok (p := sp p) (i := (i : Int)) (q := tryQ p i (g k)) 6 0 X h h0
    exact kX_ok f (k + 1) _ h1 h2

theorem unHO_wk {H : Heap} {nn : List Bool} {p : Pa} {n : Nat} {g : Nat → Int} (h : unHO H = some (nn, p, n, g)) (hn : allB nn = true) : wkH (rmap []) H (hO p n g) := by
  unfold unHO at h
  split at h
  · rename_i q1 q2 q3
    simp only [Option.some.injEq, Prod.mk.injEq] at h
    obtain ⟨rfl, rfl, rfl, rfl⟩ := h
    simp only [allB, Bool.and_true, Bool.and_eq_true, Nat.beq_eq] at hn
    obtain ⟨rfl, rfl, rfl, rfl, rfl, rfl⟩ := hn
    have q3 := cL_spec q3
    obtain ⟨w2, q2, _⟩ := tI_spec q2
    have r0 : ∀ j, rmap [] j = .old j := fun j => rfl
    simp only [wkH, hO, r0, q1, q2, q3, wkB, and_true]
    simp [wkCs, wkC, vP, simL, sim, rmap, rlook]
  · cases h
theorem unQ5_wk {H : Heap} {nn : List Bool} {q : Tr5} (h : unQ5 H = some (nn, q)) (hn : allB nn = true) : wkH (rmap []) H [(2960, .tab 6 q.cols true)] := by
  unfold unQ5 at h
  split at h
  · rename_i q1
    simp only [Option.some.injEq, Prod.mk.injEq] at h
    obtain ⟨rfl, rfl⟩ := h
    simp only [allB, Bool.and_true, Nat.beq_eq] at hn
    subst hn
    have r0 : ∀ j, rmap [] j = .old j := fun j => rfl
    simp only [wkH, r0, q1, wkB, and_true]
    simp [wkCs, wkC, Tr5.cols]
  · cases h
theorem h29_self (p : Pa) (n : Nat) (g : Nat → Int) (m : M) : wkH (rmap []) (h29 p n g m) (h29 p n g m) := by
  simp [wkH, h29, hO, hMac, vP, cpuL, rmap, rlook, Ev.look, wkB, simL, sim, wkCs, wkC]
theorem h29c_self (p : Pa) (n : Nat) (g : Nat → Int) (m : M) (q : Tr5) : wkH (rmap []) (h29c p n g m q) (h29c p n g m q) := by
  simp [wkH, h29c, h29, hO, hMac, vP, cpuL, Tr5.cols, rmap, rlook, Ev.look, wkB, simL, sim, wkCs, wkC]
theorem h29c_29 (p : Pa) (n : Nat) (g : Nat → Int) (m : M) (q : Tr5) : wkH (rmap []) (h29c p n g m q) (h29 p n g m) := by
  simp [wkH, h29c, h29, hO, hMac, vP, cpuL, Tr5.cols, rmap, rlook, Ev.look, wkB, simL, sim, wkCs, wkC]

/-! the tries -/
structure X29c where
  p : Pa
  n : Nat
  g : Nat → Int
  m : M
  q : Tr5
  i : Int
  k : Int
  t : Nat
def ok29c (x : X29c) : Prop := x.t ≤ 6 ∧ CG x.m
def vs29c (x : X29c) : List SV := v29c x.n x.i x.k x.t
def hp29c (x : X29c) : Heap := h29c x.p x.n x.g x.m x.q
def out29c (x : X29c) : Vw := .exit 4 157 [.sl 5 x.n, .ptr 1024 0 0, .ptr 1120 0 0, .int false .i64 x.i, .int false .i64 x.k, .any, .any] (h29 x.p x.n x.g (setX x.m (tX x.p x.i x.q (6 - x.t) x.t x.m.X)))

theorem entry29c (l : List SV) (H : Heap) (T : Tr) (h : lp29c.get l H = some T) (hb : T.leaf ≠ .bad) : ∃ x r, ok29c x ∧ WkV r lp29c.nm l H (vs29c x) (hp29c x) ∧ T.leaf = toLf lp29c (out29c x) := by
  replace h : get29c l H = some T := h
  unfold get29c at h
  split at h
  · rename_i k5 n kp rp cp kc rc cc _ i _ k kq nq _ t
    split at h
    · rename_i nn p n' g nn' m nn'' q hu hu' hu''
      simp only [Option.some.injEq] at h
      subst h
      obtain ⟨hn, he⟩ := needs_ne hb
      rw [he]
      rw [allB_append, allB_append, allB_append] at hn
      simp only [allB, Bool.and_eq_true, Bool.and_true, decide_eq_true_eq, Nat.beq_eq, cgB_iff] at hn
      obtain ⟨⟨rfl, rfl, rfl, rfl, rfl, rfl, rfl, rfl, rfl, rfl, rfl, hm⟩, hnn, hnn', hnn''⟩ := hn
      refine ⟨⟨p, n, g, m, q, i, k, 0⟩, [], ⟨Nat.zero_le _, hm⟩, ⟨rfl, ?_, wkH_append (wkH_append (unHO_wk hu hnn) (macAt_wk hu' hnn' _ _ _ _ _ _ rfl rfl rfl rfl rfl)) (unQ5_wk hu'' hnn''), rfl, rfl⟩, ?_⟩
      · simp [vs29c, v29c, wkF, wkS, sim, rmap, rlook]
      · simp only [exitT_leaf, out29c]
        rfl
    · cases h
  · cases h

theorem evalB_get {E : Env} {P : Program} {res : List ResultVar} {c : Code} {n : Nat} {s s' : Lp} (h1 : s.ks = s'.ks) (h2 : s.len = s'.len) (h3 : s.nm = s'.nm) (l : List SV) (H : Heap) : evalB E P res c n s l H = evalB E P res c n s' l H := by
  unfold evalB; rw [h1, h2, h3]
attribute [local irreducible] evalB Tr.view Tr.viewP stepM strOf in
theorem round29c (x : X29c) (hx : ok29c x) : Round lp29c ok29c (fun x => 6 - x.t) vs29c hp29c out29c x ((evalB ELw Try.prog Try.f29.results.toList (loopOf Try.f29 2) (2 + 1) lp29c (vs29c x) (hp29c x)).view lp29c.ks) := by
  obtain ⟨p, n, g, m, q, i, k, t⟩ := x
  obtain ⟨h0, hm⟩ := hx
  simp only at h0 hm
  have hr := r29c p n g m q i k t
  rw [evalB_get (s := lk29c) (s' := lp29c) rfl rfl rfl] at hr
  refine round_viewP [0, 5, 1024, 1120, 1104, 1105, 1106, 1107, 2960] hr ?_
  have hwd : (wrdQ q t).size = 4 := wordA_size _
  have hex : ∀ (m' : M) (X : Nat → Int), m' = setX m X → tX p i q (6 - t) t m.X = X → Round lp29c ok29c (fun x => 6 - x.t) vs29c hp29c out29c ⟨p, n, g, m, q, i, k, t⟩ (.exit 4 157 (v29c n i k t) (h29c p n g m' q)) := by
    intro m' X hm' hX
    subst hm'
    refine ⟨rfl, [.sl 5 n, .ptr 1024 0 0, .ptr 1120 0 0, .int false .i64 i, .int false .i64 k, .any, .any], h29 p n g (setX m X), [], ?_, rfl, ?_, h29c_29 _ _ _ _ _, rfl, rfl⟩
    · simp only [out29c, hX]
      rfl
    · simp [v29c, wkF, wkS, sim, rmap, rlook]
  by_cases ht : t < 6
  · have e1 : cm .lss (t : Int) 6 = true := by rw [cm_lss']; exact decide_eq_true (by omega)
    obtain ⟨f, hf⟩ : ∃ f, 6 - t = f + 1 := ⟨5 - t, by omega⟩
    have hf2 : 6 - (t + 1) = f := by omega
    rw [e1, cond_true, vx6_ok ht, Int.toNat_natCast, addOne (show t < 9223372036854775807 by omega)]
    have hstep : tX p i q (6 - t) t m.X = bif cm .neq (errQ q t) 0 then tX p i q (6 - (t + 1)) (t + 1) m.X else nextX p i q t m.X := by
      rw [hf, hf2]; rfl
    cases he : cm .neq (errQ q t) 0 with
    | true =>
      rw [he, cond_true] at hstep
      refine ⟨rfl, ⟨p, n, g, m, q, i, k, t + 1⟩, [], ⟨ht, hm⟩, by show 6 - (t + 1) < 6 - t; omega, ?_, rfl, ?_, h29c_self _ _ _ _ _, rfl, rfl⟩
      · simp only [out29c, hstep]
      · simp [vs29c, v29c, wkF, wkS, sim, rmap, rlook]
    | false =>
      have herr : errQ q t = 0 := by simpa [cm] using he
      rw [he, cond_false] at hstep
      have hr := err_r1 herr
      rw [cond_false, vx6_ok ht, vx6_ok ht, vx32_ok hr]
      have hn := nextX_ok (p := p) (i := i) herr hm.ms.mv.mx.X hm.ms.mv.x0
      cases hi : cm .eql (ar .rem .i64 i 2) 1 with
      | false =>
        rw [cond_false, stepV_ok hm hwd]
        refine hex m m.X rfl ?_
        rw [hstep]; unfold nextX; rw [hi]; rfl
      | true =>
        rw [cond_true]
        cases hg : cm .gtr (q.a2 t) 0 with
        | false =>
          have e : nextX p i q t m.X = upd m.X 17 (ar .add .i64 1 (ar .rem .i64 (t : Int) 4)) := by unfold nextX; rw [hi, hg]; rfl
          rw [e] at hn
          rw [cond_false, stepV_ok (setX_cg hm hn.1 hn.2) hwd]
          exact hex _ _ rfl (hstep.trans e)
        | true =>
          have e : nextX p i q t m.X = upd (upd m.X (q.a2 t).toNat (valT p)) 17 (ar .add .i64 1 (ar .rem .i64 (t : Int) 4)) := by unfold nextX; rw [hi, hg]; rfl
          rw [e] at hn
          rw [cond_true, stepV_ok (setX_cg hm hn.1 hn.2) hwd]
          exact hex _ _ rfl (hstep.trans e)
  · have e1 : cm .lss (t : Int) 6 = false := by rw [cm_lss']; exact decide_eq_false (by omega)
    rw [e1, cond_false]
    refine hex m m.X rfl ?_
    rw [show 6 - t = 0 by omega]; rfl

theorem e29c_calls : CallsOk E29c Try.prog := fun f args H nm r h hn => elw_calls f args H nm r h hn
theorem e29b_calls : CallsOk E29b Try.prog := fun f args H nm r h hn => elw_calls f args H nm r h hn
theorem e29a_calls : CallsOk E29a Try.prog := fun f args H nm r h hn => elw_calls f args H nm r h hn
attribute [local irreducible] evalB Tr.view in
theorem loop29c {E : Env} (hE : ∀ S, E.loop 2 S = runLp lp29c S) : LoopOk E Try.prog Try.f29 2 (loopOf Try.f29 2) :=
  loop_okE mixed hE (by decide) ok29c (fun x => 6 - x.t) vs29c hp29c out29c entry29c fun x hx => ⟨ELw, elw_calls, loops_noLoop elw_loop _ _, round29c x hx⟩
theorem nl29b : Code.loops (loopOf Try.f29 1) = 1 := by kernel_rfl
theorem nth29b : nthLoop (loopOf Try.f29 1) 0 = some (loopOf Try.f29 2) := by kernel_rfl
theorem inner29b : LoopsOk E29c Try.prog Try.f29 (loopOf Try.f29 1) 2 := loopsOk_of _ 2 fun m a hm ha => by
  rw [nl29b] at hm
  obtain rfl : m = 0 := by omega
  rw [nth29b] at ha
  simp only [Option.some.injEq] at ha
  subst ha
  exact loop29c fun S => rfl

/-! the ops -/
structure X29b where
  p : Pa
  n : Nat
  g : Nat → Int
  m : M
  i : Nat
  k : Nat
def ok29b (x : X29b) : Prop := x.k ≤ x.n ∧ x.n ≤ 1000 ∧ x.i < x.p.nL ∧ CG x.m
def vs29b (x : X29b) : List SV := v29b x.n x.i x.k
def hp29b (x : X29b) : Heap := h29 x.p x.n x.g x.m
def out29b (x : X29b) : Vw := .exit 2 157 [.sl 5 x.n, .ptr 1024 0 0, .ptr 1120 0 0, .int false .i64 x.i, .any] (h29 x.p x.n x.g (setX x.m (kX x.p x.i x.g (x.n - x.k) x.k x.m.X)))

theorem entry29b (l : List SV) (H : Heap) (T : Tr) (h : lp29b.get l H = some T) (hb : T.leaf ≠ .bad) : ∃ x r, ok29b x ∧ WkV r lp29b.nm l H (vs29b x) (hp29b x) ∧ T.leaf = toLf lp29b (out29b x) := by
  replace h : get29b l H = some T := h
  unfold get29b at h
  split at h
  · rename_i k5 n kp rp cp kc rc cc _ i _ k
    split at h
    · rename_i nn p n' g nn' m hu hu'
      simp only [Option.some.injEq] at h
      subst h
      obtain ⟨hn, he⟩ := needs_ne hb
      rw [he]
      rw [allB_append, allB_append] at hn
      simp only [allB, Bool.and_eq_true, Bool.and_true, decide_eq_true_eq, Nat.beq_eq, cgB_iff, Nat.ble_eq] at hn
      obtain ⟨⟨rfl, rfl, rfl, rfl, rfl, rfl, rfl, rfl, rfl, hm, hi0, hi1, hnl⟩, hnn, hnn'⟩ := hn
      obtain ⟨i, rfl⟩ : ∃ j : Nat, i = (j : Int) := ⟨i.toNat, by omega⟩
      refine ⟨⟨p, n, g, m, i, 0⟩, [], ⟨Nat.zero_le _, hnl, by show i < p.nL; omega, hm⟩, ⟨rfl, ?_, wkH_append (unHO_wk hu hnn) (macAt_wk hu' hnn' _ _ _ _ _ _ rfl rfl rfl rfl rfl), rfl, rfl⟩, ?_⟩
      · simp [vs29b, v29b, wkF, wkS, sim, rmap, rlook]
      · simp only [exitT_leaf, out29b, Int.toNat_natCast]
        rfl
    · cases h
  · cases h

attribute [local irreducible] evalB Tr.view in
theorem round29b (x : X29b) (hx : ok29b x) : Round lp29b ok29b (fun x => x.n - x.k) vs29b hp29b out29b x ((evalB E29c Try.prog Try.f29.results.toList (loopOf Try.f29 1) (1 + 1) lp29b (vs29b x) (hp29b x)).view lp29b.ks) := by
  obtain ⟨p, n, g, m, i, k⟩ := x
  obtain ⟨h0, h1, h2, hm⟩ := hx
  simp only at h0 h1 h2 hm
  have hr := r29b p n g m i k
  rw [show evalB E29c Try.prog Try.f29.results.toList (loopOf Try.f29 1) (1 + 1) lp29b (vs29b ⟨p, n, g, m, i, k⟩) (hp29b ⟨p, n, g, m, i, k⟩) = evalB E29c Try.prog Try.f29.results.toList (loopOf Try.f29 1) 2 lp29b (v29b n i k) (h29 p n g m) from rfl, show lp29b.ks = [1, 2, 5, 6, 7] from rfl, hr]
  by_cases hk : k < n
  · have e1 : cm .lss (k : Int) (n : Int) = true := by rw [cm_lss']; exact decide_eq_true (by omega)
    obtain ⟨f, hf⟩ : ∃ f, n - k = f + 1 := ⟨n - k - 1, by omega⟩
    have hf2 : n - (k + 1) = f := by omega
    rw [e1, cond_true, vxN_ok h2, vxN_ok hk, vx_true (beq_t _), vx_true (cgB_iff.2 hm), vx_true (beq_t _), vx_true (beq_t _), vx_true (beq_t _), Int.toNat_natCast, Int.toNat_natCast, addOne (show k < 9223372036854775807 by omega)]
    have ht := tX_ok (p := sp p) (i := (i : Int)) (q := tryQ p i (g k)) 6 0 m.X hm.ms.mv.mx.X hm.ms.mv.x0
    refine ⟨rfl, ⟨p, n, g, setX m (tX (sp p) i (tryQ p i (g k)) 6 0 m.X), i, k + 1⟩, [], ⟨hk, h1, h2, setX_cg hm ht.1 ht.2⟩, by show n - (k + 1) < n - k; omega, ?_, rfl, ?_, h29_self _ _ _ _, rfl, rfl⟩
    · simp only [out29b, hf, hf2]
      rfl
    · simp [vs29b, v29b, wkF, wkS, sim, rmap, rlook]
  · have e1 : cm .lss (k : Int) (n : Int) = false := by rw [cm_lss']; exact decide_eq_false (by omega)
    rw [e1, cond_false]
    refine ⟨rfl, [.sl 5 n, .ptr 1024 0 0, .ptr 1120 0 0, .int false .i64 i, .any], h29 p n g m, [], ?_, rfl, ?_, h29_self _ _ _ _, rfl, rfl⟩
    · simp only [out29b, show n - k = 0 by omega]
      rfl
    · simp [v29b, wkF, wkS, sim, rmap, rlook]

attribute [local irreducible] evalB Tr.view in
theorem loop29b {E : Env} (hE : ∀ S, E.loop 1 S = runLp lp29b S) : LoopOk E Try.prog Try.f29 1 (loopOf Try.f29 1) :=
  loop_okE mixed hE (by decide) ok29b (fun x => x.n - x.k) vs29b hp29b out29b entry29b fun x hx => ⟨E29c, e29c_calls, inner29b, round29b x hx⟩
theorem nl29a : Code.loops (loopOf Try.f29 0) = 2 := by kernel_rfl
theorem nth29a : nthLoop (loopOf Try.f29 0) 0 = some (loopOf Try.f29 1) := by kernel_rfl
theorem nth29a' : nthLoop (loopOf Try.f29 0) 1 = some (loopOf Try.f29 2) := by kernel_rfl
theorem inner29a : LoopsOk E29b Try.prog Try.f29 (loopOf Try.f29 0) 1 := loopsOk_of _ 1 fun m a hm ha => by
  rw [nl29a] at hm
  rcases m with _ | _ | m
  · rw [nth29a] at ha
    simp only [Option.some.injEq] at ha
    subst ha
    exact loop29b fun S => rfl
  · rw [nth29a'] at ha
    simp only [Option.some.injEq] at ha
    subst ha
    exact loop29c fun S => rfl
  · omega

/-! the instructions -/
structure X29a where
  p : Pa
  n : Nat
  g : Nat → Int
  m : M
  i : Nat
def ok29a (x : X29a) : Prop := x.i ≤ 3 ∧ x.n ≤ 1000 ∧ CG x.m
def vs29a (x : X29a) : List SV := v29a x.n x.i
def hp29a (x : X29a) : Heap := h29 x.p x.n x.g x.m
def out29a (x : X29a) : Vw := .exit 0 157 [.any, .any, .any, .any] []

theorem entry29a (l : List SV) (H : Heap) (T : Tr) (h : lp29a.get l H = some T) (hb : T.leaf ≠ .bad) : ∃ x r, ok29a x ∧ WkV r lp29a.nm l H (vs29a x) (hp29a x) ∧ T.leaf = toLf lp29a (out29a x) := by
  replace h : get29a l H = some T := h
  unfold get29a at h
  split at h
  · rename_i k5 n kp rp cp kc rc cc _ i
    split at h
    · rename_i nn p n' g nn' m hu hu'
      simp only [Option.some.injEq] at h
      subst h
      obtain ⟨hn, he⟩ := needs_ne hb
      rw [he]
      rw [allB_append, allB_append] at hn
      simp only [allB, Bool.and_eq_true, Bool.and_true, decide_eq_true_eq, Nat.beq_eq, cgB_iff, Nat.ble_eq] at hn
      obtain ⟨⟨rfl, rfl, rfl, rfl, rfl, rfl, rfl, rfl, rfl, hm, hnl⟩, hnn, hnn'⟩ := hn
      refine ⟨⟨p, n, g, m, 0⟩, [], ⟨Nat.zero_le _, hnl, hm⟩, ⟨rfl, ?_, wkH_append (unHO_wk hu hnn) (macAt_wk hu' hnn' _ _ _ _ _ _ rfl rfl rfl rfl rfl), rfl, rfl⟩, ?_⟩
      · simp [vs29a, v29a, wkF, wkS, sim, rmap, rlook]
      · simp only [exitT_leaf, out29a]
        rfl
    · cases h
  · cases h

attribute [local irreducible] evalB Tr.view in
theorem round29a (x : X29a) (hx : ok29a x) : Round lp29a ok29a (fun x => 3 - x.i) vs29a hp29a out29a x ((evalB E29b Try.prog Try.f29.results.toList (loopOf Try.f29 0) (0 + 1) lp29a (vs29a x) (hp29a x)).view lp29a.ks) := by
  obtain ⟨p, n, g, m, i⟩ := x
  obtain ⟨h0, h1, hm⟩ := hx
  simp only at h0 h1 hm
  have hr := r29a p n g m i
  rw [show evalB E29b Try.prog Try.f29.results.toList (loopOf Try.f29 0) (0 + 1) lp29a (vs29a ⟨p, n, g, m, i⟩) (hp29a ⟨p, n, g, m, i⟩) = evalB E29b Try.prog Try.f29.results.toList (loopOf Try.f29 0) 1 lp29a (v29a n i) (h29 p n g m) from rfl, show lp29a.ks = [1, 2, 5, 6] from rfl, hr]
  by_cases hc : i < p.nL ∧ i < 3
  · obtain ⟨c1, c2⟩ := hc
    have e : (bif cm .lss (i : Int) (p.nL : Int) then cm .lss (i : Int) 3 else false) = true := by
      rw [cm_lss', cm_lss', decide_eq_true (show (i : Int) < (p.nL : Int) by omega), decide_eq_true (show (i : Int) < 3 by omega)]; rfl
    rw [e, cond_true, vx_true (beq_t _), vx_true (cgB_iff.2 hm), vx_true (dec_true (by omega)), vx_true (dec_true (by omega)), vx_true (ble_t h1), vx_true (beq_t _), vx_true (beq_t _), vx_true (beq_t _), Int.toNat_natCast, addOne (show i < 9223372036854775807 by omega)]
    have ht := kX_ok (p := sp p) (i := i) (g := g) n 0 m.X hm.ms.mv.mx.X hm.ms.mv.x0
    refine ⟨rfl, ⟨p, n, g, setX m (kX (sp p) i g n 0 m.X), i + 1⟩, [], ⟨c2, h1, setX_cg hm ht.1 ht.2⟩, by show 3 - (i + 1) < 3 - i; omega, rfl, rfl, ?_, h29_self _ _ _ _, rfl, rfl⟩
    simp [vs29a, v29a, wkF, wkS, sim, rmap, rlook]
  · have e : (bif cm .lss (i : Int) (p.nL : Int) then cm .lss (i : Int) 3 else false) = false := by
      rw [cm_lss', cm_lss']
      by_cases c1 : i < p.nL
      · have c2 : ¬ (i : Int) < 3 := by have := fun h => hc ⟨c1, h⟩; omega
        simp only [decide_eq_false c2]; cases decide ((i : Int) < (p.nL : Int)) <;> rfl
      · have c2 : ¬ (i : Int) < p.nL := by omega
        simp only [decide_eq_false c2]; rfl
    rw [e, cond_false]
    refine ⟨rfl, [.any, .any, .any, .any], [], [], rfl, rfl, ?_, trivial, rfl, rfl⟩
    simp [v29a, wkF, wkS, sim, rmap, rlook]

attribute [local irreducible] evalB Tr.view in
theorem loop29a : LoopOk E29a Try.prog Try.f29 0 (loopOf Try.f29 0) :=
  loop_okE mixed (fun S => rfl) (by decide) ok29a (fun x => 3 - x.i) vs29a hp29a out29a entry29a fun x hx => ⟨E29b, e29b_calls, inner29a, round29a x hx⟩
theorem fn29 : Try.prog.funcs[29]? = some Try.f29 := by kernel_rfl
theorem b29 : Try.f29.body = some (bodyOf Try.f29) := by kernel_rfl
theorem n29 : (Try.f29.name == "runtime.NumGoroutine") = false := by kernel_rfl
theorem nl29 : Code.loops (bodyOf Try.f29) = 3 := by kernel_rfl
theorem nth29x : nthLoop (bodyOf Try.f29) 0 = some (loopOf Try.f29 0) := by kernel_rfl
theorem nth29y : nthLoop (bodyOf Try.f29) 1 = some (loopOf Try.f29 1) := by kernel_rfl
theorem nth29z : nthLoop (bodyOf Try.f29) 2 = some (loopOf Try.f29 2) := by kernel_rfl
theorem loops29 : LoopsOk E29a Try.prog Try.f29 (bodyOf Try.f29) 0 := loopsOk_of _ 0 fun m a hm ha => by
  rw [nl29] at hm
  rcases m with _ | _ | _ | m
  · rw [nth29x] at ha
    simp only [Option.some.injEq] at ha
    subst ha
    exact loop29a
  · rw [nth29y] at ha
    simp only [Option.some.injEq] at ha
    subst ha
    exact loop29b fun S => rfl
  · rw [nth29z] at ha
    simp only [Option.some.injEq] at ha
    subst ha
    exact loop29c fun S => rfl
  · omega

noncomputable def paB (p : Pa) : Bool := @decide (PaOk p) (Classical.propDecidable _)
theorem paB_iff {p : Pa} : paB p = true ↔ PaOk p := @decide_eq_true_iff _ (Classical.propDecidable _)
attribute [local irreducible] evalF Tr.bare machM in
theorem law29 {p : Pa} (h : PaOk p) {n : Nat} (hn : n ≤ 1000) (g : Nat → Int) : (evalF E29a Try.prog 29 [.agg (vP p), .sl 5 n] (hP p ++ [(5, .tab n [.ints .i64 g] false)]) 1024).bare = .ret (.bool true true) [] := by
  rw [t29]
  cases hv : hvP p with
  | true => rfl
  | false =>
    have hs := hv_small h hv
    have hm := mach_ms h (show p.nI ≤ 2000 by omega)
    have hnO : (machM p).nO = 0 := by with_unfolding_all rfl
    rw [cond_false, bx_true (ble_t (by omega)), lnP_ok, bx_true (beq_t _), bx_true (cgB_iff.2 ⟨hm, hnO⟩), bx_true (ble_t hn), bx_true (beq_t _), bx_true (beq_t _)]

noncomputable def g29 : List SV → Heap → Option R
  | [.agg l, .sl k5 n], [b0, b1, b2, b3, b4, (j5, .tab t [.ints .i64 g] _)] => match unP l [b0, b1, b2, b3, b4], Nat.beq k5 5 && Nat.beq j5 5 with
    | some (nn, p), true => some ⟨paB p :: Nat.beq n t :: Nat.ble n 1000 :: nn, .bool true true, []⟩
    | _, _ => none
  | _, _ => none
attribute [local irreducible] evalF Tr.bare Tr.leaf in
theorem spec29 : SpecOk Try.prog 29 (specOf g29) := spec_okU false mixed fn29 b29 n29 g29 fun a0 H0 r hg hn => by
  unfold g29 at hg
  split at hg
  · rename_i l k5 n b0 b1 b2 b3 b4 j5 t g _
    split at hg
    · rename_i nn p hm hk
      simp only [Bool.and_eq_true, Nat.beq_eq] at hk
      obtain ⟨rfl, rfl⟩ := hk
      simp only [Option.some.injEq] at hg
      subst hg
      simp only [allB, Bool.and_eq_true, Nat.beq_eq, Nat.ble_eq, paB_iff] at hn
      obtain ⟨h1, rfl, h2, hnn⟩ := hn
      obtain ⟨rfl, hr⟩ := unP_all hm hnn
      refine ⟨E29a, [.agg (vP p), .sl 5 n], [], e29a_calls, loops29, fun h => h, fun σ => rfl, fun k hk => (by cases hk), ?_⟩
      have e : roH [] [b0, b1, b2, b3, b4, (5, .tab n [.ints .i64 g] true)] = hP p ++ [(5, .tab n [.ints .i64 g] false)] := by
        have := roH_nil_append [b0, b1, b2, b3, b4] [(5, .tab n [.ints .i64 g] true)]
        rw [hr] at this
        exact this
      have e2 : ∀ b, roH [] [b0, b1, b2, b3, b4, (5, .tab n [.ints .i64 g] b)] = hP p ++ [(5, .tab n [.ints .i64 g] false)] := fun b => e
      rw [e2]
      exact gives_giv (gives_tree (law29 h1 h2 g) (gives_ret fun σ σ' => by simp only [den]))
    · cases hg
  · cases hg

/-- the environment of the laws of ops -/
noncomputable def EOp : Env := envOf [(29, specOf g29)] noLoop
theorem eop_calls : CallsOk EOp Try.prog := (SpecsOk.cons spec29 SpecsOk.nil).calls noLoop
theorem eop_loop : EOp.loop = noLoop := rfl

end Go.Rv
end

section
set_option linter.unusedVariables false
open Go Go.Ev Go.Proofs
namespace Go.Rv

/-! refused runs -/
noncomputable def E25y : Env := ⟨ET.call, noLoop⟩
theorem e25y_calls : CallsOk E25y Try.prog := fun f args H nm r h hn => et_calls f args H nm r h hn
/-- a loop that is not told -/
theorem l25y (s : ByteArray) (m : M) (fuel : Int) : (evalF E25 Try.prog 25 [.str s, .agg (cpuL m 0 1 2 3), .int false .i64 fuel] (hV m) 1024).bare =
    bx (isB m) (bif (bif !mayB s m then true else bif cm .lss fuel 0 then true else cm .gtr fuel 2000000) then .ret (.tup [.agg zeroV, .int true .i64 0, .int true .i64 1]) [] else
      bx (Nat.beq m.nI m.nI) (bx (Nat.ble m.nI 100000000) (bx (Nat.beq m.nO m.nO) (bx (Nat.ble m.nO 100000000)
      (bx (decide (0 ≤ ar .quo .i64 (s.size : Int) 4)) (bx (decide (ar .quo .i64 (s.size : Int) 4 ≤ ar .quo .i64 (s.size : Int) 4)) (bx (Nat.ble (nWd s * 40) 140737488355328) (bx (Nat.ble (nWd s) 140737488355328) .bad)))))))) := by kernel_rfl
attribute [local irreducible] evalF Tr.bare Tr.leaf in
theorem spec25x : SpecOk Try.prog 25 (specOf g25x) := spec_okU false mixed fn25 b25 n25 g25x fun a0 H0 r hg hn => by
  unfold g25x at hg
  split at hg
  · rename_i s l _ fuel
    split at hg
    · rename_i nn m hm
      simp only [Option.some.injEq] at hg
      subst hg
      simp only [allB, Bool.and_eq_true, refB_iff] at hn
      obtain ⟨h1, hnn⟩ := hn
      obtain ⟨rfl, hr⟩ := unW_all hm hnn
      refine ⟨E25, [.str s, .agg (cpuL m 0 1 2 3), .int false .i64 fuel], [], e25_calls, loops25, fun h => h, fun σ => by simp only [denL, den], fun k hk => (by cases hk), ?_⟩
      rw [hr]
      refine gives_giv (gives_tree (l25y s m fuel) ?_)
      have e : (bif !mayB s m then true else bif cm .lss fuel 0 then true else cm .gtr fuel 2000000) = true := by
        cases mayB s m with
        | false => rfl
        | true =>
          rcases h1 with h | h
          · have : cm .lss fuel 0 = true := by rw [cm_lss']; exact decide_eq_true h
            rw [this]; rfl
          · have : cm .gtr fuel 2000000 = true := by simp only [cm]; exact decide_eq_true h
            rw [this]; cases cm .lss fuel 0 <;> rfl
      rw [bx_true (isB_t m), e, cond_true]
      exact gives_ret fun σ σ' => rfl
    · cases hg
  · cases hg

theorem bad_ok (K : Nat) (hl : ∀ s, (evalF ET Try.prog 19 [.str s, .agg (badL K)] (badH K) 1024).bare = .ret (.tup [.agg zeroV, .int true .i64 1]) []) : SpecOk Try.prog 19 (specOf (g19x K)) := spec_okU false mixed fn19 b19 n19 (g19x K) fun a0 H0 r hg hn => by
  unfold g19x at hg
  split at hg
  · rename_i s l
    simp only [Option.some.injEq] at hg
    subst hg
    simp only [allB, Bool.and_true, isBad_iff] at hn
    obtain ⟨rfl, hr⟩ := hn
    refine ⟨ET, [.str s, .agg (badL K)], [], et_calls, loops_noLoop et_loop _ _, fun h => h, fun σ => rfl, fun k hk => (by cases hk), ?_⟩
    rw [hr]
    exact gives_giv (gives_tree (hl s) (gives_ret fun σ σ' => rfl))
  · cases hg
theorem spec19x : ∀ K, K < 4 → SpecOk Try.prog 19 (specOf (g19x K))
  | 0, _ => bad_ok 0 l19x0
  | 1, _ => bad_ok 1 l19x1
  | 2, _ => bad_ok 2 l19x2
  | 3, _ => bad_ok 3 l19x3
  | K + 4, h => absurd h (by omega)

theorem named2126 : named Try.prog [21, 26] = true := by kernel_rfl
theorem elx_calls : CallsOk ELx Try.prog := (inlF_calls ((SpecsOk.cons spec18M (SpecsOk.cons spec24 (SpecsOk.cons spec25x (SpecsOk.cons specEq (SpecsOk.cons spec27 SpecsOk.nil))))).calls noLoop) mixed named2126 rfl rfl 1).1
theorem elx_loop : ELx.loop = noLoop := rfl
theorem elb_calls (K : Nat) (h : K < 4) : CallsOk (ELb K) Try.prog := (inlF_calls ((SpecsOk.cons (spec19x K h) SpecsOk.nil).calls noLoop) mixed named21 rfl rfl 1).1
theorem elb_loop (K : Nat) : (ELb K).loop = noLoop := rfl

/-! loop 0 -/
structure X4R where
  p : Pa
  s : ByteArray
  k : Nat
def ok4R (x : X4R) : Prop := x.k ≤ 5 ∧ RunsG x.p x.s
def vs4R (x : X4R) : List SV := v4R x.s x.k
def hp4R (x : X4R) : Heap := h4 x.p
def out4R (x : X4R) : Vw := .exit 0 130 [.any, .str x.s, .any, .any] []

theorem unHP_wk {H : Heap} {nn : List Bool} {p : Pa} {F : Nat → Int} (h : unHP H = some (nn, p)) (hn : allB nn = true) (hF : tI .i64 true H 1136 = some (5, F)) (he : ∀ i, i < 5 → F i = fuelF i) : wkH (rmap []) H (h4 p) := by
  unfold unHP at h
  split at h
  · rename_i q0 q1 q2 q3 q4 q5
    simp only [Option.some.injEq, Prod.mk.injEq] at h
    obtain ⟨rfl, rfl⟩ := h
    simp only [allB, Bool.and_true, Bool.and_eq_true, Nat.beq_eq] at hn
    obtain ⟨rfl, rfl, rfl, rfl, rfl, rfl, rfl, rfl, rfl, rfl⟩ := hn
    obtain ⟨w2, q2, _⟩ := tI_spec q2
    obtain ⟨w3, q3, _⟩ := tI_spec q3
    obtain ⟨w4, q4, _⟩ := tI_spec q4
    obtain ⟨w6, q6, g6⟩ := tI_spec hF
    have q5 := cL_spec q5
    have r0 : ∀ j, rmap [] j = .old j := fun j => rfl
    simp only [wkH, h4, hP, hP3, List.cons_append, List.nil_append, r0, q0, q1, q2, q3, q4, q5, q6, wkB, and_true]
    refine ⟨?_, ?_, ?_, ?_, ?_, ?_, ⟨Nat.le_refl _, fun _ => g6 rfl, ?_⟩⟩
    all_goals simp [wkCs, wkC, vP, simL, sim, rmap, rlook]
    exact he
  · cases h
theorem h4_self (p : Pa) : wkH (rmap []) (h4 p) (h4 p) := by
  simp [wkH, h4, hP, hP3, vP, rmap, rlook, Ev.look, wkB, simL, sim, wkCs, wkC]

theorem entry4R (l : List SV) (H : Heap) (T : Tr) (h : lp4R.get l H = some T) (hb : T.leaf ≠ .bad) : ∃ x r, ok4R x ∧ WkV r lp4R.nm l H (vs4R x) (hp4R x) ∧ T.leaf = toLf lp4R (out4R x) := by
  replace h : get4R l H = some T := h
  unfold get4R at h
  split at h
  · rename_i kp rp cp s kf nf _ k
    split at h
    · rename_i nn p n5 F hu hF
      simp only [Option.some.injEq] at h
      subst h
      obtain ⟨hn, he⟩ := needs_ne hb
      rw [he]
      rw [allB_append] at hn
      simp only [allB, Bool.and_eq_true, Bool.and_true, decide_eq_true_eq, Nat.beq_eq, eqA_iff, runsB_iff] at hn
      obtain ⟨⟨rfl, rfl, rfl, rfl, rfl, rfl, hE, rfl, hg⟩, hnn⟩ := hn
      refine ⟨⟨p, s, 0⟩, [], ⟨Nat.zero_le _, hg⟩, ⟨rfl, ?_, unHP_wk hu hnn hF hE, rfl, rfl⟩, ?_⟩
      · simp [vs4R, v4R, wkF, wkS, sim, rmap, rlook]
      · simp only [exitT_leaf, out4R]
        rfl
    · cases h
  · cases h

theorem pcM_ms {p : Pa} (h : PaOk p) (hn : p.nI ≤ 2000) : MS (pcM p) := by
  have := mach_ms h hn
  exact ⟨⟨⟨this.mv.mx.X, this.mv.mx.mem, this.mv.mx.inp⟩, this.mv.x0, this.mv.f1, this.mv.f2, this.mv.f3, this.mv.f4, this.mv.kd⟩, h.pc, this.nO, this.nI⟩

theorem vx5_ok {i : Nat} (h : i < 5) (x : Vw) : vx5 (i : Int) x = x := by
  unfold vx5
  rw [vx_true (dec_true (by omega)), vx_true (dec_true (by omega)), Int.toNat_natCast, vx_true (blt_t h), vx_true (blt_t h)]

attribute [local irreducible] runM stepsM in
theorem goV_ok {s : ByteArray} {m : M} {k : Nat} {f : Int} (hm : MS m) (hO : m.nO = 0) (hs : s.size ≤ 1000) (hk : k < 5) (hf : 0 ≤ f ∧ f ≤ 100) (n r : Vw) : goV s m (k : Int) f n r = n := by
  have hgo : goB s m f = true := goB_iff.2 ⟨hm, by omega, rfl, noC_ok _ _, hf.1, by omega, by omega⟩
  have hR : MS (runM s f.toNat m) := runM_ms (fuel := f) hm (by omega) (by omega)
  have e1 : nmB f = false := by
    unfold nmB
    have a : cm .geq f 0 = true := by rw [cm_geq']; exact decide_eq_true hf.1
    have b : cm .leq f 2000000 = true := by simp only [cm]; exact decide_eq_true (by omega)
    rw [a, b]; rfl
  have e2 : cm .neq (stepsM s f.toNat m : Int) (stepsM s f.toNat m : Int) = false := by simp [cm]
  unfold goV
  rw [vx_true (ble_t hm.nI), vx_true (beq_t _), vx5_ok hk, vx_true hgo, vx_true (beq_t _), vx5_ok hk, e1, cond_false, vx_true (ble_t hm.nI), vx_true (beq_t _), vx5_ok hk, vx_true hgo, vx_true (beq_t _),
    e2, eqMB_iff.2 (same_self hR), eqMB_iff.2 (same_self hm), beq_t, beq_t, beq_t, beq_t]
  exact vx_true rfl _
theorem goX_ok {s : ByteArray} {m : M} {k : Nat} {f : Int} (hm : MS m) (hk : k < 5) (hf : f < 0 ∨ 2000000 < f) (n r : Vw) : goX s m (k : Int) f n r = n := by
  have e1 : nmB f = true := by
    unfold nmB
    rcases hf with h | h
    · have a : cm .geq f 0 = false := by rw [cm_geq']; exact decide_eq_false (by omega)
      rw [a]; rfl
    · have b : cm .leq f 2000000 = false := by simp only [cm]; exact decide_eq_false (by omega)
      rw [b]; cases cm .geq f 0 <;> rfl
  unfold goX
  rw [vx_true (ble_t hm.nI), vx_true (beq_t _), vx5_ok hk, vx_true (refB_iff.2 hf), vx_true (beq_t _), vx5_ok hk, e1, cond_true]
theorem lnV_ok (p : Pa) (x : Vw) : lnV p x = x := by
  unfold lnV
  rw [vx_true (beq_t _), vx_true (beq_t _), vx_true (beq_t _), vx_true (beq_t _), vx_true (beq_t _)]

theorem fuel_cases (k : Nat) (hk : k < 5) : (0 ≤ fuelF k ∧ fuelF k ≤ 100) ∨ (fuelF k < 0 ∨ 2000000 < fuelF k) := by
  match k, hk with
  | 0, _ => left; exact ⟨by decide, by decide⟩
  | 1, _ => left; exact ⟨by decide, by decide⟩
  | 2, _ => left; exact ⟨by decide, by decide⟩
  | 3, _ => right; left; decide
  | 4, _ => right; right; decide
  | k + 5, h => omega

attribute [local irreducible] evalB Tr.view Tr.viewP goV goX machM pcM in
theorem round4R (x : X4R) (hx : ok4R x) : ∃ E' : Env, CallsOk E' Try.prog ∧ LoopsOk E' Try.prog Try.f4 (loopOf Try.f4 0) (0 + 1) ∧
    Round lp4R ok4R (fun x => 5 - x.k) vs4R hp4R out4R x ((evalB E' Try.prog Try.f4.results.toList (loopOf Try.f4 0) (0 + 1) lp4R (vs4R x) (hp4R x)).view lp4R.ks) := by
  obtain ⟨p, s, k⟩ := x
  obtain ⟨h0, hg⟩ := hx
  simp only at h0 hg
  have hm := mach_ms hg.pa hg.nI
  have hm' := pcM_ms hg.pa hg.nI
  have hO : (machM p).nO = 0 := by with_unfolding_all rfl
  have hO' : (pcM p).nO = 0 := by with_unfolding_all rfl
  have hnext : ∀ (hk : k < 5), Round lp4R ok4R (fun x => 5 - x.k) vs4R hp4R out4R ⟨p, s, k⟩ (.norm 130 (v4R s ((k + 1 : Nat) : Int)) (h4 p)) := by
    intro hk
    refine ⟨rfl, ⟨p, s, k + 1⟩, [], ⟨hk, hg⟩, by show 5 - (k + 1) < 5 - k; omega, rfl, rfl, ?_, h4_self p, rfl, rfl⟩
    simp [vs4R, v4R, wkF, wkS, sim, rmap, rlook]
  by_cases hk : k < 5
  · have e1 : cm .lss (k : Int) 5 = true := by rw [cm_lss']; exact decide_eq_true (by omega)
    have e2 := addOne (show k < 9223372036854775807 by omega)
    rcases fuel_cases k hk with hf | hf
    · refine ⟨ELw, elw_calls, loops_noLoop elw_loop _ _, ?_⟩
      have hr := r4g p s k
      rw [evalB_get (s := lk4R) (s' := lp4R) rfl rfl rfl] at hr
      refine round_viewP js4 hr ?_
      rw [e1, cond_true, vx_true (ble_t (by have := hg.nI; omega)), lnV_ok, Int.toNat_natCast, e2, goV_ok hm' hO' hg.size hk hf, goV_ok hm hO hg.size hk hf]
      cases p.raw <;> exact hnext hk
    · refine ⟨ELx, elx_calls, loops_noLoop elx_loop _ _, ?_⟩
      have hr := r4x p s k
      rw [evalB_get (s := lk4R) (s' := lp4R) rfl rfl rfl] at hr
      refine round_viewP js4 hr ?_
      rw [e1, cond_true, vx_true (ble_t (by have := hg.nI; omega)), lnV_ok, Int.toNat_natCast, e2, goX_ok hm' hk hf, goX_ok hm hk hf]
      cases p.raw <;> exact hnext hk
  · have e1 : cm .lss (k : Int) 5 = false := by rw [cm_lss']; exact decide_eq_false (by omega)
    refine ⟨ELw, elw_calls, loops_noLoop elw_loop _ _, ?_⟩
    have hr := r4g p s k
    rw [evalB_get (s := lk4R) (s' := lp4R) rfl rfl rfl] at hr
    refine round_viewP js4 hr ?_
    rw [e1, cond_false]
    refine ⟨rfl, [.any, .str s, .any, .any], [], [], rfl, rfl, ?_, trivial, rfl, rfl⟩
    simp [v4R, wkF, wkS, sim, rmap, rlook]

/-! loop 1 -/
structure X4b where
  s : ByteArray
  k : Nat
def ok4b (x : X4b) : Prop := x.k ≤ 4
def vs4b (x : X4b) : List SV := v4b x.s x.k
def hp4b (x : X4b) : Heap := h4b
def out4b (x : X4b) : Vw := .exit 2 130 [.any, .any, .any] []

theorem quadB_wk {H : Heap} {a nX : Nat} {X : Nat → Int} {nn : List Bool} (h : quadB H a nX X = some nn) (hn : allB nn = true) : wkH (rmap []) H (hQuad a nX X true) := by
  unfold quadB at h
  split at h
  · rename_i q1 q2 q3 q4
    simp only [Option.some.injEq] at h
    subst h
    simp only [allB, Bool.and_true, Bool.and_eq_true, Nat.beq_eq, eqA_iff] at hn
    obtain ⟨rfl, rfl, rfl, rfl, h1, h2⟩ := hn
    obtain ⟨w1, q1, g1⟩ := tI_spec q1
    obtain ⟨w2, q2, g2⟩ := tI_spec q2
    obtain ⟨w3, q3, g3⟩ := tI_spec q3
    obtain ⟨w4, q4, g4⟩ := tI_spec q4
    have r0 : ∀ j, rmap [] j = .old j := fun j => rfl
    simp only [wkH, hQuad, r0, q1, q2, q3, q4, wkB, and_true]
    refine ⟨⟨Nat.le_refl _, fun _ => g1 rfl, ?_⟩, ⟨Nat.le_refl _, fun _ => g2 rfl, ?_⟩, ⟨Nat.le_refl _, fun _ => g3 rfl, ?_⟩, ⟨Nat.le_refl _, fun _ => g4 rfl, ?_⟩⟩
    · exact ⟨⟨rfl, h1⟩, trivial⟩
    · exact ⟨⟨rfl, h2⟩, trivial⟩
    · exact ⟨⟨rfl, fun r hr => by omega⟩, trivial⟩
    · exact ⟨⟨rfl, fun r hr => by omega⟩, trivial⟩
  · cases h

theorem entry4b (l : List SV) (H : Heap) (T : Tr) (h : lp4b.get l H = some T) (hb : T.leaf ≠ .bad) : ∃ x r, ok4b x ∧ WkV r lp4b.nm l H (vs4b x) (hp4b x) ∧ T.leaf = toLf lp4b (out4b x) := by
  replace h : get4b l H = some T := h
  unfold get4b at h
  split at h
  · rename_i s kb nb _ k
    split at h
    · rename_i n1 n2 n3 n4 lb u1 u2 u3 u4 u5
      simp only [Option.some.injEq] at h
      subst h
      obtain ⟨hn, he⟩ := needs_ne hb
      rw [he]
      rw [allB_append, allB_append, allB_append, allB_append] at hn
      simp only [allB, Bool.and_eq_true, Bool.and_true, decide_eq_true_eq, Nat.beq_eq] at hn
      obtain ⟨⟨rfl, rfl, rfl, hl⟩, hn1, hn2, hn3, hn4⟩ := hn
      refine ⟨⟨s, 0⟩, [], Nat.zero_le _, ⟨rfl, ?_, ?_, rfl, rfl⟩, ?_⟩
      · simp [vs4b, v4b, wkF, wkS, sim, rmap, rlook]
      · refine wkH_append (quadB_wk u1 hn1) (wkH_append (quadB_wk u2 hn2) (wkH_append (quadB_wk u3 hn3) (wkH_append (quadB_wk u4 hn4) ?_)))
        have u5 := cL_spec u5
        have r0 : ∀ j, rmap [] j = .old j := fun j => rfl
        simp only [wkH, r0, u5, wkB, and_true]
        exact eqL_sim hl
      · simp only [exitT_leaf, out4b]
        rfl
    · cases h
  · cases h

theorem h4b_self : wkH (rmap []) h4b h4b := by
  simp [wkH, h4b, hQuad, badV, badN, rmap, rlook, Ev.look, wkB, simL, sim, wkCs, wkC]

attribute [local irreducible] evalB Tr.view Tr.viewP h4b in
theorem round4b (x : X4b) (hx : ok4b x) : ∃ E' : Env, CallsOk E' Try.prog ∧ LoopsOk E' Try.prog Try.f4 (loopOf Try.f4 1) (1 + 1) ∧
    Round lp4b ok4b (fun x => 4 - x.k) vs4b hp4b out4b x ((evalB E' Try.prog Try.f4.results.toList (loopOf Try.f4 1) (1 + 1) lp4b (vs4b x) (hp4b x)).view lp4b.ks) := by
  obtain ⟨s, k⟩ := x
  have hk : k ≤ 4 := hx
  have hnext : ∀ (j : Nat) (hj : j < 4) (i : Int), i = ((j + 1 : Nat) : Int) → Round lp4b ok4b (fun x => 4 - x.k) vs4b hp4b out4b ⟨s, j⟩ (.norm 130 (v4b s i) h4b) := by
    intro j hj i hi
    subst hi
    refine ⟨rfl, ⟨s, j + 1⟩, [], hj, by show 4 - (j + 1) < 4 - j; omega, rfl, rfl, ?_, h4b_self, by with_unfolding_all rfl, by with_unfolding_all rfl⟩
    simp [vs4b, v4b, wkF, wkS, sim, rmap, rlook]
  match k, hk with
  | 0, _ =>
    refine ⟨ELb 0, elb_calls 0 (by decide), loops_noLoop (elb_loop 0) _ _, ?_⟩
    have hr := r4b0 s
    rw [evalB_get (s := lk4b) (s' := lp4b) rfl rfl rfl] at hr
    refine round_viewP js4b hr ?_
    rw [vx_true (isBad_iff.2 ⟨rfl, rfl⟩)]
    exact hnext 0 (by decide) 1 rfl
  | 1, _ =>
    refine ⟨ELb 1, elb_calls 1 (by decide), loops_noLoop (elb_loop 1) _ _, ?_⟩
    have hr := r4b1 s
    rw [evalB_get (s := lk4b) (s' := lp4b) rfl rfl rfl] at hr
    refine round_viewP js4b hr ?_
    rw [vx_true (isBad_iff.2 ⟨rfl, rfl⟩)]
    exact hnext 1 (by decide) 2 rfl
  | 2, _ =>
    refine ⟨ELb 2, elb_calls 2 (by decide), loops_noLoop (elb_loop 2) _ _, ?_⟩
    have hr := r4b2 s
    rw [evalB_get (s := lk4b) (s' := lp4b) rfl rfl rfl] at hr
    refine round_viewP js4b hr ?_
    rw [vx_true (isBad_iff.2 ⟨rfl, rfl⟩)]
    exact hnext 2 (by decide) 3 rfl
  | 3, _ =>
    refine ⟨ELb 3, elb_calls 3 (by decide), loops_noLoop (elb_loop 3) _ _, ?_⟩
    have hr := r4b3 s
    rw [evalB_get (s := lk4b) (s' := lp4b) rfl rfl rfl] at hr
    refine round_viewP js4b hr ?_
    rw [vx_true (isBad_iff.2 ⟨rfl, rfl⟩)]
    exact hnext 3 (by decide) 4 rfl
  | 4, _ =>
    refine ⟨ELb 0, elb_calls 0 (by decide), loops_noLoop (elb_loop 0) _ _, ?_⟩
    have hr := r4b4 s
    rw [evalB_get (s := lk4b) (s' := lp4b) rfl rfl rfl] at hr
    refine round_viewP js4b hr ?_
    refine ⟨rfl, [.any, .any, .any], [], [], rfl, rfl, ?_, trivial, rfl, rfl⟩
    simp [v4b, wkF, wkS, sim, rmap, rlook]
  | k + 5, h => omega

theorem e4r_calls : CallsOk E4R Try.prog := fun f args H nm r h hn => elw_calls f args H nm r h hn
attribute [local irreducible] evalB Tr.view in
theorem loop4R : LoopOk E4R Try.prog Try.f4 0 (loopOf Try.f4 0) :=
  loop_okE mixed (fun S => rfl) (by decide) ok4R (fun x => 5 - x.k) vs4R hp4R out4R entry4R round4R
attribute [local irreducible] evalB Tr.view in
theorem loop4b : LoopOk E4R Try.prog Try.f4 1 (loopOf Try.f4 1) :=
  loop_okE mixed (fun S => rfl) (by decide) ok4b (fun x => 4 - x.k) vs4b hp4b out4b entry4b round4b
theorem fn4R : Try.prog.funcs[4]? = some Try.f4 := by kernel_rfl
theorem b4R : Try.f4.body = some (bodyOf Try.f4) := by kernel_rfl
theorem nl4R : Code.loops (bodyOf Try.f4) = 2 := by kernel_rfl
theorem nth4Ra : nthLoop (bodyOf Try.f4) 0 = some (loopOf Try.f4 0) := by kernel_rfl
theorem nth4Rb : nthLoop (bodyOf Try.f4) 1 = some (loopOf Try.f4 1) := by kernel_rfl
theorem loops4R : LoopsOk E4R Try.prog Try.f4 (bodyOf Try.f4) 0 := loops2 nl4R
  (fun a ha => by rw [nth4Ra] at ha; simp only [Option.some.injEq] at ha; subst ha; exact loop4R)
  (fun a ha => by rw [nth4Rb] at ha; simp only [Option.some.injEq] at ha; subst ha; exact loop4b)

attribute [local irreducible] evalF Tr.bare machM codeP in
theorem law4R {p : Pa} (h : PaOk p) : (evalF E4R Try.prog 4 [.agg (vP p)] (hP p) 1024).bare = .ret (.bool true true) [] := by
  rw [t4R]
  cases hv : hvP p with
  | true => rfl
  | false =>
    have hs := hv_small h hv
    have hc := codeP_size p
    have hA : ∀ n (g : Nat → Int), eqA n g g = true := fun n g => eqA_iff.2 fun _ _ => rfl
    have z1 : eqA 5 (nth [0, 7, 60, -1, 2000001] 0) fuelF = true := hA 5 fuelF
    have z2 : eqA 31 (fun _ => 0) zerX = true := hA 31 zerX
    have z3 : eqA 32 (upd (fun _ => 0) 0 1) oneX = true := hA 32 oneX
    have z4 : eqA 32 (fun _ => 0) zerX = true := hA 32 zerX
    have z5 : eqA 196608 (fun _ => 0) (fun _ => 0) = true := hA _ _
    rw [cond_false, lnP_ok, bx_true z1, bx_true (runsB_iff.2 ⟨h, by omega, by omega⟩), lnP_ok, bx_true z2, bx_true z5, bx_true z3, bx_true z5, bx_true z4, bx_true z5, bx_true z4, bx_true z5]

end Go.Rv
end
