/-
  xm: one step of each op: its loops, what they come to.
-/
import Derived.Test.YtihfbhoodofhoaaGreatC17
import Derived.Test.YtihfbhoodofhoaaGreatB11
set_option linter.unusedSimpArgs false
set_option linter.unusedVariables false
section
set_option linter.unusedVariables false
open Go Go.Ev Go.Proofs
namespace Go.Rv

structure Tr5 where
  a0 : Nat → Int
  a1 : Nat → Int
  a2 : Nat → Int
  a3 : Nat → Int
  a4 : Nat → Int
def Tr5.cols (q : Tr5) : List Col := [.ints .i64 q.a0, .ints .i64 q.a1, .ints .i64 q.a2, .ints .i64 q.a3, .ints .i64 q.a4]
/-- an ask, whole -/
structure Za where
  k : Ka
  p : Pa
  F : Int
def hO (z : Za) (n : Nat) (g : Nat → Int) : Heap := [(0, .tab z.k.nK [.ints .i64 z.k.k0, .ints .i64 z.k.k1, .ints .i64 z.k.k2, .ints .i64 z.k.k3, .ints .i64 z.k.k4] false), (7, .tab n [.ints .i64 g] false), (1024, .cells (vAk z.k z.p z.F))]
def h23 (z : Za) (n : Nat) (g : Nat → Int) (m : M) : Heap := hO z n g ++ hMac m 1120 1104 1105 1106 1107
def v23b (n : Nat) (i k : Int) : List SV := [.sl 7 n, .ptr 1024 0 0, .ptr 1120 0 0, .int false .i64 i, .int false .i64 k]
def lk23b : Lp := ⟨218, [1, 2, 5, 6, 7], 2100, fun _ _ => none⟩
def h23c (z : Za) (n : Nat) (g : Nat → Int) (m : M) (q : Tr5) : Heap := h23 z n g m ++ [(4004, .tab 11 q.cols true)]
def v23c (n : Nat) (i k t : Int) : List SV := [.sl 7 n, .ptr 1024 0 0, .ptr 1120 0 0, .int false .i64 i, .int false .i64 k, .sl 4004 11, .int false .i64 t]
def lk23c : Lp := ⟨218, [1, 2, 5, 6, 7, 9, 10], 4100, fun _ _ => none⟩

/-- what is tried: the ask's instruction with an op, in eleven ways -/
def tryQ (z : Za) (i : Nat) (op : Int) : Tr5 :=
  ⟨nth [op, op, op, op, op, op, op, op, op, op, op] 0, nth [z.k.k1 i, 8, 4, 8, z.k.k1 i, 8, 4, 4, z.k.k1 i, 4, 4] 0,
   nth [z.k.k2 i, z.k.k2 i, z.k.k2 i, z.k.k2 i, z.k.k2 i, z.k.k2 i, ar .add .i64 4 (ar .rem .i64 (z.k.k2 i) 2), z.k.k2 i, 0, 0, 0] 0, nth [z.k.k3 i, z.k.k3 i, z.k.k3 i, z.k.k3 i, 0, 0, 0, 0, 0, 0, 0] 0,
   nth [z.k.k4 i, ar .rem .i64 (z.k.k4 i) 128, ar .rem .i64 (z.k.k4 i) 4096, 0, 0, z.k.k4 i, ar .rem .i64 (z.k.k4 i) 128, ar .add .i64 12 (ar .rem .i64 (z.k.k3 i) 4), 0, ar .rem .i64 (z.k.k4 i) 4096, 0] 0⟩
def errQ (q : Tr5) (t : Nat) : Int := X.errX (q.a0 t) (q.a1 t) (q.a2 t) (q.a3 t) (q.a4 t)
def wrdQ (q : Tr5) (t : Nat) : ByteArray := X.strX (q.a0 t) (q.a1 t) (q.a2 t) (q.a3 t) (q.a4 t)
def valT (p : Pa) : Int := ar .add .i64 262144 (conv .i64 (ar .rem .u64 (conv .u64 p.at_) 200704))
def valS (p : Pa) : Int := ar .sub .i64 458752 (conv .i64 (ar .rem .u64 (conv .u64 p.at_) 300))
/-- the registers of an odd try -/
def oddX (z : Za) (q : Tr5) (t : Nat) (X : Nat → Int) : Nat → Int := upd (upd (upd X (q.a3 t).toNat (valT z.p)) 4 (valS z.p)) 0 (ar .add .i64 1 (ar .rem .i64 (t : Int) 4))
def vx (b : Bool) (x : Vw) : Vw := bif b then x else .bad
def vxN (i : Int) (n : Nat) (x : Vw) : Vw := vx (decide (0 ≤ i)) (vx (decide (i < (n : Int))) (vx (Nat.blt i.toNat n) (vx (Nat.blt i.toNat n) x)))
def vx11 (i : Int) (x : Vw) : Vw := vx (decide (0 ≤ i)) (vx (decide (i < 11)) (vx (Nat.blt i.toNat 11) (vx (Nat.blt i.toNat 11) x)))
def vx16 (i : Int) (x : Vw) : Vw := vx (decide (0 ≤ i)) (vx (decide (i < 16)) (vx (Nat.blt i.toNat 16) (vx (Nat.blt i.toNat 16) x)))
/-- one step is done, on both sides -/
noncomputable def stepV (w : ByteArray) (m : M) (x : Vw) : Vw :=
  vx (Nat.ble m.nI 100000000) (vx (Nat.ble m.nO 100000000) (vx (Nat.beq m.nI m.nI) (vx (Nat.beq m.nO m.nO) (vx (msB m) (vx (codeB w) (vx (Nat.beq m.nI m.nI) (vx (Nat.beq m.nO m.nO)
    (vx (goodB m) (vx (sizeB w) (vx (Nat.beq m.nI m.nI) (vx (Nat.beq m.nO m.nO)
      (vx (bif false then true else allB [eqMB (stepM w m) (stepM w m), Nat.beq (stepM w m).nI (stepM w m).nI, Nat.beq (stepM w m).nO (stepM w m).nO, Nat.beq (stepM w m).nI (stepM w m).nI, Nat.beq (stepM w m).nO (stepM w m).nO]) x))))))))))))
def setX (m : M) (X : Nat → Int) : M := { m with X := X }
theorem r23c (z : Za) (n : Nat) (g : Nat → Int) (m : M) (q : Tr5) (i k t : Int) : (evalB ELw Tryz.prog Tryz.f23.results.toList (loopOf Tryz.f23 2) 3 lk23c (v23c n i k t) (h23c z n g m q)).viewP [1, 2, 5, 6, 7, 9, 10] [0, 7, 1024, 1120, 1104, 1105, 1106, 1107, 4004] =
    bif cm .lss t 11 then vx11 t (bif cm .neq (errQ q t.toNat) 0 then .norm 218 (v23c n i k (ar .add .i64 t 1)) (h23c z n g m q) else
      bif cm .eql (ar .rem .i64 i 2) 1 then vx11 t (vx16 (q.a3 t.toNat)
          (stepV (wrdQ q t.toNat) (setX m (upd (upd (upd m.X (q.a3 t.toNat).toNat (valT z.p)) 4 (valS z.p)) 0 (ar .add .i64 1 (ar .rem .i64 t 4)))) (.exit 4 218 (v23c n i k t) (h23c z n g (setX m (upd (upd (upd m.X (q.a3 t.toNat).toNat (valT z.p)) 4 (valS z.p)) 0 (ar .add .i64 1 (ar .rem .i64 t 4)))) q))))
      else stepV (wrdQ q t.toNat) m (.exit 4 218 (v23c n i k t) (h23c z n g m q)))
    else .exit 4 218 (v23c n i k t) (h23c z n g m q) := by kernel_rfl

/-- the registers behind a try -/
def nextX (z : Za) (i : Int) (q : Tr5) (t : Nat) (X : Nat → Int) : Nat → Int := bif cm .eql (ar .rem .i64 i 2) 1 then oddX z q t X else X
def tX (z : Za) (i : Int) (q : Tr5) : Nat → Nat → (Nat → Int) → (Nat → Int)
  | 0, _, X => X
  | f + 1, t, X => bif cm .neq (errQ q t) 0 then tX z i q f (t + 1) X else nextX z i q t X
/-- without what no try looks at -/
def sp (z : Za) : Za := ⟨{ z.k with cs := fun _ => .empty }, { z.p with c0 := fun _ => 0, c1 := fun _ => 0, c2 := fun _ => 0, c3 := fun _ => 0, c4 := fun _ => 0, cw := fun _ => 0, cX := fun _ => 0, cM := fun _ => 0, cI := fun _ => 0 }, z.F⟩
def kX (z : Za) (i : Nat) (g : Nat → Int) : Nat → Nat → (Nat → Int) → (Nat → Int)
  | 0, _, X => X
  | f + 1, k, X => kX z i g f (k + 1) (tX (sp z) i (tryQ z i (g k)) 11 0 X)
/-- the machine of the tries -/
structure CG (m : M) : Prop where
  mx : MX m
  nI : m.nI ≤ 100000000
  nO : m.nO = 0
noncomputable def cgB (m : M) : Bool := @decide (CG m) (Classical.propDecidable _)
theorem cgB_iff {m : M} : cgB m = true ↔ CG m := @decide_eq_true_iff _ (Classical.propDecidable _)
def unHO (H : Heap) : Option (List Bool × Za × Nat × (Nat → Int)) :=
  match Ev.look H 0, tI .i64 false H 7, cL H 1024 with
  | some (.tab nK [.ints .i64 a0, .ints .i64 a1, .ints .i64 a2, .ints .i64 a3, .ints .i64 a4] _), some (n, g), some [.sl i0 n0, .sl i1 n1, .sl i2 n2, .sl i3 n3, .sl i4 n4, .sl i5 n5, .int _ .i64 at_, .sl i6 n6, .int _ .i64 pc, .bool _ raw, .int _ .i64 F] =>
    some ([Nat.beq i0 0, Nat.beq i1 1, Nat.beq i2 2, Nat.beq i3 3, Nat.beq i4 4, Nat.beq i5 5, Nat.beq i6 6, Nat.beq n0 nK],
      ⟨⟨nK, n1, a0, a1, a2, a3, a4, fun _ => .empty⟩, ⟨n2, n3, n4, n5, n6, fun _ => 0, fun _ => 0, fun _ => 0, fun _ => 0, fun _ => 0, fun _ => 0, fun _ => 0, fun _ => 0, fun _ => 0, at_, pc, raw⟩, F⟩, n, g)
  | _, _, _ => none
def unQ5 (H : Heap) : Option (List Bool × Tr5) :=
  match Ev.look H 4004 with
  | some (.tab n [.ints .i64 a0, .ints .i64 a1, .ints .i64 a2, .ints .i64 a3, .ints .i64 a4] true) => some ([Nat.beq n 11], ⟨a0, a1, a2, a3, a4⟩)
  | _ => none
noncomputable def get23c : List SV → Heap → Option Tr
  | [.sl k5 n, .ptr kp rp cp, .ptr kc rc cc, .int _ .i64 i, .int _ .i64 k, .sl kq nq, .int _ .i64 t], H => match unHO H, macAt H 1120 1104 1105 1106 1107, unQ5 H with
    | some (nn, z, n', g), some (nn', m), some (nn'', q) => some (Tr.needs ([Nat.beq k5 7, Nat.beq n n', Nat.beq kp 1024, Nat.beq rp 0, Nat.beq cp 0, Nat.beq kc 1120, Nat.beq rc 0, Nat.beq cc 0, Nat.beq kq 4004, Nat.beq nq 11, decide (t = 0), cgB m] ++ (nn ++ (nn' ++ nn'')))
      (exitT lk23c 4 [.sl 7 n, .ptr 1024 0 0, .ptr 1120 0 0, .int false .i64 i, .int false .i64 k, .any, .any] (h23 z n g (setX m (tX z i q 11 0 m.X)))))
    | _, _, _ => none
  | _, _ => none
noncomputable def lp23c : Lp := { lk23c with get := get23c }
noncomputable def E23c : Env := ⟨ELw.call, loopEnv [(2, lp23c)]⟩
noncomputable def get23b : List SV → Heap → Option Tr
  | [.sl k5 n, .ptr kp rp cp, .ptr kc rc cc, .int _ .i64 i, .int _ .i64 k], H => match unHO H, macAt H 1120 1104 1105 1106 1107 with
    | some (nn, z, n', g), some (nn', m) => some (Tr.needs ([Nat.beq k5 7, Nat.beq n n', Nat.beq kp 1024, Nat.beq rp 0, Nat.beq cp 0, Nat.beq kc 1120, Nat.beq rc 0, Nat.beq cc 0, decide (k = 0), cgB m, decide (0 ≤ i), decide (i < (z.k.nK : Int)), Nat.ble n 1000] ++ (nn ++ nn'))
      (exitT lk23b 2 [.sl 7 n, .ptr 1024 0 0, .ptr 1120 0 0, .int false .i64 i, .any] (h23 z n g (setX m (kX z i.toNat g n 0 m.X)))))
    | _, _ => none
  | _, _ => none
noncomputable def lp23b : Lp := { lk23b with get := get23b }
noncomputable def E23b : Env := ⟨ELw.call, loopEnv [(1, lp23b), (2, lp23c)]⟩
def v23a (n : Nat) (i : Int) : List SV := [.sl 7 n, .ptr 1024 0 0, .ptr 1120 0 0, .int false .i64 i]
def lk23a : Lp := ⟨218, [1, 2, 5, 6], 2000, fun _ _ => none⟩
noncomputable def get23a : List SV → Heap → Option Tr
  | [.sl k5 n, .ptr kp rp cp, .ptr kc rc cc, .int _ .i64 i], H => match unHO H, macAt H 1120 1104 1105 1106 1107 with
    | some (nn, z, n', g), some (nn', m) => some (Tr.needs ([Nat.beq k5 7, Nat.beq n n', Nat.beq kp 1024, Nat.beq rp 0, Nat.beq cp 0, Nat.beq kc 1120, Nat.beq rc 0, Nat.beq cc 0, decide (i = 0), cgB m, Nat.ble n 1000] ++ (nn ++ nn'))
      (exitT lk23a 0 [.any, .any, .any, .any] []))
    | _, _ => none
  | _, _ => none
noncomputable def lp23a : Lp := { lk23a with get := get23a }
noncomputable def E23a : Env := ⟨ELw.call, loopEnv [(0, lp23a), (1, lp23b), (2, lp23c)]⟩

theorem r23b (z : Za) (n : Nat) (g : Nat → Int) (m : M) (i k : Int) : (evalB E23c Tryz.prog Tryz.f23.results.toList (loopOf Tryz.f23 1) 2 lp23b (v23b n i k) (h23 z n g m)).view [1, 2, 5, 6, 7] =
    bif cm .lss k (n : Int) then vxN i z.k.nK (vxN k n (vxN k n (vxN k n (vxN k n (vxN k n (vxN k n (vxN k n (vxN k n (vxN k n (vxN k n (vxN k n (vx (Nat.beq n n) (vx (cgB m) (vx (Nat.beq z.k.nK z.k.nK) (vx (Nat.beq m.nI m.nI) (vx (Nat.beq m.nO m.nO)
      (.norm 218 (v23b n i (ar .add .i64 k 1)) (h23 z n g (setX m (tX (sp z) i (tryQ z i.toNat (g k.toNat)) 11 0 m.X))))))))))))))))))))
    else .exit 2 218 (v23b n i k) (h23 z n g m) := by kernel_rfl
theorem r23a (z : Za) (n : Nat) (g : Nat → Int) (m : M) (i : Int) : (evalB E23b Tryz.prog Tryz.f23.results.toList (loopOf Tryz.f23 0) 1 lp23a (v23a n i) (h23 z n g m)).view [1, 2, 5, 6] =
    bif (bif cm .lss i (z.k.nK : Int) then cm .lss i 3 else false) then vx (Nat.beq n n) (vx (cgB m) (vx (decide (0 ≤ i)) (vx (decide (i < (z.k.nK : Int))) (vx (Nat.ble n 1000) (vx (Nat.beq z.k.nK z.k.nK) (vx (Nat.beq m.nI m.nI) (vx (Nat.beq m.nO m.nO)
      (.norm 218 (v23a n (ar .add .i64 i 1)) (h23 z n g (setX m (kX (sp z) i.toNat g n 0 m.X)))))))))))
    else .exit 0 218 (v23a n i) (h23 z n g m) := by kernel_rfl
theorem t23 (z : Za) (n : Nat) (g : Nat → Int) : (evalF E23a Tryz.prog 23 [.agg (vAk z.k z.p z.F), .sl 7 n] (hAk z.k z.p ++ [(7, .tab n [.ints .i64 g] false)]) 1024).bare =
    bx (Nat.ble z.k.nS 9223372036854775807) (lnK z.k (bif hvQ z.k z.p then .ret (.bool true true) [] else bx (Nat.ble z.p.nI 100000000) (lnK z.k (lnP z.p (bx (Nat.beq n n) (bx (cgB (machQ z.p z.F)) (bx (Nat.ble n 1000) (bx (Nat.beq z.k.nK z.k.nK) (bx (Nat.beq z.p.nI z.p.nI) (.ret (.bool true true) [])))))))))) := by kernel_rfl

end Go.Rv
end

section
set_option linter.unusedVariables false
open Go Go.Ev Go.Proofs
namespace Go.Rv

theorem vx_true {b : Bool} (h : b = true) (x : Vw) : vx b x = x := by subst h; rfl
theorem vxN_ok {i n : Nat} (h : i < n) (x : Vw) : vxN (i : Int) n x = x := by
  unfold vxN
  rw [vx_true (dec_true (by omega)), vx_true (dec_true (by omega)), Int.toNat_natCast, vx_true (blt_t h), vx_true (blt_t h)]
theorem vx11_ok {i : Nat} (h : i < 11) (x : Vw) : vx11 (i : Int) x = x := by
  unfold vx11
  rw [vx_true (dec_true (by omega)), vx_true (dec_true (by omega)), Int.toNat_natCast, vx_true (blt_t h), vx_true (blt_t h)]
theorem vx16_ok {i : Int} (h : 0 ≤ i ∧ i < 16) (x : Vw) : vx16 i x = x := by
  unfold vx16
  rw [vx_true (dec_true h.1), vx_true (dec_true h.2), vx_true (blt_t (by omega)), vx_true (blt_t (by omega))]

theorem CG.ms {m : M} (h : CG m) : MS m := h.mx.ms (by have := h.nO; omega) h.nI
theorem stepV_ok {w : ByteArray} {m : M} (h : CG m) (hw : w.size ≤ 14) (x : Vw) : stepV w m x = x := by
  have hm := h.ms
  have hn := h.nO
  have hI := h.nI
  obtain ⟨a, b, c⟩ := stepM_mi (s := w) h.mx
  have hs : MS (stepM w m) := a.ms (by omega) (by omega)
  unfold stepV
  rw [vx_true (ble_t hm.nI), vx_true (ble_t (by omega)), vx_true (beq_t _), vx_true (beq_t _), vx_true (msB_iff.2 hm), vx_true (codeB_iff.2 (by omega)), vx_true (beq_t _), vx_true (beq_t _),
    vx_true (goodB_iff.2 hm.mg), vx_true (sizeB_iff.2 (by omega)), vx_true (beq_t _), vx_true (beq_t _), eqMB_iff.2 (same_self hs), beq_t, beq_t]
  exact vx_true rfl x

theorem setX_cg {m : M} (h : CG m) {X : Nat → Int} (hX : ∀ r, inR (X r)) : CG (setX m X) :=
  ⟨⟨h.mx.pc, hX, h.mx.mem, h.mx.inp, h.mx.kd⟩, h.nI, h.nO⟩
theorem valT_in (p : Pa) : inR (valT p) := by unfold valT; exact add_in _ _
theorem valS_in (p : Pa) : inR (valS p) := by unfold valS; exact sub_in _ _
theorem err_rs {q : Tr5} {t : Nat} (h : errQ q t = 0) : 0 ≤ q.a3 t ∧ q.a3 t < 16 := (named_rng (X.err_ok h).2.2.1).2
theorem oddX_ok {z : Za} {q : Tr5} {t : Nat} {X : Nat → Int} (hX : ∀ r, inR (X r)) : ∀ r, inR (oddX z q t X r) :=
  upd_in (upd_in (upd_in hX _ (valT_in z.p)) 4 (valS_in z.p)) 0 (add_in _ _)
theorem nextX_ok {z : Za} {i : Int} {q : Tr5} {t : Nat} {X : Nat → Int} (hX : ∀ r, inR (X r)) : ∀ r, inR (nextX z i q t X r) := by
  unfold nextX
  cases cm .eql (ar .rem .i64 i 2) 1 with
  | false => exact hX
  | true => exact oddX_ok hX
theorem tX_ok {z : Za} {i : Int} {q : Tr5} : ∀ f t X, (∀ r, inR (X r)) → ∀ r, inR (tX z i q f t X r)
  | 0, _, X, h => h
  | f + 1, t, X, h => by
    unfold tX
    cases cm .neq (errQ q t) 0 with
    | true => exact tX_ok f (t + 1) X h
    | false => exact nextX_ok h
theorem kX_ok {z : Za} {i : Nat} {g : Nat → Int} : ∀ f k X, (∀ r, inR (X r)) → ∀ r, inR (kX z i g f k X r)
  | 0, _, X, h => h
  | f + 1, k, X, h => by
    unfold kX
    exact kX_ok f (k + 1) _ (tX_ok 11 0 X h)

theorem unHO_wk {H : Heap} {nn : List Bool} {z : Za} {n : Nat} {g : Nat → Int} (h : unHO H = some (nn, z, n, g)) (hn : allB nn = true) : wkH (rmap []) H (hO z n g) := by
  unfold unHO at h
  split at h
  · rename_i q1 q2 q3
    simp only [Option.some.injEq, Prod.mk.injEq] at h
    obtain ⟨rfl, rfl, rfl, rfl⟩ := h
    simp only [allB, Bool.and_true, Bool.and_eq_true, Nat.beq_eq] at hn
    obtain ⟨rfl, rfl, rfl, rfl, rfl, rfl, rfl, rfl⟩ := hn
    have q3 := cL_spec q3
    obtain ⟨w2, q2, _⟩ := tI_spec q2
    have r0 : ∀ j, rmap [] j = .old j := fun j => rfl
    simp only [wkH, hO, r0, q1, q2, q3, wkB, and_true]
    simp [wkCs, wkC, vAk, simL, sim, rmap, rlook]
  · cases h
theorem unQ5_wk {H : Heap} {nn : List Bool} {q : Tr5} (h : unQ5 H = some (nn, q)) (hn : allB nn = true) : wkH (rmap []) H [(4004, .tab 11 q.cols true)] := by
  unfold unQ5 at h
  split at h
  · rename_i q1
    simp only [Option.some.injEq, Prod.mk.injEq] at h
    obtain ⟨rfl, rfl⟩ := h
    simp only [allB, Bool.and_true, Nat.beq_eq] at hn
    subst hn
    have r0 : ∀ j, rmap [] j = .old j := fun j => rfl
    simp only [wkH, r0, q1, wkB, and_true]
    simp [wkCs, wkC, Tr5.cols]
  · cases h
theorem h23_self (z : Za) (n : Nat) (g : Nat → Int) (m : M) : wkH (rmap []) (h23 z n g m) (h23 z n g m) := by
  simp [wkH, h23, hO, hMac, vAk, cpuL, rmap, rlook, Ev.look, wkB, simL, sim, wkCs, wkC]
theorem h23c_self (z : Za) (n : Nat) (g : Nat → Int) (m : M) (q : Tr5) : wkH (rmap []) (h23c z n g m q) (h23c z n g m q) := by
  simp [wkH, h23c, h23, hO, hMac, vAk, cpuL, Tr5.cols, rmap, rlook, Ev.look, wkB, simL, sim, wkCs, wkC]
theorem h23c_23 (z : Za) (n : Nat) (g : Nat → Int) (m : M) (q : Tr5) : wkH (rmap []) (h23c z n g m q) (h23 z n g m) := by
  simp [wkH, h23c, h23, hO, hMac, vAk, cpuL, Tr5.cols, rmap, rlook, Ev.look, wkB, simL, sim, wkCs, wkC]

/-! the tries -/
structure X23c where
  z : Za
  n : Nat
  g : Nat → Int
  m : M
  q : Tr5
  i : Int
  k : Int
  t : Nat
def ok23c (x : X23c) : Prop := x.t ≤ 11 ∧ CG x.m
def vs23c (x : X23c) : List SV := v23c x.n x.i x.k x.t
def hp23c (x : X23c) : Heap := h23c x.z x.n x.g x.m x.q
def out23c (x : X23c) : Vw := .exit 4 218 [.sl 7 x.n, .ptr 1024 0 0, .ptr 1120 0 0, .int false .i64 x.i, .int false .i64 x.k, .any, .any] (h23 x.z x.n x.g (setX x.m (tX x.z x.i x.q (11 - x.t) x.t x.m.X)))

theorem entry23c (l : List SV) (H : Heap) (T : Tr) (h : lp23c.get l H = some T) (hb : T.leaf ≠ .bad) : ∃ x r, ok23c x ∧ WkV r lp23c.nm l H (vs23c x) (hp23c x) ∧ T.leaf = toLf lp23c (out23c x) := by
  replace h : get23c l H = some T := h
  unfold get23c at h
  split at h
  · rename_i k5 n kp rp cp kc rc cc _ i _ k kq nq _ t
    split at h
    · rename_i nn z n' g nn' m nn'' q hu hu' hu''
      simp only [Option.some.injEq] at h
      subst h
      obtain ⟨hn, he⟩ := needs_ne hb
      rw [he]
      rw [allB_append, allB_append, allB_append] at hn
      simp only [allB, Bool.and_eq_true, Bool.and_true, decide_eq_true_eq, Nat.beq_eq, cgB_iff] at hn
      obtain ⟨⟨rfl, rfl, rfl, rfl, rfl, rfl, rfl, rfl, rfl, rfl, rfl, hm⟩, hnn, hnn', hnn''⟩ := hn
      refine ⟨⟨z, n, g, m, q, i, k, 0⟩, [], ⟨Nat.zero_le _, hm⟩, ⟨rfl, ?_, wkH_append (wkH_append (unHO_wk hu hnn) (macAt_wk hu' hnn' _ _ _ _ _ _ rfl rfl rfl rfl rfl)) (unQ5_wk hu'' hnn''), rfl, rfl⟩, ?_⟩
      · simp [vs23c, v23c, wkF, wkS, sim, rmap, rlook]
      · simp only [exitT_leaf, out23c]
        rfl
    · cases h
  · cases h

theorem evalB_get {E : Env} {P : Program} {res : List ResultVar} {c : Code} {n : Nat} {s s' : Lp} (h1 : s.ks = s'.ks) (h2 : s.len = s'.len) (h3 : s.nm = s'.nm) (l : List SV) (H : Heap) : evalB E P res c n s l H = evalB E P res c n s' l H := by
  unfold evalB; rw [h1, h2, h3]
attribute [local irreducible] evalB Tr.view Tr.viewP stepM X.strX X.errX in
theorem round23c (x : X23c) (hx : ok23c x) : Round lp23c ok23c (fun x => 11 - x.t) vs23c hp23c out23c x ((evalB ELw Tryz.prog Tryz.f23.results.toList (loopOf Tryz.f23 2) (2 + 1) lp23c (vs23c x) (hp23c x)).view lp23c.ks) := by
  obtain ⟨z, n, g, m, q, i, k, t⟩ := x
  obtain ⟨h0, hm⟩ := hx
  simp only at h0 hm
  have hr := r23c z n g m q i k t
  rw [evalB_get (s := lk23c) (s' := lp23c) rfl rfl rfl] at hr
  refine round_viewP [0, 7, 1024, 1120, 1104, 1105, 1106, 1107, 4004] hr ?_
  have hwd : (wrdQ q t).size ≤ 14 := strX_size _ _ _ _ _
  have hex : ∀ (m' : M) (X : Nat → Int), m' = setX m X → tX z i q (11 - t) t m.X = X → Round lp23c ok23c (fun x => 11 - x.t) vs23c hp23c out23c ⟨z, n, g, m, q, i, k, t⟩ (.exit 4 218 (v23c n i k t) (h23c z n g m' q)) := by
    intro m' X hm' hX
    subst hm'
    refine ⟨rfl, [.sl 7 n, .ptr 1024 0 0, .ptr 1120 0 0, .int false .i64 i, .int false .i64 k, .any, .any], h23 z n g (setX m X), [], ?_, rfl, ?_, h23c_23 _ _ _ _ _, rfl, rfl⟩
    · simp only [out23c, hX]
      rfl
    · simp [v23c, wkF, wkS, sim, rmap, rlook]
  by_cases ht : t < 11
  · have e1 : cm .lss (t : Int) 11 = true := by rw [cm_lss']; exact decide_eq_true (by omega)
    obtain ⟨f, hf⟩ : ∃ f, 11 - t = f + 1 := ⟨10 - t, by omega⟩
    have hf2 : 11 - (t + 1) = f := by omega
    rw [e1, cond_true, vx11_ok ht, Int.toNat_natCast, addOne (show t < 9223372036854775807 by omega)]
    have hstep : tX z i q (11 - t) t m.X = bif cm .neq (errQ q t) 0 then tX z i q (11 - (t + 1)) (t + 1) m.X else nextX z i q t m.X := by
      rw [hf, hf2]; rfl
    cases he : cm .neq (errQ q t) 0 with
    | true =>
      rw [he, cond_true] at hstep
      refine ⟨rfl, ⟨z, n, g, m, q, i, k, t + 1⟩, [], ⟨ht, hm⟩, by show 11 - (t + 1) < 11 - t; omega, ?_, rfl, ?_, h23c_self _ _ _ _ _, rfl, rfl⟩
      · simp only [out23c, hstep]
      · simp [vs23c, v23c, wkF, wkS, sim, rmap, rlook]
    | false =>
      have herr : errQ q t = 0 := by simpa [cm] using he
      rw [he, cond_false] at hstep
      have hr := err_rs herr
      rw [cond_false, vx11_ok ht, vx16_ok hr]
      cases hi : cm .eql (ar .rem .i64 i 2) 1 with
      | false =>
        rw [cond_false, stepV_ok hm hwd]
        refine hex m m.X rfl ?_
        rw [hstep]; unfold nextX; rw [hi]; rfl
      | true =>
        rw [cond_true]
        have e : nextX z i q t m.X = oddX z q t m.X := by unfold nextX; rw [hi]; rfl
        have hn : ∀ r, inR (oddX z q t m.X r) := oddX_ok hm.mx.X
        change Round _ _ _ _ _ _ _ (stepV (wrdQ q t) (setX m (oddX z q t m.X)) (.exit 4 218 (v23c n i k t) (h23c z n g (setX m (oddX z q t m.X)) q)))
        rw [stepV_ok (setX_cg hm hn) hwd]
        exact hex _ _ rfl (hstep.trans e)
  · have e1 : cm .lss (t : Int) 11 = false := by rw [cm_lss']; exact decide_eq_false (by omega)
    rw [e1, cond_false]
    refine hex m m.X rfl ?_
    rw [show 11 - t = 0 by omega]; rfl

theorem e29c_calls : CallsOk E23c Tryz.prog := fun f args H nm r h hn => elw_calls f args H nm r h hn
theorem e29b_calls : CallsOk E23b Tryz.prog := fun f args H nm r h hn => elw_calls f args H nm r h hn
theorem e29a_calls : CallsOk E23a Tryz.prog := fun f args H nm r h hn => elw_calls f args H nm r h hn
attribute [local irreducible] evalB Tr.view in
theorem loop23c {E : Env} (hE : ∀ S, E.loop 2 S = runLp lp23c S) : LoopOk E Tryz.prog Tryz.f23 2 (loopOf Tryz.f23 2) :=
  loop_okE mixed hE (by decide) ok23c (fun x => 11 - x.t) vs23c hp23c out23c entry23c fun x hx => ⟨ELw, elw_calls, loops_noLoop elw_loop _ _, round23c x hx⟩
theorem nl23b : Code.loops (loopOf Tryz.f23 1) = 1 := by kernel_rfl
theorem nth23b : nthLoop (loopOf Tryz.f23 1) 0 = some (loopOf Tryz.f23 2) := by kernel_rfl
theorem inner23b : LoopsOk E23c Tryz.prog Tryz.f23 (loopOf Tryz.f23 1) 2 := loopsOk_of _ 2 fun m a hm ha => by
  rw [nl23b] at hm
  obtain rfl : m = 0 := by omega
  rw [nth23b] at ha
  simp only [Option.some.injEq] at ha
  subst ha
  exact loop23c fun S => rfl

/-! the ops -/
structure X23b where
  z : Za
  n : Nat
  g : Nat → Int
  m : M
  i : Nat
  k : Nat
def ok23b (x : X23b) : Prop := x.k ≤ x.n ∧ x.n ≤ 1000 ∧ x.i < x.z.k.nK ∧ CG x.m
def vs23b (x : X23b) : List SV := v23b x.n x.i x.k
def hp23b (x : X23b) : Heap := h23 x.z x.n x.g x.m
def out23b (x : X23b) : Vw := .exit 2 218 [.sl 7 x.n, .ptr 1024 0 0, .ptr 1120 0 0, .int false .i64 x.i, .any] (h23 x.z x.n x.g (setX x.m (kX x.z x.i x.g (x.n - x.k) x.k x.m.X)))

theorem entry23b (l : List SV) (H : Heap) (T : Tr) (h : lp23b.get l H = some T) (hb : T.leaf ≠ .bad) : ∃ x r, ok23b x ∧ WkV r lp23b.nm l H (vs23b x) (hp23b x) ∧ T.leaf = toLf lp23b (out23b x) := by
  replace h : get23b l H = some T := h
  unfold get23b at h
  split at h
  · rename_i k5 n kp rp cp kc rc cc _ i _ k
    split at h
    · rename_i nn z n' g nn' m hu hu'
      simp only [Option.some.injEq] at h
      subst h
      obtain ⟨hn, he⟩ := needs_ne hb
      rw [he]
      rw [allB_append, allB_append] at hn
      simp only [allB, Bool.and_eq_true, Bool.and_true, decide_eq_true_eq, Nat.beq_eq, cgB_iff, Nat.ble_eq] at hn
      obtain ⟨⟨rfl, rfl, rfl, rfl, rfl, rfl, rfl, rfl, rfl, hm, hi0, hi1, hnl⟩, hnn, hnn'⟩ := hn
      obtain ⟨i, rfl⟩ : ∃ j : Nat, i = (j : Int) := ⟨i.toNat, by omega⟩
      refine ⟨⟨z, n, g, m, i, 0⟩, [], ⟨Nat.zero_le _, hnl, by show i < z.k.nK; omega, hm⟩, ⟨rfl, ?_, wkH_append (unHO_wk hu hnn) (macAt_wk hu' hnn' _ _ _ _ _ _ rfl rfl rfl rfl rfl), rfl, rfl⟩, ?_⟩
      · simp [vs23b, v23b, wkF, wkS, sim, rmap, rlook]
      · simp only [exitT_leaf, out23b, Int.toNat_natCast]
        rfl
    · cases h
  · cases h

attribute [local irreducible] evalB Tr.view in
theorem round23b (x : X23b) (hx : ok23b x) : Round lp23b ok23b (fun x => x.n - x.k) vs23b hp23b out23b x ((evalB E23c Tryz.prog Tryz.f23.results.toList (loopOf Tryz.f23 1) (1 + 1) lp23b (vs23b x) (hp23b x)).view lp23b.ks) := by
  obtain ⟨z, n, g, m, i, k⟩ := x
  obtain ⟨h0, h1, h2, hm⟩ := hx
  simp only at h0 h1 h2 hm
  have hr := r23b z n g m i k
  rw [show evalB E23c Tryz.prog Tryz.f23.results.toList (loopOf Tryz.f23 1) (1 + 1) lp23b (vs23b ⟨z, n, g, m, i, k⟩) (hp23b ⟨z, n, g, m, i, k⟩) = evalB E23c Tryz.prog Tryz.f23.results.toList (loopOf Tryz.f23 1) 2 lp23b (v23b n i k) (h23 z n g m) from rfl, show lp23b.ks = [1, 2, 5, 6, 7] from rfl, hr]
  by_cases hk : k < n
  · have e1 : cm .lss (k : Int) (n : Int) = true := by rw [cm_lss']; exact decide_eq_true (by omega)
    obtain ⟨f, hf⟩ : ∃ f, n - k = f + 1 := ⟨n - k - 1, by omega⟩
    have hf2 : n - (k + 1) = f := by omega
    rw [e1, cond_true, vxN_ok h2, vxN_ok hk, vxN_ok hk, vxN_ok hk, vxN_ok hk, vxN_ok hk, vxN_ok hk, vxN_ok hk, vxN_ok hk, vxN_ok hk, vxN_ok hk, vxN_ok hk, vx_true (beq_t _), vx_true (cgB_iff.2 hm), vx_true (beq_t _), vx_true (beq_t _), vx_true (beq_t _), Int.toNat_natCast, Int.toNat_natCast, addOne (show k < 9223372036854775807 by omega)]
    have ht := tX_ok (z := sp z) (i := (i : Int)) (q := tryQ z i (g k)) 11 0 m.X hm.mx.X
    refine ⟨rfl, ⟨z, n, g, setX m (tX (sp z) i (tryQ z i (g k)) 11 0 m.X), i, k + 1⟩, [], ⟨hk, h1, h2, setX_cg hm ht⟩, by show n - (k + 1) < n - k; omega, ?_, rfl, ?_, h23_self _ _ _ _, rfl, rfl⟩
    · simp only [out23b, hf, hf2]
      rfl
    · simp [vs23b, v23b, wkF, wkS, sim, rmap, rlook]
  · have e1 : cm .lss (k : Int) (n : Int) = false := by rw [cm_lss']; exact decide_eq_false (by omega)
    rw [e1, cond_false]
    refine ⟨rfl, [.sl 7 n, .ptr 1024 0 0, .ptr 1120 0 0, .int false .i64 i, .any], h23 z n g m, [], ?_, rfl, ?_, h23_self _ _ _ _, rfl, rfl⟩
    · simp only [out23b, show n - k = 0 by omega]
      rfl
    · simp [v23b, wkF, wkS, sim, rmap, rlook]

attribute [local irreducible] evalB Tr.view in
theorem loop23b {E : Env} (hE : ∀ S, E.loop 1 S = runLp lp23b S) : LoopOk E Tryz.prog Tryz.f23 1 (loopOf Tryz.f23 1) :=
  loop_okE mixed hE (by decide) ok23b (fun x => x.n - x.k) vs23b hp23b out23b entry23b fun x hx => ⟨E23c, e29c_calls, inner23b, round23b x hx⟩
theorem nl23a : Code.loops (loopOf Tryz.f23 0) = 2 := by kernel_rfl
theorem nth23a : nthLoop (loopOf Tryz.f23 0) 0 = some (loopOf Tryz.f23 1) := by kernel_rfl
theorem nth23a' : nthLoop (loopOf Tryz.f23 0) 1 = some (loopOf Tryz.f23 2) := by kernel_rfl
theorem inner23a : LoopsOk E23b Tryz.prog Tryz.f23 (loopOf Tryz.f23 0) 1 := loopsOk_of _ 1 fun m a hm ha => by
  rw [nl23a] at hm
  rcases m with _ | _ | m
  · rw [nth23a] at ha
    simp only [Option.some.injEq] at ha
    subst ha
    exact loop23b fun S => rfl
  · rw [nth23a'] at ha
    simp only [Option.some.injEq] at ha
    subst ha
    exact loop23c fun S => rfl
  · omega

/-! the instructions -/
structure X23a where
  z : Za
  n : Nat
  g : Nat → Int
  m : M
  i : Nat
def ok23a (x : X23a) : Prop := x.i ≤ 3 ∧ x.n ≤ 1000 ∧ CG x.m
def vs23a (x : X23a) : List SV := v23a x.n x.i
def hp23a (x : X23a) : Heap := h23 x.z x.n x.g x.m
def out23a (x : X23a) : Vw := .exit 0 218 [.any, .any, .any, .any] []

theorem entry23a (l : List SV) (H : Heap) (T : Tr) (h : lp23a.get l H = some T) (hb : T.leaf ≠ .bad) : ∃ x r, ok23a x ∧ WkV r lp23a.nm l H (vs23a x) (hp23a x) ∧ T.leaf = toLf lp23a (out23a x) := by
  replace h : get23a l H = some T := h
  unfold get23a at h
  split at h
  · rename_i k5 n kp rp cp kc rc cc _ i
    split at h
    · rename_i nn z n' g nn' m hu hu'
      simp only [Option.some.injEq] at h
      subst h
      obtain ⟨hn, he⟩ := needs_ne hb
      rw [he]
      rw [allB_append, allB_append] at hn
      simp only [allB, Bool.and_eq_true, Bool.and_true, decide_eq_true_eq, Nat.beq_eq, cgB_iff, Nat.ble_eq] at hn
      obtain ⟨⟨rfl, rfl, rfl, rfl, rfl, rfl, rfl, rfl, rfl, hm, hnl⟩, hnn, hnn'⟩ := hn
      refine ⟨⟨z, n, g, m, 0⟩, [], ⟨Nat.zero_le _, hnl, hm⟩, ⟨rfl, ?_, wkH_append (unHO_wk hu hnn) (macAt_wk hu' hnn' _ _ _ _ _ _ rfl rfl rfl rfl rfl), rfl, rfl⟩, ?_⟩
      · simp [vs23a, v23a, wkF, wkS, sim, rmap, rlook]
      · simp only [exitT_leaf, out23a]
        rfl
    · cases h
  · cases h

attribute [local irreducible] evalB Tr.view in
theorem round23a (x : X23a) (hx : ok23a x) : Round lp23a ok23a (fun x => 3 - x.i) vs23a hp23a out23a x ((evalB E23b Tryz.prog Tryz.f23.results.toList (loopOf Tryz.f23 0) (0 + 1) lp23a (vs23a x) (hp23a x)).view lp23a.ks) := by
  obtain ⟨z, n, g, m, i⟩ := x
  obtain ⟨h0, h1, hm⟩ := hx
  simp only at h0 h1 hm
  have hr := r23a z n g m i
  rw [show evalB E23b Tryz.prog Tryz.f23.results.toList (loopOf Tryz.f23 0) (0 + 1) lp23a (vs23a ⟨z, n, g, m, i⟩) (hp23a ⟨z, n, g, m, i⟩) = evalB E23b Tryz.prog Tryz.f23.results.toList (loopOf Tryz.f23 0) 1 lp23a (v23a n i) (h23 z n g m) from rfl, show lp23a.ks = [1, 2, 5, 6] from rfl, hr]
  by_cases hc : i < z.k.nK ∧ i < 3
  · obtain ⟨c1, c2⟩ := hc
    have e : (bif cm .lss (i : Int) (z.k.nK : Int) then cm .lss (i : Int) 3 else false) = true := by
      rw [cm_lss', cm_lss', decide_eq_true (show (i : Int) < (z.k.nK : Int) by omega), decide_eq_true (show (i : Int) < 3 by omega)]; rfl
    rw [e, cond_true, vx_true (beq_t _), vx_true (cgB_iff.2 hm), vx_true (dec_true (by omega)), vx_true (dec_true (by omega)), vx_true (ble_t h1), vx_true (beq_t _), vx_true (beq_t _), vx_true (beq_t _), Int.toNat_natCast, addOne (show i < 9223372036854775807 by omega)]
    have ht := kX_ok (z := sp z) (i := i) (g := g) n 0 m.X hm.mx.X
    refine ⟨rfl, ⟨z, n, g, setX m (kX (sp z) i g n 0 m.X), i + 1⟩, [], ⟨c2, h1, setX_cg hm ht⟩, by show 3 - (i + 1) < 3 - i; omega, rfl, rfl, ?_, h23_self _ _ _ _, rfl, rfl⟩
    simp [vs23a, v23a, wkF, wkS, sim, rmap, rlook]
  · have e : (bif cm .lss (i : Int) (z.k.nK : Int) then cm .lss (i : Int) 3 else false) = false := by
      rw [cm_lss', cm_lss']
      by_cases c1 : i < z.k.nK
      · have c2 : ¬ (i : Int) < 3 := by have := fun h => hc ⟨c1, h⟩; omega
        simp only [decide_eq_false c2]; cases decide ((i : Int) < (z.k.nK : Int)) <;> rfl
      · have c2 : ¬ (i : Int) < z.k.nK := by omega
        simp only [decide_eq_false c2]; rfl
    rw [e, cond_false]
    refine ⟨rfl, [.any, .any, .any, .any], [], [], rfl, rfl, ?_, trivial, rfl, rfl⟩
    simp [v23a, wkF, wkS, sim, rmap, rlook]

attribute [local irreducible] evalB Tr.view in
theorem loop23a : LoopOk E23a Tryz.prog Tryz.f23 0 (loopOf Tryz.f23 0) :=
  loop_okE mixed (fun S => rfl) (by decide) ok23a (fun x => 3 - x.i) vs23a hp23a out23a entry23a fun x hx => ⟨E23b, e29b_calls, inner23a, round23a x hx⟩
theorem fn23 : Tryz.prog.funcs[23]? = some Tryz.f23 := by kernel_rfl
theorem b23 : Tryz.f23.body = some (bodyOf Tryz.f23) := by kernel_rfl
theorem n23 : (Tryz.f23.name == "runtime.NumGoroutine") = false := by kernel_rfl
theorem nl23 : Code.loops (bodyOf Tryz.f23) = 3 := by kernel_rfl
theorem nth23x : nthLoop (bodyOf Tryz.f23) 0 = some (loopOf Tryz.f23 0) := by kernel_rfl
theorem nth23y : nthLoop (bodyOf Tryz.f23) 1 = some (loopOf Tryz.f23 1) := by kernel_rfl
theorem nth23z : nthLoop (bodyOf Tryz.f23) 2 = some (loopOf Tryz.f23 2) := by kernel_rfl
theorem loops23 : LoopsOk E23a Tryz.prog Tryz.f23 (bodyOf Tryz.f23) 0 := loopsOk_of _ 0 fun m a hm ha => by
  rw [nl23] at hm
  rcases m with _ | _ | _ | m
  · rw [nth23x] at ha
    simp only [Option.some.injEq] at ha
    subst ha
    exact loop23a
  · rw [nth23y] at ha
    simp only [Option.some.injEq] at ha
    subst ha
    exact loop23b fun S => rfl
  · rw [nth23z] at ha
    simp only [Option.some.injEq] at ha
    subst ha
    exact loop23c fun S => rfl
  · omega

/-- an ask's numbers are right -/
structure ZaOk (z : Za) : Prop where
  k : KaOk z.k
  p : PaOk z.p
noncomputable def zaB (z : Za) : Bool := @decide (ZaOk z) (Classical.propDecidable _)
theorem zaB_iff {z : Za} : zaB z = true ↔ ZaOk z := @decide_eq_true_iff _ (Classical.propDecidable _)
theorem nS_small {k : Ka} (h : KaOk k) : Nat.ble k.nS 9223372036854775807 = true := by
  have h2 := h.sS
  have hr : reachBytes = 140737488351232 := rfl
  exact ble_t (by omega)
attribute [local irreducible] evalF Tr.bare machQ in
theorem law23 {z : Za} (h : ZaOk z) {n : Nat} (hn : n ≤ 1000) (g : Nat → Int) : (evalF E23a Tryz.prog 23 [.agg (vAk z.k z.p z.F), .sl 7 n] (hAk z.k z.p ++ [(7, .tab n [.ints .i64 g] false)]) 1024).bare = .ret (.bool true true) [] := by
  rw [t23, bx_true (nS_small h.k), lnK_ok]
  cases hv : hvQ z.k z.p with
  | true => rfl
  | false =>
    obtain ⟨_, hI⟩ := hvQ_small h.k h.p hv
    have hm := mach_mx h.p z.F
    have hnO : (machQ z.p z.F).nO = 0 := by with_unfolding_all rfl
    have hnI : (machQ z.p z.F).nI = z.p.nI := by with_unfolding_all rfl
    rw [cond_false, bx_true (ble_t (by omega)), lnK_ok, lnP_ok, bx_true (beq_t _), bx_true (cgB_iff.2 ⟨hm, by omega, hnO⟩), bx_true (ble_t hn), bx_true (beq_t _), bx_true (beq_t _)]

noncomputable def g23 : List SV → Heap → Option R
  | [.agg l, .sl k5 n], [b0, b1, b2, b3, b4, b5, b6, (j5, .tab t [.ints .i64 g] _)] => match unAk l [b0, b1, b2, b3, b4, b5, b6], Nat.beq k5 7 && Nat.beq j5 7 with
    | some (nn, k, p, F), true => some ⟨zaB ⟨k, p, F⟩ :: Nat.beq n t :: Nat.ble n 1000 :: nn, .bool true true, []⟩
    | _, _ => none
  | _, _ => none
attribute [local irreducible] evalF Tr.bare Tr.leaf in
theorem spec23 : SpecOk Tryz.prog 23 (specOf g23) := spec_okU false mixed fn23 b23 n23 g23 fun a0 H0 r hg hn => by
  unfold g23 at hg
  split at hg
  · rename_i l k5 n b0 b1 b2 b3 b4 b5 b6 j5 t g _
    split at hg
    · rename_i nn k p F hm hk
      simp only [Bool.and_eq_true, Nat.beq_eq] at hk
      obtain ⟨rfl, rfl⟩ := hk
      simp only [Option.some.injEq] at hg
      subst hg
      simp only [allB, Bool.and_eq_true, Nat.beq_eq, Nat.ble_eq, zaB_iff] at hn
      obtain ⟨h1, rfl, h2, hnn⟩ := hn
      obtain ⟨rfl, hr⟩ := unAk_all hm hnn
      refine ⟨E23a, [.agg (vAk k p F), .sl 7 n], [], e29a_calls, loops23, fun h => h, fun σ => rfl, fun k hk => (by cases hk), ?_⟩
      have e : roH [] [b0, b1, b2, b3, b4, b5, b6, (7, .tab n [.ints .i64 g] true)] = hAk k p ++ [(7, .tab n [.ints .i64 g] false)] := by
        have := roH_nil_append [b0, b1, b2, b3, b4, b5, b6] [(7, .tab n [.ints .i64 g] true)]
        rw [hr] at this
        exact this
      have e2 : ∀ b, roH [] [b0, b1, b2, b3, b4, b5, b6, (7, .tab n [.ints .i64 g] b)] = hAk k p ++ [(7, .tab n [.ints .i64 g] false)] := fun b => e
      rw [e2]
      exact gives_giv (gives_tree (law23 h1 h2 g) (gives_ret fun σ σ' => by simp only [den]))
    · cases hg
  · cases hg

/-- the environment of the laws of ops -/
noncomputable def EOp : Env := envOf [(23, specOf g23)] noLoop
theorem eop_calls : CallsOk EOp Tryz.prog := (SpecsOk.cons spec23 SpecsOk.nil).calls noLoop
theorem eop_loop : EOp.loop = noLoop := rfl

end Go.Rv
end

section
set_option linter.unusedVariables false
open Go Go.Ev Go.Proofs
namespace Go.Rv

theorem tOp4 (z : Za) : (evalF EOp Tryz.prog 4 [.agg (vAk z.k z.p z.F)] (hAk z.k z.p) 1024).bare = bx (zaB z) (lnK z.k (lnP z.p (.ret (.bool true true) []))) := by kernel_rfl
theorem lawOp4 {k : Ka} {p : Pa} (F : Int) (hk : KaOk k) (hp : PaOk p) : (evalF EOp Tryz.prog 4 [.agg (vAk k p F)] (hAk k p) 1024).bare = .ret (.bool true true) [] := by
  have h := tOp4 ⟨k, p, F⟩
  rw [bx_true (zaB_iff.2 ⟨hk, hp⟩), lnK_ok, lnP_ok] at h
  exact h
theorem fnOp4 : Tryz.prog.funcs[4]? = some Tryz.f4 := by kernel_rfl
theorem bOp4 : Tryz.f4.body = some (bodyOf Tryz.f4) := by kernel_rfl
theorem loopsOp4 : LoopsOk EOp Tryz.prog Tryz.f4 (bodyOf Tryz.f4) 0 := loops_noLoop eop_loop _ _

theorem tOp5 (z : Za) : (evalF EOp Tryz.prog 5 [.agg (vAk z.k z.p z.F)] (hAk z.k z.p) 1024).bare = bx (zaB z) (lnK z.k (lnP z.p (.ret (.bool true true) []))) := by kernel_rfl
theorem lawOp5 {k : Ka} {p : Pa} (F : Int) (hk : KaOk k) (hp : PaOk p) : (evalF EOp Tryz.prog 5 [.agg (vAk k p F)] (hAk k p) 1024).bare = .ret (.bool true true) [] := by
  have h := tOp5 ⟨k, p, F⟩
  rw [bx_true (zaB_iff.2 ⟨hk, hp⟩), lnK_ok, lnP_ok] at h
  exact h
theorem fnOp5 : Tryz.prog.funcs[5]? = some Tryz.f5 := by kernel_rfl
theorem bOp5 : Tryz.f5.body = some (bodyOf Tryz.f5) := by kernel_rfl
theorem loopsOp5 : LoopsOk EOp Tryz.prog Tryz.f5 (bodyOf Tryz.f5) 0 := loops_noLoop eop_loop _ _

theorem tOp6 (z : Za) : (evalF EOp Tryz.prog 6 [.agg (vAk z.k z.p z.F)] (hAk z.k z.p) 1024).bare = bx (zaB z) (lnK z.k (lnP z.p (.ret (.bool true true) []))) := by kernel_rfl
theorem lawOp6 {k : Ka} {p : Pa} (F : Int) (hk : KaOk k) (hp : PaOk p) : (evalF EOp Tryz.prog 6 [.agg (vAk k p F)] (hAk k p) 1024).bare = .ret (.bool true true) [] := by
  have h := tOp6 ⟨k, p, F⟩
  rw [bx_true (zaB_iff.2 ⟨hk, hp⟩), lnK_ok, lnP_ok] at h
  exact h
theorem fnOp6 : Tryz.prog.funcs[6]? = some Tryz.f6 := by kernel_rfl
theorem bOp6 : Tryz.f6.body = some (bodyOf Tryz.f6) := by kernel_rfl
theorem loopsOp6 : LoopsOk EOp Tryz.prog Tryz.f6 (bodyOf Tryz.f6) 0 := loops_noLoop eop_loop _ _

theorem tOp7 (z : Za) : (evalF EOp Tryz.prog 7 [.agg (vAk z.k z.p z.F)] (hAk z.k z.p) 1024).bare = bx (zaB z) (lnK z.k (lnP z.p (.ret (.bool true true) []))) := by kernel_rfl
theorem lawOp7 {k : Ka} {p : Pa} (F : Int) (hk : KaOk k) (hp : PaOk p) : (evalF EOp Tryz.prog 7 [.agg (vAk k p F)] (hAk k p) 1024).bare = .ret (.bool true true) [] := by
  have h := tOp7 ⟨k, p, F⟩
  rw [bx_true (zaB_iff.2 ⟨hk, hp⟩), lnK_ok, lnP_ok] at h
  exact h
theorem fnOp7 : Tryz.prog.funcs[7]? = some Tryz.f7 := by kernel_rfl
theorem bOp7 : Tryz.f7.body = some (bodyOf Tryz.f7) := by kernel_rfl
theorem loopsOp7 : LoopsOk EOp Tryz.prog Tryz.f7 (bodyOf Tryz.f7) 0 := loops_noLoop eop_loop _ _

theorem tOp8 (z : Za) : (evalF EOp Tryz.prog 8 [.agg (vAk z.k z.p z.F)] (hAk z.k z.p) 1024).bare = bx (zaB z) (lnK z.k (lnP z.p (.ret (.bool true true) []))) := by kernel_rfl
theorem lawOp8 {k : Ka} {p : Pa} (F : Int) (hk : KaOk k) (hp : PaOk p) : (evalF EOp Tryz.prog 8 [.agg (vAk k p F)] (hAk k p) 1024).bare = .ret (.bool true true) [] := by
  have h := tOp8 ⟨k, p, F⟩
  rw [bx_true (zaB_iff.2 ⟨hk, hp⟩), lnK_ok, lnP_ok] at h
  exact h
theorem fnOp8 : Tryz.prog.funcs[8]? = some Tryz.f8 := by kernel_rfl
theorem bOp8 : Tryz.f8.body = some (bodyOf Tryz.f8) := by kernel_rfl
theorem loopsOp8 : LoopsOk EOp Tryz.prog Tryz.f8 (bodyOf Tryz.f8) 0 := loops_noLoop eop_loop _ _

theorem tOp9 (z : Za) : (evalF EOp Tryz.prog 9 [.agg (vAk z.k z.p z.F)] (hAk z.k z.p) 1024).bare = bx (zaB z) (lnK z.k (lnP z.p (.ret (.bool true true) []))) := by kernel_rfl
theorem lawOp9 {k : Ka} {p : Pa} (F : Int) (hk : KaOk k) (hp : PaOk p) : (evalF EOp Tryz.prog 9 [.agg (vAk k p F)] (hAk k p) 1024).bare = .ret (.bool true true) [] := by
  have h := tOp9 ⟨k, p, F⟩
  rw [bx_true (zaB_iff.2 ⟨hk, hp⟩), lnK_ok, lnP_ok] at h
  exact h
theorem fnOp9 : Tryz.prog.funcs[9]? = some Tryz.f9 := by kernel_rfl
theorem bOp9 : Tryz.f9.body = some (bodyOf Tryz.f9) := by kernel_rfl
theorem loopsOp9 : LoopsOk EOp Tryz.prog Tryz.f9 (bodyOf Tryz.f9) 0 := loops_noLoop eop_loop _ _

theorem tOp10 (z : Za) : (evalF EOp Tryz.prog 10 [.agg (vAk z.k z.p z.F)] (hAk z.k z.p) 1024).bare = bx (zaB z) (lnK z.k (lnP z.p (.ret (.bool true true) []))) := by kernel_rfl
theorem lawOp10 {k : Ka} {p : Pa} (F : Int) (hk : KaOk k) (hp : PaOk p) : (evalF EOp Tryz.prog 10 [.agg (vAk k p F)] (hAk k p) 1024).bare = .ret (.bool true true) [] := by
  have h := tOp10 ⟨k, p, F⟩
  rw [bx_true (zaB_iff.2 ⟨hk, hp⟩), lnK_ok, lnP_ok] at h
  exact h
theorem fnOp10 : Tryz.prog.funcs[10]? = some Tryz.f10 := by kernel_rfl
theorem bOp10 : Tryz.f10.body = some (bodyOf Tryz.f10) := by kernel_rfl
theorem loopsOp10 : LoopsOk EOp Tryz.prog Tryz.f10 (bodyOf Tryz.f10) 0 := loops_noLoop eop_loop _ _

theorem tOp11 (z : Za) : (evalF EOp Tryz.prog 11 [.agg (vAk z.k z.p z.F)] (hAk z.k z.p) 1024).bare = bx (zaB z) (lnK z.k (lnP z.p (.ret (.bool true true) []))) := by kernel_rfl
theorem lawOp11 {k : Ka} {p : Pa} (F : Int) (hk : KaOk k) (hp : PaOk p) : (evalF EOp Tryz.prog 11 [.agg (vAk k p F)] (hAk k p) 1024).bare = .ret (.bool true true) [] := by
  have h := tOp11 ⟨k, p, F⟩
  rw [bx_true (zaB_iff.2 ⟨hk, hp⟩), lnK_ok, lnP_ok] at h
  exact h
theorem fnOp11 : Tryz.prog.funcs[11]? = some Tryz.f11 := by kernel_rfl
theorem bOp11 : Tryz.f11.body = some (bodyOf Tryz.f11) := by kernel_rfl
theorem loopsOp11 : LoopsOk EOp Tryz.prog Tryz.f11 (bodyOf Tryz.f11) 0 := loops_noLoop eop_loop _ _

theorem tOp12 (z : Za) : (evalF EOp Tryz.prog 12 [.agg (vAk z.k z.p z.F)] (hAk z.k z.p) 1024).bare = bx (zaB z) (lnK z.k (lnP z.p (.ret (.bool true true) []))) := by kernel_rfl
theorem lawOp12 {k : Ka} {p : Pa} (F : Int) (hk : KaOk k) (hp : PaOk p) : (evalF EOp Tryz.prog 12 [.agg (vAk k p F)] (hAk k p) 1024).bare = .ret (.bool true true) [] := by
  have h := tOp12 ⟨k, p, F⟩
  rw [bx_true (zaB_iff.2 ⟨hk, hp⟩), lnK_ok, lnP_ok] at h
  exact h
theorem fnOp12 : Tryz.prog.funcs[12]? = some Tryz.f12 := by kernel_rfl
theorem bOp12 : Tryz.f12.body = some (bodyOf Tryz.f12) := by kernel_rfl
theorem loopsOp12 : LoopsOk EOp Tryz.prog Tryz.f12 (bodyOf Tryz.f12) 0 := loops_noLoop eop_loop _ _

theorem tOp13 (z : Za) : (evalF EOp Tryz.prog 13 [.agg (vAk z.k z.p z.F)] (hAk z.k z.p) 1024).bare = bx (zaB z) (lnK z.k (lnP z.p (.ret (.bool true true) []))) := by kernel_rfl
theorem lawOp13 {k : Ka} {p : Pa} (F : Int) (hk : KaOk k) (hp : PaOk p) : (evalF EOp Tryz.prog 13 [.agg (vAk k p F)] (hAk k p) 1024).bare = .ret (.bool true true) [] := by
  have h := tOp13 ⟨k, p, F⟩
  rw [bx_true (zaB_iff.2 ⟨hk, hp⟩), lnK_ok, lnP_ok] at h
  exact h
theorem fnOp13 : Tryz.prog.funcs[13]? = some Tryz.f13 := by kernel_rfl
theorem bOp13 : Tryz.f13.body = some (bodyOf Tryz.f13) := by kernel_rfl
theorem loopsOp13 : LoopsOk EOp Tryz.prog Tryz.f13 (bodyOf Tryz.f13) 0 := loops_noLoop eop_loop _ _

theorem tOp14 (z : Za) : (evalF EOp Tryz.prog 14 [.agg (vAk z.k z.p z.F)] (hAk z.k z.p) 1024).bare = bx (zaB z) (lnK z.k (lnP z.p (.ret (.bool true true) []))) := by kernel_rfl
theorem lawOp14 {k : Ka} {p : Pa} (F : Int) (hk : KaOk k) (hp : PaOk p) : (evalF EOp Tryz.prog 14 [.agg (vAk k p F)] (hAk k p) 1024).bare = .ret (.bool true true) [] := by
  have h := tOp14 ⟨k, p, F⟩
  rw [bx_true (zaB_iff.2 ⟨hk, hp⟩), lnK_ok, lnP_ok] at h
  exact h
theorem fnOp14 : Tryz.prog.funcs[14]? = some Tryz.f14 := by kernel_rfl
theorem bOp14 : Tryz.f14.body = some (bodyOf Tryz.f14) := by kernel_rfl
theorem loopsOp14 : LoopsOk EOp Tryz.prog Tryz.f14 (bodyOf Tryz.f14) 0 := loops_noLoop eop_loop _ _

end Go.Rv
end
