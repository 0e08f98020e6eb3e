/-
  rvm: one step of each op: its loops.
-/
import Derived.Test.YtngponflocmgiaaC19
import Derived.Test.YtngponflocmgiaaB20
set_option linter.unusedSimpArgs false
set_option linter.unusedVariables false
section
set_option linter.unusedVariables false
open Go Go.Ev Go.Proofs
namespace Go.Rv

structure Tr5 where
  a0 : Nat → Int
  a1 : Nat → Int
  a2 : Nat → Int
  a3 : Nat → Int
  a4 : Nat → Int
def Tr5.cols (q : Tr5) : List Col := [.ints .i64 q.a0, .ints .i64 q.a1, .ints .i64 q.a2, .ints .i64 q.a3, .ints .i64 q.a4]
def hO (p : Pa) (n : Nat) (g : Nat → Int) : Heap := [(0, .tab p.nL [.ints .i64 p.c0, .ints .i64 p.c1, .ints .i64 p.c2, .ints .i64 p.c3, .ints .i64 p.c4] false), (5, .tab n [.ints .i64 g] false), (1024, .cells (vP p))]
def h29 (p : Pa) (n : Nat) (g : Nat → Int) (m : M) : Heap := hO p n g ++ hMac m 1120 1104 1105 1106 1107
def v29b (n : Nat) (i k : Int) : List SV := [.sl 5 n, .ptr 1024 0 0, .ptr 1120 0 0, .int false .i64 i, .int false .i64 k]
def lk29b : Lp := ⟨157, [1, 2, 5, 6, 7], 2000, fun _ _ => none⟩
def h29c (p : Pa) (n : Nat) (g : Nat → Int) (m : M) (q : Tr5) : Heap := h29 p n g m ++ [(2960, .tab 6 q.cols true)]
def v29c (n : Nat) (i k t : Int) : List SV := [.sl 5 n, .ptr 1024 0 0, .ptr 1120 0 0, .int false .i64 i, .int false .i64 k, .sl 2960 6, .int false .i64 t]
def lk29c : Lp := ⟨157, [1, 2, 5, 6, 7, 9, 10], 3100, fun _ _ => none⟩

/-- what is tried: the ask's instruction with an op, in six ways -/
def tryQ (p : Pa) (i : Nat) (op : Int) : Tr5 := ⟨nth [op, op, op, op, op, op] 0, nth [p.c1 i, p.c1 i, p.c1 i, 0, p.c1 i, 0] 0, nth [p.c2 i, p.c2 i, p.c2 i, p.c2 i, 0, 0] 0, nth [p.c3 i, p.c3 i, 0, p.c3 i, 0, 0] 0,
  nth [p.c4 i, 0, ar .and .i64 (p.c4 i) 31, ar .rem .i64 (ar .andNot .i64 (p.c4 i) 3) 2048, ar .and .i64 (p.c4 i) 4092, 0] 0⟩
def errQ (q : Tr5) (t : Nat) : Int := errL (q.a0 t) (q.a1 t) (q.a2 t) (q.a3 t) (q.a4 t)
def wrdQ (q : Tr5) (t : Nat) : ByteArray := wordA (wordL (q.a0 t) (q.a1 t) (q.a2 t) (q.a3 t) (q.a4 t))
def valT (p : Pa) : Int := ar .add .i64 262144 (conv .i64 (ar .rem .u64 (conv .u64 p.at_) 200704))
def vx (b : Bool) (x : Vw) : Vw := bif b then x else .bad
def vxN (i : Int) (n : Nat) (x : Vw) : Vw := vx (decide (0 ≤ i)) (vx (decide (i < (n : Int))) (vx (Nat.blt i.toNat n) (vx (Nat.blt i.toNat n) x)))
def vx6 (i : Int) (x : Vw) : Vw := vx (decide (0 ≤ i)) (vx (decide (i < 6)) (vx (Nat.blt i.toNat 6) (vx (Nat.blt i.toNat 6) x)))
def vx32 (i : Int) (x : Vw) : Vw := vx (decide (0 ≤ i)) (vx (decide (i < 32)) (vx (Nat.blt i.toNat 32) (vx (Nat.blt i.toNat 32) x)))
/-- one step is done, on both sides -/
noncomputable def stepV (w : ByteArray) (m : M) (x : Vw) : Vw :=
  vx (Nat.ble m.nI 100000000) (vx (Nat.ble m.nO 100000000) (vx (Nat.beq m.nI m.nI) (vx (Nat.beq m.nO m.nO) (vx (msB m) (vx (codeB w) (vx (Nat.beq m.nI m.nI) (vx (Nat.beq m.nO m.nO)
    (vx (goodB m) (vx (sizeB w) (vx (Nat.beq m.nI m.nI) (vx (Nat.beq m.nO m.nO)
      (vx (bif false then true else allB [eqMB (stepM w m) (stepM w m), Nat.beq (stepM w m).nI (stepM w m).nI, Nat.beq (stepM w m).nO (stepM w m).nO, Nat.beq (stepM w m).nI (stepM w m).nI, Nat.beq (stepM w m).nO (stepM w m).nO]) x))))))))))))
def setX (m : M) (X : Nat → Int) : M := { m with X := X }
theorem r29c (p : Pa) (n : Nat) (g : Nat → Int) (m : M) (q : Tr5) (i k t : Int) : (evalB ELw Try.prog Try.f29.results.toList (loopOf Try.f29 2) 3 lk29c (v29c n i k t) (h29c p n g m q)).viewP [1, 2, 5, 6, 7, 9, 10] [0, 5, 1024, 1120, 1104, 1105, 1106, 1107, 2960] =
    bif cm .lss t 6 then vx6 t (bif cm .neq (errQ q t.toNat) 0 then .norm 157 (v29c n i k (ar .add .i64 t 1)) (h29c p n g m q) else
      bif cm .eql (ar .rem .i64 i 2) 1 then vx6 t (bif cm .gtr (q.a2 t.toNat) 0 then vx6 t (vx32 (q.a2 t.toNat)
          (stepV (wrdQ q t.toNat) (setX m (upd (upd m.X (q.a2 t.toNat).toNat (valT p)) 17 (ar .add .i64 1 (ar .rem .i64 t 4)))) (.exit 4 157 (v29c n i k t) (h29c p n g (setX m (upd (upd m.X (q.a2 t.toNat).toNat (valT p)) 17 (ar .add .i64 1 (ar .rem .i64 t 4)))) q))))
        else stepV (wrdQ q t.toNat) (setX m (upd m.X 17 (ar .add .i64 1 (ar .rem .i64 t 4)))) (.exit 4 157 (v29c n i k t) (h29c p n g (setX m (upd m.X 17 (ar .add .i64 1 (ar .rem .i64 t 4)))) q)))
      else stepV (wrdQ q t.toNat) m (.exit 4 157 (v29c n i k t) (h29c p n g m q)))
    else .exit 4 157 (v29c n i k t) (h29c p n g m q) := by kernel_rfl

end Go.Rv
end

section
set_option linter.unusedVariables false
open Go Go.Ev Go.Proofs
namespace Go.Rv

/-- the registers behind a try -/
def nextX (p : Pa) (i : Int) (q : Tr5) (t : Nat) (X : Nat → Int) : Nat → Int :=
  bif cm .eql (ar .rem .i64 i 2) 1 then (bif cm .gtr (q.a2 t) 0 then upd (upd X (q.a2 t).toNat (valT p)) 17 (ar .add .i64 1 (ar .rem .i64 (t : Int) 4)) else upd X 17 (ar .add .i64 1 (ar .rem .i64 (t : Int) 4))) else X
def tX (p : Pa) (i : Int) (q : Tr5) : Nat → Nat → (Nat → Int) → (Nat → Int)
  | 0, _, X => X
  | f + 1, t, X => bif cm .neq (errQ q t) 0 then tX p i q f (t + 1) X else nextX p i q t X
/-- without what no try looks at -/
def sp (p : Pa) : Pa := { p with cw := fun _ => 0, cX := fun _ => 0, cM := fun _ => 0, cI := fun _ => 0 }
def kX (p : Pa) (i : Nat) (g : Nat → Int) : Nat → Nat → (Nat → Int) → (Nat → Int)
  | 0, _, X => X
  | f + 1, k, X => kX p i g f (k + 1) (tX (sp p) i (tryQ p i (g k)) 6 0 X)
/-- the machine of the tries -/
structure CG (m : M) : Prop where
  ms : MS m
  nO : m.nO = 0
noncomputable def cgB (m : M) : Bool := @decide (CG m) (Classical.propDecidable _)
theorem cgB_iff {m : M} : cgB m = true ↔ CG m := @decide_eq_true_iff _ (Classical.propDecidable _)
def unHO (H : Heap) : Option (List Bool × Pa × Nat × (Nat → Int)) :=
  match Ev.look H 0, tI .i64 false H 5, cL H 1024 with
  | some (.tab nL [.ints .i64 c0, .ints .i64 c1, .ints .i64 c2, .ints .i64 c3, .ints .i64 c4] _), some (n, g), some [.sl k0 n0, .sl k1 nW, .sl k2 nX, .sl k3 nM, .int _ .i64 at_, .sl k4 nI, .int _ .i64 pc, .bool _ raw] =>
    some ([Nat.beq k0 0, Nat.beq k1 1, Nat.beq k2 2, Nat.beq k3 3, Nat.beq k4 4, Nat.beq n0 nL],
      ⟨nL, nW, nX, nM, nI, c0, c1, c2, c3, c4, fun _ => 0, fun _ => 0, fun _ => 0, fun _ => 0, at_, pc, raw⟩, n, g)
  | _, _, _ => none
def unQ5 (H : Heap) : Option (List Bool × Tr5) :=
  match Ev.look H 2960 with
  | some (.tab n [.ints .i64 a0, .ints .i64 a1, .ints .i64 a2, .ints .i64 a3, .ints .i64 a4] true) => some ([Nat.beq n 6], ⟨a0, a1, a2, a3, a4⟩)
  | _ => none
noncomputable def get29c : List SV → Heap → Option Tr
  | [.sl k5 n, .ptr kp rp cp, .ptr kc rc cc, .int _ .i64 i, .int _ .i64 k, .sl kq nq, .int _ .i64 t], H => match unHO H, macAt H 1120 1104 1105 1106 1107, unQ5 H with
    | some (nn, p, n', g), some (nn', m), some (nn'', q) => some (Tr.needs ([Nat.beq k5 5, Nat.beq n n', Nat.beq kp 1024, Nat.beq rp 0, Nat.beq cp 0, Nat.beq kc 1120, Nat.beq rc 0, Nat.beq cc 0, Nat.beq kq 2960, Nat.beq nq 6, decide (t = 0), cgB m] ++ (nn ++ (nn' ++ nn'')))
      (exitT lk29c 4 [.sl 5 n, .ptr 1024 0 0, .ptr 1120 0 0, .int false .i64 i, .int false .i64 k, .any, .any] (h29 p n g (setX m (tX p i q 6 0 m.X)))))
    | _, _, _ => none
  | _, _ => none
noncomputable def lp29c : Lp := { lk29c with get := get29c }
noncomputable def E29c : Env := ⟨ELw.call, loopEnv [(2, lp29c)]⟩
noncomputable def get29b : List SV → Heap → Option Tr
  | [.sl k5 n, .ptr kp rp cp, .ptr kc rc cc, .int _ .i64 i, .int _ .i64 k], H => match unHO H, macAt H 1120 1104 1105 1106 1107 with
    | some (nn, p, n', g), some (nn', m) => some (Tr.needs ([Nat.beq k5 5, Nat.beq n n', Nat.beq kp 1024, Nat.beq rp 0, Nat.beq cp 0, Nat.beq kc 1120, Nat.beq rc 0, Nat.beq cc 0, decide (k = 0), cgB m, decide (0 ≤ i), decide (i < (p.nL : Int)), Nat.ble n 1000] ++ (nn ++ nn'))
      (exitT lk29b 2 [.sl 5 n, .ptr 1024 0 0, .ptr 1120 0 0, .int false .i64 i, .any] (h29 p n g (setX m (kX p i.toNat g n 0 m.X)))))
    | _, _ => none
  | _, _ => none
noncomputable def lp29b : Lp := { lk29b with get := get29b }
noncomputable def E29b : Env := ⟨ELw.call, loopEnv [(1, lp29b), (2, lp29c)]⟩
def v29a (n : Nat) (i : Int) : List SV := [.sl 5 n, .ptr 1024 0 0, .ptr 1120 0 0, .int false .i64 i]
def lk29a : Lp := ⟨157, [1, 2, 5, 6], 1900, fun _ _ => none⟩
noncomputable def get29a : List SV → Heap → Option Tr
  | [.sl k5 n, .ptr kp rp cp, .ptr kc rc cc, .int _ .i64 i], H => match unHO H, macAt H 1120 1104 1105 1106 1107 with
    | some (nn, p, n', g), some (nn', m) => some (Tr.needs ([Nat.beq k5 5, Nat.beq n n', Nat.beq kp 1024, Nat.beq rp 0, Nat.beq cp 0, Nat.beq kc 1120, Nat.beq rc 0, Nat.beq cc 0, decide (i = 0), cgB m, Nat.ble n 1000] ++ (nn ++ nn'))
      (exitT lk29a 0 [.any, .any, .any, .any] []))
    | _, _ => none
  | _, _ => none
noncomputable def lp29a : Lp := { lk29a with get := get29a }
noncomputable def E29a : Env := ⟨ELw.call, loopEnv [(0, lp29a), (1, lp29b), (2, lp29c)]⟩

theorem r29b (p : Pa) (n : Nat) (g : Nat → Int) (m : M) (i k : Int) : (evalB E29c Try.prog Try.f29.results.toList (loopOf Try.f29 1) 2 lp29b (v29b n i k) (h29 p n g m)).view [1, 2, 5, 6, 7] =
    bif cm .lss k (n : Int) then vxN i p.nL (vxN k n (vx (Nat.beq n n) (vx (cgB m) (vx (Nat.beq p.nL p.nL) (vx (Nat.beq m.nI m.nI) (vx (Nat.beq m.nO m.nO)
      (.norm 157 (v29b n i (ar .add .i64 k 1)) (h29 p n g (setX m (tX (sp p) i (tryQ p i.toNat (g k.toNat)) 6 0 m.X))))))))))
    else .exit 2 157 (v29b n i k) (h29 p n g m) := by kernel_rfl
theorem r29a (p : Pa) (n : Nat) (g : Nat → Int) (m : M) (i : Int) : (evalB E29b Try.prog Try.f29.results.toList (loopOf Try.f29 0) 1 lp29a (v29a n i) (h29 p n g m)).view [1, 2, 5, 6] =
    bif (bif cm .lss i (p.nL : Int) then cm .lss i 3 else false) then vx (Nat.beq n n) (vx (cgB m) (vx (decide (0 ≤ i)) (vx (decide (i < (p.nL : Int))) (vx (Nat.ble n 1000) (vx (Nat.beq p.nL p.nL) (vx (Nat.beq m.nI m.nI) (vx (Nat.beq m.nO m.nO)
      (.norm 157 (v29a n (ar .add .i64 i 1)) (h29 p n g (setX m (kX (sp p) i.toNat g n 0 m.X)))))))))))
    else .exit 0 157 (v29a n i) (h29 p n g m) := by kernel_rfl
theorem t29 (p : Pa) (n : Nat) (g : Nat → Int) : (evalF E29a Try.prog 29 [.agg (vP p), .sl 5 n] (hP p ++ [(5, .tab n [.ints .i64 g] false)]) 1024).bare =
    bif hvP p then .ret (.bool true true) [] else bx (Nat.ble p.nI 100000000) (lnP p (bx (Nat.beq n n) (bx (cgB (machM p)) (bx (Nat.ble n 1000) (bx (Nat.beq p.nL p.nL) (bx (Nat.beq (machM p).nI (machM p).nI) (.ret (.bool true true) []))))))) := by kernel_rfl

end Go.Rv
end

section
set_option linter.unusedVariables false
open Go Go.Ev Go.Proofs
namespace Go.Rv

theorem vx_true {b : Bool} (h : b = true) (x : Vw) : vx b x = x := by subst h; rfl
theorem vxN_ok {i n : Nat} (h : i < n) (x : Vw) : vxN (i : Int) n x = x := by
  unfold vxN
  rw [vx_true (dec_true (by omega)), vx_true (dec_true (by omega)), Int.toNat_natCast, vx_true (blt_t h), vx_true (blt_t h)]
theorem vx6_ok {i : Nat} (h : i < 6) (x : Vw) : vx6 (i : Int) x = x := by
  unfold vx6
  rw [vx_true (dec_true (by omega)), vx_true (dec_true (by omega)), Int.toNat_natCast, vx_true (blt_t h), vx_true (blt_t h)]
theorem vx32_ok {i : Int} (h : 0 ≤ i ∧ i < 32) (x : Vw) : vx32 i x = x := by
  unfold vx32
  rw [vx_true (dec_true h.1), vx_true (dec_true h.2), vx_true (blt_t (by omega)), vx_true (blt_t (by omega))]

theorem stepV_ok {w : ByteArray} {m : M} (h : CG m) (hw : w.size = 4) (x : Vw) : stepV w m x = x := by
  obtain ⟨hm, hn⟩ := h
  have hs := runM_ms (s := w) (j := 1) (fuel := 1) hm (by omega) (by omega)
  have hs : MS (stepM w m) := hs
  unfold stepV
  rw [vx_true (ble_t hm.nI), vx_true (ble_t (by omega)), vx_true (beq_t _), vx_true (beq_t _), vx_true (msB_iff.2 hm), vx_true (codeB_iff.2 (by omega)), vx_true (beq_t _), vx_true (beq_t _),
    vx_true (goodB_iff.2 ⟨hm.mv.mx.X, hm.mv.mx.mem, hm.nO⟩), vx_true (sizeB_iff.2 (by omega)), vx_true (beq_t _), vx_true (beq_t _), eqMB_iff.2 (same_self hs), beq_t, beq_t]
  exact vx_true rfl x

theorem setX_cg {m : M} (h : CG m) {X : Nat → Int} (hX : ∀ r, inR (X r)) (h0 : X 0 = 0) : CG (setX m X) :=
  ⟨⟨⟨⟨hX, h.ms.mv.mx.mem, h.ms.mv.mx.inp⟩, h0, h.ms.mv.f1, h.ms.mv.f2, h.ms.mv.f3, h.ms.mv.f4, h.ms.mv.kd⟩, h.ms.pc, h.ms.nO, h.ms.nI⟩, h.nO⟩

theorem valT_in (p : Pa) : inR (valT p) := by unfold valT; exact ar_range .add (by simp) _ _
theorem err_r1 {q : Tr5} {t : Nat} (h : errQ q t = 0) : 0 ≤ q.a2 t ∧ q.a2 t < 32 := by
  obtain ⟨q1, q2, q3, q4, q5, q6⟩ := dec_enc h
  have := dR1_in (wordL (q.a0 t) (q.a1 t) (q.a2 t) (q.a3 t) (q.a4 t))
  unfold dR1 decV at this
  rw [q1, cond_true] at this
  rw [q4] at this
  exact this

theorem nextX_ok {p : Pa} {i : Int} {q : Tr5} {t : Nat} {X : Nat → Int} (hq : errQ q t = 0) (hX : ∀ r, inR (X r)) (h0 : X 0 = 0) : (∀ r, inR (nextX p i q t X r)) ∧ nextX p i q t X 0 = 0 := by
  unfold nextX
  have hr := err_r1 hq
  cases cm .eql (ar .rem .i64 i 2) 1 with
  | false => exact ⟨hX, h0⟩
  | true =>
    cases hc : cm .gtr (q.a2 t) 0 with
    | false => exact ⟨upd_in hX 17 (ar_range .add (by simp) _ _), upd_zero (k := 17) h0 (by decide) (ar .add .i64 1 (ar .rem .i64 (t : Int) 4))⟩
    | true =>
      have hc : 0 < q.a2 t := by simpa [cm] using hc
      exact ⟨upd_in (upd_in hX _ (valT_in p)) 17 (ar_range .add (by simp) _ _), upd_zero (k := 17) (upd_zero (k := (q.a2 t).toNat) h0 (by omega) (valT p)) (by decide) (ar .add .i64 1 (ar .rem .i64 (t : Int) 4))⟩
theorem tX_ok {p : Pa} {i : Int} {q : Tr5} : ∀ f t X, (∀ r, inR (X r)) → X 0 = 0 → (∀ r, inR (tX p i q f t X r)) ∧ tX p i q f t X 0 = 0
  | 0, _, X, h, h0 => ⟨h, h0⟩
  | f + 1, t, X, h, h0 => by
    unfold tX
    cases hc : cm .neq (errQ q t) 0 with
    | true => exact tX_ok f (t + 1) X h h0
    | false =>
      have : errQ q t = 0 := by simpa [cm] using hc
      exact nextX_ok this h h0
theorem kX_ok {p : Pa} {i : Nat} {g : Nat → Int} : ∀ f k X, (∀ r, inR (X r)) → X 0 = 0 → (∀ r, inR (kX p i g f k X r)) ∧ kX p i g f k X 0 = 0
  | 0, _, X, h, h0 => ⟨h, h0⟩
  | f + 1, k, X, h, h0 => by
    unfold kX
    obtain ⟨h1, h2⟩ := tX_ok (p := sp p) (i := (i : Int)) (q := tryQ p i (g k)) 6 0 X h h0
    exact kX_ok f (k + 1) _ h1 h2

theorem unHO_wk {H : Heap} {nn : List Bool} {p : Pa} {n : Nat} {g : Nat → Int} (h : unHO H = some (nn, p, n, g)) (hn : allB nn = true) : wkH (rmap []) H (hO p n g) := by
  unfold unHO at h
  split at h
  · rename_i q1 q2 q3
    simp only [Option.some.injEq, Prod.mk.injEq] at h
    obtain ⟨rfl, rfl, rfl, rfl⟩ := h
    simp only [allB, Bool.and_true, Bool.and_eq_true, Nat.beq_eq] at hn
    obtain ⟨rfl, rfl, rfl, rfl, rfl, rfl⟩ := hn
    have q3 := cL_spec q3
    obtain ⟨w2, q2, _⟩ := tI_spec q2
    have r0 : ∀ j, rmap [] j = .old j := fun j => rfl
    simp only [wkH, hO, r0, q1, q2, q3, wkB, and_true]
    simp [wkCs, wkC, vP, simL, sim, rmap, rlook]
  · cases h
theorem unQ5_wk {H : Heap} {nn : List Bool} {q : Tr5} (h : unQ5 H = some (nn, q)) (hn : allB nn = true) : wkH (rmap []) H [(2960, .tab 6 q.cols true)] := by
  unfold unQ5 at h
  split at h
  · rename_i q1
    simp only [Option.some.injEq, Prod.mk.injEq] at h
    obtain ⟨rfl, rfl⟩ := h
    simp only [allB, Bool.and_true, Nat.beq_eq] at hn
    subst hn
    have r0 : ∀ j, rmap [] j = .old j := fun j => rfl
    simp only [wkH, r0, q1, wkB, and_true]
    simp [wkCs, wkC, Tr5.cols]
  · cases h
theorem h29_self (p : Pa) (n : Nat) (g : Nat → Int) (m : M) : wkH (rmap []) (h29 p n g m) (h29 p n g m) := by
  simp [wkH, h29, hO, hMac, vP, cpuL, rmap, rlook, Ev.look, wkB, simL, sim, wkCs, wkC]
theorem h29c_self (p : Pa) (n : Nat) (g : Nat → Int) (m : M) (q : Tr5) : wkH (rmap []) (h29c p n g m q) (h29c p n g m q) := by
  simp [wkH, h29c, h29, hO, hMac, vP, cpuL, Tr5.cols, rmap, rlook, Ev.look, wkB, simL, sim, wkCs, wkC]
theorem h29c_29 (p : Pa) (n : Nat) (g : Nat → Int) (m : M) (q : Tr5) : wkH (rmap []) (h29c p n g m q) (h29 p n g m) := by
  simp [wkH, h29c, h29, hO, hMac, vP, cpuL, Tr5.cols, rmap, rlook, Ev.look, wkB, simL, sim, wkCs, wkC]

/-! the tries -/
structure X29c where
  p : Pa
  n : Nat
  g : Nat → Int
  m : M
  q : Tr5
  i : Int
  k : Int
  t : Nat
def ok29c (x : X29c) : Prop := x.t ≤ 6 ∧ CG x.m
def vs29c (x : X29c) : List SV := v29c x.n x.i x.k x.t
def hp29c (x : X29c) : Heap := h29c x.p x.n x.g x.m x.q
def out29c (x : X29c) : Vw := .exit 4 157 [.sl 5 x.n, .ptr 1024 0 0, .ptr 1120 0 0, .int false .i64 x.i, .int false .i64 x.k, .any, .any] (h29 x.p x.n x.g (setX x.m (tX x.p x.i x.q (6 - x.t) x.t x.m.X)))

theorem entry29c (l : List SV) (H : Heap) (T : Tr) (h : lp29c.get l H = some T) (hb : T.leaf ≠ .bad) : ∃ x r, ok29c x ∧ WkV r lp29c.nm l H (vs29c x) (hp29c x) ∧ T.leaf = toLf lp29c (out29c x) := by
  replace h : get29c l H = some T := h
  unfold get29c at h
  split at h
  · rename_i k5 n kp rp cp kc rc cc _ i _ k kq nq _ t
    split at h
    · rename_i nn p n' g nn' m nn'' q hu hu' hu''
      simp only [Option.some.injEq] at h
      subst h
      obtain ⟨hn, he⟩ := needs_ne hb
      rw [he]
      rw [allB_append, allB_append, allB_append] at hn
      simp only [allB, Bool.and_eq_true, Bool.and_true, decide_eq_true_eq, Nat.beq_eq, cgB_iff] at hn
      obtain ⟨⟨rfl, rfl, rfl, rfl, rfl, rfl, rfl, rfl, rfl, rfl, rfl, hm⟩, hnn, hnn', hnn''⟩ := hn
      refine ⟨⟨p, n, g, m, q, i, k, 0⟩, [], ⟨Nat.zero_le _, hm⟩, ⟨rfl, ?_, wkH_append (wkH_append (unHO_wk hu hnn) (macAt_wk hu' hnn' _ _ _ _ _ _ rfl rfl rfl rfl rfl)) (unQ5_wk hu'' hnn''), rfl, rfl⟩, ?_⟩
      · simp [vs29c, v29c, wkF, wkS, sim, rmap, rlook]
      · simp only [exitT_leaf, out29c]
        rfl
    · cases h
  · cases h

theorem evalB_get {E : Env} {P : Program} {res : List ResultVar} {c : Code} {n : Nat} {s s' : Lp} (h1 : s.ks = s'.ks) (h2 : s.len = s'.len) (h3 : s.nm = s'.nm) (l : List SV) (H : Heap) : evalB E P res c n s l H = evalB E P res c n s' l H := by
  unfold evalB; rw [h1, h2, h3]
attribute [local irreducible] evalB Tr.view Tr.viewP stepM strOf in
theorem round29c (x : X29c) (hx : ok29c x) : Round lp29c ok29c (fun x => 6 - x.t) vs29c hp29c out29c x ((evalB ELw Try.prog Try.f29.results.toList (loopOf Try.f29 2) (2 + 1) lp29c (vs29c x) (hp29c x)).view lp29c.ks) := by
  obtain ⟨p, n, g, m, q, i, k, t⟩ := x
  obtain ⟨h0, hm⟩ := hx
  simp only at h0 hm
  have hr := r29c p n g m q i k t
  rw [evalB_get (s := lk29c) (s' := lp29c) rfl rfl rfl] at hr
  refine round_viewP [0, 5, 1024, 1120, 1104, 1105, 1106, 1107, 2960] hr ?_
  have hwd : (wrdQ q t).size = 4 := wordA_size _
  have hex : ∀ (m' : M) (X : Nat → Int), m' = setX m X → tX p i q (6 - t) t m.X = X → Round lp29c ok29c (fun x => 6 - x.t) vs29c hp29c out29c ⟨p, n, g, m, q, i, k, t⟩ (.exit 4 157 (v29c n i k t) (h29c p n g m' q)) := by
    intro m' X hm' hX
    subst hm'
    refine ⟨rfl, [.sl 5 n, .ptr 1024 0 0, .ptr 1120 0 0, .int false .i64 i, .int false .i64 k, .any, .any], h29 p n g (setX m X), [], ?_, rfl, ?_, h29c_29 _ _ _ _ _, rfl, rfl⟩
    · simp only [out29c, hX]
      rfl
    · simp [v29c, wkF, wkS, sim, rmap, rlook]
  by_cases ht : t < 6
  · have e1 : cm .lss (t : Int) 6 = true := by rw [cm_lss']; exact decide_eq_true (by omega)
    obtain ⟨f, hf⟩ : ∃ f, 6 - t = f + 1 := ⟨5 - t, by omega⟩
    have hf2 : 6 - (t + 1) = f := by omega
    rw [e1, cond_true, vx6_ok ht, Int.toNat_natCast, addOne (show t < 9223372036854775807 by omega)]
    have hstep : tX p i q (6 - t) t m.X = bif cm .neq (errQ q t) 0 then tX p i q (6 - (t + 1)) (t + 1) m.X else nextX p i q t m.X := by
      rw [hf, hf2]; rfl
    cases he : cm .neq (errQ q t) 0 with
    | true =>
      rw [he, cond_true] at hstep
      refine ⟨rfl, ⟨p, n, g, m, q, i, k, t + 1⟩, [], ⟨ht, hm⟩, by show 6 - (t + 1) < 6 - t; omega, ?_, rfl, ?_, h29c_self _ _ _ _ _, rfl, rfl⟩
      · simp only [out29c, hstep]
      · simp [vs29c, v29c, wkF, wkS, sim, rmap, rlook]
    | false =>
      have herr : errQ q t = 0 := by simpa [cm] using he
      rw [he, cond_false] at hstep
      have hr := err_r1 herr
      rw [cond_false, vx6_ok ht, vx6_ok ht, vx32_ok hr]
      have hn := nextX_ok (p := p) (i := i) herr hm.ms.mv.mx.X hm.ms.mv.x0
      cases hi : cm .eql (ar .rem .i64 i 2) 1 with
      | false =>
        rw [cond_false, stepV_ok hm hwd]
        refine hex m m.X rfl ?_
        rw [hstep]; unfold nextX; rw [hi]; rfl
      | true =>
        rw [cond_true]
        cases hg : cm .gtr (q.a2 t) 0 with
        | false =>
          have e : nextX p i q t m.X = upd m.X 17 (ar .add .i64 1 (ar .rem .i64 (t : Int) 4)) := by unfold nextX; rw [hi, hg]; rfl
          rw [e] at hn
          rw [cond_false, stepV_ok (setX_cg hm hn.1 hn.2) hwd]
          exact hex _ _ rfl (hstep.trans e)
        | true =>
          have e : nextX p i q t m.X = upd (upd m.X (q.a2 t).toNat (valT p)) 17 (ar .add .i64 1 (ar .rem .i64 (t : Int) 4)) := by unfold nextX; rw [hi, hg]; rfl
          rw [e] at hn
          rw [cond_true, stepV_ok (setX_cg hm hn.1 hn.2) hwd]
          exact hex _ _ rfl (hstep.trans e)
  · have e1 : cm .lss (t : Int) 6 = false := by rw [cm_lss']; exact decide_eq_false (by omega)
    rw [e1, cond_false]
    refine hex m m.X rfl ?_
    rw [show 6 - t = 0 by omega]; rfl

theorem e29c_calls : CallsOk E29c Try.prog := fun f args H nm r h hn => elw_calls f args H nm r h hn
theorem e29b_calls : CallsOk E29b Try.prog := fun f args H nm r h hn => elw_calls f args H nm r h hn
theorem e29a_calls : CallsOk E29a Try.prog := fun f args H nm r h hn => elw_calls f args H nm r h hn
attribute [local irreducible] evalB Tr.view in
theorem loop29c {E : Env} (hE : ∀ S, E.loop 2 S = runLp lp29c S) : LoopOk E Try.prog Try.f29 2 (loopOf Try.f29 2) :=
  loop_okE mixed hE (by decide) ok29c (fun x => 6 - x.t) vs29c hp29c out29c entry29c fun x hx => ⟨ELw, elw_calls, loops_noLoop elw_loop _ _, round29c x hx⟩
theorem nl29b : Code.loops (loopOf Try.f29 1) = 1 := by kernel_rfl
theorem nth29b : nthLoop (loopOf Try.f29 1) 0 = some (loopOf Try.f29 2) := by kernel_rfl
theorem inner29b : LoopsOk E29c Try.prog Try.f29 (loopOf Try.f29 1) 2 := loopsOk_of _ 2 fun m a hm ha => by
  rw [nl29b] at hm
  obtain rfl : m = 0 := by omega
  rw [nth29b] at ha
  simp only [Option.some.injEq] at ha
  subst ha
  exact loop29c fun S => rfl

/-! the ops -/
structure X29b where
  p : Pa
  n : Nat
  g : Nat → Int
  m : M
  i : Nat
  k : Nat
def ok29b (x : X29b) : Prop := x.k ≤ x.n ∧ x.n ≤ 1000 ∧ x.i < x.p.nL ∧ CG x.m
def vs29b (x : X29b) : List SV := v29b x.n x.i x.k
def hp29b (x : X29b) : Heap := h29 x.p x.n x.g x.m
def out29b (x : X29b) : Vw := .exit 2 157 [.sl 5 x.n, .ptr 1024 0 0, .ptr 1120 0 0, .int false .i64 x.i, .any] (h29 x.p x.n x.g (setX x.m (kX x.p x.i x.g (x.n - x.k) x.k x.m.X)))

theorem entry29b (l : List SV) (H : Heap) (T : Tr) (h : lp29b.get l H = some T) (hb : T.leaf ≠ .bad) : ∃ x r, ok29b x ∧ WkV r lp29b.nm l H (vs29b x) (hp29b x) ∧ T.leaf = toLf lp29b (out29b x) := by
  replace h : get29b l H = some T := h
  unfold get29b at h
  split at h
  · rename_i k5 n kp rp cp kc rc cc _ i _ k
    split at h
    · rename_i nn p n' g nn' m hu hu'
      simp only [Option.some.injEq] at h
      subst h
      obtain ⟨hn, he⟩ := needs_ne hb
      rw [he]
      rw [allB_append, allB_append] at hn
      simp only [allB, Bool.and_eq_true, Bool.and_true, decide_eq_true_eq, Nat.beq_eq, cgB_iff, Nat.ble_eq] at hn
      obtain ⟨⟨rfl, rfl, rfl, rfl, rfl, rfl, rfl, rfl, rfl, hm, hi0, hi1, hnl⟩, hnn, hnn'⟩ := hn
      obtain ⟨i, rfl⟩ : ∃ j : Nat, i = (j : Int) := ⟨i.toNat, by omega⟩
      refine ⟨⟨p, n, g, m, i, 0⟩, [], ⟨Nat.zero_le _, hnl, by show i < p.nL; omega, hm⟩, ⟨rfl, ?_, wkH_append (unHO_wk hu hnn) (macAt_wk hu' hnn' _ _ _ _ _ _ rfl rfl rfl rfl rfl), rfl, rfl⟩, ?_⟩
      · simp [vs29b, v29b, wkF, wkS, sim, rmap, rlook]
      · simp only [exitT_leaf, out29b, Int.toNat_natCast]
        rfl
    · cases h
  · cases h

attribute [local irreducible] evalB Tr.view in
theorem round29b (x : X29b) (hx : ok29b x) : Round lp29b ok29b (fun x => x.n - x.k) vs29b hp29b out29b x ((evalB E29c Try.prog Try.f29.results.toList (loopOf Try.f29 1) (1 + 1) lp29b (vs29b x) (hp29b x)).view lp29b.ks) := by
  obtain ⟨p, n, g, m, i, k⟩ := x
  obtain ⟨h0, h1, h2, hm⟩ := hx
  simp only at h0 h1 h2 hm
  have hr := r29b p n g m i k
  rw [show evalB E29c Try.prog Try.f29.results.toList (loopOf Try.f29 1) (1 + 1) lp29b (vs29b ⟨p, n, g, m, i, k⟩) (hp29b ⟨p, n, g, m, i, k⟩) = evalB E29c Try.prog Try.f29.results.toList (loopOf Try.f29 1) 2 lp29b (v29b n i k) (h29 p n g m) from rfl, show lp29b.ks = [1, 2, 5, 6, 7] from rfl, hr]
  by_cases hk : k < n
  · have e1 : cm .lss (k : Int) (n : Int) = true := by rw [cm_lss']; exact decide_eq_true (by omega)
    obtain ⟨f, hf⟩ : ∃ f, n - k = f + 1 := ⟨n - k - 1, by omega⟩
    have hf2 : n - (k + 1) = f := by omega
    rw [e1, cond_true, vxN_ok h2, vxN_ok hk, vx_true (beq_t _), vx_true (cgB_iff.2 hm), vx_true (beq_t _), vx_true (beq_t _), vx_true (beq_t _), Int.toNat_natCast, Int.toNat_natCast, addOne (show k < 9223372036854775807 by omega)]
    have ht := tX_ok (p := sp p) (i := (i : Int)) (q := tryQ p i (g k)) 6 0 m.X hm.ms.mv.mx.X hm.ms.mv.x0
    refine ⟨rfl, ⟨p, n, g, setX m (tX (sp p) i (tryQ p i (g k)) 6 0 m.X), i, k + 1⟩, [], ⟨hk, h1, h2, setX_cg hm ht.1 ht.2⟩, by show n - (k + 1) < n - k; omega, ?_, rfl, ?_, h29_self _ _ _ _, rfl, rfl⟩
    · simp only [out29b, hf, hf2]
      rfl
    · simp [vs29b, v29b, wkF, wkS, sim, rmap, rlook]
  · have e1 : cm .lss (k : Int) (n : Int) = false := by rw [cm_lss']; exact decide_eq_false (by omega)
    rw [e1, cond_false]
    refine ⟨rfl, [.sl 5 n, .ptr 1024 0 0, .ptr 1120 0 0, .int false .i64 i, .any], h29 p n g m, [], ?_, rfl, ?_, h29_self _ _ _ _, rfl, rfl⟩
    · simp only [out29b, show n - k = 0 by omega]
      rfl
    · simp [v29b, wkF, wkS, sim, rmap, rlook]

attribute [local irreducible] evalB Tr.view in
theorem loop29b {E : Env} (hE : ∀ S, E.loop 1 S = runLp lp29b S) : LoopOk E Try.prog Try.f29 1 (loopOf Try.f29 1) :=
  loop_okE mixed hE (by decide) ok29b (fun x => x.n - x.k) vs29b hp29b out29b entry29b fun x hx => ⟨E29c, e29c_calls, inner29b, round29b x hx⟩
theorem nl29a : Code.loops (loopOf Try.f29 0) = 2 := by kernel_rfl
theorem nth29a : nthLoop (loopOf Try.f29 0) 0 = some (loopOf Try.f29 1) := by kernel_rfl
theorem nth29a' : nthLoop (loopOf Try.f29 0) 1 = some (loopOf Try.f29 2) := by kernel_rfl
theorem inner29a : LoopsOk E29b Try.prog Try.f29 (loopOf Try.f29 0) 1 := loopsOk_of _ 1 fun m a hm ha => by
  rw [nl29a] at hm
  rcases m with _ | _ | m
  · rw [nth29a] at ha
    simp only [Option.some.injEq] at ha
    subst ha
    exact loop29b fun S => rfl
  · rw [nth29a'] at ha
    simp only [Option.some.injEq] at ha
    subst ha
    exact loop29c fun S => rfl
  · omega

/-! the instructions -/
structure X29a where
  p : Pa
  n : Nat
  g : Nat → Int
  m : M
  i : Nat
def ok29a (x : X29a) : Prop := x.i ≤ 3 ∧ x.n ≤ 1000 ∧ CG x.m
def vs29a (x : X29a) : List SV := v29a x.n x.i
def hp29a (x : X29a) : Heap := h29 x.p x.n x.g x.m
def out29a (x : X29a) : Vw := .exit 0 157 [.any, .any, .any, .any] []

theorem entry29a (l : List SV) (H : Heap) (T : Tr) (h : lp29a.get l H = some T) (hb : T.leaf ≠ .bad) : ∃ x r, ok29a x ∧ WkV r lp29a.nm l H (vs29a x) (hp29a x) ∧ T.leaf = toLf lp29a (out29a x) := by
  replace h : get29a l H = some T := h
  unfold get29a at h
  split at h
  · rename_i k5 n kp rp cp kc rc cc _ i
    split at h
    · rename_i nn p n' g nn' m hu hu'
      simp only [Option.some.injEq] at h
      subst h
      obtain ⟨hn, he⟩ := needs_ne hb
      rw [he]
      rw [allB_append, allB_append] at hn
      simp only [allB, Bool.and_eq_true, Bool.and_true, decide_eq_true_eq, Nat.beq_eq, cgB_iff, Nat.ble_eq] at hn
      obtain ⟨⟨rfl, rfl, rfl, rfl, rfl, rfl, rfl, rfl, rfl, hm, hnl⟩, hnn, hnn'⟩ := hn
      refine ⟨⟨p, n, g, m, 0⟩, [], ⟨Nat.zero_le _, hnl, hm⟩, ⟨rfl, ?_, wkH_append (unHO_wk hu hnn) (macAt_wk hu' hnn' _ _ _ _ _ _ rfl rfl rfl rfl rfl), rfl, rfl⟩, ?_⟩
      · simp [vs29a, v29a, wkF, wkS, sim, rmap, rlook]
      · simp only [exitT_leaf, out29a]
        rfl
    · cases h
  · cases h

attribute [local irreducible] evalB Tr.view in
theorem round29a (x : X29a) (hx : ok29a x) : Round lp29a ok29a (fun x => 3 - x.i) vs29a hp29a out29a x ((evalB E29b Try.prog Try.f29.results.toList (loopOf Try.f29 0) (0 + 1) lp29a (vs29a x) (hp29a x)).view lp29a.ks) := by
  obtain ⟨p, n, g, m, i⟩ := x
  obtain ⟨h0, h1, hm⟩ := hx
  simp only at h0 h1 hm
  have hr := r29a p n g m i
  rw [show evalB E29b Try.prog Try.f29.results.toList (loopOf Try.f29 0) (0 + 1) lp29a (vs29a ⟨p, n, g, m, i⟩) (hp29a ⟨p, n, g, m, i⟩) = evalB E29b Try.prog Try.f29.results.toList (loopOf Try.f29 0) 1 lp29a (v29a n i) (h29 p n g m) from rfl, show lp29a.ks = [1, 2, 5, 6] from rfl, hr]
  by_cases hc : i < p.nL ∧ i < 3
  · obtain ⟨c1, c2⟩ := hc
    have e : (bif cm .lss (i : Int) (p.nL : Int) then cm .lss (i : Int) 3 else false) = true := by
      rw [cm_lss', cm_lss', decide_eq_true (show (i : Int) < (p.nL : Int) by omega), decide_eq_true (show (i : Int) < 3 by omega)]; rfl
    rw [e, cond_true, vx_true (beq_t _), vx_true (cgB_iff.2 hm), vx_true (dec_true (by omega)), vx_true (dec_true (by omega)), vx_true (ble_t h1), vx_true (beq_t _), vx_true (beq_t _), vx_true (beq_t _), Int.toNat_natCast, addOne (show i < 9223372036854775807 by omega)]
    have ht := kX_ok (p := sp p) (i := i) (g := g) n 0 m.X hm.ms.mv.mx.X hm.ms.mv.x0
    refine ⟨rfl, ⟨p, n, g, setX m (kX (sp p) i g n 0 m.X), i + 1⟩, [], ⟨c2, h1, setX_cg hm ht.1 ht.2⟩, by show 3 - (i + 1) < 3 - i; omega, rfl, rfl, ?_, h29_self _ _ _ _, rfl, rfl⟩
    simp [vs29a, v29a, wkF, wkS, sim, rmap, rlook]
  · have e : (bif cm .lss (i : Int) (p.nL : Int) then cm .lss (i : Int) 3 else false) = false := by
      rw [cm_lss', cm_lss']
      by_cases c1 : i < p.nL
      · have c2 : ¬ (i : Int) < 3 := by have := fun h => hc ⟨c1, h⟩; omega
        simp only [decide_eq_false c2]; cases decide ((i : Int) < (p.nL : Int)) <;> rfl
      · have c2 : ¬ (i : Int) < p.nL := by omega
        simp only [decide_eq_false c2]; rfl
    rw [e, cond_false]
    refine ⟨rfl, [.any, .any, .any, .any], [], [], rfl, rfl, ?_, trivial, rfl, rfl⟩
    simp [v29a, wkF, wkS, sim, rmap, rlook]

attribute [local irreducible] evalB Tr.view in
theorem loop29a : LoopOk E29a Try.prog Try.f29 0 (loopOf Try.f29 0) :=
  loop_okE mixed (fun S => rfl) (by decide) ok29a (fun x => 3 - x.i) vs29a hp29a out29a entry29a fun x hx => ⟨E29b, e29b_calls, inner29a, round29a x hx⟩
theorem fn29 : Try.prog.funcs[29]? = some Try.f29 := by kernel_rfl
theorem b29 : Try.f29.body = some (bodyOf Try.f29) := by kernel_rfl
theorem n29 : (Try.f29.name == "runtime.NumGoroutine") = false := by kernel_rfl
theorem nl29 : Code.loops (bodyOf Try.f29) = 3 := by kernel_rfl
theorem nth29x : nthLoop (bodyOf Try.f29) 0 = some (loopOf Try.f29 0) := by kernel_rfl
theorem nth29y : nthLoop (bodyOf Try.f29) 1 = some (loopOf Try.f29 1) := by kernel_rfl
theorem nth29z : nthLoop (bodyOf Try.f29) 2 = some (loopOf Try.f29 2) := by kernel_rfl
theorem loops29 : LoopsOk E29a Try.prog Try.f29 (bodyOf Try.f29) 0 := loopsOk_of _ 0 fun m a hm ha => by
  rw [nl29] at hm
  rcases m with _ | _ | _ | m
  · rw [nth29x] at ha
    simp only [Option.some.injEq] at ha
    subst ha
    exact loop29a
  · rw [nth29y] at ha
    simp only [Option.some.injEq] at ha
    subst ha
    exact loop29b fun S => rfl
  · rw [nth29z] at ha
    simp only [Option.some.injEq] at ha
    subst ha
    exact loop29c fun S => rfl
  · omega

noncomputable def paB (p : Pa) : Bool := @decide (PaOk p) (Classical.propDecidable _)
theorem paB_iff {p : Pa} : paB p = true ↔ PaOk p := @decide_eq_true_iff _ (Classical.propDecidable _)
attribute [local irreducible] evalF Tr.bare machM in
theorem law29 {p : Pa} (h : PaOk p) {n : Nat} (hn : n ≤ 1000) (g : Nat → Int) : (evalF E29a Try.prog 29 [.agg (vP p), .sl 5 n] (hP p ++ [(5, .tab n [.ints .i64 g] false)]) 1024).bare = .ret (.bool true true) [] := by
  rw [t29]
  cases hv : hvP p with
  | true => rfl
  | false =>
    have hs := hv_small h hv
    have hm := mach_ms h (show p.nI ≤ 2000 by omega)
    have hnO : (machM p).nO = 0 := by with_unfolding_all rfl
    rw [cond_false, bx_true (ble_t (by omega)), lnP_ok, bx_true (beq_t _), bx_true (cgB_iff.2 ⟨hm, hnO⟩), bx_true (ble_t hn), bx_true (beq_t _), bx_true (beq_t _)]

noncomputable def g29 : List SV → Heap → Option R
  | [.agg l, .sl k5 n], [b0, b1, b2, b3, b4, (j5, .tab t [.ints .i64 g] _)] => match unP l [b0, b1, b2, b3, b4], Nat.beq k5 5 && Nat.beq j5 5 with
    | some (nn, p), true => some ⟨paB p :: Nat.beq n t :: Nat.ble n 1000 :: nn, .bool true true, []⟩
    | _, _ => none
  | _, _ => none
attribute [local irreducible] evalF Tr.bare Tr.leaf in
theorem spec29 : SpecOk Try.prog 29 (specOf g29) := spec_okU false mixed fn29 b29 n29 g29 fun a0 H0 r hg hn => by
  unfold g29 at hg
  split at hg
  · rename_i l k5 n b0 b1 b2 b3 b4 j5 t g _
    split at hg
    · rename_i nn p hm hk
      simp only [Bool.and_eq_true, Nat.beq_eq] at hk
      obtain ⟨rfl, rfl⟩ := hk
      simp only [Option.some.injEq] at hg
      subst hg
      simp only [allB, Bool.and_eq_true, Nat.beq_eq, Nat.ble_eq, paB_iff] at hn
      obtain ⟨h1, rfl, h2, hnn⟩ := hn
      obtain ⟨rfl, hr⟩ := unP_all hm hnn
      refine ⟨E29a, [.agg (vP p), .sl 5 n], [], e29a_calls, loops29, fun h => h, fun σ => rfl, fun k hk => (by cases hk), ?_⟩
      have e : roH [] [b0, b1, b2, b3, b4, (5, .tab n [.ints .i64 g] true)] = hP p ++ [(5, .tab n [.ints .i64 g] false)] := by
        have := roH_nil_append [b0, b1, b2, b3, b4] [(5, .tab n [.ints .i64 g] true)]
        rw [hr] at this
        exact this
      have e2 : ∀ b, roH [] [b0, b1, b2, b3, b4, (5, .tab n [.ints .i64 g] b)] = hP p ++ [(5, .tab n [.ints .i64 g] false)] := fun b => e
      rw [e2]
      exact gives_giv (gives_tree (law29 h1 h2 g) (gives_ret fun σ σ' => by simp only [den]))
    · cases hg
  · cases hg

/-- the environment of the laws of ops -/
noncomputable def EOp : Env := envOf [(29, specOf g29)] noLoop
theorem eop_calls : CallsOk EOp Try.prog := (SpecsOk.cons spec29 SpecsOk.nil).calls noLoop
theorem eop_loop : EOp.loop = noLoop := rfl

end Go.Rv
end

section
set_option linter.unusedVariables false
open Go Go.Ev Go.Proofs
namespace Go.Rv

theorem tOp6 (p : Pa) : (evalF EOp Try.prog 6 [.agg (vP p)] (hP p) 1024).bare = bx (paB p) (lnP p (.ret (.bool true true) [])) := by kernel_rfl
theorem lawOp6 {p : Pa} (h : PaOk p) : (evalF EOp Try.prog 6 [.agg (vP p)] (hP p) 1024).bare = .ret (.bool true true) [] := by rw [tOp6, bx_true (paB_iff.2 h), lnP_ok]
theorem fnOp6 : Try.prog.funcs[6]? = some Try.f6 := by kernel_rfl
theorem bOp6 : Try.f6.body = some (bodyOf Try.f6) := by kernel_rfl
theorem loopsOp6 : LoopsOk EOp Try.prog Try.f6 (bodyOf Try.f6) 0 := loops_noLoop eop_loop _ _

theorem tOp7 (p : Pa) : (evalF EOp Try.prog 7 [.agg (vP p)] (hP p) 1024).bare = bx (paB p) (lnP p (.ret (.bool true true) [])) := by kernel_rfl
theorem lawOp7 {p : Pa} (h : PaOk p) : (evalF EOp Try.prog 7 [.agg (vP p)] (hP p) 1024).bare = .ret (.bool true true) [] := by rw [tOp7, bx_true (paB_iff.2 h), lnP_ok]
theorem fnOp7 : Try.prog.funcs[7]? = some Try.f7 := by kernel_rfl
theorem bOp7 : Try.f7.body = some (bodyOf Try.f7) := by kernel_rfl
theorem loopsOp7 : LoopsOk EOp Try.prog Try.f7 (bodyOf Try.f7) 0 := loops_noLoop eop_loop _ _

theorem tOp8 (p : Pa) : (evalF EOp Try.prog 8 [.agg (vP p)] (hP p) 1024).bare = bx (paB p) (lnP p (.ret (.bool true true) [])) := by kernel_rfl
theorem lawOp8 {p : Pa} (h : PaOk p) : (evalF EOp Try.prog 8 [.agg (vP p)] (hP p) 1024).bare = .ret (.bool true true) [] := by rw [tOp8, bx_true (paB_iff.2 h), lnP_ok]
theorem fnOp8 : Try.prog.funcs[8]? = some Try.f8 := by kernel_rfl
theorem bOp8 : Try.f8.body = some (bodyOf Try.f8) := by kernel_rfl
theorem loopsOp8 : LoopsOk EOp Try.prog Try.f8 (bodyOf Try.f8) 0 := loops_noLoop eop_loop _ _

theorem tOp9 (p : Pa) : (evalF EOp Try.prog 9 [.agg (vP p)] (hP p) 1024).bare = bx (paB p) (lnP p (.ret (.bool true true) [])) := by kernel_rfl
theorem lawOp9 {p : Pa} (h : PaOk p) : (evalF EOp Try.prog 9 [.agg (vP p)] (hP p) 1024).bare = .ret (.bool true true) [] := by rw [tOp9, bx_true (paB_iff.2 h), lnP_ok]
theorem fnOp9 : Try.prog.funcs[9]? = some Try.f9 := by kernel_rfl
theorem bOp9 : Try.f9.body = some (bodyOf Try.f9) := by kernel_rfl
theorem loopsOp9 : LoopsOk EOp Try.prog Try.f9 (bodyOf Try.f9) 0 := loops_noLoop eop_loop _ _

theorem tOp10 (p : Pa) : (evalF EOp Try.prog 10 [.agg (vP p)] (hP p) 1024).bare = bx (paB p) (lnP p (.ret (.bool true true) [])) := by kernel_rfl
theorem lawOp10 {p : Pa} (h : PaOk p) : (evalF EOp Try.prog 10 [.agg (vP p)] (hP p) 1024).bare = .ret (.bool true true) [] := by rw [tOp10, bx_true (paB_iff.2 h), lnP_ok]
theorem fnOp10 : Try.prog.funcs[10]? = some Try.f10 := by kernel_rfl
theorem bOp10 : Try.f10.body = some (bodyOf Try.f10) := by kernel_rfl
theorem loopsOp10 : LoopsOk EOp Try.prog Try.f10 (bodyOf Try.f10) 0 := loops_noLoop eop_loop _ _

theorem tOp11 (p : Pa) : (evalF EOp Try.prog 11 [.agg (vP p)] (hP p) 1024).bare = bx (paB p) (lnP p (.ret (.bool true true) [])) := by kernel_rfl
theorem lawOp11 {p : Pa} (h : PaOk p) : (evalF EOp Try.prog 11 [.agg (vP p)] (hP p) 1024).bare = .ret (.bool true true) [] := by rw [tOp11, bx_true (paB_iff.2 h), lnP_ok]
theorem fnOp11 : Try.prog.funcs[11]? = some Try.f11 := by kernel_rfl
theorem bOp11 : Try.f11.body = some (bodyOf Try.f11) := by kernel_rfl
theorem loopsOp11 : LoopsOk EOp Try.prog Try.f11 (bodyOf Try.f11) 0 := loops_noLoop eop_loop _ _

theorem tOp12 (p : Pa) : (evalF EOp Try.prog 12 [.agg (vP p)] (hP p) 1024).bare = bx (paB p) (lnP p (.ret (.bool true true) [])) := by kernel_rfl
theorem lawOp12 {p : Pa} (h : PaOk p) : (evalF EOp Try.prog 12 [.agg (vP p)] (hP p) 1024).bare = .ret (.bool true true) [] := by rw [tOp12, bx_true (paB_iff.2 h), lnP_ok]
theorem fnOp12 : Try.prog.funcs[12]? = some Try.f12 := by kernel_rfl
theorem bOp12 : Try.f12.body = some (bodyOf Try.f12) := by kernel_rfl
theorem loopsOp12 : LoopsOk EOp Try.prog Try.f12 (bodyOf Try.f12) 0 := loops_noLoop eop_loop _ _

theorem tOp13 (p : Pa) : (evalF EOp Try.prog 13 [.agg (vP p)] (hP p) 1024).bare = bx (paB p) (lnP p (.ret (.bool true true) [])) := by kernel_rfl
theorem lawOp13 {p : Pa} (h : PaOk p) : (evalF EOp Try.prog 13 [.agg (vP p)] (hP p) 1024).bare = .ret (.bool true true) [] := by rw [tOp13, bx_true (paB_iff.2 h), lnP_ok]
theorem fnOp13 : Try.prog.funcs[13]? = some Try.f13 := by kernel_rfl
theorem bOp13 : Try.f13.body = some (bodyOf Try.f13) := by kernel_rfl
theorem loopsOp13 : LoopsOk EOp Try.prog Try.f13 (bodyOf Try.f13) 0 := loops_noLoop eop_loop _ _

theorem tOp14 (p : Pa) : (evalF EOp Try.prog 14 [.agg (vP p)] (hP p) 1024).bare = bx (paB p) (lnP p (.ret (.bool true true) [])) := by kernel_rfl
theorem lawOp14 {p : Pa} (h : PaOk p) : (evalF EOp Try.prog 14 [.agg (vP p)] (hP p) 1024).bare = .ret (.bool true true) [] := by rw [tOp14, bx_true (paB_iff.2 h), lnP_ok]
theorem fnOp14 : Try.prog.funcs[14]? = some Try.f14 := by kernel_rfl
theorem bOp14 : Try.f14.body = some (bodyOf Try.f14) := by kernel_rfl
theorem loopsOp14 : LoopsOk EOp Try.prog Try.f14 (bodyOf Try.f14) 0 := loops_noLoop eop_loop _ _

theorem tOp15 (p : Pa) : (evalF EOp Try.prog 15 [.agg (vP p)] (hP p) 1024).bare = bx (paB p) (lnP p (.ret (.bool true true) [])) := by kernel_rfl
theorem lawOp15 {p : Pa} (h : PaOk p) : (evalF EOp Try.prog 15 [.agg (vP p)] (hP p) 1024).bare = .ret (.bool true true) [] := by rw [tOp15, bx_true (paB_iff.2 h), lnP_ok]
theorem fnOp15 : Try.prog.funcs[15]? = some Try.f15 := by kernel_rfl
theorem bOp15 : Try.f15.body = some (bodyOf Try.f15) := by kernel_rfl
theorem loopsOp15 : LoopsOk EOp Try.prog Try.f15 (bodyOf Try.f15) 0 := loops_noLoop eop_loop _ _

end Go.Rv
end
