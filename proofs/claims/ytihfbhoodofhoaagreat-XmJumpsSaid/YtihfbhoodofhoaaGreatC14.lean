/-
  xm: what an instruction makes of a machine; both sides' leaves give it.
-/
import Derived.Test.YtihfbhoodofhoaaGreatC13
import Derived.Test.YtihfbhoodofhoaaGreatC10
import Derived.Test.YtihfbhoodofhoaaGreatB9
import Derived.Test.YtihfbhoodofhoaaGreatB11
set_option linter.unusedSimpArgs false
set_option linter.unusedVariables false
section
set_option linter.unusedVariables false
open Go Go.Ev Go.Proofs
namespace Go.Rv

/-- a machine that has changed: what comes in and goes out may have new names -/
def outM (nn : List Bool) (m : M) : R := ⟨nn, .tup [], [(0, .cells (cpuL m 1 2 1024 1025)), (1, .tab 16 [.ints .i64 m.X] true), (2, .tab 196608 [.ints .u8 m.mem] true), (1024, .tab m.nI [.ints .i64 m.inp] false), (1025, .tab m.nO [.ints .i64 m.out] true), (4, .dead), (3, .dead)]⟩
theorem rF_gives {nn : List Bool} {k c o : Bool} {m m' : M} (h : m' = m) : GivesD (outM nn m') (rF k c o m) := by
  subst h
  refine ⟨[(1024, .old 3), (1025, .old 4)], rfl, fun σ => by simp only [outM, den, denL], ?_, rfl⟩
  simp [outM, hF, wkH, cpuL, rmap, rlook, Ev.look, wkB, simL, sim, wkCs, wkC]
theorem outL_gives {nn : List Bool} {N : Nat} {m m' : M} (hN : N = 1280 ∨ N = 3520) (h : m' = { m with nO := m.nO + 1, out := cat m.nO m.out (nth [m.X 7] 0) }) : GivesD (outM nn m') (outL N m) := by
  subst h
  rcases hN with rfl | rfl
  · refine ⟨[(1024, .old 3), (1025, .old 1280)], rfl, fun σ => by simp only [outM, den, denL], ?_, rfl⟩
    simp [outM, wkH, cpuL, rmap, rlook, Ev.look, wkB, simL, sim, wkCs, wkC]
  · refine ⟨[(1024, .old 3), (1025, .old 3520)], rfl, fun σ => by simp only [outM, den, denL], ?_, rfl⟩
    simp [outM, wkH, cpuL, rmap, rlook, Ev.look, wkB, simL, sim, wkCs, wkC]
theorem inL_gives {nn : List Bool} {N : Nat} {m m' : M} (hN : N = 1280 ∨ N = 3520) (h : m' = { m with X := upd m.X 0 (m.inp 0), nI := m.nI - 1, inp := from_ 1 m.inp }) : GivesD (outM nn m') (inL N m) := by
  subst h
  rcases hN with rfl | rfl
  · refine ⟨[(1024, .old 1280), (1025, .old 4)], rfl, fun σ => by simp only [outM, den, denL], ?_, rfl⟩
    simp [outM, wkH, cpuL, rmap, rlook, Ev.look, wkB, simL, sim, wkCs, wkC]
  · refine ⟨[(1024, .old 3520), (1025, .old 4)], rfl, fun σ => by simp only [outM, den, denL], ?_, rfl⟩
    simp [outM, wkH, cpuL, rmap, rlook, Ev.look, wkB, simL, sim, wkCs, wkC]
theorem bx_true {b : Bool} (h : b = true) (x : Lf) : bx b x = x := by subst h; rfl
theorem io_eq (m : M) (x : Lf) : io m x = x := by unfold io; rw [Nat.beq_refl, Nat.beq_refl]; rfl

/-- with all flags -/
def fM (c x z s y : Bool) (m : M) : M := { m with zf := z, sf := s, cf := y, of_ := bif c then x else false }
theorem arL_gives {nn : List Bool} {c x z s y : Bool} {K : Lf → Lf} {m m' : M} (hK : ∀ l, K l = l) (h : m' = fM c x z s y m) : GivesD (outM nn m') (arL c x z s y K m) := by
  subst h
  unfold arL
  rw [hK, hK]
  cases c with
  | true => exact rF_gives rfl
  | false => exact rF_gives rfl
def sumM (w a b : Int) (m : M) : M := fM (cm .lss (sgnR w a) 0 == cm .lss (sgnR w b) 0) (!cm .lss (sgnR w (mskR w (ar .add .i64 a b))) 0 == cm .lss (sgnR w a) 0) (cm .eql (mskR w (mskR w (ar .add .i64 a b))) 0) (cm .lss (sgnR w (mskR w (ar .add .i64 a b))) 0) (cm .lss (conv .u64 (mskR w (ar .add .i64 a b))) (conv .u64 (mskR w a))) m
def subM (w a b : Int) (m : M) : M := fM (!cm .lss (sgnR w a) 0 == cm .lss (sgnR w b) 0) (!cm .lss (sgnR w (mskR w (ar .sub .i64 a b))) 0 == cm .lss (sgnR w a) 0) (cm .eql (mskR w (mskR w (ar .sub .i64 a b))) 0) (cm .lss (sgnR w (mskR w (ar .sub .i64 a b))) 0) (cm .lss (conv .u64 (mskR w a)) (conv .u64 (mskR w b))) m
def logM (w v : Int) (rd : Int) (m : M) : M := { sX rd (mskR w v) m with zf := cm .eql (mskR w (mskR w v)) 0, sf := cm .lss (sgnR w (mskR w v)) 0, cf := false, of_ := false }
def endM (m : M) : M := { m with kind := 5 }
def pushM (v : Int) (len n : Int) (j : Bool) (m : M) : M :=
  bif !decide (accX (a4 m) 8 = 0) then sA (a4 m) v 8 m else sA (a4 m) v 8 { dn4 m with pc := bif j then ar .add .i64 (ar .add .i64 m.pc len) n else ar .add .i64 m.pc len }
def sysM (len : Int) (m : M) : M :=
  bif cm .eql (m.X 0) 1 then { mp len m with nO := m.nO + 1, out := cat m.nO m.out (nth [m.X 7] 0) }
  else bif cm .eql (m.X 0) 2 then (bif cm .gtr (m.nI : Int) 0 then { mp len m with X := upd m.X 0 (m.inp 0), nI := m.nI - 1, inp := from_ 1 m.inp } else { mp len m with X := upd m.X 0 0 })
  else bif cm .eql (m.X 0) 3 then { m with kind := 1, code := m.X 7 } else endM m
def divF (w rd : Int) (m : M) : Bool :=
  bif cm .neq (mskR w (m.X 2)) (mskR w (ar .shr .i64 (sgnR w (m.X 0)) 63)) then true else bif cm .eql (sgnR w (m.X rd.toNat)) (-1) then cm .eql (sgnR w (m.X 0)) (sgnR w (ar .shl .i64 (-1) (ar .sub .i64 (ar .mul .i64 8 w) 1))) else false
/-- what an instruction makes of a machine that has not ended -/
def exM (K : Nat) (w rd rs n len : Int) (m : M) : M :=
  let A := m.X rd.toNat
  let B := m.X rs.toNat
  let p := mp len m
  let D := aX m B n
  match K with
  | 1 => sX rd (mskR w B) p
  | 2 => sX rd n p
  | 3 => sX rd n p
  | 4 => sumM w A B (sX rd (mskR w (ar .add .i64 A B)) p)
  | 5 => subM w A B (sX rd (mskR w (ar .sub .i64 A B)) p)
  | 6 => logM w (ar .and .i64 A B) rd p
  | 7 => logM w (ar .or .i64 A B) rd p
  | 8 => logM w (ar .xor .i64 A B) rd p
  | 9 => subM w A B p
  | 10 => sX rd (mskR w (ar .mul .i64 A B)) p
  | 11 => subM w 0 A (sX rd (mskR w (ar .sub .i64 0 A)) p)
  | 12 => sX rd (mskR w (ar .xor .i64 (-1) A)) p
  | 13 => bif cm .eql (mskR w A) 0 then endM m else bif divF w rd m then endM m else { p with X := upd (upd m.X 0 (mskR w (ar .quo .i64 (sgnR w (m.X 0)) (sgnR w A)))) 2 (mskR w (ar .rem .i64 (sgnR w (m.X 0)) (sgnR w A))) }
  | 14 => bif cm .eql (mskR w A) 0 then endM m else bif cm .neq (mskR w (m.X 2)) 0 then endM m else { p with X := upd (upd m.X 0 (conv .i64 (ar .quo .u64 (conv .u64 (mskR w (m.X 0))) (conv .u64 (mskR w A))))) 2 (conv .i64 (ar .rem .u64 (conv .u64 (mskR w (m.X 0))) (conv .u64 (mskR w A)))) }
  | 15 => sX rd (mskR w (ar .shl .i64 A (byR w m))) p
  | 16 => sX rd (conv .i64 (ar .shr .u64 (conv .u64 (mskR w A)) (byR w m))) p
  | 17 => sX rd (mskR w (ar .shr .i64 (sgnR w A) (byR w m))) p
  | 18 => { p with X := upd m.X 2 (mskR w (ar .shr .i64 (sgnR w (m.X 0)) 63)) }
  | 19 => sumM w A n (sX rd (mskR w (ar .add .i64 A n)) p)
  | 20 => sX rd (bif holdB m n then ar .or .i64 (ar .andNot .i64 A 255) 1 else ar .andNot .i64 A 255) p
  | 37 => sX rd (ar .add .i64 B n) p
  | 38 => pushM A len n false m
  | 39 => bif decide (accX (p4 m) 8 = 0) then kA (p4 m) 8 (mp len (sX rd (conv .i64 (loadX m.mem (p4 m) 8)) (up4 m))) else kA (p4 m) 8 m
  | 40 => pushM (ar .add .i64 m.pc len) len n true m
  | 41 => bif decide (accX (p4 m) 8 = 0) then kA (p4 m) 8 { up4 m with pc := conv .i64 (loadX m.mem (p4 m) 8) } else kA (p4 m) 8 m
  | 42 => mp n p
  | 43 => mp n p
  | 44 => bif holdB m rd then mp n p else p
  | 45 => bif holdB m rd then mp n p else p
  | 46 => sysM len m
  | K => bif Nat.ble K 25 then sX rd (exV K B) p
      else bif Nat.ble K 32 then (bif decide (accX D (szM K) = 0) then kA D (szM K) (sX rd (ldM K (loadX m.mem D (szM K))) p) else kA D (szM K) m)
      else bif decide (accX D (szM K) = 0) then sA D A (szM K) p else sA D A (szM K) m

/-- an instruction and a machine that may be -/
structure GI (K : Nat) (w rd rs n : Int) (m : M) : Prop where
  hw : w = 4 ∨ w = 8
  d0 : 0 ≤ rd
  d1 : rd < 16
  s0 : 0 ≤ rs
  s1 : rs < 16
  hn : inR n
  w8 : K = 19 → w = 8
  c : K = 20 → 0 ≤ n ∧ n ≤ 15
  X : ∀ r, inR (m.X r)
  mem : byteB m.mem = true
  nO : m.nO < 1000000

theorem outG_eq {K : Nat} {w rd rs n : Int} {m : M} (h : GI K w rd rs n m) (x : Lf) : outG m x = x := by
  have h1 : Nat.ble m.nO m.nO = true := by rw [Nat.ble_eq]; exact Nat.le_refl _
  have h2 : Nat.ble ((m.nO + 1) * 8) 1099511627776 = true := by rw [Nat.ble_eq]; have := h.nO; omega
  unfold outG bx
  rw [h1, h2]
  rfl
theorem inG_eq {m : M} (h : 0 < m.nI) (x : Lf) : inG m x = x := by
  have h1 : decide (0 < (m.nI : Int)) = true := decide_eq_true (by omega)
  have h2 : Nat.blt 0 m.nI = true := by rw [Nat.blt_eq]; exact h
  have h3 : Nat.ble 1 m.nI = true := by rw [Nat.ble_eq]; exact h
  have h4 : Nat.ble m.nI m.nI = true := by rw [Nat.ble_eq]; exact Nat.le_refl _
  unfold inG bx
  rw [h1, h2, h3, h4]
  rfl
theorem shR_gives {nn : List Bool} {K : Nat} {w rd rs n len v : Int} {m : M} (h : GI K w rd rs n m) : GivesD (outM nn (sX rd v (mp len m))) (shR w rd v len m) := by
  obtain ⟨k, hk, _⟩ := by_rng h.hw m
  have h1 : (conv .u64 (ar .mul .i64 8 w) != 0) = true := by rcases h.hw with e | e <;> rw [e] <;> rfl
  unfold shR
  rw [bx_true h1, hk, bx_true (decide_eq_true (by omega)), ix_eq h.d0 h.d1]
  exact rF_gives rfl

theorem push_gives {nn : List Bool} {v len n : Int} {j : Bool} {m : M} : GivesD (outM nn (pushM v len n j m)) (pushL v len n j m) := by
  unfold pushM pushL
  cases !decide (accX (a4 m) 8 = 0) <;> exact rF_gives rfl
theorem ne_zero {x : Int} (h : cm .eql x 0 = false) : (x != 0) = true := by
  rw [cm_eql', decide_eq_false_iff_not] at h
  simp [h]

set_option maxRecDepth 4000 in
theorem rg_all {K : Nat} {w rd rs n len : Int} {m : M} {nn : List Bool} (h1 : 1 ≤ K) (h2 : K ≤ 46) (h : GI K w rd rs n m) : GivesD (outM nn (exM K w rd rs n len m)) (lR K w rd rs n len m) := by
  have hd := fun x => ix_eq h.d0 h.d1 x
  have hs := fun x => ix_eq h.s0 h.s1 x
  have key : K = 1 ∨ K = 2 ∨ K = 3 ∨ K = 4 ∨ K = 5 ∨ K = 6 ∨ K = 7 ∨ K = 8 ∨ K = 9 ∨ K = 10 ∨ K = 11 ∨ K = 12 ∨ K = 13 ∨ K = 14 ∨ K = 15 ∨ K = 16 ∨ K = 17 ∨ K = 18 ∨ K = 19 ∨ K = 20 ∨ (21 ≤ K ∧ K ≤ 25) ∨ (26 ≤ K ∧ K ≤ 32) ∨ (33 ≤ K ∧ K ≤ 36) ∨ K = 37 ∨ K = 38 ∨ K = 39 ∨ K = 40 ∨ K = 41 ∨ K = 42 ∨ K = 43 ∨ K = 44 ∨ K = 45 ∨ K = 46 := by omega
  rcases key with rfl | rfl | rfl | rfl | rfl | rfl | rfl | rfl | rfl | rfl | rfl | rfl | rfl | rfl | rfl | rfl | rfl | rfl | rfl | rfl | ⟨k0, k1⟩ | ⟨k0, k1⟩ | ⟨k0, k1⟩ | rfl | rfl | rfl | rfl | rfl | rfl | rfl | rfl | rfl | rfl
  · simp only [lR, exM, hd, hs]; exact rF_gives rfl
  · simp only [lR, exM, hd, hs]; exact rF_gives rfl
  · simp only [lR, exM, hd, hs]; exact rF_gives rfl
  · simp only [lR, exM, hd, hs]; exact arL_gives hd rfl
  · simp only [lR, exM, hd, hs]; exact arL_gives hd rfl
  · simp only [lR, exM, hd, hs]; exact rF_gives rfl
  · simp only [lR, exM, hd, hs]; exact rF_gives rfl
  · simp only [lR, exM, hd, hs]; exact rF_gives rfl
  · simp only [lR, exM, hd, hs]; exact arL_gives (fun _ => rfl) rfl
  · simp only [lR, exM, hd, hs]; exact rF_gives rfl
  · simp only [lR, exM, hd, hs]; exact arL_gives hd rfl
  · simp only [lR, exM, hd, hs]; exact rF_gives rfl
  · simp only [lR, exM, hd, hs]
    cases hz : cm .eql (mskR w (m.X rd.toNat)) 0 with
    | true => exact rF_gives rfl
    | false =>
      have e1 : decide (0 ≤ ar .sub .i64 (ar .mul .i64 8 w) 1) = true := by rcases h.hw with e | e <;> rw [e] <;> rfl
      have e2 : (sgnR w (m.X rd.toNat) != 0) = true := by
        refine ne_zero ?_
        rw [cm_eql', decide_eq_false_iff_not] at hz ⊢
        intro h0
        apply hz
        have hx := h.X rd.toNat
        revert h0
        rcases h.hw with e | e <;> rw [e]
        · simp only [mskR, sgnR, w44, cond_true, conv, IntKind.wrap_u32, IntKind.wrap_i64, IntKind.wrap_i32]; omega
        · simp only [mskR, sgnR, w84, cond_false]; exact id
      simp only [bx_true e1, bx_true e2]
      simp only [cond_false]
      change GivesD (outM nn (bif divF w rd m then _ else _)) (bif divF w rd m then _ else _)
      cases divF w rd m <;> exact rF_gives rfl
  · simp only [lR, exM, hd, hs]
    cases hz : cm .eql (mskR w (m.X rd.toNat)) 0 with
    | true => exact rF_gives rfl
    | false =>
      have e2 : (conv .u64 (mskR w (m.X rd.toNat)) != 0) = true := by
        refine ne_zero ?_
        rw [zero_u h.hw (h.X _)]
        exact hz
      simp only [cond_false, e2, allB, Bool.and_self, bx, cond_true]
      cases cm .neq (mskR w (m.X 2)) 0 <;> exact rF_gives rfl
  · simp only [lR, exM, hd, hs]; exact shR_gives h
  · simp only [lR, exM, hd, hs]; exact shR_gives h
  · simp only [lR, exM, hd, hs]; exact shR_gives h
  · simp only [lR, exM, hd, hs]; exact rF_gives rfl
  · simp only [lR, exM, hd, hs]; exact arL_gives hd rfl
  · simp only [lR, exM, hd, hs, io_eq, or_zero (andNot_in _ _)]
    cases holdB m n <;> exact rF_gives rfl
  · have el : lR K w rd rs n len m = ix rd (ix rs (ix rd (ret (sX rd (exV K (m.X rs.toNat)) (mp len m))))) := by
      have : K = 21 ∨ K = 22 ∨ K = 23 ∨ K = 24 ∨ K = 25 := by omega
      rcases this with rfl | rfl | rfl | rfl | rfl <;> rfl
    have ee : exM K w rd rs n len m = sX rd (exV K (m.X rs.toNat)) (mp len m) := by
      have : K = 21 ∨ K = 22 ∨ K = 23 ∨ K = 24 ∨ K = 25 := by omega
      rcases this with rfl | rfl | rfl | rfl | rfl <;> rfl
    rw [el, ee, hd, hs, hd]
    exact rF_gives rfl
  · have el : lR K w rd rs n len m = ix rd (ix rs (bx (decide (0 ≤ rd)) (bx (decide (rd < 16)) (bx (byteB m.mem) (io m (bif !decide (accX (aX m (m.X rs.toNat) n) (szM K) = 0) then ret (kA (aX m (m.X rs.toNat) n) (szM K) { m with X := ldX K rd (aX m (m.X rs.toNat) n) m })
        else ret (kA (aX m (m.X rs.toNat) n) (szM K) { mp len m with X := ldX K rd (aX m (m.X rs.toNat) n) m }))))))) := by
      have : K = 26 ∨ K = 27 ∨ K = 28 ∨ K = 29 ∨ K = 30 ∨ K = 31 ∨ K = 32 := by omega
      rcases this with rfl | rfl | rfl | rfl | rfl | rfl | rfl <;> rfl
    have ee : exM K w rd rs n len m = bif decide (accX (aX m (m.X rs.toNat) n) (szM K) = 0) then kA (aX m (m.X rs.toNat) n) (szM K) (sX rd (ldM K (loadX m.mem (aX m (m.X rs.toNat) n) (szM K))) (mp len m)) else kA (aX m (m.X rs.toNat) n) (szM K) m := by
      have : K = 26 ∨ K = 27 ∨ K = 28 ∨ K = 29 ∨ K = 30 ∨ K = 31 ∨ K = 32 := by omega
      rcases this with rfl | rfl | rfl | rfl | rfl | rfl | rfl <;> rfl
    rw [el, ee, hd, hs, bx_true (decide_eq_true h.d0), bx_true (decide_eq_true h.d1), bx_true h.mem, io_eq]
    unfold ldX
    cases decide (accX (aX m (m.X rs.toNat) n) (szM K) = 0) <;> exact rF_gives rfl
  · have el : lR K w rd rs n len m = ix rd (ix rs (io m (bif !decide (accX (aX m (m.X rs.toNat) n) (szM K) = 0) then ret (sA (aX m (m.X rs.toNat) n) (m.X rd.toNat) (szM K) m) else ret (sA (aX m (m.X rs.toNat) n) (m.X rd.toNat) (szM K) (mp len m))))) := by
      have : K = 33 ∨ K = 34 ∨ K = 35 ∨ K = 36 := by omega
      rcases this with rfl | rfl | rfl | rfl <;> rfl
    have ee : exM K w rd rs n len m = bif decide (accX (aX m (m.X rs.toNat) n) (szM K) = 0) then sA (aX m (m.X rs.toNat) n) (m.X rd.toNat) (szM K) (mp len m) else sA (aX m (m.X rs.toNat) n) (m.X rd.toNat) (szM K) m := by
      have : K = 33 ∨ K = 34 ∨ K = 35 ∨ K = 36 := by omega
      rcases this with rfl | rfl | rfl | rfl <;> rfl
    rw [el, ee, hd, hs, io_eq]
    cases decide (accX (aX m (m.X rs.toNat) n) (szM K) = 0) <;> exact rF_gives rfl
  · simp only [lR, exM, hd, hs]; exact rF_gives rfl
  · simp only [lR, exM, hd, hs, io_eq]; exact push_gives
  · simp only [lR, exM, hd, hs, io_eq, bx_true h.mem, popD, xX]
    cases decide (accX (p4 m) 8 = 0) <;> exact rF_gives rfl
  · simp only [lR, exM, hd, hs, io_eq]; exact push_gives
  · simp only [lR, exM, hd, hs, io_eq, bx_true h.mem, popD, xX]
    cases decide (accX (p4 m) 8 = 0) <;> exact rF_gives rfl
  · simp only [lR, exM, hd, hs]; exact rF_gives rfl
  · simp only [lR, exM, hd, hs]; exact rF_gives rfl
  · simp only [lR, exM, hd, hs, io_eq]
    cases holdB m rd <;> exact rF_gives rfl
  · simp only [lR, exM, hd, hs, io_eq]
    cases holdB m rd <;> exact rF_gives rfl
  · simp only [lR, exM, hd, hs, outG_eq h, sysM]
    cases cm .eql (m.X 0) 1 with
    | true => exact outL_gives (.inr rfl) rfl
    | false =>
      simp only [cond_false]
      cases cm .eql (m.X 0) 2 with
      | true =>
        simp only [cond_true]
        cases hn : cm .gtr (m.nI : Int) 0 with
        | true =>
          rw [cm_gtr', decide_eq_true_eq] at hn
          simp only [cond_true]
          rw [inG_eq (by omega)]
          exact inL_gives (.inr rfl) rfl
        | false => exact rF_gives rfl
      | false =>
        simp only [cond_false]
        cases cm .eql (m.X 0) 3 <;> exact rF_gives rfl

end Go.Rv
end

section
set_option linter.unusedVariables false
open Go Go.Ev Go.Proofs
namespace Go.Rv

theorem sumD_gives {nn : List Bool} {w a b : Int} {K : Lf → Lf} {S : Int → M → M} {m : M} (hw : w = 4 ∨ w = 8) (ha : inR a) (hb : inR b) (hK : ∀ l, K l = l) :
    GivesD (outM nn (sumM w a b (S (mskR w (ar .add .i64 a b)) m))) (sumD w (cutD w a) (cutD w b) K S m) := by
  refine arL_gives hK ?_
  have hin := add_in a b
  unfold sumM
  rw [cut_add hw ha hb, sgn_cut hw ha, sgn_cut hw hb, sgn_u hw hin, zero_u hw hin, put_msk hw hin, msk_msk hw, cut_msk hw ha]
theorem subD_gives {nn : List Bool} {w a b : Int} {K : Lf → Lf} {S : Int → M → M} {m : M} (hw : w = 4 ∨ w = 8) (ha : inR a) (hb : inR b) (hK : ∀ l, K l = l) :
    GivesD (outM nn (subM w a b (S (mskR w (ar .sub .i64 a b)) m))) (subD w (cutD w a) (cutD w b) K S m) := by
  refine arL_gives hK ?_
  have hin := sub_in a b
  unfold subM
  rw [cut_sub hw ha hb, sgn_cut hw ha, sgn_cut hw hb, sgn_u hw hin, zero_u hw hin, put_msk hw hin, msk_msk hw, cut_msk hw ha, cut_msk hw hb]
theorem logD_gives {nn : List Bool} {w x rd : Int} {m : M} (hw : w = 4 ∨ w = 8) (hx : inR x) : GivesD (outM nn (logM w x rd m)) (logD w (conv .u64 (mskR w x)) rd m) := by
  unfold logD logM
  rw [put_msk hw hx, zero_u hw hx, sgn_u hw hx, msk_msk hw]
  exact rF_gives rfl
theorem shD_gives {nn : List Bool} {K : Nat} {w rd rs n len v x : Int} {m : M} (h : GI K w rd rs n m) (hv : putD w v = x) : GivesD (outM nn (sX rd x (mp len m))) (shD w rd v len m) := by
  obtain ⟨k, hk, _⟩ := by_rng h.hw m
  have h1 : (conv .u64 (ar .mul .i64 8 w) != 0) = true := by rcases h.hw with e | e <;> rw [e] <;> rfl
  unfold shD
  rw [ix_eq h.d0 h.d1, ix_eq h.d0 h.d1, bx_true h1, by_eq h.hw, hk, bx_true (decide_eq_true (by omega)), ix_eq h.d0 h.d1, hv]
  exact rF_gives rfl

/-! quotients -/
theorem put_small {w q : Int} (hw : w = 4 ∨ w = 8) (h0 : 0 ≤ q) (h1 : q < 18446744073709551616) (h4 : w = 4 → q < 4294967296) : putD w q = conv .i64 q := by
  rcases hw with rfl | rfl
  · have := h4 rfl
    simp only [putD, cutD, w44, cond_true, conv, IntKind.wrap_u64, IntKind.wrap_u32, IntKind.wrap_i64]; omega
  · simp only [putD, cutD, w84, cond_false, conv, IntKind.wrap_u64, IntKind.wrap_i64]; omega
theorem u_rng {w x : Int} (hw : w = 4 ∨ w = 8) (hx : inR x) : 0 ≤ conv .u64 (mskR w x) ∧ conv .u64 (mskR w x) < 18446744073709551616 ∧ (w = 4 → conv .u64 (mskR w x) < 4294967296) := by
  obtain ⟨h0, h1⟩ := hx
  rcases hw with rfl | rfl
  · simp only [mskR, w44, cond_true, conv, IntKind.wrap_u64, IntKind.wrap_u32, IntKind.wrap_i64]; omega
  · simp only [mskR, w84, cond_false, conv, IntKind.wrap_u64]; omega
theorem quoU {a b : Int} (ha : 0 ≤ a) (hb : 0 ≤ b) (h : a < 18446744073709551616) : 0 ≤ ar .quo .u64 a b ∧ ar .quo .u64 a b ≤ a := by
  have e : ar .quo .u64 a b = IntKind.u64.wrap (a.tdiv b) := rfl
  rw [e, Int.tdiv_eq_ediv_of_nonneg ha, IntKind.wrap_u64]
  have h1 := Int.ediv_nonneg ha hb
  have h2 := Int.ediv_le_self b ha
  generalize a / b = q at h1 h2
  omega
theorem remU {a b : Int} (ha : 0 ≤ a) (hb : 0 < b) : 0 ≤ ar .rem .u64 a b ∧ ar .rem .u64 a b ≤ a := by
  have e : ar .rem .u64 a b = a.tmod b := rfl
  rw [e, Int.tmod_eq_emod_of_nonneg ha]
  have h1 := Int.mul_ediv_add_emod a b
  have h2 := Int.mul_nonneg (Int.le_of_lt hb) (Int.ediv_nonneg ha (Int.le_of_lt hb))
  exact ⟨Int.emod_nonneg _ (by omega), by omega⟩
theorem quo_in (a b : Int) : inR (ar .quo .i64 a b) := by
  have e : ar .quo .i64 a b = IntKind.i64.wrap (a.tdiv b) := rfl
  rw [e, IntKind.wrap_i64]
  simp only [inR]; omega
theorem rem_in {a b : Int} (ha : inR a) : inR (ar .rem .i64 a b) := by
  have e : ar .rem .i64 a b = a.tmod b := rfl
  rw [e]
  have h : (a.tmod b).natAbs ≤ a.natAbs := by rw [Int.natAbs_tmod]; exact Nat.mod_le _ _
  have hs : 0 ≤ a → 0 ≤ a.tmod b := fun h => Int.tmod_nonneg b h
  obtain ⟨h0, h1⟩ := ha
  by_cases hp : 0 ≤ a
  · have := hs hp
    exact ⟨by omega, by omega⟩
  · have h2 : a.tmod b ≤ 0 := by
      have := Int.tmod_nonneg b (show 0 ≤ -a by omega)
      rw [Int.neg_tmod] at this
      omega
    exact ⟨by omega, by omega⟩
theorem shr63 {x : Int} (hx : inR x) : ar .shr .i64 x 63 = if x < 0 then -1 else 0 := by
  have e : ar .shr .i64 x 63 = x.fdiv (2 ^ min (Int.toNat 63) 64) := rfl
  have e2 : (2 : Int) ^ min (Int.toNat 63) 64 = 9223372036854775808 := by decide
  obtain ⟨h0, h1⟩ := hx
  rw [e, e2, Int.fdiv_eq_ediv_of_nonneg _ (by decide)]
  split <;> omega

theorem least_eq {w x y : Int} (hw : w = 4 ∨ w = 8) (hx : inR x) : least w (sgnR w x) y = (bif cm .eql y (-1) then cm .eql (sgnR w x) (sgnR w (ar .shl .i64 (-1) (ar .sub .i64 (ar .mul .i64 8 w) 1))) else false) := by
  have hs := sgn_in hw hx
  rcases hw with rfl | rfl
  · have e : sgnR 4 (ar .shl .i64 (-1) (ar .sub .i64 (ar .mul .i64 8 4) 1)) = -2147483648 := by decide
    have hr : -2147483648 ≤ sgnR 4 x ∧ sgnR 4 x ≤ 2147483647 := by simp only [sgnR, w44, cond_true, conv, IntKind.wrap_i32, IntKind.wrap_i64]; omega
    rw [e]
    generalize sgnR 4 x = v at hr
    unfold least
    have e1 : cm .eql v (ar .sub .i64 0 v) = decide (v = 0) := by
      rw [cm_eql']
      have : (v = ar .sub .i64 0 v) = (v = 0) := by simp only [ar, IntKind.wrap_i64]; exact propext (by omega)
      simp only [this]
    rw [e1, w44]
    by_cases hv : v = 0
    · subst hv
      rw [show cm .lss 0 0 = false from rfl, show cm .eql 0 (-2147483648) = false from rfl]
      cases cm .eql y (-1) <;> rfl
    · rw [decide_eq_false hv]
      cases cm .eql v (-2147483648) <;> cases cm .eql y (-1) <;> rfl
  · have e : sgnR 8 (ar .shl .i64 (-1) (ar .sub .i64 (ar .mul .i64 8 8) 1)) = -9223372036854775808 := by decide
    rw [e]
    generalize sgnR 8 x = v at hs
    obtain ⟨h0, h1⟩ := hs
    unfold least
    have e1 : (bif cm .eql v (ar .sub .i64 0 v) then cm .lss v 0 else false) = cm .eql v (-9223372036854775808) := by
      rw [cm_eql', cm_lss', cm_eql', bif_and]
      have : (v = ar .sub .i64 0 v ∧ v < 0) = (v = -9223372036854775808) := by simp only [ar, IntKind.wrap_i64]; exact propext (by omega)
      rw [← Bool.decide_and]
      simp only [this]
    rw [← e1, w84]
    cases cm .eql v (ar .sub .i64 0 v) <;> cases cm .lss v 0 <;> cases cm .eql y (-1) <;> rfl

theorem divD_gives {nn : List Bool} {K : Nat} {w rd rs n len s : Int} {m : M} (h : GI K w rd rs n m) (hs : cm .neq (cutD w (m.X 2)) s = cm .neq (mskR w (m.X 2)) (mskR w (ar .shr .i64 (sgnR w (m.X 0)) 63))) :
    GivesD (outM nn (bif cm .eql (mskR w (m.X rd.toNat)) 0 then endM m else bif divF w rd m then endM m else { mp len m with X := upd (upd m.X 0 (mskR w (ar .quo .i64 (sgnR w (m.X 0)) (sgnR w (m.X rd.toNat))))) 2 (mskR w (ar .rem .i64 (sgnR w (m.X 0)) (sgnR w (m.X rd.toNat)))) })) (divD w rd len s m) := by
  have hx := h.X
  unfold divD
  rw [hs, sgn_cut h.hw (hx 0), sgn_cut h.hw (hx rd.toNat), least_eq h.hw (hx 0), cut_msk h.hw (hx rd.toNat), zero_u h.hw (hx rd.toNat)]
  cases hz : cm .eql (mskR w (m.X rd.toNat)) 0 with
  | true => exact rF_gives rfl
  | false =>
    have e1 : (conv .u64 (mskR w (m.X rd.toNat)) != 0) = true := by
      refine ne_zero ?_
      rw [zero_u h.hw (hx _)]
      exact hz
    have e2 : (sgnR w (m.X rd.toNat) != 0) = true := by
      refine ne_zero ?_
      rw [cm_eql', decide_eq_false_iff_not] at hz ⊢
      intro h0
      apply hz
      have hx := h.X rd.toNat
      revert h0
      rcases h.hw with e | e <;> rw [e]
      · simp only [mskR, sgnR, w44, cond_true, conv, IntKind.wrap_u32, IntKind.wrap_i64, IntKind.wrap_i32]; omega
      · simp only [mskR, sgnR, w84, cond_false]; exact id
    have h0 := sgn_in h.hw (hx 0)
    rw [put_of h.hw (quo_in _ _) (conv_uu (quo_in _ _)), put_of h.hw (rem_in h0) (conv_uu (rem_in h0))]
    simp only [bx_true e1, bx_true e2, cond_false]
    change GivesD (outM nn (bif divF w rd m then _ else _)) (bif divF w rd m then _ else _)
    cases divF w rd m <;> exact rF_gives rfl

set_option maxRecDepth 4000 in
theorem dg_all {K : Nat} {w rd rs n len : Int} {m : M} {nn : List Bool} (h1 : 1 ≤ K) (h2 : K ≤ 46) (h : GI K w rd rs n m) (hc : K = 44 ∨ K = 45 → rd ≤ 15) : GivesD (outM nn (exM K w rd rs n len m)) (lD K w rd rs n len m) := by
  have hd := fun x => ix_eq h.d0 h.d1 x
  have hs := fun x => ix_eq h.s0 h.s1 x
  have hw := h.hw
  have hx := h.X
  have key : K = 1 ∨ K = 2 ∨ K = 3 ∨ K = 4 ∨ K = 5 ∨ K = 6 ∨ K = 7 ∨ K = 8 ∨ K = 9 ∨ K = 10 ∨ K = 11 ∨ K = 12 ∨ K = 13 ∨ K = 14 ∨ K = 15 ∨ K = 16 ∨ K = 17 ∨ K = 18 ∨ K = 19 ∨ K = 20 ∨ (21 ≤ K ∧ K ≤ 25) ∨ (26 ≤ K ∧ K ≤ 32) ∨ (33 ≤ K ∧ K ≤ 36) ∨ K = 37 ∨ K = 38 ∨ K = 39 ∨ K = 40 ∨ K = 41 ∨ K = 42 ∨ K = 43 ∨ K = 44 ∨ K = 45 ∨ K = 46 := by omega
  rcases key with rfl | rfl | rfl | rfl | rfl | rfl | rfl | rfl | rfl | rfl | rfl | rfl | rfl | rfl | rfl | rfl | rfl | rfl | rfl | rfl | ⟨k0, k1⟩ | ⟨k0, k1⟩ | ⟨k0, k1⟩ | rfl | rfl | rfl | rfl | rfl | rfl | rfl | rfl | rfl | rfl
  · simp only [lD, exM, hd, hs, cut_msk hw (hx _), put_msk hw (hx _)]; exact rF_gives rfl
  · simp only [lD, exM, hd, hs]; exact rF_gives rfl
  · simp only [lD, exM, hd, hs]; exact rF_gives rfl
  · simp only [lD, exM, hd, hs]; exact sumD_gives hw (hx _) (hx _) hd
  · simp only [lD, exM, hd, hs]; exact subD_gives hw (hx _) (hx _) hd
  · simp only [lD, exM, hd, hs, and_cut hw]; exact logD_gives hw (and_in _ _)
  · simp only [lD, exM, hd, hs, or_cut hw]; exact logD_gives hw (or_in _ _)
  · simp only [lD, exM, hd, hs, xor_cut hw]; exact logD_gives hw (xor_in _ _)
  · simp only [lD, exM, hd, hs]; exact subD_gives (S := fun _ m => m) hw (hx _) (hx _) (fun _ => rfl)
  · simp only [lD, exM, hd, hs, put_mul hw]; exact rF_gives rfl
  · simp only [lD, exM, hd, hs]
    have := subD_gives (nn := nn) (K := ix rd) (S := sX rd) (m := mp len m) hw (show inR 0 from ⟨by decide, by decide⟩) (hx rd.toNat) hd
    rwa [cut_zero hw] at this
  · simp only [lD, exM, hd, hs, put_not hw]; exact rF_gives rfl
  · simp only [lD, exM, hd, hs]
    rw [sgn_cut hw (hx 0)]
    have h63 := shr63 (sgn_in hw (hx 0))
    cases hz : cm .lss (sgnR w (m.X 0)) 0 with
    | true =>
      refine divD_gives h ?_
      rw [cm_lss', decide_eq_true_eq] at hz
      rw [h63, if_pos hz, cm_neq', cm_neq']
      obtain ⟨a, b⟩ := hx 2
      rcases hw with e | e <;> rw [e]
      · have : (cutD 4 (m.X 2) = bif cm .eql 4 4 then 4294967295 else 18446744073709551615) = (mskR 4 (m.X 2) = mskR 4 (-1)) := by
          simp only [cutD, mskR, w44, cond_true, conv, IntKind.wrap_u64, IntKind.wrap_u32, IntKind.wrap_i64]; exact propext (by omega)
        simp only [this]
      · have : (cutD 8 (m.X 2) = bif cm .eql 8 4 then 4294967295 else 18446744073709551615) = (mskR 8 (m.X 2) = mskR 8 (-1)) := by
          simp only [cutD, mskR, w84, cond_false, conv, IntKind.wrap_u64]; exact propext (by omega)
        simp only [this]
    | false =>
      refine divD_gives h ?_
      rw [cm_lss', decide_eq_false_iff_not] at hz
      rw [h63, if_neg hz, cm_neq', cm_neq']
      obtain ⟨a, b⟩ := hx 2
      rcases hw with e | e <;> rw [e]
      · have : (cutD 4 (m.X 2) = 0) = (mskR 4 (m.X 2) = mskR 4 0) := by
          simp only [cutD, mskR, w44, cond_true, conv, IntKind.wrap_u64, IntKind.wrap_u32, IntKind.wrap_i64]; exact propext (by omega)
        simp only [this]
      · have : (cutD 8 (m.X 2) = 0) = (mskR 8 (m.X 2) = mskR 8 0) := by
          simp only [cutD, mskR, w84, cond_false, conv, IntKind.wrap_u64]; exact propext (by omega)
        simp only [this]
  · simp only [lD, exM, hd, hs, cut_msk hw (hx _)]
    rw [zero_u hw (hx rd.toNat)]
    cases hz : cm .eql (mskR w (m.X rd.toNat)) 0 with
    | true => exact rF_gives rfl
    | false =>
      have e1 : (conv .u64 (mskR w (m.X rd.toNat)) != 0) = true := by
        refine ne_zero ?_
        rw [zero_u hw (hx _)]
        exact hz
      have e2 : cm .neq (conv .u64 (mskR w (m.X 2))) 0 = cm .neq (mskR w (m.X 2)) 0 := by
        have := zero_u hw (hx 2)
        rw [cm_eql', cm_eql'] at this
        rw [cm_neq', cm_neq', this]
      obtain ⟨a0, a1, a2⟩ := u_rng hw (hx 0)
      obtain ⟨b0, b1, b2⟩ := u_rng hw (hx rd.toNat)
      have hb : 0 < conv .u64 (mskR w (m.X rd.toNat)) := by
        have : conv .u64 (mskR w (m.X rd.toNat)) ≠ 0 := by simpa using e1
        omega
      obtain ⟨q0, q1⟩ := quoU a0 b0 a1
      obtain ⟨r0, r1⟩ := remU a0 hb
      rw [e2, put_small hw q0 (by omega) (fun e => by have := a2 e; omega), put_small hw r0 (by omega) (fun e => by have := a2 e; omega)]
      simp only [bx_true e1, cond_false]
      cases cm .neq (mskR w (m.X 2)) 0 <;> exact rF_gives rfl
  · simp only [lD, exM]
    obtain ⟨k, hk, hk2⟩ := by_rng hw m
    exact shD_gives h (by rw [by_eq hw, hk]; exact put_shl hw k hk2)
  · simp only [lD, exM]
    exact shD_gives h (by rw [by_eq hw]; exact put_shr hw (hx _) _)
  · simp only [lD, exM]
    exact shD_gives h (by rw [by_eq hw]; exact put_sar hw (hx _) _)
  · simp only [lD, exM, hd, hs, put_sar hw (hx _)]; exact rF_gives rfl
  · simp only [lD, exM, hd, hs]
    have e8 := h.w8 rfl
    have : conv .u64 n = cutD w n := by rw [e8]; simp only [cutD, w84, cond_false]
    rw [this]
    exact sumD_gives hw (hx _) h.hn hd
  · obtain ⟨c0, c1⟩ := h.c rfl
    simp only [lD, exM, hd, hs, io_eq, bx_true (decide_eq_true c0), bx_true (decide_eq_true c1)]
    cases holdB m n <;> exact rF_gives rfl
  · have el : lD K w rd rs n len m = ix rs (ix rd (ret (sX rd (exV K (m.X rs.toNat)) (mp len m)))) := by
      have : K = 21 ∨ K = 22 ∨ K = 23 ∨ K = 24 ∨ K = 25 := by omega
      rcases this with rfl | rfl | rfl | rfl | rfl <;> rfl
    have ee : exM K w rd rs n len m = sX rd (exV K (m.X rs.toNat)) (mp len m) := by
      have : K = 21 ∨ K = 22 ∨ K = 23 ∨ K = 24 ∨ K = 25 := by omega
      rcases this with rfl | rfl | rfl | rfl | rfl <;> rfl
    rw [el, ee, hs, hd]
    exact rF_gives rfl
  · have el : lD K w rd rs n len m = ix rs (io m (bx (byteB m.mem) (bif !decide (accX (aX m (m.X rs.toNat) n) (szM K) = 0) then ret (kA (aX m (m.X rs.toNat) n) (szM K) m)
        else ix rd (ret (kA (aX m (m.X rs.toNat) n) (szM K) (sX rd (ldD K (xX m (aX m (m.X rs.toNat) n) (szM K))) (mp len m))))))) := by
      have : K = 26 ∨ K = 27 ∨ K = 28 ∨ K = 29 ∨ K = 30 ∨ K = 31 ∨ K = 32 := by omega
      rcases this with rfl | rfl | rfl | rfl | rfl | rfl | rfl <;> rfl
    have ee : exM K w rd rs n len m = bif decide (accX (aX m (m.X rs.toNat) n) (szM K) = 0) then kA (aX m (m.X rs.toNat) n) (szM K) (sX rd (ldM K (loadX m.mem (aX m (m.X rs.toNat) n) (szM K))) (mp len m)) else kA (aX m (m.X rs.toNat) n) (szM K) m := by
      have : K = 26 ∨ K = 27 ∨ K = 28 ∨ K = 29 ∨ K = 30 ∨ K = 31 ∨ K = 32 := by omega
      rcases this with rfl | rfl | rfl | rfl | rfl | rfl | rfl <;> rfl
    rw [el, ee, hs, hd, bx_true h.mem, io_eq, ld_eq]
    unfold xX
    cases decide (accX (aX m (m.X rs.toNat) n) (szM K) = 0) <;> exact rF_gives rfl
  · have el : lD K w rd rs n len m = ix rs (ix rd (io m (bif decide (accX (aX m (m.X rs.toNat) n) (szM K) = 0) then ret (sA (aX m (m.X rs.toNat) n) (m.X rd.toNat) (szM K) (mp len m)) else ret (sA (aX m (m.X rs.toNat) n) (m.X rd.toNat) (szM K) m)))) := by
      have : K = 33 ∨ K = 34 ∨ K = 35 ∨ K = 36 := by omega
      rcases this with rfl | rfl | rfl | rfl <;> rfl
    have ee : exM K w rd rs n len m = bif decide (accX (aX m (m.X rs.toNat) n) (szM K) = 0) then sA (aX m (m.X rs.toNat) n) (m.X rd.toNat) (szM K) (mp len m) else sA (aX m (m.X rs.toNat) n) (m.X rd.toNat) (szM K) m := by
      have : K = 33 ∨ K = 34 ∨ K = 35 ∨ K = 36 := by omega
      rcases this with rfl | rfl | rfl | rfl <;> rfl
    rw [el, ee, hs, hd, io_eq]
    cases decide (accX (aX m (m.X rs.toNat) n) (szM K) = 0) <;> exact rF_gives rfl
  · simp only [lD, exM, hd, hs]; exact rF_gives rfl
  · simp only [lD, exM, hd, hs, io_eq]; exact push_gives
  · simp only [lD, exM, hd, hs, io_eq, bx_true h.mem, popD, xX]
    cases decide (accX (p4 m) 8 = 0) <;> exact rF_gives rfl
  · simp only [lD, exM, hd, hs, io_eq]; exact push_gives
  · simp only [lD, exM, hd, hs, io_eq, bx_true h.mem, popD, xX]
    cases decide (accX (p4 m) 8 = 0) <;> exact rF_gives rfl
  · simp only [lD, exM, hd, hs]; exact rF_gives rfl
  · simp only [lD, exM, hd, hs]; exact rF_gives rfl
  · simp only [lD, exM, hd, hs, io_eq, bx_true (decide_eq_true h.d0), bx_true (decide_eq_true (hc (.inl rfl)))]
    cases holdB m rd <;> exact rF_gives rfl
  · simp only [lD, exM, hd, hs, io_eq, bx_true (decide_eq_true h.d0), bx_true (decide_eq_true (hc (.inr rfl)))]
    cases holdB m rd <;> exact rF_gives rfl
  · simp only [lD, exM, hd, hs, outG_eq h, sysM]
    cases cm .eql (m.X 0) 1 with
    | true => exact outL_gives (.inl rfl) rfl
    | false =>
      simp only [cond_false]
      cases cm .eql (m.X 0) 2 with
      | true =>
        simp only [cond_true]
        by_cases hn : m.nI = 0
        · have e1 : cm .eql (m.nI : Int) 0 = true := by rw [cm_eql']; exact decide_eq_true (by omega)
          have e2 : cm .gtr (m.nI : Int) 0 = false := by rw [cm_gtr']; exact decide_eq_false (by omega)
          simp only [e1, e2, cond_true, cond_false]
          exact rF_gives rfl
        · have e1 : cm .eql (m.nI : Int) 0 = false := by rw [cm_eql']; exact decide_eq_false (by omega)
          have e2 : cm .gtr (m.nI : Int) 0 = true := by rw [cm_gtr']; exact decide_eq_true (by omega)
          simp only [e1, e2, cond_true, cond_false]
          rw [inG_eq (by omega)]
          exact inL_gives (.inl rfl) rfl
      | false =>
        simp only [cond_false]
        cases cm .eql (m.X 0) 3 <;> exact rF_gives rfl

end Go.Rv
end

section
set_option linter.unusedVariables false
open Go Go.Ev Go.Proofs
namespace Go.Rv

theorem dl_all {K : Nat} (h1 : 1 ≤ K) (h2 : K ≤ 46) : dP K := by
  match K, h1, h2 with
  | 1, _, _ => exact dl1
  | 2, _, _ => exact dl2
  | 3, _, _ => exact dl3
  | 4, _, _ => exact dl4
  | 5, _, _ => exact dl5
  | 6, _, _ => exact dl6
  | 7, _, _ => exact dl7
  | 8, _, _ => exact dl8
  | 9, _, _ => exact dl9
  | 10, _, _ => exact dl10
  | 11, _, _ => exact dl11
  | 12, _, _ => exact dl12
  | 13, _, _ => exact dl13
  | 14, _, _ => exact dl14
  | 15, _, _ => exact dl15
  | 16, _, _ => exact dl16
  | 17, _, _ => exact dl17
  | 18, _, _ => exact dl18
  | 19, _, _ => exact dl19
  | 20, _, _ => exact dl20
  | 21, _, _ => exact dl21
  | 22, _, _ => exact dl22
  | 23, _, _ => exact dl23
  | 24, _, _ => exact dl24
  | 25, _, _ => exact dl25
  | 26, _, _ => exact dl26
  | 27, _, _ => exact dl27
  | 28, _, _ => exact dl28
  | 29, _, _ => exact dl29
  | 30, _, _ => exact dl30
  | 31, _, _ => exact dl31
  | 32, _, _ => exact dl32
  | 33, _, _ => exact dl33
  | 34, _, _ => exact dl34
  | 35, _, _ => exact dl35
  | 36, _, _ => exact dl36
  | 37, _, _ => exact dl37
  | 38, _, _ => exact dl38
  | 39, _, _ => exact dl39
  | 40, _, _ => exact dl40
  | 41, _, _ => exact dl41
  | 42, _, _ => exact dl42
  | 43, _, _ => exact dl43
  | 44, _, _ => exact dl44
  | 45, _, _ => exact dl45
  | 46, _, _ => exact dl46
  | K + 47, _, h => exact absurd h (by omega)
  | 0, h, _ => exact absurd h (by decide)
theorem rl_all {K : Nat} (h1 : 1 ≤ K) (h2 : K ≤ 46) : rP K := by
  match K, h1, h2 with
  | 1, _, _ => exact rl1
  | 2, _, _ => exact rl2
  | 3, _, _ => exact rl3
  | 4, _, _ => exact rl4
  | 5, _, _ => exact rl5
  | 6, _, _ => exact rl6
  | 7, _, _ => exact rl7
  | 8, _, _ => exact rl8
  | 9, _, _ => exact rl9
  | 10, _, _ => exact rl10
  | 11, _, _ => exact rl11
  | 12, _, _ => exact rl12
  | 13, _, _ => exact rl13
  | 14, _, _ => exact rl14
  | 15, _, _ => exact rl15
  | 16, _, _ => exact rl16
  | 17, _, _ => exact rl17
  | 18, _, _ => exact rl18
  | 19, _, _ => exact rl19
  | 20, _, _ => exact rl20
  | 21, _, _ => exact rl21
  | 22, _, _ => exact rl22
  | 23, _, _ => exact rl23
  | 24, _, _ => exact rl24
  | 25, _, _ => exact rl25
  | 26, _, _ => exact rl26
  | 27, _, _ => exact rl27
  | 28, _, _ => exact rl28
  | 29, _, _ => exact rl29
  | 30, _, _ => exact rl30
  | 31, _, _ => exact rl31
  | 32, _, _ => exact rl32
  | 33, _, _ => exact rl33
  | 34, _, _ => exact rl34
  | 35, _, _ => exact rl35
  | 36, _, _ => exact rl36
  | 37, _, _ => exact rl37
  | 38, _, _ => exact rl38
  | 39, _, _ => exact rl39
  | 40, _, _ => exact rl40
  | 41, _, _ => exact rl41
  | 42, _, _ => exact rl42
  | 43, _, _ => exact rl43
  | 44, _, _ => exact rl44
  | 45, _, _ => exact rl45
  | 46, _, _ => exact rl46
  | K + 47, _, h => exact absurd h (by omega)
  | 0, h, _ => exact absurd h (by decide)
/-- what a machine's numbers are -/
structure MG (m : M) : Prop where
  pc : inR m.pc
  X : ∀ r, inR (m.X r)
  mem : ∀ r, 0 ≤ m.mem r ∧ m.mem r < 256
  nO : m.nO < 1000000
noncomputable def goodB (m : M) : Bool := @decide (MG m) (Classical.propDecidable _)
theorem goodB_iff {m : M} : goodB m = true ↔ MG m := @decide_eq_true_iff _ (Classical.propDecidable _)
noncomputable def sizeB (s : ByteArray) : Bool := @decide (s.size ≤ 1000000) (Classical.propDecidable _)
theorem sizeB_iff {s : ByteArray} : sizeB s = true ↔ s.size ≤ 1000000 := @decide_eq_true_iff _ (Classical.propDecidable _)

/-- an instruction that may be -/
structure InsG (K w rd rs n : Int) : Prop where
  k0 : 1 ≤ K
  k1 : K ≤ 46
  hw : w = 4 ∨ w = 8
  d0 : 0 ≤ rd
  d1 : rd < 16
  s0 : 0 ≤ rs
  s1 : rs < 16
  hn : inR n
  w8 : K = 19 → w = 8
  c : K = 20 → 0 ≤ n ∧ n ≤ 15
theorem InsG.gi {K w rd rs n : Int} (h : InsG K w rd rs n) {m : M} (hm : MG m) : GI K.toNat w rd rs n m :=
  ⟨h.hw, h.d0, h.d1, h.s0, h.s1, h.hn, fun e => h.w8 (by have := h.k0; omega), fun e => h.c (by have := h.k0; omega), hm.X, byteB_iff.2 hm.mem, hm.nO⟩

theorem reg_rng {x : Int} (h : X.regX x = true) : 0 ≤ x ∧ x < 16 := X.reg_small h
theorem named_rng {sh : Int} {im : Bool} {rd rs n : Int} (h : X.namedX sh im rd rs n = true) : (0 ≤ rd ∧ rd < 16) ∧ 0 ≤ rs ∧ rs < 16 := by
  unfold X.namedX at h
  have hc : X.condX rd = true → 0 ≤ rd ∧ rd < 16 := fun h => X.cond_small h
  have hr : X.regX rd = true → 0 ≤ rd ∧ rd < 16 := reg_rng
  have hs : X.regX rs = true → 0 ≤ rs ∧ rs < 16 := reg_rng
  (repeat' split at h) <;> simp only [Bool.and_eq_true, decide_eq_true_eq] at h
  · exact ⟨hr h.1, hs h.2.1⟩
  · exact ⟨hr h.1, by omega⟩
  · exact ⟨hr h.1, hs h.2.1⟩
  · exact ⟨hr h.1, by omega⟩
  · exact ⟨hr h.1, by omega⟩
  · exact ⟨hr h.1, by omega⟩
  · exact ⟨by omega, by omega⟩
  · exact ⟨hc h.1, by omega⟩
  · exact ⟨by omega, by omega⟩
/-- what stands there may be -/
theorem dec_ins {s : ByteArray} {v : X.DV} (h : X.isDec s v) : InsG v.o v.w v.rd v.rs v.n ∧ 0 < v.len ∧ v.len ≤ s.size := by
  obtain ⟨h1, h2, hd, hl, _, _⟩ := h
  obtain ⟨hw, hv, hn, _⟩ := X.err_ok hd.1
  obtain ⟨hr, hs⟩ := named_rng hn
  have hi := hd.2.1
  have hz := X.dx_size hd
  have hp : 1 ≤ X.pX v.o := by
    obtain ⟨_, _, e, _⟩ := X.end_is h1 h2
    unfold X.pX
    cases X.mrB (X.shX v.o) <;> simp only [cond_true, cond_false] <;> omega
  refine ⟨⟨h1, h2, hw, hr.1, hr.2, hs.1, hs.2, ?_, fun e => ?_, fun e => ?_⟩, by omega, by omega⟩
  · unfold X.inI at hi; unfold inR; omega
  · rw [e] at hv
    have : X.wX 19 = 8 := by kernel_rfl
    omega
  · rw [e] at hn
    have : X.namedX (X.shX 20) (X.imX 20) v.rd v.rs v.n = (X.regX v.rd && (decide (v.rs = 0) && X.condX v.n)) := by kernel_rfl
    rw [this] at hn
    simp only [Bool.and_eq_true, decide_eq_true_eq] at hn
    have := X.cond_small hn.2.2
    simp only [X.small] at this
    omega

def outP (s : ByteArray) (pc : Int) : Bool := bif cm .lss pc 4096 then true else cm .geq (ar .sub .i64 pc 4096) (s.size : Int)
/-- the bytes from a place on -/
def winS (s : ByteArray) (pc : Int) : ByteArray := s.extract (ar .sub .i64 pc 4096).toNat (minI (s.size : Int) (ar .add .i64 (ar .sub .i64 pc 4096) 16)).toNat
def exD (v : X.DV) (m : M) : M := exM v.o.toNat v.w v.rd v.rs v.n v.len m
noncomputable def stepM (s : ByteArray) (m : M) : M :=
  bif cm .neq m.kind 0 then m else bif outP s m.pc then endM m else bif (X.decX (winS s m.pc)).ok then exD (X.decX (winS s m.pc)) m else endM m

noncomputable def fetchN (s : ByteArray) (m : M) : Lf :=
  bif cm .neq m.kind 0 then ret m else bif outP s m.pc then fault m else
  bx (decide (0 ≤ ar .sub .i64 m.pc 4096)) (bx (decide (0 ≤ minI (s.size : Int) (ar .add .i64 (ar .sub .i64 m.pc 4096) 16))) (bx (Nat.ble (ar .sub .i64 m.pc 4096).toNat (minI (s.size : Int) (ar .add .i64 (ar .sub .i64 m.pc 4096) 16)).toNat) (bx (Nat.ble (minI (s.size : Int) (ar .add .i64 (ar .sub .i64 m.pc 4096) 16)).toNat s.size)
    (bx (noIns (winS s m.pc)) (fault m)))))
theorem r_N (s : ByteArray) (m : M) : (evalF EPN Tryz.prog 19 [.str s, .ptr 0 0 0] (hM m true true true) 1024).retH [0, 1, 2, 3, 4] = fetchN s m := by kernel_rfl

theorem minI_eq (a b : Int) : minI a b = min a b := by
  unfold minI
  by_cases h : b < a
  · rw [decide_eq_true h, cond_true]; omega
  · rw [decide_eq_false h, cond_false]; omega
structure InF (s : ByteArray) (pc : Int) : Prop where
  a0 : ar .sub .i64 pc 4096 = pc - 4096
  lo : 0 ≤ pc - 4096
  b0 : minI (s.size : Int) (ar .add .i64 (ar .sub .i64 pc 4096) 16) = min (s.size : Int) (pc - 4096 + 16)
  hi : pc - 4096 < (s.size : Int)
theorem outP_in {s : ByteArray} {pc : Int} (h : outP s pc = false) (hp : inR pc) (hs : s.size ≤ 1000000) : InF s pc := by
  obtain ⟨p0, p1⟩ := hp
  unfold outP at h
  cases h1 : cm .lss pc 4096 with
  | true => rw [h1] at h; cases h
  | false =>
    rw [h1] at h
    simp only [cond_false] at h
    rw [cm_lss', decide_eq_false_iff_not] at h1
    rw [cm_geq', decide_eq_false_iff_not] at h
    have e : ar .sub .i64 pc 4096 = pc - 4096 := by
      simp only [ar, IntKind.wrap_i64] at h ⊢; omega
    rw [e] at h
    refine ⟨e, by omega, ?_, by omega⟩
    rw [e, minI_eq]
    have : ar .add .i64 (pc - 4096) 16 = pc - 4096 + 16 := by simp only [ar, IntKind.wrap_i64]; omega
    rw [this]
theorem win_ok {s : ByteArray} {pc : Int} (h : InF s pc) (x : Lf) :
    bx (decide (0 ≤ ar .sub .i64 pc 4096)) (bx (decide (0 ≤ minI (s.size : Int) (ar .add .i64 (ar .sub .i64 pc 4096) 16))) (bx (Nat.ble (ar .sub .i64 pc 4096).toNat (minI (s.size : Int) (ar .add .i64 (ar .sub .i64 pc 4096) 16)).toNat) (bx (Nat.ble (minI (s.size : Int) (ar .add .i64 (ar .sub .i64 pc 4096) 16)).toNat s.size) x))) = x := by
  obtain ⟨a0, lo, b0, hi⟩ := h
  have h1 : Nat.ble (pc - 4096).toNat (min (s.size : Int) (pc - 4096 + 16)).toNat = true := by rw [Nat.ble_eq]; omega
  have h2 : Nat.ble (min (s.size : Int) (pc - 4096 + 16)).toNat s.size = true := by rw [Nat.ble_eq]; omega
  rw [b0, a0, h1, h2, bx_true (decide_eq_true lo), bx_true (decide_eq_true (by omega)), bx_true rfl, bx_true rfl]

theorem unF_all {H : Heap} {nn : List Bool} {m : M} (h : unF true true true H = some (nn, m)) (hn : allB nn = true) : roH [0, 1, 2, 1024, 1025, 4] H = hM m true true true := by
  unfold unF at h
  split at h
  · split at h
    · rename_i hr hb
      simp only [Option.some.injEq, Prod.mk.injEq] at h
      obtain ⟨rfl, rfl⟩ := h
      simp only [Bool.and_eq_true, Nat.beq_eq] at hb
      obtain ⟨rfl, rfl, rfl, rfl, rfl, rfl, rfl, rfl, rfl, rfl, rfl, rfl, rfl⟩ := hb
      simp only [allB, Bool.and_true, Bool.and_eq_true, Nat.beq_eq] at hn
      obtain ⟨rfl, rfl⟩ := hn
      simp at hr
      obtain ⟨rfl, rfl, rfl⟩ := hr
      rfl
    · cases h
  · cases h

attribute [local irreducible] evalF Tr.retH Tr.leaf exM
theorem step_gives {s : ByteArray} {m : M} (nn : List Bool) (hg : MG m) (hs : s.size ≤ 1000000) : ∃ E, CallsOk E Tryz.prog ∧ E.loop = noLoop ∧ GivesD (outM nn (stepM s m)) ((evalF E Tryz.prog 19 [.str s, .ptr 0 0 0] (hM m true true true) 1024).leaf) := by
  cases e1 : cm .neq m.kind 0 with
  | true =>
    refine ⟨EPN, epn_calls, epn_loop, gives_retH _ (r_N s m) ?_⟩
    unfold fetchN stepM
    rw [e1, cond_true, cond_true]
    exact rF_gives rfl
  | false =>
    cases ho : outP s m.pc with
    | true =>
      refine ⟨EPN, epn_calls, epn_loop, gives_retH _ (r_N s m) ?_⟩
      unfold fetchN stepM
      rw [e1, ho, cond_false, cond_false, cond_true, cond_true]
      exact rF_gives rfl
    | false =>
      have hf := outP_in ho hg.pc hs
      rcases X.decX_cases (winS s m.pc) with hd | hd
      · obtain ⟨hi, hl, _⟩ := dec_ins hd
        have hok : (X.decX (winS s m.pc)).ok = true := hd.2.2.2.2.1
        have hm : stepM s m = exD (X.decX (winS s m.pc)) m := by unfold stepM; rw [e1, ho, hok]; rfl
        rw [hm]
        generalize hv : X.decX (winS s m.pc) = v at hi hl hok
        have hK : ((v.o.toNat : Nat) : Int) = v.o := by have := hi.k0; omega
        refine ⟨EP v.o.toNat v.w v.rd v.rs v.n v.len, ep_calls _ _ _ _ _ _, ep_loop _ _ _ _ _ _, gives_retH _ (rl_all (by have := hi.k0; omega) (by have := hi.k1; omega) s m v.w v.rd v.rs v.n v.len) ?_⟩
        have hins : isIns (winS s m.pc) v.o.toNat v.w v.rd v.rs v.n v.len = true := isIns_iff.2 (by
          rw [hv, hK]
          obtain ⟨a, b, c, d, e, f, g⟩ := v
          simp only at hok
          rw [hok])
        have hlen : cm .eql v.len 0 = false := by rw [cm_eql']; exact decide_eq_false (by omega)
        have hfe : fetch s m v.o.toNat v.w v.rd v.rs v.n v.len (lR v.o.toNat v.w v.rd v.rs v.n v.len m) = lR v.o.toNat v.w v.rd v.rs v.n v.len m := by
          unfold fetch
          have ho' : (bif cm .lss m.pc 4096 then true else cm .geq (ar .sub .i64 m.pc 4096) (s.size : Int)) = false := ho
          rw [e1, ho', cond_false, cond_false, win_ok hf]
          change bx (isIns (winS s m.pc) _ _ _ _ _ _) _ = _
          rw [bx_true hins, hlen, cond_false]
        rw [hfe]
        exact rg_all (by have := hi.k0; omega) (by have := hi.k1; omega) (hi.gi hg)
      · refine ⟨EPN, epn_calls, epn_loop, gives_retH _ (r_N s m) ?_⟩
        have hm : stepM s m = endM m := by unfold stepM; rw [e1, ho, hd.1]; rfl
        rw [hm]
        unfold fetchN
        rw [e1, ho, cond_false, cond_false, win_ok hf, bx_true (noIns_iff.2 hd.1)]
        exact rF_gives rfl

noncomputable def gSt : List SV → Heap → Option R
  | [.str s, .ptr k0 r0 c0], H => match unF true true true H, Nat.beq k0 0 && (Nat.beq r0 0 && Nat.beq c0 0) with
    | some (nn, m), true => some (outM (goodB m :: sizeB s :: nn) (stepM s m))
    | _, _ => none
  | _, _ => none
theorem fn19 : Tryz.prog.funcs[19]? = some Tryz.f19 := by kernel_rfl
theorem b19 : Tryz.f19.body = some (bodyOf Tryz.f19) := by kernel_rfl
theorem n19 : (Tryz.f19.name == "runtime.NumGoroutine") = false := by kernel_rfl
theorem fn65 : Tryz.prog.funcs[65]? = some Tryz.f65 := by kernel_rfl
theorem b65 : Tryz.f65.body = some (bodyOf Tryz.f65) := by kernel_rfl
theorem n65 : (Tryz.f65.name == "runtime.NumGoroutine") = false := by kernel_rfl
/-- the page's Step -/
theorem specSt : SpecOk Tryz.prog 19 (specOf gSt) := spec_okU false mixed fn19 b19 n19 gSt fun a0 H0 r hg hn => by
  unfold gSt at hg
  split at hg
  · rename_i s k0 r0 c0
    split at hg
    · rename_i nn m hm hk
      simp only [Bool.and_eq_true, Nat.beq_eq] at hk
      obtain ⟨rfl, rfl, rfl⟩ := hk
      simp only [Option.some.injEq] at hg
      subst hg
      simp only [outM, allB, Bool.and_eq_true, goodB_iff, sizeB_iff] at hn
      obtain ⟨h1, h2, hnn⟩ := hn
      obtain ⟨E, he, hl, hgv⟩ := step_gives (goodB m :: sizeB s :: nn) h1 h2
      refine ⟨E, [.str s, .ptr 0 0 0], [0, 1, 2, 1024, 1025, 4], he, loops_noLoop hl _ _, fun h => h, fun σ => rfl, subN rfl, ?_⟩
      rw [unF_all hm hnn]
      exact hgv
    · cases hg
  · cases hg

noncomputable def insB (K w rd rs n : Int) : Bool := @decide (InsG K w rd rs n) (Classical.propDecidable _)
theorem insB_iff {K w rd rs n : Int} : insB K w rd rs n = true ↔ InsG K w rd rs n := @decide_eq_true_iff _ (Classical.propDecidable _)
noncomputable def gDo : List SV → Heap → Option R
  | [.ptr k0 r0 c0, .agg [.int _ .i64 op, .int _ .i64 w, .int _ .i64 rd, .int _ .i64 rs, .int _ .i64 n], .int _ .i64 len], H => match unF true true true H, Nat.beq k0 0 && (Nat.beq r0 0 && Nat.beq c0 0) with
    | some (nn, m), true => some (outM (goodB m :: insB op w rd rs n :: nn) (exM op.toNat w rd rs n len m))
    | _, _ => none
  | _, _ => none
theorem specDo : SpecOk Tryz.prog 65 (specOf gDo) := spec_okU false mixed fn65 b65 n65 gDo fun a0 H0 r hg hn => by
  unfold gDo at hg
  split at hg
  · rename_i k0 r0 c0 _ op _ w _ rd _ rs _ n _ len
    split at hg
    · rename_i nn m hm hk
      simp only [Bool.and_eq_true, Nat.beq_eq] at hk
      obtain ⟨rfl, rfl, rfl⟩ := hk
      simp only [Option.some.injEq] at hg
      subst hg
      simp only [outM, allB, Bool.and_eq_true, goodB_iff, insB_iff] at hn
      obtain ⟨h1, h2, hnn⟩ := hn
      have hK : ((op.toNat : Nat) : Int) = op := by have := h2.k0; omega
      refine ⟨ED, [.ptr 0 0 0, .agg [.int true .i64 op.toNat, .int false .i64 w, .int false .i64 rd, .int false .i64 rs, .int false .i64 n], .int false .i64 len], [0, 1, 2, 1024, 1025, 4], ed_calls, loops_noLoop ed_loop _ _, fun h => by simp [SV.alL, SV.al, lt, base], fun σ => by simp only [denL, den, hK], subN rfl, ?_⟩
      rw [unF_all hm hnn]
      refine gives_retH _ (dl_all (by have := h2.k0; omega) (by have := h2.k1; omega) m w rd rs n len) ?_
      exact dg_all (by have := h2.k0; omega) (by have := h2.k1; omega) (h2.gi h1) (fun _ => by have := h2.d1; omega)
    · cases hg
  · cases hg

end Go.Rv
end

section
set_option linter.unusedVariables false
open Go Go.Ev Go.Proofs
namespace Go.Rv

noncomputable def okS (s : ByteArray) : Bool := @decide ((X.decX s).ok = true) (Classical.propDecidable _)
theorem okS_iff {s : ByteArray} : okS s = true ↔ (X.decX s).ok = true := @decide_eq_true_iff _ (Classical.propDecidable _)
noncomputable def g72o : List SV → Heap → Option R
  | [.str s], [] => some ⟨[okS s], .tup [.agg [.int false .i64 (X.decX s).o, .int false .i64 (X.decX s).w, .int false .i64 (X.decX s).rd, .int false .i64 (X.decX s).rs, .int false .i64 (X.decX s).n], .int false .i64 (X.decX s).len, .int true .i64 0], []⟩
  | _, _ => none
noncomputable def g72n : List SV → Heap → Option R
  | [.str s], [] => some ⟨[noIns s], .tup [.agg [.int true .i64 0, .int true .i64 0, .int true .i64 0, .int true .i64 0, .int true .i64 0], .int true .i64 0, .int true .i64 11], []⟩
  | _, _ => none
attribute [local irreducible] evalF Lf.gives X.decX in
theorem gives10 (s : ByteArray) : (evalF X.E10L Tryz.prog 72 [.str s] [] 1024).leaf.gives (X.decT s) := by
  refine gives_tree (X.t10 s) ?_
  simp only [X.eqC_self, cond_true]
  refine gives_cond (fun h => ?_) (fun h => ?_)
  · exact gives_ret fun σ σ' => by simp only [X.decT, den, denL]
  · have hno : X.decX s = ⟨0, 0, 0, 0, 0, 0, false⟩ := by
      rcases X.decX_cases s with hd | hd
      · rw [hd.2.2.2.2.1] at h; cases h
      · exact hd.1
    exact gives_ret fun σ σ' => by simp only [X.decT, hno, den, denL, cond_false]
attribute [local irreducible] evalF Lf.gives X.decX in
theorem spec72o : SpecOk Tryz.prog 72 (specC true g72o) := spec_okA true X.e10l_calls mixed X.fn10 X.b10 X.n10 X.loops10 g72o fun a0 H0 r hg hn => by
  unfold g72o at hg
  split at hg
  · rename_i s
    simp only [Option.some.injEq] at hg
    subst hg
    simp only [allB, Bool.and_true, okS_iff] at hn
    exact ⟨_, id, fun _ => rfl, gives_giv (gives_same (gives10 s) fun σ => by simp only [X.decT, hn, den, denL, cond_true])⟩
  · cases hg
attribute [local irreducible] evalF Lf.gives X.decX in
theorem spec72n : SpecOk Tryz.prog 72 (specC true g72n) := spec_okA true X.e10l_calls mixed X.fn10 X.b10 X.n10 X.loops10 g72n fun a0 H0 r hg hn => by
  unfold g72n at hg
  split at hg
  · rename_i s
    simp only [Option.some.injEq] at hg
    subst hg
    simp only [allB, Bool.and_true, noIns_iff] at hn
    exact ⟨_, id, fun _ => rfl, gives_giv (gives_same (gives10 s) fun σ => by simp only [X.decT, hn, den, denL, cond_false])⟩
  · cases hg

end Go.Rv
end

section
set_option linter.unusedVariables false
open Go Go.Ev Go.Proofs
namespace Go.Rv

def gCl (k : IntKind) : List SV → Heap → Option R
  | [.sl j n], [(i, .tab m [.ints k' g] _)] => match Nat.beq j 0 && (Nat.beq i 0 && decide (k = k')) with
    | true => some ⟨[Nat.beq m n, Nat.ble n 100000000], .sl 1024 n, [(1024, .tab n [.ints k g] true)]⟩
    | false => none
  | [.val (.slice none 0 0)], [] => some ⟨[], .sl 1024 0, [(1024, .tab 0 [.ints k fun _ => 0] true)]⟩
  | _, _ => none

theorem t55s (n : Nat) (g : Nat → Int) (b : Bool) : (evalF EN Tryz.prog 62 [.sl 0 n] [(0, .tab n [.ints .i64 g] false)] 1024).leaf =
    bif Nat.blt 0 n then bif Nat.ble n n then bif Nat.ble n n then bif Nat.ble ((0 + n) * 8) 1099511627776 then
      .ret (.sl 1104 (0 + n)) [(0, .tab n [.ints .i64 g] false), (1072, .dead), (1104, .tab (0 + n) [.ints .i64 (cat 0 (fun _ => 0) g)] true)] else .bad else .bad else .bad else .bad := by kernel_rfl
theorem t55n (c m : Nat) (g : Nat → Int) : (evalF EN Tryz.prog 62 [.val (.slice none 0 c)] [(0, .tab m [.ints .i64 g] false)] 1024).leaf =
    .ret (.val (.slice none 0 0)) [(0, .tab m [.ints .i64 g] false)] := by kernel_rfl
theorem t55N : (evalF EN Tryz.prog 62 [.val (.slice none 0 0)] [] 1024).leaf = .ret (.val (.slice none 0 0)) [] := by kernel_rfl
theorem t55z (a : Addr) (c m : Nat) (g : Nat → Int) : (evalF EN Tryz.prog 62 [.val (.slice (some a) 0 c)] [(0, .tab m [.ints .i64 g] false)] 1024).leaf =
    .ret (.sl 1104 0) [(0, .tab m [.ints .i64 g] false), (1072, .dead), (1104, .tab 0 [.ints .i64 (cat 0 (fun _ => 0) (fun _ => 0))] true)] := by kernel_rfl
theorem t56s (n : Nat) (g : Nat → Int) (b : Bool) : (evalF EN Tryz.prog 63 [.sl 0 n] [(0, .tab n [.ints .u8 g] false)] 1024).leaf =
    bif Nat.blt 0 n then bif Nat.ble n n then bif Nat.ble n n then bif Nat.ble ((0 + n) * 1) 1099511627776 then
      .ret (.sl 1104 (0 + n)) [(0, .tab n [.ints .u8 g] false), (1072, .dead), (1104, .tab (0 + n) [.ints .u8 (cat 0 (fun _ => 0) g)] true)] else .bad else .bad else .bad else .bad := by kernel_rfl
theorem t56n (c m : Nat) (g : Nat → Int) : (evalF EN Tryz.prog 63 [.val (.slice none 0 c)] [(0, .tab m [.ints .u8 g] false)] 1024).leaf =
    .ret (.val (.slice none 0 0)) [(0, .tab m [.ints .u8 g] false)] := by kernel_rfl
theorem t56N : (evalF EN Tryz.prog 63 [.val (.slice none 0 0)] [] 1024).leaf = .ret (.val (.slice none 0 0)) [] := by kernel_rfl
theorem t56z (a : Addr) (c m : Nat) (g : Nat → Int) : (evalF EN Tryz.prog 63 [.val (.slice (some a) 0 c)] [(0, .tab m [.ints .u8 g] false)] 1024).leaf =
    .ret (.sl 1104 0) [(0, .tab m [.ints .u8 g] false), (1072, .dead), (1104, .tab 0 [.ints .u8 (cat 0 (fun _ => 0) (fun _ => 0))] true)] := by kernel_rfl

theorem cat_zero (f g : Nat → Int) : cat 0 f g = g := by
  funext i
  simp only [cat]
  have : Nat.blt i 0 = false := by cases h : Nat.blt i 0 with | false => rfl | true => rw [Nat.blt_eq] at h; omega
  rw [this, cond_false, Nat.sub_zero]

attribute [local irreducible] evalF in
theorem clone_ok {f : Nat} {fn : Func} {k : IntKind} (hf : Tryz.prog.funcs[f]? = some fn) (hb : fn.body = some (bodyOf fn)) (hname : (fn.name == "runtime.NumGoroutine") = false)
    {z : Nat} (hz : z ≤ 8)
    (ts : ∀ (n : Nat) (g : Nat → Int), (evalF EN Tryz.prog f [.sl 0 n] [(0, .tab n [.ints k g] false)] 1024).leaf =
      bif Nat.blt 0 n then bif Nat.ble n n then bif Nat.ble n n then bif Nat.ble ((0 + n) * z) 1099511627776 then
      .ret (.sl 1104 (0 + n)) [(0, .tab n [.ints k g] false), (1072, .dead), (1104, .tab (0 + n) [.ints k (cat 0 (fun _ => 0) g)] true)] else .bad else .bad else .bad else .bad)
    (tn : ∀ (c m : Nat) (g : Nat → Int), (evalF EN Tryz.prog f [.val (.slice none 0 c)] [(0, .tab m [.ints k g] false)] 1024).leaf = .ret (.val (.slice none 0 0)) [(0, .tab m [.ints k g] false)])
    (tN : (evalF EN Tryz.prog f [.val (.slice none 0 0)] [] 1024).leaf = .ret (.val (.slice none 0 0)) [])
    (tz : ∀ (a : Addr) (c m : Nat) (g : Nat → Int), (evalF EN Tryz.prog f [.val (.slice (some a) 0 c)] [(0, .tab m [.ints k g] false)] 1024).leaf =
      .ret (.sl 1104 0) [(0, .tab m [.ints k g] false), (1072, .dead), (1104, .tab 0 [.ints k (cat 0 (fun _ => 0) (fun _ => 0))] true)]) :
    SpecOk Tryz.prog f (specOf (gCl k)) := spec_okS false mixed hf hb hname (gCl k) fun a0 H0 r hg hn σ w hs => by
  unfold gCl at hg
  split at hg
  · rename_i j n i m k' g rw_
    split at hg
    · rename_i hk
      simp only [Bool.and_eq_true, Nat.beq_eq, decide_eq_true_eq] at hk
      obtain ⟨rfl, rfl, rfl⟩ := hk
      simp only [Option.some.injEq] at hg
      subst hg
      simp only [allB, Bool.and_true, Bool.and_eq_true, Nat.beq_eq, Nat.ble_eq] at hn
      obtain ⟨rfl, hn⟩ := hn
      have hb0 := hs.sat 0 _ rfl
      obtain ⟨_, _, hnil, _, _⟩ := hb0
      have hr : roH [1024] [(0, .tab m [.ints k g] rw_)] = [(0, .tab m [.ints k g] false)] := rfl
      by_cases h0 : m = 0
      · subst h0
        cases hq : (σ 0).nil with
        | true =>
          refine ⟨EN, [.val (.slice none 0 (σ 0).cap)], [1024], en_calls, loops_noLoop en_loop _ _, fun _ => rfl, by simp [denL, den, hq], fun _ h => h, ?_⟩
          simp only [hr]
          rw [show base = 1024 from rfl, tn]
          refine ⟨[(1024, .nil 1)], rfl, fun σ => by simp [den, rn, rmap, rlook], ?_, rfl⟩
          simp [wkH, rmap, rlook, wkN]
        | false =>
          refine ⟨EN, [.val (.slice (some ⟨(σ 0).blk, (σ 0).off, none⟩) 0 (σ 0).cap)], [1024], en_calls, loops_noLoop en_loop _ _, fun _ => rfl, by simp [denL, den, hq], fun _ h => h, ?_⟩
          simp only [hr]
          rw [show base = 1024 from rfl, tz]
          refine ⟨[(1024, .old 1104)], rfl, sim_den _ _ ⟨rfl, rfl⟩, ?_, rfl⟩
          simp [wkH, rmap, rlook, Ev.look, wkB, wkCs, wkC]
      · refine ⟨EN, [.sl 0 m], [1024], en_calls, loops_noLoop en_loop _ _, fun h => h, rfl, fun _ h => h, ?_⟩
        simp only [hr]
        have e1 : Nat.blt 0 m = true := by rw [Nat.blt_eq]; omega
        have e2 : Nat.ble m m = true := by rw [Nat.ble_eq]; omega
        have e3 : Nat.ble ((0 + m) * z) 1099511627776 = true := by
          rw [Nat.ble_eq, Nat.zero_add]
          have := Nat.mul_le_mul hn hz
          omega
        rw [show base = 1024 from rfl, ts, e1, e2, e3, cond_true, cond_true, cond_true, cond_true, Nat.zero_add, cat_zero]
        refine ⟨[(1024, .old 1104)], rfl, sim_den _ _ ⟨rfl, rfl⟩, ?_, rfl⟩
        simp [wkH, rmap, rlook, Ev.look, wkB, wkCs, wkC]
    · cases hg
  · simp only [Option.some.injEq] at hg
    subst hg
    refine ⟨EN, [.val (.slice none 0 0)], [1024], en_calls, loops_noLoop en_loop _ _, fun _ => rfl, rfl, fun _ h => h, ?_⟩
    show GivesD _ (evalF EN Tryz.prog f [.val (.slice none 0 0)] [] 1024).leaf
    rw [tN]
    refine ⟨[(1024, .nil 1)], rfl, fun σ => by simp [den, rn, rmap, rlook], ?_, rfl⟩
    simp [wkH, rmap, rlook, wkN]
  · cases hg

theorem fn55 : Tryz.prog.funcs[62]? = some Tryz.f62 := by kernel_rfl
theorem b55 : Tryz.f62.body = some (bodyOf Tryz.f62) := by kernel_rfl
theorem n55 : (Tryz.f62.name == "runtime.NumGoroutine") = false := by kernel_rfl
theorem fn56 : Tryz.prog.funcs[63]? = some Tryz.f63 := by kernel_rfl
theorem b56 : Tryz.f63.body = some (bodyOf Tryz.f63) := by kernel_rfl
theorem n56 : (Tryz.f63.name == "runtime.NumGoroutine") = false := by kernel_rfl
theorem spec55 : SpecOk Tryz.prog 62 (specOf (gCl .i64)) := clone_ok fn55 b55 n55 (z := 8) (by decide) (fun n g => t55s n g true) t55n t55N t55z
theorem spec56 : SpecOk Tryz.prog 63 (specOf (gCl .u8)) := clone_ok fn56 b56 n56 (z := 1) (by decide) (fun n g => t56s n g true) t56n t56N t56z

end Go.Rv
end

section
set_option linter.unusedVariables false
open Go Go.Ev Go.Proofs
namespace Go.Rv

/-- rows that are the same -/
noncomputable def eqA (n : Nat) (g h : Nat → Int) : Bool := @decide (∀ i, i < n → g i = h i) (Classical.propDecidable _)
theorem eqA_iff {n : Nat} {g h : Nat → Int} : eqA n g h = true ↔ ∀ i, i < n → g i = h i := @decide_eq_true_iff _ (Classical.propDecidable _)

/-! EqLongs -/
def h47 (n : Nat) (g h : Nat → Int) : Heap := [(0, .tab n [.ints .i64 g] false), (1, .tab n [.ints .i64 h] false)]
def v47 (n : Nat) (i : Int) : List SV := [.sl 0 n, .sl 1 n, .int false .i64 i]
def lk47 : Lp := ⟨26, [0, 1, 5], 1136, fun _ _ => none⟩
noncomputable def get47 : List SV → Heap → Option Tr
  | [.sl ka n, .sl kb m, .int _ .i64 i], [(ja, .tab n' [.ints .i64 g] _), (jb, .tab m' [.ints .i64 h] _)] =>
    some (Tr.needs [Nat.beq ka 0, Nat.beq kb 1, Nat.beq ja 0, Nat.beq jb 1, Nat.beq n m, Nat.beq n n', Nat.beq n m', decide (i = 0), eqA n g h, Nat.ble n 100000000] (exitT lk47 0 [.any, .any, .any] (h47 n g h)))
  | _, _ => none
noncomputable def lp47 : Lp := { lk47 with get := get47 }
noncomputable def E47 : Env := ⟨EN.call, loopEnv [(0, lp47)]⟩
/-! CopyLongs -/
def h33c (n i : Nat) (g h : Nat → Int) : Heap := [(0, .tab n [.ints .i64 g] false), (1024, .tab i [.ints .i64 h] true)]
def v33c (n i : Nat) (j : Int) : List SV := [.sl 0 n, .sl 1024 i, .int false .i64 j]
def lk33c : Lp := ⟨19, [0, 3, 4], 1072, fun _ _ => none⟩
def get33c : List SV → Heap → Option Tr
  | [.sl ka n, .val (.slice none 0 0), .int _ .i64 i], [(ja, .tab n' [.ints .i64 g] _)] =>
    some (Tr.needs [Nat.beq ka 0, Nat.beq ja 0, Nat.beq n n', decide (i = 0), Nat.ble n 100000000] (exitT lk33c 0 [.any, .sl 1024 n, .any] (h33c n n g g)))
  | _, _ => none
def lp33c : Lp := { lk33c with get := get33c }
noncomputable def E33c : Env := ⟨EN.call, loopEnv [(0, lp33c)]⟩

theorem r47 (n : Nat) (g : Nat → Int) (h : Nat → Int) (i : Int) : (evalB EN Tryz.prog Tryz.f46.results.toList (loopOf Tryz.f46 0) 1 lp47 (v47 n i) (h47 n g h)).view [0, 1, 5] =
    (bif (cm BinOp.lss i (↑n : Int)) then
      bif (decide (0 ≤ i)) then
        bif (decide (i < (↑n : Int))) then
          bif (Nat.blt (i.toNat) (n)) then
            bif (Nat.blt (i.toNat) (n)) then
              bif (decide (0 ≤ i)) then
                bif (decide (i < (↑n : Int))) then
                  bif (Nat.blt (i.toNat) (n)) then
                    bif (Nat.blt (i.toNat) (n)) then
                      bif (cm BinOp.neq (g i.toNat) (h i.toNat)) then
                        .ret (.bool true false) [(0, .tab (n) [.ints IntKind.i64 (g)] false), (1, .tab (n) [.ints IntKind.i64 (h)] false)]
                      else
                        .norm 26 [(.sl 0 (n)), (.sl 1 (n)), (.int false IntKind.i64 (ar BinOp.add IntKind.i64 i 1))] [(0, .tab (n) [.ints IntKind.i64 (g)] false), (1, .tab (n) [.ints IntKind.i64 (h)] false)]
                    else .bad
                  else .bad
                else .bad
              else .bad
            else .bad
          else .bad
        else .bad
      else .bad
    else
      .exit 0 26 [(.sl 0 (n)), (.sl 1 (n)), (.int false IntKind.i64 (i))] [(0, .tab (n) [.ints IntKind.i64 (g)] false), (1, .tab (n) [.ints IntKind.i64 (h)] false)]) := by kernel_rfl

theorem t47 (n : Nat) (g : Nat → Int) (h : Nat → Int) : (evalF E47 Tryz.prog 46 [SV.sl 0 n, SV.sl 1 n] (h47 n g h) 1024).bare =
    (bif (cm BinOp.neq (↑n : Int) (↑n : Int)) then
      .ret (.bool true false) []
    else
      bif (Nat.beq (n) (n)) then
        bif (Nat.beq (n) (n)) then
          bif (Nat.beq (n) (n)) then
            bif (eqA n g h) then
              bif (Nat.ble (n) (100000000)) then
                .ret (.bool true true) []
              else .bad
            else .bad
          else .bad
        else .bad
      else .bad) := by kernel_rfl

theorem r33c (n : Nat) (i : Nat) (j : Int) (g : Nat → Int) (h : Nat → Int) : (evalB EN Tryz.prog Tryz.f60.results.toList (loopOf Tryz.f60 0) 1 lp33c (v33c n i j) (h33c n i g h)).view [0, 3, 4] =
    (bif (cm BinOp.lss j (↑n : Int)) then
      bif (decide (0 ≤ j)) then
        bif (decide (j < (↑n : Int))) then
          bif (Nat.blt (j.toNat) (n)) then
            bif (Nat.blt (j.toNat) (n)) then
              bif (Nat.ble (i) (i)) then
                bif (Nat.ble ((i + 1) * 8) (1099511627776)) then
                  .norm 19 [(.sl 0 (n)), (.sl 1232 (i + 1)), (.int false IntKind.i64 (ar BinOp.add IntKind.i64 j 1))] [(0, .tab (n) [.ints IntKind.i64 (g)] false), (1024, .dead), (1216, .tab 1 [.ints IntKind.i64 (nth [g j.toNat] 0)] true), (1232, .tab (i + 1) [.ints IntKind.i64 (cat i h (nth [g j.toNat] 0))] true)]
                else .bad
              else .bad
            else .bad
          else .bad
        else .bad
      else .bad
    else
      .exit 0 19 [(.sl 0 (n)), (.sl 1024 (i)), (.int false IntKind.i64 (j))] [(0, .tab (n) [.ints IntKind.i64 (g)] false), (1024, .tab (i) [.ints IntKind.i64 (h)] true)]) := by kernel_rfl

theorem t33c (n : Nat) (g : Nat → Int) : (evalF E33c Tryz.prog 60 [SV.sl 0 n] [(0, Blk.tab n [Col.ints IntKind.i64 g] false)] 1024).leaf =
    (bif (Nat.beq (n) (n)) then
      bif (Nat.ble (n) (100000000)) then
        .ret (.sl 1024 (n)) [(0, .tab (n) [.ints IntKind.i64 (g)] false), (1024, .tab (n) [.ints IntKind.i64 (g)] true)]
      else .bad
    else .bad) := by kernel_rfl

end Go.Rv
end

section
set_option linter.unusedVariables false
open Go Go.Ev Go.Proofs
namespace Go.Rv

theorem e47_calls : CallsOk E47 Tryz.prog := fun f args H nm r h hn => en_calls f args H nm r h hn
theorem e33c_calls : CallsOk E33c Tryz.prog := fun f args H nm r h hn => en_calls f args H nm r h hn
theorem dec_true {p : Prop} [Decidable p] (h : p) : decide p = true := decide_eq_true h
theorem blt_t {a x : Nat} (h : a < x) : Nat.blt a x = true := by rw [Nat.blt_eq]; exact h
theorem ble_t {a x : Nat} (h : a ≤ x) : Nat.ble a x = true := by rw [Nat.ble_eq]; exact h
theorem beq_t (n : Nat) : Nat.beq n n = true := by rw [Nat.beq_eq]

structure X47 where
  n : Nat
  g : Nat → Int
  h : Nat → Int
  i : Nat
def ok47 (x : X47) : Prop := x.i ≤ x.n ∧ x.n ≤ 100000000 ∧ ∀ i, i < x.n → x.g i = x.h i
def vs47 (x : X47) : List SV := v47 x.n x.i
def hp47 (x : X47) : Heap := h47 x.n x.g x.h
def out47 (x : X47) : Vw := .exit 0 26 [.any, .any, .any] (hp47 x)

theorem entry47 (l : List SV) (H : Heap) (T : Tr) (h : lp47.get l H = some T) (hb : T.leaf ≠ .bad) : ∃ x r, ok47 x ∧ WkV r lp47.nm l H (vs47 x) (hp47 x) ∧ T.leaf = toLf lp47 (out47 x) := by
  replace h : get47 l H = some T := h
  unfold get47 at h
  split at h
  · rename_i ka n kb m _ i ja n' g _ jb m' hh _
    simp only [Option.some.injEq] at h
    subst h
    obtain ⟨hn, he⟩ := needs_ne hb
    rw [he]
    simp only [allB, Bool.and_eq_true, Bool.and_true, decide_eq_true_eq, Nat.beq_eq, eqA_iff, Nat.ble_eq] at hn
    obtain ⟨rfl, rfl, rfl, rfl, rfl, rfl, rfl, rfl, heq, hl⟩ := hn
    refine ⟨⟨n, g, hh, 0⟩, [], ⟨Nat.zero_le _, hl, heq⟩, ?_, ?_⟩
    · simp [WkV, vs47, hp47, v47, h47, wkF, wkS, sim, simL, wkH, wkB, wkCs, wkC, rmap, rlook, Ev.look, oldsOf, uniqN, mem, SV.al, SV.alL, Ev.hal, Blk.al, lt, rok, lp47, lk47]
    · simp only [exitT_leaf, out47, hp47]
      rfl
  · cases h

attribute [local irreducible] evalB Tr.view in
theorem round47 (x : X47) (hx : ok47 x) : Round lp47 ok47 (fun x => x.n - x.i) vs47 hp47 out47 x ((evalB EN Tryz.prog Tryz.f46.results.toList (loopOf Tryz.f46 0) (0 + 1) lp47 (vs47 x) (hp47 x)).view lp47.ks) := by
  obtain ⟨n, g, h, i⟩ := x
  obtain ⟨h0, h1, h2⟩ := hx
  simp only at h0 h1 h2
  have hr := r47 n g h i
  rw [show evalB EN Tryz.prog Tryz.f46.results.toList (loopOf Tryz.f46 0) (0 + 1) lp47 (vs47 ⟨n, g, h, i⟩) (hp47 ⟨n, g, h, i⟩) = evalB EN Tryz.prog Tryz.f46.results.toList (loopOf Tryz.f46 0) 1 lp47 (v47 n i) (h47 n g h) from rfl, show lp47.ks = [0, 1, 5] from rfl, hr]
  by_cases hi : i < n
  · have e1 : cm .lss (i : Int) (n : Int) = true := by rw [cm_lss']; exact decide_eq_true (by omega)
    have e2 : decide (0 ≤ (i : Int)) = true := decide_eq_true (by omega)
    have e3 : decide ((i : Int) < (n : Int)) = true := decide_eq_true (by omega)
    have e4 : Nat.blt i n = true := blt_t hi
    have e5 : cm .neq (g i) (h i) = false := by rw [h2 i hi]; simp [cm]
    simp only [e1, e2, e3, e4, e5, cond_true, cond_false, Int.toNat_natCast, addOne (show i < 9223372036854775807 by omega)]
    refine ⟨rfl, ⟨n, g, h, i + 1⟩, [], ⟨hi, h1, h2⟩, by show n - (i + 1) < n - i; omega, rfl, ?_⟩
    simp [WkV, vs47, hp47, v47, h47, wkF, wkS, sim, simL, wkH, wkB, wkCs, wkC, rmap, rlook, Ev.look, oldsOf, uniqN, mem, SV.al, SV.alL, Ev.hal, Blk.al, lt, rok, lp47, lk47]
  · obtain rfl : i = n := by omega
    have e1 : cm .lss (i : Int) (i : Int) = false := by simp [cm]
    simp only [e1, cond_false]
    refine ⟨rfl, [.any, .any, .any], _, [], rfl, ?_⟩
    simp [WkV, hp47, h47, wkF, wkS, sim, simL, wkH, wkB, wkCs, wkC, rmap, rlook, Ev.look, oldsOf, uniqN, mem, SV.al, SV.alL, Ev.hal, Blk.al, lt, rok, lp47, lk47]

attribute [local irreducible] evalB Tr.view in
theorem loop47 : LoopOk E47 Tryz.prog Tryz.f46 0 (loopOf Tryz.f46 0) :=
  loop_okE mixed (fun S => rfl) (by decide) ok47 (fun x => x.n - x.i) vs47 hp47 out47 entry47 fun x hx => ⟨EN, en_calls, loops_noLoop en_loop _ _, round47 x hx⟩
theorem fn47 : Tryz.prog.funcs[46]? = some Tryz.f46 := by kernel_rfl
theorem b47 : Tryz.f46.body = some (bodyOf Tryz.f46) := by kernel_rfl
theorem n47 : (Tryz.f46.name == "runtime.NumGoroutine") = false := by kernel_rfl
theorem nl47 : Code.loops (bodyOf Tryz.f46) = 1 := by kernel_rfl
theorem nth47 : nthLoop (bodyOf Tryz.f46) 0 = some (loopOf Tryz.f46 0) := by kernel_rfl
theorem loops47 : LoopsOk E47 Tryz.prog Tryz.f46 (bodyOf Tryz.f46) 0 := loops1 nl47 fun a ha => by
  rw [nth47] at ha
  simp only [Option.some.injEq] at ha
  subst ha
  exact loop47

/-- what is the same, is -/
noncomputable def g47 : List SV → Heap → Option R
  | [.sl ka n, .sl kb m], [(ja, .tab n' [.ints .i64 g] _), (jb, .tab m' [.ints .i64 h] _)] => match Nat.beq ka 0 && (Nat.beq kb 1 && (Nat.beq ja 0 && Nat.beq jb 1)) with
    | true => some ⟨[Nat.beq n m, Nat.beq n n', Nat.beq n m', eqA n g h, Nat.ble n 100000000], .bool true true, []⟩
    | false => none
  | _, _ => none
attribute [local irreducible] evalF in
theorem spec47 : SpecOk Tryz.prog 46 (specOf g47) := spec_okA false e47_calls mixed fn47 b47 n47 loops47 g47 fun a0 H0 r hg hn => by
  unfold g47 at hg
  split at hg
  · rename_i ka n kb m ja n' g _ jb m' h _
    split at hg
    · rename_i hk
      simp only [Bool.and_eq_true, Nat.beq_eq] at hk
      obtain ⟨rfl, rfl, rfl, rfl⟩ := hk
      simp only [Option.some.injEq] at hg
      subst hg
      simp only [allB, Bool.and_true, Bool.and_eq_true, Nat.beq_eq, eqA_iff, Nat.ble_eq] at hn
      obtain ⟨rfl, rfl, rfl, heq, hl⟩ := hn
      refine ⟨[.sl 0 n, .sl 1 n], fun h => h, fun σ => rfl, ?_⟩
      refine gives_giv (gives_tree (t47 n g h) ?_)
      have e1 : cm .neq (n : Int) (n : Int) = false := by simp [cm]
      rw [e1, cond_false, beq_t, cond_true, cond_true, cond_true, eqA_iff.2 heq, cond_true, ble_t hl, cond_true]
      exact gives_ret fun σ σ' => by simp only [den]
    · cases hg
  · cases hg

/-! CopyLongs -/
structure X33c where
  n : Nat
  g : Nat → Int
  i : Nat
def ok33c (x : X33c) : Prop := x.i ≤ x.n ∧ x.n ≤ 100000000
def vs33c (x : X33c) : List SV := v33c x.n x.i x.i
def hp33c (x : X33c) : Heap := h33c x.n x.i x.g x.g
def out33c (x : X33c) : Vw := .exit 0 19 [.any, .sl 1024 x.n, .any] (h33c x.n x.n x.g x.g)

theorem entry33c (l : List SV) (H : Heap) (T : Tr) (h : lp33c.get l H = some T) (hb : T.leaf ≠ .bad) : ∃ x r, ok33c x ∧ WkV r lp33c.nm l H (vs33c x) (hp33c x) ∧ T.leaf = toLf lp33c (out33c x) := by
  replace h : get33c l H = some T := h
  unfold get33c at h
  split at h
  · rename_i ka n _ i ja n' g _
    simp only [Option.some.injEq] at h
    subst h
    obtain ⟨hn, he⟩ := needs_ne hb
    rw [he]
    simp only [allB, Bool.and_eq_true, Bool.and_true, decide_eq_true_eq, Nat.beq_eq, Nat.ble_eq] at hn
    obtain ⟨rfl, rfl, rfl, rfl, hl⟩ := hn
    refine ⟨⟨n, g, 0⟩, [(1024, .nil 1)], ⟨Nat.zero_le _, hl⟩, ?_, ?_⟩
    · simp [WkV, vs33c, hp33c, v33c, h33c, wkF, wkS, sim, simL, wkH, wkB, wkN, wkCs, wkC, rmap, rlook, Ev.look, oldsOf, uniqN, mem, SV.al, SV.alL, Ev.hal, Blk.al, lt, rok, lp33c, lk33c, isNilV, base]
    · simp only [exitT_leaf, out33c]
      rfl
  · cases h

theorem cat_grow {i r : Nat} {g : Nat → Int} (h : r < i + 1) : cat i g (nth [g i] 0) r = g r := by
  simp only [cat]
  by_cases hr : r < i
  · rw [blt_t hr, cond_true]
  · have e : Nat.blt r i = false := by cases hb : Nat.blt r i with | false => rfl | true => rw [Nat.blt_eq] at hb; omega
    have : r = i := by omega
    subst this
    rw [e, cond_false, Nat.sub_self]
    rfl

attribute [local irreducible] evalB Tr.view in
theorem round33c (x : X33c) (hx : ok33c x) : Round lp33c ok33c (fun x => x.n - x.i) vs33c hp33c out33c x ((evalB EN Tryz.prog Tryz.f60.results.toList (loopOf Tryz.f60 0) (0 + 1) lp33c (vs33c x) (hp33c x)).view lp33c.ks) := by
  obtain ⟨n, g, i⟩ := x
  obtain ⟨h0, h1⟩ := hx
  simp only at h0 h1
  have hr := r33c n i i g g
  rw [show evalB EN Tryz.prog Tryz.f60.results.toList (loopOf Tryz.f60 0) (0 + 1) lp33c (vs33c ⟨n, g, i⟩) (hp33c ⟨n, g, i⟩) = evalB EN Tryz.prog Tryz.f60.results.toList (loopOf Tryz.f60 0) 1 lp33c (v33c n i i) (h33c n i g g) from rfl, show lp33c.ks = [0, 3, 4] from rfl, hr]
  by_cases hi : i < n
  · have e1 : cm .lss (i : Int) (n : Int) = true := by rw [cm_lss']; exact decide_eq_true (by omega)
    have e2 : decide (0 ≤ (i : Int)) = true := decide_eq_true (by omega)
    have e3 : decide ((i : Int) < (n : Int)) = true := decide_eq_true (by omega)
    have e4 : Nat.blt i n = true := blt_t hi
    have e5 : Nat.ble i i = true := ble_t (Nat.le_refl _)
    have e6 : Nat.ble ((i + 1) * 8) 1099511627776 = true := ble_t (by omega)
    simp only [e1, e2, e3, e4, e5, e6, cond_true, cond_false, Int.toNat_natCast, addOne (show i < 9223372036854775807 by omega)]
    refine ⟨rfl, ⟨n, g, i + 1⟩, [(1024, .old 1232)], ⟨hi, h1⟩, by show n - (i + 1) < n - i; omega, rfl, ?_⟩
    have hc : ∀ r, r < i + 1 → cat i g (nth [g i] 0) r = g r := fun r hr => cat_grow hr
    simp [WkV, vs33c, hp33c, v33c, h33c, wkF, wkS, sim, simL, wkH, wkB, wkCs, wkC, rmap, rlook, Ev.look, oldsOf, uniqN, mem, SV.al, SV.alL, Ev.hal, Blk.al, lt, rok, lp33c, lk33c, base]
    exact hc
  · obtain rfl : i = n := by omega
    have e1 : cm .lss (i : Int) (i : Int) = false := by simp [cm]
    simp only [e1, cond_false]
    refine ⟨rfl, [.any, .sl 1024 i, .any], _, [], rfl, ?_⟩
    simp [WkV, hp33c, h33c, wkF, wkS, sim, simL, wkH, wkB, wkCs, wkC, rmap, rlook, Ev.look, oldsOf, uniqN, mem, SV.al, SV.alL, Ev.hal, Blk.al, lt, rok, lp33c, lk33c]

attribute [local irreducible] evalB Tr.view in
theorem loop33c : LoopOk E33c Tryz.prog Tryz.f60 0 (loopOf Tryz.f60 0) :=
  loop_okE mixed (fun S => rfl) (by decide) ok33c (fun x => x.n - x.i) vs33c hp33c out33c entry33c fun x hx => ⟨EN, en_calls, loops_noLoop en_loop _ _, round33c x hx⟩
theorem fn33c : Tryz.prog.funcs[60]? = some Tryz.f60 := by kernel_rfl
theorem b33c : Tryz.f60.body = some (bodyOf Tryz.f60) := by kernel_rfl
theorem n33c : (Tryz.f60.name == "runtime.NumGoroutine") = false := by kernel_rfl
theorem nl33c : Code.loops (bodyOf Tryz.f60) = 1 := by kernel_rfl
theorem nth33c : nthLoop (bodyOf Tryz.f60) 0 = some (loopOf Tryz.f60 0) := by kernel_rfl
theorem loops33c : LoopsOk E33c Tryz.prog Tryz.f60 (bodyOf Tryz.f60) 0 := loops1 nl33c fun a ha => by
  rw [nth33c] at ha
  simp only [Option.some.injEq] at ha
  subst ha
  exact loop33c

def g33c : List SV → Heap → Option R
  | [.sl ka n], [(ja, .tab n' [.ints .i64 g] _)] => match Nat.beq ka 0 && Nat.beq ja 0 with
    | true => some ⟨[Nat.beq n n', Nat.ble n 100000000], .sl 1024 n, [(1024, .tab n [.ints .i64 g] true)]⟩
    | false => none
  | _, _ => none
attribute [local irreducible] evalF in
theorem spec33c : SpecOk Tryz.prog 60 (specOf g33c) := spec_okA false e33c_calls mixed fn33c b33c n33c loops33c g33c fun a0 H0 r hg hn => by
  unfold g33c at hg
  split at hg
  · rename_i ka n ja n' g _
    split at hg
    · rename_i hk
      simp only [Bool.and_eq_true, Nat.beq_eq] at hk
      obtain ⟨rfl, rfl⟩ := hk
      simp only [Option.some.injEq] at hg
      subst hg
      simp only [allB, Bool.and_true, Bool.and_eq_true, Nat.beq_eq, Nat.ble_eq] at hn
      obtain ⟨rfl, hl⟩ := hn
      refine ⟨[.sl 0 n], fun h => h, fun σ => rfl, ?_⟩
      show GivesD _ (evalF E33c Tryz.prog 60 [.sl 0 n] [(0, .tab n [.ints .i64 g] false)] 1024).leaf
      rw [t33c, beq_t, cond_true, ble_t hl, cond_true]
      refine ⟨[], rfl, fun σ => rfl, ?_, rfl⟩
      simp [wkH, rmap, rlook, Ev.look, wkB, wkCs, wkC]
    · cases hg
  · cases hg

end Go.Rv
end

section
set_option linter.unusedVariables false
open Go Go.Ev Go.Proofs
namespace Go.Rv

/-! Blank -/
noncomputable def outBl (nn : List Bool) (n : Nat) : R := ⟨nn, .agg [.int false .i64 4096, .sl 1024 n, .bool false false, .bool false false, .bool false false, .bool false false, .sl 1025 196608, .sl 1026 0, .sl 1027 0, .int false .i64 0, .int false .i64 0],
  [(1024, .tab n [.ints .i64 fun _ => 0] true), (1025, .tab 196608 [.ints .u8 fun _ => 0] true), (1026, .tab 0 [.ints .i64 fun _ => 0] true), (1027, .tab 0 [.ints .i64 fun _ => 0] true)]⟩
noncomputable def g28 : List SV → Heap → Option R
  | [.int _ .i64 r], [] => some (outBl [decide (0 ≤ r), decide (r ≤ 1000)] r.toNat)
  | _, _ => none
theorem fn28 : Tryz.prog.funcs[49]? = some Tryz.f49 := by kernel_rfl
theorem b28 : Tryz.f49.body = some (bodyOf Tryz.f49) := by kernel_rfl
theorem n28 : (Tryz.f49.name == "runtime.NumGoroutine") = false := by kernel_rfl
theorem l28 (r : Int) : (evalF EN Tryz.prog 49 [.int false .i64 r] [] 1024).retH [1056, 1072] =
    bx (decide (0 ≤ r)) (bx (decide (r ≤ r)) (bx (Nat.ble (r.toNat * 8) 140737488355328) (bx (Nat.ble r.toNat 140737488355328)
      (.ret (.agg [.int true .i64 4096, .sl 1056 r.toNat, .bool true false, .bool true false, .bool true false, .bool true false, .sl 1072 196608, .val (.slice none 0 0), .val (.slice none 0 0), .int true .i64 0, .int true .i64 0])
        [(1056, .tab r.toNat [.ints .i64 fun _ => 0] true), (1072, .tab 196608 [.ints .u8 fun _ => 0] true)])))) := by kernel_rfl
attribute [local irreducible] evalF Tr.retH Tr.leaf in
theorem spec28 : SpecOk Tryz.prog 49 (specOf g28) := spec_okU false mixed fn28 b28 n28 g28 fun a0 H0 r hg hn => by
  unfold g28 at hg
  split at hg
  · rename_i _ x
    simp only [Option.some.injEq] at hg
    subst hg
    simp only [outBl, allB, Bool.and_true, Bool.and_eq_true, decide_eq_true_eq] at hn
    obtain ⟨h1, h2⟩ := hn
    refine ⟨EN, [.int false .i64 x], [], en_calls, loops_noLoop en_loop _ _, fun _ => rfl, fun σ => by simp only [denL, den], fun k hk => (by cases hk), ?_⟩
    show GivesD _ (evalF EN Tryz.prog 49 [.int false .i64 x] [] 1024).leaf
    refine gives_retH _ (l28 x) ?_
    rw [bx_true (dec_true h1), bx_true (dec_true (by omega)), bx_true (ble_t (by omega)), bx_true (ble_t (by omega))]
    refine ⟨[(1024, .old 1056), (1025, .old 1072), (1026, .nil 1), (1027, .nil 1)], rfl, sim_den _ _ ?_, ?_, rfl⟩
    · simp [outBl, sim, simL, rmap, rlook, isNilV]
    · simp [outBl, wkH, rmap, rlook, Ev.look, wkB, wkN, simL, sim, wkCs, wkC]
  · cases hg

def zeroV : List SV := [.int true .i64 0, .val (.slice none 0 0), .bool true false, .bool true false, .bool true false, .bool true false, .val (.slice none 0 0), .val (.slice none 0 0), .val (.slice none 0 0), .int true .i64 0, .int true .i64 0]

end Go.Rv
end

section
set_option linter.unusedVariables false
open Go Go.Ev Go.Proofs
namespace Go.Rv

/-- a machine that is told by value -/
def hG (m : M) (b : Bool) : Heap := [(0, .tab 16 [.ints .i64 m.X] true), (1, .tab 196608 [.ints .u8 m.mem] true), (2, .tab m.nI [.ints .i64 m.inp] b), (3, .tab m.nO [.ints .i64 m.out] true)]
noncomputable def ESo : Env := inlF Tryz.prog (envOf [(62, specOf (gCl .i64)), (63, specOf (gCl .u8)), (72, specC true g72o), (65, specOf gDo)] noLoop) [] [29, 30] [28, 61, 31, 64] 4
noncomputable def ESn : Env := inlF Tryz.prog (envOf [(62, specOf (gCl .i64)), (63, specOf (gCl .u8)), (72, specC true g72n), (65, specOf gDo)] noLoop) [] [29, 30] [28, 61, 31, 64] 4
theorem namedS1 : named Tryz.prog [29, 30] = true := by kernel_rfl
theorem namedS2 : named Tryz.prog [28, 61, 31, 64] = true := by kernel_rfl
theorem eso_calls : CallsOk ESo Tryz.prog := (inlF_calls ((SpecsOk.cons spec55 (SpecsOk.cons spec56 (SpecsOk.cons spec72o (SpecsOk.cons specDo SpecsOk.nil)))).calls noLoop) mixed rfl namedS1 namedS2 4).1
theorem esn_calls : CallsOk ESn Tryz.prog := (inlF_calls ((SpecsOk.cons spec55 (SpecsOk.cons spec56 (SpecsOk.cons spec72n (SpecsOk.cons specDo SpecsOk.nil)))).calls noLoop) mixed rfl namedS1 namedS2 4).1
theorem eso_loop : ESo.loop = noLoop := rfl
theorem esn_loop : ESn.loop = noLoop := rfl
def mayB (s : ByteArray) (m : M) : Bool := bif bif true then bif true then bif cm .eql m.kind 0 then true else bif cm .geq m.kind 1 then bif cm .leq m.kind 5 then cm .neq m.kind 3 else false else false else false else false then cm .leq (s.size : Int) 258048 else false
def tlS (s : ByteArray) (pc : Int) : ByteArray := s.extract (ar .sub .i64 pc 4096).toNat s.size
def wiD (s : ByteArray) (pc : Int) : ByteArray := (tlS s pc).extract 0 (minI 16 ((tlS s pc).size : Int)).toNat
def ksT : List Nat := [0, 1, 2, 3, 1152, 1153, 1154, 1155, 1280, 1281]
def retT0 (m : M) (b : Bool) : Lf := .ret (.tup [.agg zeroV, .int true .i64 1]) (hG m b)
def cpuK (k : Bool) (m : M) (kX kM kI kO : Nat) : List SV := [.int false .i64 m.pc, .sl kX 16, .bool false m.zf, .bool false m.sf, .bool false m.cf, .bool false m.of_, .sl kM 196608, .sl kI m.nI, .sl kO m.nO, .int k .i64 m.kind, .int false .i64 m.code]
def retT1 (k : Bool) (m0 m : M) (b : Bool) : Lf := .ret (.tup [.agg (cpuK k m 1152 1153 1154 1155), .int true .i64 0]) (hG m0 b ++ [(1152, .tab 16 [.ints .i64 m.X] true), (1153, .tab 196608 [.ints .u8 m.mem] true), (1154, .tab m.nI [.ints .i64 m.inp] true), (1155, .tab m.nO [.ints .i64 m.out] true)])
def retT2 (m0 m : M) (b : Bool) : Lf := .ret (.tup [.agg (cpuL m 1152 1153 1280 1281), .int true .i64 0]) (hG m0 b ++ [(1152, .tab 16 [.ints .i64 m.X] true), (1153, .tab 196608 [.ints .u8 m.mem] true), (1154, .dead), (1155, .dead), (1280, .tab m.nI [.ints .i64 m.inp] false), (1281, .tab m.nO [.ints .i64 m.out] true)])
noncomputable def stepLf (s : ByteArray) (m : M) (b : Bool) (x : Lf) : Lf :=
  bif !mayB s m then retT0 m b else
    bx (Nat.beq m.nI m.nI) (bx (Nat.ble m.nI 100000000) (bx (Nat.beq m.nO m.nO) (bx (Nat.ble m.nO 100000000) (bif cm .eql m.kind 0 then
      bif outP s m.pc then retT1 true m (endM m) b else
      bx (decide (0 ≤ ar .sub .i64 m.pc 4096)) (bx (Nat.ble (ar .sub .i64 m.pc 4096).toNat s.size) (bx (decide (0 ≤ minI 16 ((tlS s m.pc).size : Int))) (bx (Nat.ble (minI 16 ((tlS s m.pc).size : Int)).toNat (tlS s m.pc).size) x)))
      else retT1 false m m b))))
noncomputable def runL (m : M) (b : Bool) (v : X.DV) : Lf := bx (goodB m) (bx (insB v.o v.w v.rd v.rs v.n) (bx (Nat.beq m.nI m.nI) (bx (Nat.beq m.nO m.nO) (retT2 m (exD v m) b))))
theorem l18o (s : ByteArray) (m : M) (b : Bool) : (evalF ESo Tryz.prog 18 [.str s, .agg (cpuL m 0 1 2 3)] (hG m b) 1024).retH ksT = stepLf s m b (bx (okS (wiD s m.pc)) (runL m b (X.decX (wiD s m.pc)))) := by
  cases b <;> kernel_rfl
theorem l18n (s : ByteArray) (m : M) (b : Bool) : (evalF ESn Tryz.prog 18 [.str s, .agg (cpuL m 0 1 2 3)] (hG m b) 1024).retH ksT = stepLf s m b (bx (noIns (wiD s m.pc)) (retT1 true m (endM m) b)) := by
  cases b <;> kernel_rfl

/-- a machine that may be, and is small -/
structure MS (m : M) : Prop where
  mg : MG m
  kd : m.kind = 0 ∨ m.kind = 1 ∨ m.kind = 4 ∨ m.kind = 5
  nI : m.nI ≤ 100000000
noncomputable def msB (m : M) : Bool := @decide (MS m) (Classical.propDecidable _)
theorem msB_iff {m : M} : msB m = true ↔ MS m := @decide_eq_true_iff _ (Classical.propDecidable _)
noncomputable def codeB (s : ByteArray) : Bool := @decide (s.size ≤ 258048) (Classical.propDecidable _)
theorem codeB_iff {s : ByteArray} : codeB s = true ↔ s.size ≤ 258048 := @decide_eq_true_iff _ (Classical.propDecidable _)
theorem mayB_t {s : ByteArray} {m : M} (h : MS m) (hs : s.size ≤ 258048) : mayB s m = true := by
  unfold mayB
  have e : (bif true then bif true then bif cm .eql m.kind 0 then true else bif cm .geq m.kind 1 then bif cm .leq m.kind 5 then cm .neq m.kind 3 else false else false else false else false) = true := by
    rcases h.kd with hk | hk | hk | hk <;> rw [hk] <;> rfl
  have e2 : cm .leq (s.size : Int) 258048 = true := by simp only [cm]; exact decide_eq_true (by omega)
  rw [e, e2]
  rfl
theorem win_same {s : ByteArray} {pc : Int} (h : InF s pc) : wiD s pc = winS s pc := by
  obtain ⟨a0, lo, b0, hi⟩ := h
  unfold wiD winS tlS
  rw [b0, a0, minI_eq]
  apply ByteArray.ext
  simp only [ByteArray.data_extract, ByteArray.size_extract]
  apply Array.ext
  · have : s.data.size = s.size := rfl
    simp only [Array.size_extract]; omega
  · intro i h1 h2
    simp only [Array.getElem_extract]
    congr 1
    omega

def outT (nn : List Bool) (b : Bool) (m0 m : M) : R := ⟨nn, .tup [.agg (cpuL m 1024 1025 1026 1027), .int false .i64 0], hG m0 b ++ [(1024, .tab 16 [.ints .i64 m.X] true), (1025, .tab 196608 [.ints .u8 m.mem] true), (1026, .tab m.nI [.ints .i64 m.inp] false), (1027, .tab m.nO [.ints .i64 m.out] true)]⟩
theorem retT1_gives {nn : List Bool} {b k : Bool} {m0 m m' : M} (h : m' = m) : GivesD (outT nn b m0 m') (retT1 k m0 m b) := by
  subst h
  refine ⟨[(1024, .old 1152), (1025, .old 1153), (1026, .old 1154), (1027, .old 1155)], rfl, sim_den _ _ ?_, ?_, ?_⟩
  · simp [outT, cpuL, cpuK, sim, simL, rmap, rlook]
  · simp [outT, hG, wkH, cpuL, rmap, rlook, Ev.look, wkB, simL, sim, wkCs, wkC]
  · rfl
theorem retT2_gives {nn : List Bool} {b : Bool} {m0 m m' : M} (h : m' = m) : GivesD (outT nn b m0 m') (retT2 m0 m b) := by
  subst h
  refine ⟨[(1024, .old 1152), (1025, .old 1153), (1026, .old 1280), (1027, .old 1281)], rfl, sim_den _ _ ?_, ?_, ?_⟩
  · simp [outT, cpuL, sim, simL, rmap, rlook]
  · simp [outT, hG, wkH, cpuL, rmap, rlook, Ev.look, wkB, simL, sim, wkCs, wkC]
  · rfl
theorem tl_ok {s : ByteArray} {pc : Int} (h : InF s pc) (x : Lf) : bx (decide (0 ≤ ar .sub .i64 pc 4096)) (bx (Nat.ble (ar .sub .i64 pc 4096).toNat s.size) (bx (decide (0 ≤ minI 16 ((tlS s pc).size : Int))) (bx (Nat.ble (minI 16 ((tlS s pc).size : Int)).toNat (tlS s pc).size) x))) = x := by
  obtain ⟨a0, lo, b0, hi⟩ := h
  rw [a0, minI_eq, bx_true (decide_eq_true lo), bx_true (ble_t (by omega)), bx_true (decide_eq_true (by omega)), bx_true (ble_t (by omega))]

attribute [local irreducible] evalF Tr.retH Tr.leaf exM
theorem step18 {s : ByteArray} {m : M} (h : MS m) (hs : s.size ≤ 258048) (nn : List Bool) (b : Bool) : ∃ E, CallsOk E Tryz.prog ∧ E.loop = noLoop ∧ GivesD (outT nn b m (stepM s m)) (evalF E Tryz.prog 18 [.str s, .agg (cpuL m 0 1 2 3)] (hG m b) 1024).leaf := by
  have hmay := mayB_t h hs
  have hpre : ∀ x, stepLf s m b x = bif cm .eql m.kind 0 then bif outP s m.pc then retT1 true m (endM m) b else
      bx (decide (0 ≤ ar .sub .i64 m.pc 4096)) (bx (Nat.ble (ar .sub .i64 m.pc 4096).toNat s.size) (bx (decide (0 ≤ minI 16 ((tlS s m.pc).size : Int))) (bx (Nat.ble (minI 16 ((tlS s m.pc).size : Int)).toNat (tlS s m.pc).size) x))) else retT1 false m m b := by
    intro x
    unfold stepLf
    rw [hmay, Bool.not_true, cond_false, bx_true (beq_t _), bx_true (ble_t h.nI), bx_true (beq_t _), bx_true (ble_t (show m.nO ≤ 100000000 by have := h.mg.nO; omega))]
  by_cases hk : m.kind = 0
  · have e1 : cm .eql m.kind 0 = true := by rw [hk]; rfl
    have e2 : cm .neq m.kind 0 = false := by rw [hk]; rfl
    cases ho : outP s m.pc with
    | true =>
      refine ⟨ESo, eso_calls, eso_loop, gives_retH _ (l18o s m b) ?_⟩
      rw [hpre, e1, ho, cond_true, cond_true]
      refine retT1_gives ?_
      unfold stepM; rw [e2, ho]; rfl
    | false =>
      have hf := outP_in ho h.mg.pc (by omega)
      have hw := win_same hf
      rcases X.decX_cases (winS s m.pc) with hd | hd
      · have hok : (X.decX (winS s m.pc)).ok = true := hd.2.2.2.2.1
        refine ⟨ESo, eso_calls, eso_loop, gives_retH _ (l18o s m b) ?_⟩
        rw [hpre, e1, ho, cond_true, cond_false, tl_ok hf, hw, bx_true (okS_iff.2 hok)]
        unfold runL
        rw [bx_true (goodB_iff.2 h.mg), bx_true (insB_iff.2 (dec_ins hd).1), bx_true (beq_t _), bx_true (beq_t _)]
        refine retT2_gives ?_
        unfold stepM; rw [e2, ho, hok]; rfl
      · refine ⟨ESn, esn_calls, esn_loop, gives_retH _ (l18n s m b) ?_⟩
        rw [hpre, e1, ho, cond_true, cond_false, tl_ok hf, hw, bx_true (noIns_iff.2 hd.1)]
        refine retT1_gives ?_
        unfold stepM; rw [e2, ho, hd.1]; rfl
  · have e1 : cm .eql m.kind 0 = false := by simp [cm, hk]
    have e2 : cm .neq m.kind 0 = true := by simp [cm, hk]
    refine ⟨ESo, eso_calls, eso_loop, gives_retH _ (l18o s m b) ?_⟩
    rw [hpre, e1, cond_false]
    refine retT1_gives ?_
    unfold stepM; rw [e2]; rfl

/-- told by value -/
def unT : List SV → Heap → Option (List Bool × M × Bool)
  | [.int false .i64 pc, .sl k1 n1, .bool false zf, .bool false sf, .bool false cf, .bool false of_, .sl k2 n2, .sl k3 n3, .sl k4 n4, .int false .i64 kind, .int false .i64 code], [(j0, .tab t1 [.ints .i64 X] true), (j1, .tab t2 [.ints .u8 mem] true), (j2, .tab t3 [.ints .i64 inp] b), (j3, .tab t4 [.ints .i64 out] true)] =>
    match Nat.beq j0 0 && (Nat.beq j1 1 && (Nat.beq j2 2 && (Nat.beq j3 3 && (Nat.beq k1 0 && (Nat.beq k2 1 && (Nat.beq k3 2 && (Nat.beq k4 3 && (Nat.beq n1 16 && (Nat.beq n2 196608 && (Nat.beq t1 16 && Nat.beq t2 196608)))))))))) with
    | true => some ([Nat.beq t3 n3, Nat.beq t4 n4], ⟨pc, zf, sf, cf, of_, kind, code, X, mem, n3, inp, n4, out⟩, b)
    | false => none
  | _, _ => none
theorem unT_all {l : List SV} {H : Heap} {nn : List Bool} {m : M} {b : Bool} (h : unT l H = some (nn, m, b)) (hn : allB nn = true) : l = cpuL m 0 1 2 3 ∧ H = hG m b := by
  unfold unT at h
  split at h
  · split at h
    · rename_i hb
      simp only [Option.some.injEq, Prod.mk.injEq] at h
      obtain ⟨rfl, rfl, rfl⟩ := h
      simp only [Bool.and_eq_true, Nat.beq_eq] at hb
      obtain ⟨rfl, rfl, rfl, rfl, rfl, rfl, rfl, rfl, rfl, rfl, rfl, rfl⟩ := hb
      simp only [allB, Bool.and_true, Bool.and_eq_true, Nat.beq_eq] at hn
      obtain ⟨rfl, rfl⟩ := hn
      exact ⟨rfl, rfl⟩
    · cases h
  · cases h
theorem roH_hG (m : M) (b : Bool) : roH [0, 1, 2, 3] (hG m b) = hG m b := rfl
noncomputable def gXs : List SV → Heap → Option R
  | [.str s, .agg l], H => match unT l H with
    | some (nn, m, b) => some (outT (msB m :: codeB s :: nn) b m (stepM s m))
    | none => none
  | _, _ => none
theorem fn18 : Tryz.prog.funcs[18]? = some Tryz.f18 := by kernel_rfl
theorem b18 : Tryz.f18.body = some (bodyOf Tryz.f18) := by kernel_rfl
theorem n18 : (Tryz.f18.name == "runtime.NumGoroutine") = false := by kernel_rfl
/-- xm.Step -/
theorem specXs : SpecOk Tryz.prog 18 (specOf gXs) := spec_okU false mixed fn18 b18 n18 gXs fun a0 H0 r hg hn => by
  unfold gXs at hg
  split at hg
  · rename_i s l
    split at hg
    · rename_i nn m b hm
      simp only [Option.some.injEq] at hg
      subst hg
      simp only [outT, allB, Bool.and_eq_true, msB_iff, codeB_iff] at hn
      obtain ⟨h1, h2, hnn⟩ := hn
      obtain ⟨rfl, rfl⟩ := unT_all hm hnn
      obtain ⟨E, he, hl, hgv⟩ := step18 h1 h2 (msB m :: codeB s :: nn) b
      refine ⟨E, [.str s, .agg (cpuL m 0 1 2 3)], [0, 1, 2, 3], he, loops_noLoop hl _ _, fun h => h, fun σ => rfl, subN rfl, ?_⟩
      rw [roH_hG]
      exact hgv
    · cases hg
  · cases hg

end Go.Rv
end

section
set_option linter.unusedVariables false
open Go Go.Ev Go.Proofs
namespace Go.Rv

/-! CopyCpu -/
noncomputable def EC : Env := inlF Tryz.prog (envOf [(60, specOf g33c)] noLoop) [] [] [] 0
theorem ec_calls : CallsOk EC Tryz.prog := (inlF_calls ((SpecsOk.cons spec33c SpecsOk.nil).calls noLoop) mixed rfl rfl rfl 0).1
theorem ec_loop : EC.loop = noLoop := rfl
def hW (m : M) : Heap := [(0, .tab 16 [.ints .i64 m.X] false), (1, .tab 196608 [.ints .u8 m.mem] false), (2, .tab m.nI [.ints .i64 m.inp] false), (3, .tab m.nO [.ints .i64 m.out] false)]
theorem l24 (m : M) : (evalF EC Tryz.prog 51 [.agg (cpuL m 0 1 2 3)] (hW m) 1024).retH [1136, 1232, 1312, 1392] =
    bx (Nat.beq m.nI m.nI) (bx (Nat.ble m.nI 100000000) (bx (Nat.beq m.nO m.nO) (bx (Nat.ble m.nO 100000000)
      (.ret (.agg (cpuL m 1136 1232 1312 1392)) [(1136, .tab 16 [.ints .i64 m.X] true), (1232, .tab 196608 [.ints .u8 (cat 0 (fun _ => 0) m.mem)] true), (1312, .tab m.nI [.ints .i64 m.inp] true), (1392, .tab m.nO [.ints .i64 m.out] true)])))) := by kernel_rfl
def out24 (nn : List Bool) (m : M) : R := ⟨nn, .agg (cpuL m 1024 1025 1026 1027), [(1024, .tab 16 [.ints .i64 m.X] true), (1025, .tab 196608 [.ints .u8 m.mem] true), (1026, .tab m.nI [.ints .i64 m.inp] true), (1027, .tab m.nO [.ints .i64 m.out] true)]⟩
/-- told by value, whatever may be written -/
def unW : List SV → Heap → Option (List Bool × M)
  | [.int false .i64 pc, .sl k1 n1, .bool false zf, .bool false sf, .bool false cf, .bool false of_, .sl k2 n2, .sl k3 n3, .sl k4 n4, .int false .i64 kind, .int false .i64 code], [(j0, .tab t1 [.ints .i64 X] _), (j1, .tab t2 [.ints .u8 mem] _), (j2, .tab t3 [.ints .i64 inp] _), (j3, .tab t4 [.ints .i64 out] _)] =>
    match Nat.beq j0 0 && (Nat.beq j1 1 && (Nat.beq j2 2 && (Nat.beq j3 3 && (Nat.beq k1 0 && (Nat.beq k2 1 && (Nat.beq k3 2 && (Nat.beq k4 3 && (Nat.beq n1 16 && (Nat.beq n2 196608 && (Nat.beq t1 16 && Nat.beq t2 196608)))))))))) with
    | true => some ([Nat.beq t3 n3, Nat.beq t4 n4], ⟨pc, zf, sf, cf, of_, kind, code, X, mem, n3, inp, n4, out⟩)
    | false => none
  | _, _ => none
theorem unW_all {l : List SV} {H : Heap} {nn : List Bool} {m : M} (h : unW l H = some (nn, m)) (hn : allB nn = true) : l = cpuL m 0 1 2 3 ∧ roH [] H = hW m := by
  unfold unW at h
  split at h
  · split at h
    · rename_i hb
      simp only [Option.some.injEq, Prod.mk.injEq] at h
      obtain ⟨rfl, rfl⟩ := h
      simp only [Bool.and_eq_true, Nat.beq_eq] at hb
      obtain ⟨rfl, rfl, rfl, rfl, rfl, rfl, rfl, rfl, rfl, rfl, rfl, rfl⟩ := hb
      simp only [allB, Bool.and_true, Bool.and_eq_true, Nat.beq_eq] at hn
      obtain ⟨rfl, rfl⟩ := hn
      exact ⟨rfl, rfl⟩
    · cases h
  · cases h
def g24 : List SV → Heap → Option R
  | [.agg l], H => match unW l H with
    | some (nn, m) => some (out24 (Nat.ble m.nI 100000000 :: Nat.ble m.nO 100000000 :: nn) m)
    | none => none
  | _, _ => none
theorem fn24 : Tryz.prog.funcs[51]? = some Tryz.f51 := by kernel_rfl
theorem b24 : Tryz.f51.body = some (bodyOf Tryz.f51) := by kernel_rfl
theorem n24 : (Tryz.f51.name == "runtime.NumGoroutine") = false := by kernel_rfl
attribute [local irreducible] evalF Tr.retH Tr.leaf in
theorem spec24 : SpecOk Tryz.prog 51 (specOf g24) := spec_okU false mixed fn24 b24 n24 g24 fun a0 H0 r hg hn => by
  unfold g24 at hg
  split at hg
  · rename_i l
    split at hg
    · rename_i nn m hm
      simp only [Option.some.injEq] at hg
      subst hg
      simp only [out24, allB, Bool.and_eq_true] at hn
      obtain ⟨h1, h2, hnn⟩ := hn
      obtain ⟨rfl, hr⟩ := unW_all hm hnn
      refine ⟨EC, [.agg (cpuL m 0 1 2 3)], [], ec_calls, loops_noLoop ec_loop _ _, fun h => h, fun σ => rfl, fun k hk => (by cases hk), ?_⟩
      rw [hr]
      refine gives_retH _ (l24 m) ?_
      rw [bx_true (beq_t _), bx_true h1, bx_true (beq_t _), bx_true h2, cat_zero]
      refine ⟨[(1024, .old 1136), (1025, .old 1232), (1026, .old 1312), (1027, .old 1392)], rfl, sim_den _ _ ?_, ?_, rfl⟩
      · simp [out24, cpuL, sim, simL, rmap, rlook]
      · simp [out24, wkH, cpuL, rmap, rlook, Ev.look, wkB, simL, sim, wkCs, wkC]
    · cases hg
  · cases hg

end Go.Rv
end

section
set_option linter.unusedVariables false
open Go Go.Ev Go.Proofs
namespace Go.Rv

/-! EqCpu -/
/-- the same machine -/
structure SameM (m m' : M) : Prop where
  pc : m.pc = m'.pc
  X : ∀ i, i < 16 → m.X i = m'.X i
  f1 : m.zf = m'.zf
  f2 : m.sf = m'.sf
  f3 : m.cf = m'.cf
  f4 : m.of_ = m'.of_
  mem : ∀ i, i < 196608 → m.mem i = m'.mem i
  nI : m.nI = m'.nI
  inp : ∀ i, i < m.nI → m.inp i = m'.inp i
  nO : m.nO = m'.nO
  out : ∀ i, i < m.nO → m.out i = m'.out i
  kind : m.kind = m'.kind
  code : m.code = m'.code
  sI : m.nI ≤ 100000000
  sO : m.nO ≤ 100000000
noncomputable def eqMB (m m' : M) : Bool := @decide (SameM m m') (Classical.propDecidable _)
theorem eqMB_iff {m m' : M} : eqMB m m' = true ↔ SameM m m' := @decide_eq_true_iff _ (Classical.propDecidable _)
/-! EqBytes -/
theorem l48 (n : Nat) (g h : Nat → Int) : (evalF EN Tryz.prog 47 [.sl 0 n, .sl 1 n] [(0, .tab n [.ints .u8 g] false), (1, .tab n [.ints .u8 h] false)] 1024).bare =
    bif Nat.ble n n then bif Nat.ble n n then .ret (.bool false (seq (strOf g n) (strOf h n))) [] else .bad else .bad := by kernel_rfl
theorem strOf_same {g h : Nat → Int} {n : Nat} (e : ∀ i, i < n → g i = h i) : strOf g n = strOf h n := by
  unfold strOf
  congr 2
  exact List.map_congr_left fun i hi => by rw [e i (List.mem_range.1 hi)]
noncomputable def g48 : List SV → Heap → Option R
  | [.sl ka n, .sl kb m], [(ja, .tab n' [.ints .u8 g] _), (jb, .tab m' [.ints .u8 h] _)] => match Nat.beq ka 0 && (Nat.beq kb 1 && (Nat.beq ja 0 && Nat.beq jb 1)) with
    | true => some ⟨[Nat.beq n m, Nat.beq n n', Nat.beq n m', eqA n g h], .bool true true, []⟩
    | false => none
  | _, _ => none
theorem fn48 : Tryz.prog.funcs[47]? = some Tryz.f47 := by kernel_rfl
theorem b48 : Tryz.f47.body = some (bodyOf Tryz.f47) := by kernel_rfl
theorem n48 : (Tryz.f47.name == "runtime.NumGoroutine") = false := by kernel_rfl
attribute [local irreducible] evalF Tr.bare strOf seq in
theorem spec48 : SpecOk Tryz.prog 47 (specOf g48) := spec_okA false en_calls mixed fn48 b48 n48 (loops_noLoop en_loop _ _) g48 fun a0 H0 r hg hn => by
  unfold g48 at hg
  split at hg
  · rename_i ka n kb m ja n' g _ jb m' h _
    split at hg
    · rename_i hk
      simp only [Bool.and_eq_true, Nat.beq_eq] at hk
      obtain ⟨rfl, rfl, rfl, rfl⟩ := hk
      simp only [Option.some.injEq] at hg
      subst hg
      simp only [allB, Bool.and_true, Bool.and_eq_true, Nat.beq_eq, eqA_iff] at hn
      obtain ⟨rfl, rfl, rfl, heq⟩ := hn
      refine ⟨[.sl 0 n, .sl 1 n], fun h => h, fun σ => rfl, ?_⟩
      refine gives_giv (gives_tree (l48 n g h) ?_)
      have e : seq (strOf g n) (strOf h n) = true := by rw [strOf_same heq]; with_unfolding_all simp [seq]
      rw [ble_t (Nat.le_refl n), cond_true, cond_true, e]
      exact gives_ret fun σ σ' => by simp only [den]
    · cases hg
  · cases hg

noncomputable def ECq : Env := inlF Tryz.prog (envOf [(46, specOf g47), (47, specOf g48)] noLoop) [] [] [] 0
theorem ecq_calls : CallsOk ECq Tryz.prog := (inlF_calls ((SpecsOk.cons spec47 (SpecsOk.cons spec48 SpecsOk.nil)).calls noLoop) mixed rfl rfl rfl 0).1
theorem ecq_loop : ECq.loop = noLoop := rfl
def hQ (m m' : M) : Heap := hW m ++ [(4, .tab 16 [.ints .i64 m'.X] false), (5, .tab 196608 [.ints .u8 m'.mem] false), (6, .tab m'.nI [.ints .i64 m'.inp] false), (7, .tab m'.nO [.ints .i64 m'.out] false)]
theorem lEq (m m' : M) : (evalF ECq Tryz.prog 21 [.agg (cpuL m 0 1 2 3), .agg (cpuL m' 4 5 6 7)] (hQ m m') 1024).bare =
    bif (bif cm .eql m.pc m'.pc then allB [true, true, true, eqA 16 m.X m'.X, true, bif m.zf == m'.zf then allB [bif m.sf == m'.sf then allB [bif m.cf == m'.cf then allB [bif m.of_ == m'.of_ then allB [true, true, true, eqA 196608 m.mem m'.mem, Nat.beq m.nI m'.nI, Nat.beq m.nI m.nI, Nat.beq m.nI m'.nI, eqA m.nI m.inp m'.inp, Nat.ble m.nI 100000000, Nat.beq m.nO m'.nO, Nat.beq m.nO m.nO, Nat.beq m.nO m'.nO, eqA m.nO m.out m'.out, Nat.ble m.nO 100000000] else true] else true] else true] else true] else true) then
      .ret (.bool false (bif cm .eql m.pc m'.pc then bif m.zf == m'.zf then bif m.sf == m'.sf then bif m.cf == m'.cf then bif m.of_ == m'.of_ then bif cm .eql m.kind m'.kind then cm .eql m.code m'.code else false else false else false else false else false else false)) []
    else .bad := by kernel_rfl
/-- told by value, two of them -/
def unQ (l : List SV) (l' : List SV) : Heap → Option (List Bool × M × M)
  | [(j0, b0), (j1, b1), (j2, b2), (j3, b3), (j4, .tab t1 [.ints .i64 X] _), (j5, .tab t2 [.ints .u8 mem] _), (j6, .tab t3 [.ints .i64 inp] _), (j7, .tab t4 [.ints .i64 out] _)] => match unW l [(j0, b0), (j1, b1), (j2, b2), (j3, b3)], l' with
    | some (nn, m), [.int false .i64 pc, .sl k1 n1, .bool false zf, .bool false sf, .bool false cf, .bool false of_, .sl k2 n2, .sl k3 n3, .sl k4 n4, .int false .i64 kind, .int false .i64 code] =>
      match Nat.beq j4 4 && (Nat.beq j5 5 && (Nat.beq j6 6 && (Nat.beq j7 7 && (Nat.beq k1 4 && (Nat.beq k2 5 && (Nat.beq k3 6 && (Nat.beq k4 7 && (Nat.beq n1 16 && (Nat.beq n2 196608 && (Nat.beq t1 16 && Nat.beq t2 196608)))))))))) with
      | true => some (Nat.beq t3 n3 :: Nat.beq t4 n4 :: nn, m, ⟨pc, zf, sf, cf, of_, kind, code, X, mem, n3, inp, n4, out⟩)
      | false => none
    | _, _ => none
  | _ => none
theorem roH_nil_append : ∀ (H H' : Heap), roH [] (H ++ H') = roH [] H ++ roH [] H'
  | [], _ => rfl
  | (k, b) :: t, H' => by simp only [List.cons_append, roH, roH_nil_append t H']
theorem unQ_all {l l' : List SV} {H : Heap} {nn : List Bool} {m m' : M} (h : unQ l l' H = some (nn, m, m')) (hn : allB nn = true) : l = cpuL m 0 1 2 3 ∧ l' = cpuL m' 4 5 6 7 ∧ roH [] H = hQ m m' := by
  unfold unQ at h
  split at h
  · rename_i j0 b0 j1 b1 j2 b2 j3 b3 j4 t1 X _ j5 t2 mem _ j6 t3 inp _ j7 t4 out _
    split at h
    · rename_i nn0 m0 pc k1 n1 zf sf cf of_ k2 n2 k3 n3 k4 n4 kind code hm
      split at h
      · rename_i hb
        simp only [Option.some.injEq, Prod.mk.injEq] at h
        obtain ⟨rfl, rfl, rfl⟩ := h
        simp only [Bool.and_eq_true, Nat.beq_eq] at hb
        obtain ⟨rfl, rfl, rfl, rfl, rfl, rfl, rfl, rfl, rfl, rfl, rfl, rfl⟩ := hb
        simp only [allB, Bool.and_eq_true, Nat.beq_eq] at hn
        obtain ⟨rfl, rfl, hnn⟩ := hn
        obtain ⟨rfl, hr⟩ := unW_all hm hnn
        refine ⟨rfl, rfl, ?_⟩
        have := roH_nil_append [(j0, b0), (j1, b1), (j2, b2), (j3, b3)] [(4, .tab 16 [.ints .i64 X] true), (5, .tab 196608 [.ints .u8 mem] true), (6, .tab t3 [.ints .i64 inp] true), (7, .tab t4 [.ints .i64 out] true)]
        rw [hr] at this
        exact this
      · cases h
    · cases h
  · cases h
noncomputable def gEq : List SV → Heap → Option R
  | [.agg l, .agg l'], H => match unQ l l' H with
    | some (nn, m, m') => some ⟨eqMB m m' :: nn, .bool true true, []⟩
    | none => none
  | _, _ => none
theorem fnEq : Tryz.prog.funcs[21]? = some Tryz.f21 := by kernel_rfl
theorem bEq : Tryz.f21.body = some (bodyOf Tryz.f21) := by kernel_rfl
theorem nEq : (Tryz.f21.name == "runtime.NumGoroutine") = false := by kernel_rfl
attribute [local irreducible] evalF Tr.bare Tr.leaf in
theorem specEq : SpecOk Tryz.prog 21 (specOf gEq) := spec_okU false mixed fnEq bEq nEq gEq fun a0 H0 r hg hn => by
  unfold gEq at hg
  split at hg
  · rename_i l l'
    split at hg
    · rename_i nn m m' hm
      simp only [Option.some.injEq] at hg
      subst hg
      simp only [allB, Bool.and_eq_true, eqMB_iff] at hn
      obtain ⟨h1, hnn⟩ := hn
      obtain ⟨rfl, rfl, hr⟩ := unQ_all hm hnn
      refine ⟨ECq, [.agg (cpuL m 0 1 2 3), .agg (cpuL m' 4 5 6 7)], [], ecq_calls, loops_noLoop ecq_loop _ _, fun h => h, fun σ => rfl, fun k hk => (by cases hk), ?_⟩
      rw [hr]
      refine gives_giv (gives_tree (lEq m m') ?_)
      obtain ⟨p1, p2, p3, p4, p5, p6, p7, p8, p9, p10, p11, p12, p13, p14, p15⟩ := h1
      have q2 : cm .eql m.pc m'.pc = true := by rw [p1]; simp [cm]
      have q3 : cm .eql m.kind m'.kind = true := by rw [p12]; simp [cm]
      have q4 : cm .eql m.code m'.code = true := by rw [p13]; simp [cm]
      have q5 : Nat.beq m.nI m'.nI = true := by rw [p8]; exact beq_t _
      have q6 : Nat.beq m.nO m'.nO = true := by rw [p10]; exact beq_t _
      have b1 : (m.zf == m'.zf) = true := by rw [p3]; simp
      have b2 : (m.sf == m'.sf) = true := by rw [p4]; simp
      have b3 : (m.cf == m'.cf) = true := by rw [p5]; simp
      have b4 : (m.of_ == m'.of_) = true := by rw [p6]; simp
      rw [q2, q3, q4, q5, q6, eqA_iff.2 p2, eqA_iff.2 p7, eqA_iff.2 p9, eqA_iff.2 p11, beq_t, beq_t, ble_t p14, ble_t p15, b1, b2, b3, b4]
      exact gives_ret fun σ σ' => by simp only [den, cond_true]
    · cases hg
  · cases hg

end Go.Rv
end

section
set_option linter.unusedVariables false
open Go Go.Ev Go.Proofs
namespace Go.Rv

/-- an ask -/
structure Pa where
  nL : Nat
  nW : Nat
  nX : Nat
  nM : Nat
  nI : Nat
  c0 : Nat → Int
  c1 : Nat → Int
  c2 : Nat → Int
  c3 : Nat → Int
  c4 : Nat → Int
  cw : Nat → Int
  cX : Nat → Int
  cM : Nat → Int
  cI : Nat → Int
  at_ : Int
  pc : Int
  raw : Bool
def vP (p : Pa) : List SV := [.sl 0 p.nL, .sl 1 p.nW, .sl 2 p.nX, .sl 3 p.nM, .int false .i64 p.at_, .sl 4 p.nI, .int false .i64 p.pc, .bool false p.raw]
def hP3 (p : Pa) : Heap := [(2, .tab p.nX [.ints .i64 p.cX] false), (3, .tab p.nM [.ints .u8 p.cM] false), (4, .tab p.nI [.ints .i64 p.cI] false)]
def hP (p : Pa) : Heap := [(0, .tab p.nL [.ints .i64 p.c0, .ints .i64 p.c1, .ints .i64 p.c2, .ints .i64 p.c3, .ints .i64 p.c4] false), (1, .tab p.nW [.ints .u32 p.cw] false)] ++ hP3 p
noncomputable def EMa : Env := inlF Tryz.prog (envOf [(60, specOf g33c), (49, specOf g28)] noLoop) [50] [] [] 1
theorem named32 : named Tryz.prog [50] = true := by kernel_rfl
theorem ema_calls : CallsOk EMa Tryz.prog := (inlF_calls ((SpecsOk.cons spec33c (SpecsOk.cons spec28 SpecsOk.nil)).calls noLoop) mixed named32 rfl rfl 1).1
theorem ema_loop : EMa.loop = noLoop := rfl

def cpu0 : List SV := [.int false .i64 4096, .sl 1072 16, .bool false false, .bool false false, .bool false false, .bool false false, .sl 1073 196608, .sl 1074 0, .sl 1075 0, .int false .i64 0, .int false .i64 0]
def h18 (p : Pa) (X mem : Nat → Int) : Heap := hP3 p ++ [(1024, .cells (vP p)), (1040, .cells zeroV), (1072, .tab 16 [.ints .i64 X] true), (1073, .tab 196608 [.ints .u8 mem] true), (1074, .tab 0 [.ints .i64 fun _ => 0] true), (1075, .tab 0 [.ints .i64 fun _ => 0] true), (1088, .cells cpu0)]
def xA (g : Nat → Int) (n : Nat) : Nat → Int := fun r => bif Nat.blt 0 r && Nat.blt r n then g r else 0
def mA (a : Nat) (g : Nat → Int) (n : Nat) : Nat → Int := fun r => bif Nat.ble a r && Nat.blt r (a + n) then g (r - a) else 0
/-- told from a heap -/
noncomputable def unH18 (H : Heap) : Option (List Bool × Pa × (Nat → Int)) :=
  match tI .i64 false H 2, tI .u8 false H 3, tI .i64 false H 4, cL H 1024, tI .i64 true H 1072, tI .u8 true H 1073, tI .i64 true H 1074, tI .i64 true H 1075, cL H 1088, cL H 1040 with
  | some (nX, cX), some (nM, cM), some (nI, cI), some [.sl k0 nL, .sl k1 nW, .sl k2 n2, .sl k3 n3, .int _ .i64 at_, .sl k4 n4, .int _ .i64 pc, .bool _ raw],
    some (t1, X), some (t2, mem), some (t3, _), some (t4, _), some l1, some l2 =>
    some ([Nat.beq k0 0, Nat.beq k1 1, Nat.beq k2 2, Nat.beq k3 3, Nat.beq k4 4, Nat.beq n2 nX, Nat.beq n3 nM, Nat.beq n4 nI, Nat.beq t1 16, Nat.beq t2 196608, Nat.beq t3 0, Nat.beq t4 0, eqL l1 cpu0, eqL l2 zeroV, eqA 196608 mem (fun _ => 0)],
      ⟨nL, nW, nX, nM, nI, fun _ => 0, fun _ => 0, fun _ => 0, fun _ => 0, fun _ => 0, fun _ => 0, cX, cM, cI, at_, pc, raw⟩, X)
  | _, _, _, _, _, _, _, _, _, _ => none
/-- loop 0: registers -/
def v18a (i : Int) : List SV := [.int true .i64 16, .ptr 1024 0 0, .ptr 1088 0 0, .int false .i64 i, .ptr 1040 0 0]
def lk18a : Lp := ⟨70, [1, 2, 5, 6, 4], 1300, fun _ _ => none⟩
noncomputable def get18a : List SV → Heap → Option Tr
  | [.int _ .i64 r, .ptr kp rp cp, .ptr kc rc cc, .int _ .i64 i, .ptr kq rq cq], H => match unH18 H with
    | some (nn, p, X) => some (Tr.needs ([decide (r = 16), Nat.beq kp 1024, Nat.beq rp 0, Nat.beq cp 0, Nat.beq kc 1088, Nat.beq rc 0, Nat.beq cc 0, Nat.beq kq 1040, Nat.beq rq 0, Nat.beq cq 0, decide (i = 1), eqA 16 X (fun _ => 0)] ++ nn)
      (exitT lk18a 0 [.any, .ptr 1024 0 0, .ptr 1088 0 0, .any, .ptr 1040 0 0] (h18 p (xA p.cX p.nX) (fun _ => 0))))
    | none => none
  | _, _ => none
noncomputable def lp18a : Lp := { lk18a with get := get18a }
/-- loop 1: memory -/
def v18b (a i : Int) : List SV := [.ptr 1024 0 0, .ptr 1088 0 0, .int false .i64 a, .int false .i64 i, .ptr 1040 0 0]
def lk18b : Lp := ⟨70, [2, 5, 7, 8, 4], 1500, fun _ _ => none⟩
noncomputable def get18b : List SV → Heap → Option Tr
  | [.ptr kp rp cp, .ptr kc rc cc, .int _ .i64 a, .int _ .i64 i, .ptr kq rq cq], H => match unH18 H with
    | some (nn, p, X) => some (Tr.needs ([Nat.beq kp 1024, Nat.beq rp 0, Nat.beq cp 0, Nat.beq kc 1088, Nat.beq rc 0, Nat.beq cc 0, Nat.beq kq 1040, Nat.beq rq 0, Nat.beq cq 0, decide (i = 0), decide (0 ≤ a), decide (a < 196608)] ++ nn)
      (exitT lk18b 2 [.ptr 1024 0 0, .ptr 1088 0 0, .any, .any, .ptr 1040 0 0] (h18 p X (mA a.toNat p.cM p.nM))))
    | none => none
  | _, _ => none
noncomputable def lp18b : Lp := { lk18b with get := get18b }
noncomputable def E18 : Env := ⟨EMa.call, loopEnv [(0, lp18a), (1, lp18b)]⟩

theorem r18a (p : Pa) (X : Nat → Int) (i : Int) : (evalB EMa Tryz.prog Tryz.f27.results.toList (loopOf Tryz.f27 0) 1 lp18a (v18a i) (h18 p X fun x => 0)).view [1, 2, 5, 6, 4] =
    (bif (bif cm BinOp.lss i 16 then cm BinOp.lss i (↑p.nX : Int) else false) then
      bif (decide (0 ≤ i)) then
        bif (decide (i < (↑p.nX : Int))) then
          bif (Nat.blt (i.toNat) (p.nX)) then
            bif (Nat.blt (i.toNat) (p.nX)) then
              bif (decide (0 ≤ i)) then
                bif (decide (i < 16)) then
                  bif (Nat.blt (i.toNat) (16)) then
                    bif (Nat.blt (i.toNat) (16)) then
                      .norm 70 [(.int true IntKind.i64 16), (.ptr 1024 0 0), (.ptr 1088 0 0), (.int false IntKind.i64 (ar BinOp.add IntKind.i64 i 1)), (.ptr 1040 0 0)] [(2, .tab (p.nX) [.ints IntKind.i64 (p.cX)] false), (3, .tab (p.nM) [.ints IntKind.u8 (p.cM)] false), (4, .tab (p.nI) [.ints IntKind.i64 (p.cI)] false), (1024, .cells [(.sl 0 (p.nL)), (.sl 1 (p.nW)), (.sl 2 (p.nX)), (.sl 3 (p.nM)), (.int false IntKind.i64 (p.at_)), (.sl 4 (p.nI)), (.int false IntKind.i64 (p.pc)), (.bool false (p.raw))]), (1040, .cells [(.int true IntKind.i64 0), (.val (Value.slice none 0 0)), (.bool true false), (.bool true false), (.bool true false), (.bool true false), (.val (Value.slice none 0 0)), (.val (Value.slice none 0 0)), (.val (Value.slice none 0 0)), (.int true IntKind.i64 0), (.int true IntKind.i64 0)]), (1072, .tab 16 [.ints IntKind.i64 (upd X i.toNat (p.cX i.toNat))] true), (1073, .tab 196608 [.ints IntKind.u8 (fun x => 0)] true), (1074, .tab 0 [.ints IntKind.i64 (fun x => 0)] true), (1075, .tab 0 [.ints IntKind.i64 (fun x => 0)] true), (1088, .cells [(.int false IntKind.i64 4096), (.sl 1072 16), (.bool false false), (.bool false false), (.bool false false), (.bool false false), (.sl 1073 196608), (.sl 1074 0), (.sl 1075 0), (.int false IntKind.i64 0), (.int false IntKind.i64 0)])]
                    else .bad
                  else .bad
                else .bad
              else .bad
            else .bad
          else .bad
        else .bad
      else .bad
    else
      .exit 0 70 [(.int true IntKind.i64 16), (.ptr 1024 0 0), (.ptr 1088 0 0), (.int false IntKind.i64 (i)), (.ptr 1040 0 0)] [(2, .tab (p.nX) [.ints IntKind.i64 (p.cX)] false), (3, .tab (p.nM) [.ints IntKind.u8 (p.cM)] false), (4, .tab (p.nI) [.ints IntKind.i64 (p.cI)] false), (1024, .cells [(.sl 0 (p.nL)), (.sl 1 (p.nW)), (.sl 2 (p.nX)), (.sl 3 (p.nM)), (.int false IntKind.i64 (p.at_)), (.sl 4 (p.nI)), (.int false IntKind.i64 (p.pc)), (.bool false (p.raw))]), (1040, .cells [(.int true IntKind.i64 0), (.val (Value.slice none 0 0)), (.bool true false), (.bool true false), (.bool true false), (.bool true false), (.val (Value.slice none 0 0)), (.val (Value.slice none 0 0)), (.val (Value.slice none 0 0)), (.int true IntKind.i64 0), (.int true IntKind.i64 0)]), (1072, .tab 16 [.ints IntKind.i64 (X)] true), (1073, .tab 196608 [.ints IntKind.u8 (fun x => 0)] true), (1074, .tab 0 [.ints IntKind.i64 (fun x => 0)] true), (1075, .tab 0 [.ints IntKind.i64 (fun x => 0)] true), (1088, .cells [(.int false IntKind.i64 4096), (.sl 1072 16), (.bool false false), (.bool false false), (.bool false false), (.bool false false), (.sl 1073 196608), (.sl 1074 0), (.sl 1075 0), (.int false IntKind.i64 0), (.int false IntKind.i64 0)])]) := by kernel_rfl

theorem r18b (p : Pa) (X : Nat → Int) (mem : Nat → Int) (a : Int) (i : Int) : (evalB EMa Tryz.prog Tryz.f27.results.toList (loopOf Tryz.f27 1) 2 lp18b (v18b a i) (h18 p X mem)).view [2, 5, 7, 8, 4] =
    (bif (bif cm BinOp.lss i (↑p.nM : Int) then cm BinOp.lss (ar BinOp.add IntKind.i64 a i) 196608 else false) then
      bif (decide (0 ≤ i)) then
        bif (decide (i < (↑p.nM : Int))) then
          bif (Nat.blt (i.toNat) (p.nM)) then
            bif (Nat.blt (i.toNat) (p.nM)) then
              bif (decide (0 ≤ ar BinOp.add IntKind.i64 a i)) then
                bif (decide (ar BinOp.add IntKind.i64 a i < 196608)) then
                  bif (Nat.blt ((ar BinOp.add IntKind.i64 a i).toNat) (196608)) then
                    bif (Nat.blt ((ar BinOp.add IntKind.i64 a i).toNat) (196608)) then
                      .norm 70 [(.ptr 1024 0 0), (.ptr 1088 0 0), (.int false IntKind.i64 (a)), (.int false IntKind.i64 (ar BinOp.add IntKind.i64 i 1)), (.ptr 1040 0 0)] [(2, .tab (p.nX) [.ints IntKind.i64 (p.cX)] false), (3, .tab (p.nM) [.ints IntKind.u8 (p.cM)] false), (4, .tab (p.nI) [.ints IntKind.i64 (p.cI)] false), (1024, .cells [(.sl 0 (p.nL)), (.sl 1 (p.nW)), (.sl 2 (p.nX)), (.sl 3 (p.nM)), (.int false IntKind.i64 (p.at_)), (.sl 4 (p.nI)), (.int false IntKind.i64 (p.pc)), (.bool false (p.raw))]), (1040, .cells [(.int true IntKind.i64 0), (.val (Value.slice none 0 0)), (.bool true false), (.bool true false), (.bool true false), (.bool true false), (.val (Value.slice none 0 0)), (.val (Value.slice none 0 0)), (.val (Value.slice none 0 0)), (.int true IntKind.i64 0), (.int true IntKind.i64 0)]), (1072, .tab 16 [.ints IntKind.i64 (X)] true), (1073, .tab 196608 [.ints IntKind.u8 (upd mem (ar BinOp.add IntKind.i64 a i).toNat (p.cM i.toNat))] true), (1074, .tab 0 [.ints IntKind.i64 (fun x => 0)] true), (1075, .tab 0 [.ints IntKind.i64 (fun x => 0)] true), (1088, .cells [(.int false IntKind.i64 4096), (.sl 1072 16), (.bool false false), (.bool false false), (.bool false false), (.bool false false), (.sl 1073 196608), (.sl 1074 0), (.sl 1075 0), (.int false IntKind.i64 0), (.int false IntKind.i64 0)])]
                    else .bad
                  else .bad
                else .bad
              else .bad
            else .bad
          else .bad
        else .bad
      else .bad
    else
      .exit 2 70 [(.ptr 1024 0 0), (.ptr 1088 0 0), (.int false IntKind.i64 (a)), (.int false IntKind.i64 (i)), (.ptr 1040 0 0)] [(2, .tab (p.nX) [.ints IntKind.i64 (p.cX)] false), (3, .tab (p.nM) [.ints IntKind.u8 (p.cM)] false), (4, .tab (p.nI) [.ints IntKind.i64 (p.cI)] false), (1024, .cells [(.sl 0 (p.nL)), (.sl 1 (p.nW)), (.sl 2 (p.nX)), (.sl 3 (p.nM)), (.int false IntKind.i64 (p.at_)), (.sl 4 (p.nI)), (.int false IntKind.i64 (p.pc)), (.bool false (p.raw))]), (1040, .cells [(.int true IntKind.i64 0), (.val (Value.slice none 0 0)), (.bool true false), (.bool true false), (.bool true false), (.bool true false), (.val (Value.slice none 0 0)), (.val (Value.slice none 0 0)), (.val (Value.slice none 0 0)), (.int true IntKind.i64 0), (.int true IntKind.i64 0)]), (1072, .tab 16 [.ints IntKind.i64 (X)] true), (1073, .tab 196608 [.ints IntKind.u8 (mem)] true), (1074, .tab 0 [.ints IntKind.i64 (fun x => 0)] true), (1075, .tab 0 [.ints IntKind.i64 (fun x => 0)] true), (1088, .cells [(.int false IntKind.i64 4096), (.sl 1072 16), (.bool false false), (.bool false false), (.bool false false), (.bool false false), (.sl 1073 196608), (.sl 1074 0), (.sl 1075 0), (.int false IntKind.i64 0), (.int false IntKind.i64 0)])]) := by kernel_rfl

theorem t18M (p : Pa) : (evalF E18 Tryz.prog 27 [SV.agg (vP p), SV.int true IntKind.i64 16] (hP p) 1024).leaf =
    (bif (eqA 16 (fun x => 0) fun x => 0) then
      bif (Nat.beq (p.nX) (p.nX)) then
        bif (Nat.beq (p.nM) (p.nM)) then
          bif (Nat.beq (p.nI) (p.nI)) then
            bif (eqL [SV.int false IntKind.i64 4096, SV.sl (1072 + 0) 16, SV.bool false false, SV.bool false false, SV.bool false false, SV.bool false false, SV.sl (1072 + 1) 196608, SV.sl (1072 + 2) 0, SV.sl (1072 + 3) 0, SV.int false IntKind.i64 0, SV.int false IntKind.i64 0] cpu0) then
              bif (eqA 196608 (fun x => 0) fun x => 0) then
                bif (decide (0 ≤ conv IntKind.i64 (ar BinOp.rem IntKind.u64 (conv IntKind.u64 p.at_) 196608))) then
                  bif (decide (conv IntKind.i64 (ar BinOp.rem IntKind.u64 (conv IntKind.u64 p.at_) 196608) < 196608)) then
                    bif (Nat.beq (p.nX) (p.nX)) then
                      bif (Nat.beq (p.nM) (p.nM)) then
                        bif (Nat.beq (p.nI) (p.nI)) then
                          bif (eqA 196608 (fun x => 0) fun x => 0) then
                            bif (Nat.beq (p.nI) (p.nI)) then
                              bif (Nat.ble (p.nI) (100000000)) then
                                .ret (.agg [(.int false IntKind.i64 4096), (.sl 1072 16), (.bool false false), (.bool false false), (.bool false false), (.bool false false), (.sl 1073 196608), (.sl 1532 (p.nI)), (.sl 1075 0), (.int false IntKind.i64 0), (.int false IntKind.i64 0)]) [(2, .tab (p.nX) [.ints IntKind.i64 (p.cX)] false), (3, .tab (p.nM) [.ints IntKind.u8 (p.cM)] false), (4, .tab (p.nI) [.ints IntKind.i64 (p.cI)] false), (1024, .cells [(.sl 0 (p.nL)), (.sl 1 (p.nW)), (.sl 2 (p.nX)), (.sl 3 (p.nM)), (.int false IntKind.i64 (p.at_)), (.sl 4 (p.nI)), (.int false IntKind.i64 (p.pc)), (.bool false (p.raw))]), (1040, .cells [(.int false IntKind.i64 4096), (.sl 1072 16), (.bool false false), (.bool false false), (.bool false false), (.bool false false), (.sl 1073 196608), (.sl 1532 (p.nI)), (.sl 1075 0), (.int false IntKind.i64 0), (.int false IntKind.i64 0)]), (1072, .tab 16 [.ints IntKind.i64 (xA p.cX p.nX)] true), (1073, .tab 196608 [.ints IntKind.u8 (mA (conv IntKind.i64 (ar BinOp.rem IntKind.u64 (conv IntKind.u64 p.at_) 196608)).toNat p.cM p.nM)] true), (1074, .tab 0 [.ints IntKind.i64 (fun x => 0)] true), (1075, .tab 0 [.ints IntKind.i64 (fun x => 0)] true), (1088, .cells [(.int false IntKind.i64 4096), (.sl 1072 16), (.bool false false), (.bool false false), (.bool false false), (.bool false false), (.sl 1073 196608), (.sl 1532 (p.nI)), (.sl 1075 0), (.int false IntKind.i64 0), (.int false IntKind.i64 0)]), (1532, .tab (p.nI) [.ints IntKind.i64 (p.cI)] true)]
                              else .bad
                            else .bad
                          else .bad
                        else .bad
                      else .bad
                    else .bad
                  else .bad
                else .bad
              else .bad
            else .bad
          else .bad
        else .bad
      else .bad
    else .bad) := by kernel_rfl

end Go.Rv
end

section
set_option linter.unusedVariables false
open Go Go.Ev Go.Proofs
namespace Go.Rv

theorem unH18_wk {H : Heap} {nn : List Bool} {p : Pa} {X : Nat → Int} (h : unH18 H = some (nn, p, X)) (hn : allB nn = true) : wkH (rmap []) H (h18 p X fun _ => 0) := by
  unfold unH18 at h
  split at h
  · rename_i q1 q2 q3 q4 q5 q6 q7 q8 q9 q10
    simp only [Option.some.injEq, Prod.mk.injEq] at h
    obtain ⟨rfl, rfl, rfl⟩ := h
    simp only [allB, Bool.and_true, Bool.and_eq_true, Nat.beq_eq, eqA_iff] at hn
    obtain ⟨rfl, rfl, rfl, rfl, rfl, rfl, rfl, rfl, rfl, rfl, rfl, rfl, h1, h2, hm⟩ := hn
    obtain ⟨_, q1, _⟩ := tI_spec q1
    obtain ⟨_, q2, _⟩ := tI_spec q2
    obtain ⟨_, q3, _⟩ := tI_spec q3
    obtain ⟨w5, q5, g5⟩ := tI_spec q5
    obtain ⟨w6, q6, g6⟩ := tI_spec q6
    obtain ⟨w7, q7, g7⟩ := tI_spec q7
    obtain ⟨w8, q8, g8⟩ := tI_spec q8
    have q4 := cL_spec q4
    have q9 := cL_spec q9
    have q10 := cL_spec q10
    have h1 := eqL_sim h1
    have h2 := eqL_sim h2
    have r0 : ∀ j, rmap [] j = .old j := fun j => rfl
    simp only [wkH, h18, hP3, List.cons_append, List.nil_append, r0, q1, q2, q3, q4, q5, q6, q7, q8, q9, q10, wkB, and_true]
    refine ⟨?_, ?_, ?_, ?_, h2, ⟨Nat.le_refl _, fun _ => g5 rfl, ?_⟩, ⟨Nat.le_refl _, fun _ => g6 rfl, ?_⟩, ⟨Nat.le_refl _, fun _ => g7 rfl, ?_⟩, ⟨Nat.le_refl _, fun _ => g8 rfl, ?_⟩, h1⟩
    all_goals simp [wkCs, wkC, vP, simL, sim, rmap, rlook]
    exact hm
  · cases h

theorem h18_wk (p : Pa) {X X' mem mem' : Nat → Int} (hX : ∀ r, r < 16 → X r = X' r) (hm : ∀ r, r < 196608 → mem r = mem' r) : wkH (rmap []) (h18 p X mem) (h18 p X' mem') := by
  simp [wkH, h18, hP3, vP, cpu0, zeroV, rmap, rlook, Ev.look, wkB, simL, sim, wkCs, wkC]
  exact ⟨hX, hm⟩

/-! loop 0 -/
structure X18a where
  p : Pa
  i : Nat
def ok18a (x : X18a) : Prop := 1 ≤ x.i ∧ x.i ≤ 16 ∧ (x.i ≤ x.p.nX ∨ x.i = 1)
def vs18a (x : X18a) : List SV := v18a x.i
def hp18a (x : X18a) : Heap := h18 x.p (xA x.p.cX x.i) (fun _ => 0)
def out18a (x : X18a) : Vw := .exit 0 70 [.any, .ptr 1024 0 0, .ptr 1088 0 0, .any, .ptr 1040 0 0] (h18 x.p (xA x.p.cX x.p.nX) (fun _ => 0))

theorem xA_one (g : Nat → Int) (r : Nat) : xA g 1 r = 0 := by
  unfold xA
  have : (Nat.blt 0 r && Nat.blt r 1) = false := by
    cases h : (Nat.blt 0 r && Nat.blt r 1) with
    | false => rfl
    | true => simp only [Bool.and_eq_true, Nat.blt_eq] at h; omega
  rw [this]; rfl
theorem xA_eq (g : Nat → Int) (n r : Nat) : xA g n r = if 0 < r ∧ r < n then g r else 0 := by
  unfold xA
  by_cases h : 0 < r ∧ r < n
  · rw [if_pos h, blt_t h.1, blt_t h.2]; rfl
  · rw [if_neg h]
    have : (Nat.blt 0 r && Nat.blt r n) = false := by
      cases hb : (Nat.blt 0 r && Nat.blt r n) with
      | false => rfl
      | true => simp only [Bool.and_eq_true, Nat.blt_eq] at hb; exact absurd hb h
    rw [this]; rfl
theorem mA_eq (a : Nat) (g : Nat → Int) (n r : Nat) : mA a g n r = if a ≤ r ∧ r < a + n then g (r - a) else 0 := by
  unfold mA
  by_cases h : a ≤ r ∧ r < a + n
  · rw [if_pos h, ble_t h.1, blt_t h.2]; rfl
  · rw [if_neg h]
    have : (Nat.ble a r && Nat.blt r (a + n)) = false := by
      cases hb : (Nat.ble a r && Nat.blt r (a + n)) with
      | false => rfl
      | true => simp only [Bool.and_eq_true, Nat.blt_eq, Nat.ble_eq] at hb; exact absurd hb h
    rw [this]; rfl
theorem upd_at {α : Type} (g : Nat → α) (k : Nat) (v : α) : upd g k v k = v := by
  unfold upd
  rw [Nat.beq_refl]; rfl
theorem upd_ne {α : Type} (g : Nat → α) {j k : Nat} (h : j ≠ k) (v : α) : upd g k v j = g j := by
  unfold upd
  have : Nat.beq j k = false := by cases hb : Nat.beq j k with | false => rfl | true => exact absurd (Nat.eq_of_beq_eq_true hb) h
  rw [this, cond_false]
theorem upd_eq (g : Nat → Int) (k : Nat) (v : Int) (r : Nat) : upd g k v r = if r = k then v else g r := by
  by_cases h : r = k
  · subst h; rw [if_pos rfl, upd_at]
  · rw [if_neg h, upd_ne _ h]

theorem entry18a (l : List SV) (H : Heap) (T : Tr) (h : lp18a.get l H = some T) (hb : T.leaf ≠ .bad) : ∃ x r, ok18a x ∧ WkV r lp18a.nm l H (vs18a x) (hp18a x) ∧ T.leaf = toLf lp18a (out18a x) := by
  replace h : get18a l H = some T := h
  unfold get18a at h
  split at h
  · rename_i _ r kp rp cp kc rc cc _ i kq rq cq
    split at h
    · rename_i nn p X hu
      simp only [Option.some.injEq] at h
      subst h
      obtain ⟨hn, he⟩ := needs_ne hb
      rw [he]
      rw [allB_append] at hn
      simp only [allB, Bool.and_eq_true, Bool.and_true, decide_eq_true_eq, Nat.beq_eq, eqA_iff] at hn
      obtain ⟨⟨rfl, rfl, rfl, rfl, rfl, rfl, rfl, rfl, rfl, rfl, rfl, hX⟩, hnn⟩ := hn
      refine ⟨⟨p, 1⟩, [], ⟨Nat.le_refl _, by simp, .inr rfl⟩, ⟨rfl, ?_, ?_, rfl, rfl⟩, ?_⟩
      · simp [vs18a, v18a, wkF, wkS, sim, rmap, rlook]
      · have := unH18_wk hu hnn
        simp only [hp18a]
        revert this
        simp [wkH, h18, hP3, rmap, rlook]
        intro a1 a2 a3 a4 a5 a6 a7 a8 a9 a10
        refine ⟨a1, a2, a3, a4, a5, ?_, a7, a8, a9, a10⟩
        revert a6
        cases Ev.look H 1072 with
        | none => exact fun h => h
        | some b =>
          cases b with
          | tab n c rw_ =>
            simp only [wkB]
            rintro ⟨b1, b2, b3⟩
            refine ⟨b1, b2, ?_⟩
            cases c with
            | nil => exact b3.elim
            | cons c0 cs =>
              simp only [wkCs] at b3 ⊢
              refine ⟨?_, b3.2⟩
              have b4 := b3.1
              cases c0 <;> simp only [wkC] at b4 ⊢ <;> first | exact b4.elim | skip
              refine ⟨b4.1, fun r hr => ?_⟩
              rw [b4.2 r hr, hX r hr, xA_one]
          | _ => exact fun h => h.elim
      · simp only [exitT_leaf, out18a]
        rfl
    · cases h
  · cases h

attribute [local irreducible] evalB Tr.view in
theorem round18a (x : X18a) (hx : ok18a x) : Round lp18a ok18a (fun x => 16 - x.i) vs18a hp18a out18a x ((evalB EMa Tryz.prog Tryz.f27.results.toList (loopOf Tryz.f27 0) (0 + 1) lp18a (vs18a x) (hp18a x)).view lp18a.ks) := by
  obtain ⟨p, i⟩ := x
  obtain ⟨h0, h1, h2⟩ := hx
  simp only at h0 h1 h2
  have hr := r18a p (xA p.cX i) i
  rw [show evalB EMa Tryz.prog Tryz.f27.results.toList (loopOf Tryz.f27 0) (0 + 1) lp18a (vs18a ⟨p, i⟩) (hp18a ⟨p, i⟩) = evalB EMa Tryz.prog Tryz.f27.results.toList (loopOf Tryz.f27 0) 1 lp18a (v18a i) (h18 p (xA p.cX i) fun _ => 0) from rfl, show lp18a.ks = [1, 2, 5, 6, 4] from rfl, hr]
  by_cases hc : i < 16 ∧ i < p.nX
  · obtain ⟨c1, c2⟩ := hc
    have e1 : cm .lss (i : Int) 16 = true := by rw [cm_lss']; exact decide_eq_true (by omega)
    have e2 : cm .lss (i : Int) (p.nX : Int) = true := by rw [cm_lss']; exact decide_eq_true (by omega)
    have e3 : decide (0 ≤ (i : Int)) = true := decide_eq_true (by omega)
    have e4 : decide ((i : Int) < (p.nX : Int)) = true := decide_eq_true (by omega)
    have e5 : decide ((i : Int) < 16) = true := decide_eq_true (by omega)
    have e6 : Nat.blt i p.nX = true := blt_t c2
    have e7 : Nat.blt i 16 = true := blt_t c1
    simp only [e1, e2, e3, e4, e5, e6, e7, cond_true, Int.toNat_natCast, addOne (show i < 9223372036854775807 by omega)]
    refine ⟨rfl, ⟨p, i + 1⟩, [], ⟨by show 1 ≤ i + 1; omega, by show i + 1 ≤ 16; omega, .inl (by show i + 1 ≤ p.nX; omega)⟩, by show 16 - (i + 1) < 16 - i; omega, rfl, rfl, ?_, ?_, rfl, rfl⟩
    · simp [vs18a, v18a, wkF, wkS, sim, rmap, rlook]
    · refine h18_wk p (X := upd (xA p.cX i) i (p.cX i)) (X' := xA p.cX (i + 1)) (mem := fun _ => 0) (mem' := fun _ => 0) (fun r hr => ?_) fun r hr => rfl
      rw [upd_eq, xA_eq, xA_eq]
      by_cases hri : r = i
      · subst hri; rw [if_pos rfl, if_pos (by omega)]
      · rw [if_neg hri]
        by_cases hrl : 0 < r ∧ r < i
        · rw [if_pos hrl, if_pos (by omega)]
        · rw [if_neg hrl, if_neg (by omega)]
  · have e : (bif cm .lss (i : Int) 16 then cm .lss (i : Int) (p.nX : Int) else false) = false := by
      rw [cm_lss', cm_lss']
      by_cases c1 : i < 16
      · have c2 : ¬ (i : Int) < p.nX := by have := fun h => hc ⟨c1, h⟩; omega
        simp [c2]
      · have c2 : ¬ (i : Int) < 16 := by omega
        simp [c2]
    simp only [e, cond_false]
    refine ⟨rfl, [.any, .ptr 1024 0 0, .ptr 1088 0 0, .any, .ptr 1040 0 0], _, [], rfl, rfl, ?_, ?_, rfl, rfl⟩
    · simp [wkF, wkS, sim, rmap, rlook]
    · refine h18_wk p (X := xA p.cX i) (X' := xA p.cX p.nX) (mem := fun _ => 0) (mem' := fun _ => 0) (fun r hr => ?_) fun r hr => rfl
      rw [xA_eq, xA_eq]
      by_cases hrl : 0 < r ∧ r < i
      · rw [if_pos hrl, if_pos (by omega)]
      · rw [if_neg hrl, if_neg (by omega)]

/-! loop 1 -/
structure X18b where
  p : Pa
  X : Nat → Int
  a : Nat
  i : Nat
def ok18b (x : X18b) : Prop := x.a < 196608 ∧ x.i ≤ x.p.nM ∧ x.a + x.i ≤ 196608
def vs18b (x : X18b) : List SV := v18b x.a x.i
def hp18b (x : X18b) : Heap := h18 x.p x.X (mA x.a x.p.cM x.i)
def out18b (x : X18b) : Vw := .exit 2 70 [.ptr 1024 0 0, .ptr 1088 0 0, .any, .any, .ptr 1040 0 0] (h18 x.p x.X (mA x.a x.p.cM x.p.nM))

theorem mA_zero (a : Nat) (g : Nat → Int) (r : Nat) : mA a g 0 r = 0 := by rw [mA_eq, if_neg (by omega)]

theorem entry18b (l : List SV) (H : Heap) (T : Tr) (h : lp18b.get l H = some T) (hb : T.leaf ≠ .bad) : ∃ x r, ok18b x ∧ WkV r lp18b.nm l H (vs18b x) (hp18b x) ∧ T.leaf = toLf lp18b (out18b x) := by
  replace h : get18b l H = some T := h
  unfold get18b at h
  split at h
  · rename_i kp rp cp kc rc cc _ a _ i kq rq cq
    split at h
    · rename_i nn p X hu
      simp only [Option.some.injEq] at h
      subst h
      obtain ⟨hn, he⟩ := needs_ne hb
      rw [he]
      rw [allB_append] at hn
      simp only [allB, Bool.and_eq_true, Bool.and_true, decide_eq_true_eq, Nat.beq_eq] at hn
      obtain ⟨⟨rfl, rfl, rfl, rfl, rfl, rfl, rfl, rfl, rfl, rfl, h0, h1⟩, hnn⟩ := hn
      obtain ⟨a, rfl⟩ : ∃ n : Nat, a = (n : Int) := ⟨a.toNat, by omega⟩
      refine ⟨⟨p, X, a, 0⟩, [], ⟨by simp only; omega, Nat.zero_le _, by simp only; omega⟩, ⟨rfl, ?_, ?_, rfl, rfl⟩, ?_⟩
      · simp [vs18b, v18b, wkF, wkS, sim, rmap, rlook]
      · have := unH18_wk hu hnn
        simp only [hp18b]
        revert this
        have e : mA a p.cM 0 = fun _ => 0 := funext (mA_zero a p.cM)
        rw [e]
        exact fun h => h
      · simp only [exitT_leaf, out18b, Int.toNat_natCast]
        rfl
    · cases h
  · cases h

attribute [local irreducible] evalB Tr.view in
theorem round18b (x : X18b) (hx : ok18b x) : Round lp18b ok18b (fun x => x.p.nM - x.i) vs18b hp18b out18b x ((evalB EMa Tryz.prog Tryz.f27.results.toList (loopOf Tryz.f27 1) (1 + 1) lp18b (vs18b x) (hp18b x)).view lp18b.ks) := by
  obtain ⟨p, X, a, i⟩ := x
  obtain ⟨h0, h1, h2⟩ := hx
  simp only at h0 h1 h2
  have hr := r18b p X (mA a p.cM i) a i
  rw [show evalB EMa Tryz.prog Tryz.f27.results.toList (loopOf Tryz.f27 1) (1 + 1) lp18b (vs18b ⟨p, X, a, i⟩) (hp18b ⟨p, X, a, i⟩) = evalB EMa Tryz.prog Tryz.f27.results.toList (loopOf Tryz.f27 1) 2 lp18b (v18b a i) (h18 p X (mA a p.cM i)) from rfl, show lp18b.ks = [2, 5, 7, 8, 4] from rfl, hr]
  have ea : ar .add .i64 (a : Int) (i : Int) = ((a + i : Nat) : Int) := by simp only [ar, IntKind.wrap_i64]; omega
  rw [ea]
  by_cases hc : i < p.nM ∧ a + i < 196608
  · obtain ⟨c1, c2⟩ := hc
    have e1 : cm .lss (i : Int) (p.nM : Int) = true := by rw [cm_lss']; exact decide_eq_true (by omega)
    have e2 : cm .lss ((a + i : Nat) : Int) 196608 = true := by rw [cm_lss']; exact decide_eq_true (by omega)
    have e3 : decide (0 ≤ (i : Int)) = true := decide_eq_true (by omega)
    have e4 : decide ((i : Int) < (p.nM : Int)) = true := decide_eq_true (by omega)
    have e5 : decide (0 ≤ ((a + i : Nat) : Int)) = true := decide_eq_true (by omega)
    have e6 : decide (((a + i : Nat) : Int) < 196608) = true := decide_eq_true (by omega)
    have e7 : Nat.blt i p.nM = true := blt_t c1
    have e8 : Nat.blt (a + i) 196608 = true := blt_t c2
    rw [addOne (show i < 9223372036854775807 by omega), Int.toNat_natCast, Int.toNat_natCast, e1, e2, e3, e4, e5, e6, e7, e8]
    simp only [cond_true]
    refine ⟨rfl, ⟨p, X, a, i + 1⟩, [], ⟨h0, by show i + 1 ≤ p.nM; omega, by show a + (i + 1) ≤ 196608; omega⟩, by show p.nM - (i + 1) < p.nM - i; omega, rfl, rfl, ?_, ?_, rfl, rfl⟩
    · simp [vs18b, v18b, wkF, wkS, sim, rmap, rlook]
    · refine h18_wk p (X := X) (X' := X) (mem := upd (mA a p.cM i) (a + i) (p.cM i)) (mem' := mA a p.cM (i + 1)) (fun r hr => rfl) fun r hr => ?_
      rw [upd_eq, mA_eq, mA_eq]
      by_cases hri : r = a + i
      · subst hri; rw [if_pos rfl, if_pos (by omega), Nat.add_sub_cancel_left]
      · rw [if_neg hri]
        by_cases hrl : a ≤ r ∧ r < a + i
        · rw [if_pos hrl, if_pos (by omega)]
        · rw [if_neg hrl, if_neg (by omega)]
  · have e : (bif cm .lss (i : Int) (p.nM : Int) then cm .lss ((a + i : Nat) : Int) 196608 else false) = false := by
      rw [cm_lss', cm_lss']
      by_cases c1 : i < p.nM
      · have c2 : ¬ ((a + i : Nat) : Int) < 196608 := by have := fun h => hc ⟨c1, h⟩; omega
        simp only [decide_eq_false c2]; cases decide ((i : Int) < (p.nM : Int)) <;> rfl
      · have c2 : ¬ (i : Int) < p.nM := by omega
        simp only [decide_eq_false c2]; rfl
    rw [e, cond_false]
    refine ⟨rfl, [.ptr 1024 0 0, .ptr 1088 0 0, .any, .any, .ptr 1040 0 0], _, [], rfl, rfl, ?_, ?_, rfl, rfl⟩
    · simp [wkF, wkS, sim, rmap, rlook]
    · refine h18_wk p (X := X) (X' := X) (mem := mA a p.cM i) (mem' := mA a p.cM p.nM) (fun r hr => rfl) fun r hr => ?_
      rw [mA_eq, mA_eq]
      by_cases hrl : a ≤ r ∧ r < a + i
      · rw [if_pos hrl, if_pos (by omega)]
      · rw [if_neg hrl, if_neg (by omega)]

theorem e18_calls : CallsOk E18 Tryz.prog := fun f args H nm r h hn => ema_calls f args H nm r h hn
attribute [local irreducible] evalB Tr.view in
theorem loop18a : LoopOk E18 Tryz.prog Tryz.f27 0 (loopOf Tryz.f27 0) :=
  loop_okE mixed (fun S => rfl) (by decide) ok18a (fun x => 16 - x.i) vs18a hp18a out18a entry18a fun x hx => ⟨EMa, ema_calls, loops_noLoop ema_loop _ _, round18a x hx⟩
attribute [local irreducible] evalB Tr.view in
theorem loop18b : LoopOk E18 Tryz.prog Tryz.f27 1 (loopOf Tryz.f27 1) :=
  loop_okE mixed (fun S => rfl) (by decide) ok18b (fun x => x.p.nM - x.i) vs18b hp18b out18b entry18b fun x hx => ⟨EMa, ema_calls, loops_noLoop ema_loop _ _, round18b x hx⟩
theorem fn18M : Tryz.prog.funcs[27]? = some Tryz.f27 := by kernel_rfl
theorem b18M : Tryz.f27.body = some (bodyOf Tryz.f27) := by kernel_rfl
theorem n18M : (Tryz.f27.name == "runtime.NumGoroutine") = false := by kernel_rfl
theorem nl18M : Code.loops (bodyOf Tryz.f27) = 2 := by kernel_rfl
theorem nth18a : nthLoop (bodyOf Tryz.f27) 0 = some (loopOf Tryz.f27 0) := by kernel_rfl
theorem nth18b : nthLoop (bodyOf Tryz.f27) 1 = some (loopOf Tryz.f27 1) := by kernel_rfl
theorem loops18 : LoopsOk E18 Tryz.prog Tryz.f27 (bodyOf Tryz.f27) 0 := loops2 nl18M
  (fun a ha => by rw [nth18a] at ha; simp only [Option.some.injEq] at ha; subst ha; exact loop18a)
  (fun a ha => by rw [nth18b] at ha; simp only [Option.some.injEq] at ha; subst ha; exact loop18b)

end Go.Rv
end

section
set_option linter.unusedVariables false
open Go Go.Ev Go.Proofs
namespace Go.Rv

def strip (p : Pa) : Pa := { p with cX := fun _ => 0, cM := fun _ => 0, cI := fun _ => 0 }
def unP (l : List SV) (H : Heap) : Option (List Bool × Pa) :=
  match l, H with
  | [.sl k0 nL, .sl k1 nW, .sl k2 nX, .sl k3 nM, .int false .i64 at_, .sl k4 nI, .int false .i64 pc, .bool false raw],
    [(j0, .tab t0 [.ints .i64 c0, .ints .i64 c1, .ints .i64 c2, .ints .i64 c3, .ints .i64 c4] _), (j1, .tab t1 [.ints .u32 cw] _), (j2, .tab t2 [.ints .i64 cX] _), (j3, .tab t3 [.ints .u8 cM] _), (j4, .tab t4 [.ints .i64 cI] _)] =>
    match Nat.beq k0 0 && (Nat.beq k1 1 && (Nat.beq k2 2 && (Nat.beq k3 3 && (Nat.beq k4 4 && (Nat.beq j0 0 && (Nat.beq j1 1 && (Nat.beq j2 2 && (Nat.beq j3 3 && Nat.beq j4 4)))))))) with
    | true => some ([Nat.beq t0 nL, Nat.beq t1 nW, Nat.beq t2 nX, Nat.beq t3 nM, Nat.beq t4 nI], ⟨nL, nW, nX, nM, nI, c0, c1, c2, c3, c4, cw, cX, cM, cI, at_, pc, raw⟩)
    | false => none
  | _, _ => none
theorem unP_all {l : List SV} {H : Heap} {nn : List Bool} {p : Pa} (h : unP l H = some (nn, p)) (hn : allB nn = true) : l = vP p ∧ roH [] H = hP p := by
  unfold unP at h
  split at h
  · split at h
    · rename_i hb
      simp only [Option.some.injEq, Prod.mk.injEq] at h
      obtain ⟨rfl, rfl⟩ := h
      simp only [Bool.and_eq_true, Nat.beq_eq] at hb
      obtain ⟨rfl, rfl, rfl, rfl, rfl, rfl, rfl, rfl, rfl, rfl⟩ := hb
      simp only [allB, Bool.and_true, Bool.and_eq_true, Nat.beq_eq] at hn
      obtain ⟨rfl, rfl, rfl, rfl, rfl⟩ := hn
      exact ⟨rfl, rfl⟩
    · cases h
  · cases h

/-! Machine -/
def cutF (n : Nat) (g : Nat → Int) : Nat → Int := fun i => bif Nat.blt i n then g i else 0
def atP (p : Pa) : Int := conv .i64 (ar .rem .u64 (conv .u64 p.at_) 196608)
/-- the law's machine -/
def machM (p : Pa) : M := ⟨4096, false, false, false, false, 0, 0, xA p.cX p.nX, mA (atP p).toNat p.cM p.nM, p.nI, cutF p.nI p.cI, 0, fun _ => 0⟩
theorem atP_in (p : Pa) : 0 ≤ atP p ∧ atP p < 196608 := by
  unfold atP
  simp only [conv, ar, IntKind.wrap_i64, IntKind.wrap_u64]
  rw [Int.tmod_eq_emod_of_nonneg (by omega)]
  omega
def out18 (nn : List Bool) (m : M) : R := ⟨nn, .agg (cpuL m 1024 1025 1026 1027), [(1024, .tab 16 [.ints .i64 m.X] true), (1025, .tab 196608 [.ints .u8 m.mem] true), (1026, .tab m.nI [.ints .i64 m.inp] true), (1027, .tab m.nO [.ints .i64 m.out] true)]⟩
def g18M : List SV → Heap → Option R
  | [.agg l, .int _ .i64 r], H => match unP l H with
    | some (nn, p) => some (out18 (decide (r = 16) :: Nat.ble p.nI 100000000 :: nn) (machM p))
    | none => none
  | _, _ => none
theorem l18M (p : Pa) : (evalF E18 Tryz.prog 27 [.agg (vP p), .int true .i64 16] (hP p) 1024).retH [1072, 1073, 1532, 1075] =
    bx (eqA 16 (fun _ => 0) fun _ => 0) (bx (Nat.beq p.nX p.nX) (bx (Nat.beq p.nM p.nM) (bx (Nat.beq p.nI p.nI) (bx (eqA 196608 (fun _ => 0) fun _ => 0) (bx (decide (0 ≤ atP p)) (bx (decide (atP p < 196608))
      (bx (Nat.beq p.nX p.nX) (bx (Nat.beq p.nM p.nM) (bx (Nat.beq p.nI p.nI) (bx (eqA 196608 (fun _ => 0) fun _ => 0) (bx (Nat.beq p.nI p.nI) (bx (Nat.ble p.nI 100000000)
      (.ret (.agg [.int false .i64 4096, .sl 1072 16, .bool false false, .bool false false, .bool false false, .bool false false, .sl 1073 196608, .sl 1532 p.nI, .sl 1075 0, .int false .i64 0, .int false .i64 0])
        [(1072, .tab 16 [.ints .i64 (xA p.cX p.nX)] true), (1073, .tab 196608 [.ints .u8 (mA (atP p).toNat p.cM p.nM)] true), (1532, .tab p.nI [.ints .i64 p.cI] true), (1075, .tab 0 [.ints .i64 fun _ => 0] true)]))))))))))))) := by kernel_rfl
attribute [local irreducible] evalF Tr.retH Tr.leaf in
theorem spec18M : SpecOk Tryz.prog 27 (specOf g18M) := spec_okU false mixed fn18M b18M n18M g18M fun a0 H0 r hg hn => by
  unfold g18M at hg
  split at hg
  · rename_i l _ rg
    split at hg
    · rename_i nn p hm
      simp only [Option.some.injEq] at hg
      subst hg
      simp only [out18, allB, Bool.and_eq_true, decide_eq_true_eq] at hn
      obtain ⟨rfl, h2, hnn⟩ := hn
      obtain ⟨rfl, hr⟩ := unP_all hm hnn
      refine ⟨E18, [.agg (vP p), .int true .i64 16], [], e18_calls, loops18, fun h => h, fun σ => by simp only [denL, den], fun k hk => (by cases hk), ?_⟩
      rw [hr]
      refine gives_retH _ (l18M p) ?_
      have hA : ∀ n (g : Nat → Int), eqA n g g = true := fun n g => eqA_iff.2 fun _ _ => rfl
      rw [hA, hA, beq_t, beq_t, beq_t, bx_true rfl, bx_true rfl, bx_true rfl, bx_true rfl, bx_true rfl, bx_true (dec_true (atP_in p).1), bx_true (dec_true (atP_in p).2), bx_true rfl, bx_true rfl, bx_true rfl, bx_true rfl, bx_true rfl, bx_true h2]
      refine ⟨[(1024, .old 1072), (1025, .old 1073), (1026, .old 1532), (1027, .old 1075)], rfl, sim_den _ _ ?_, ?_, rfl⟩
      · simp [out18, machM, cpuL, sim, simL, rmap, rlook]
      · simp [out18, machM, wkH, cpuL, rmap, rlook, Ev.look, wkB, simL, sim, wkCs, wkC]
        intro r hr
        simp only [cutF, blt_t hr, cond_true]
    · cases hg
  · cases hg

end Go.Rv
end
