/-
  rvm: the page's Decode, its op told by number; the environments of both steps.
-/
import Derived.Test.YtngponflocmgiaaC11
import Derived.Test.YtngponflocmgiaaB12
set_option linter.unusedSimpArgs false
set_option linter.unusedVariables false
section
set_option linter.unusedVariables false
open Go Go.Ev Go.Proofs
namespace Go.Rv

def dRd (w : Int) : Int := decV w (rdB (decK w) (W w))
def dR1 (w : Int) : Int := decV w (r1B (decK w) (W w))
def dR2 (w : Int) : Int := decV w (r2B (decK w) (W w))
def dN (w : Int) : Int := decV w (numB (decK w) (W w))
def dOp (w : Int) : Int := decV w ((decI w : Int) + 1)
/-- a word; it is this instruction; it is none: not to be reckoned -/
noncomputable def inU (w : Int) : Bool := @decide (0 ≤ w ∧ w < 4294967296) (Classical.propDecidable _)
theorem inU_iff {w : Int} : inU w = true ↔ 0 ≤ w ∧ w < 4294967296 := @decide_eq_true_iff _ (Classical.propDecidable _)
noncomputable def isIns (w K rd r1 r2 n : Int) : Bool := @decide (decOk w = true ∧ dOp w = K ∧ dRd w = rd ∧ dR1 w = r1 ∧ dR2 w = r2 ∧ dN w = n) (Classical.propDecidable _)
theorem isIns_iff {w K rd r1 r2 n : Int} : isIns w K rd r1 r2 n = true ↔ decOk w = true ∧ dOp w = K ∧ dRd w = rd ∧ dR1 w = r1 ∧ dR2 w = r2 ∧ dN w = n := @decide_eq_true_iff _ (Classical.propDecidable _)
noncomputable def noIns (w : Int) : Bool := @decide (decOk w = false) (Classical.propDecidable _)
theorem noIns_iff {w : Int} : noIns w = true ↔ decOk w = false := @decide_eq_true_iff _ (Classical.propDecidable _)
/-- the page's Decode of a word that is this instruction -/
noncomputable def g38K (K rd r1 r2 n : Int) : List SV → Heap → Option R
  | [.int _ .u32 w], [] => some ⟨[inU w, isIns w K rd r1 r2 n], .tup [.agg [.int true .i64 K, .int false .i64 rd, .int false .i64 r1, .int false .i64 r2, .int false .i64 n], .bool true true], []⟩
  | _, _ => none
/-- of a word that is none -/
noncomputable def g38N : List SV → Heap → Option R
  | [.int _ .u32 w], [] => some ⟨[inU w, noIns w], .tup [.agg [.int true .i64 0, .int true .i64 0, .int true .i64 0, .int true .i64 0, .int true .i64 0], .bool true false], []⟩
  | _, _ => none

attribute [local irreducible] evalF in
theorem spec38K (K rd r1 r2 n : Int) : SpecOk Try.prog 38 (specC true (g38K K rd r1 r2 n)) := spec_okA true e11_calls mixed fn11 b11 n11 loops11 (g38K K rd r1 r2 n) fun a0 H0 r hg hn => by
  unfold g38K at hg
  split at hg
  · rename_i _ w
    simp only [Option.some.injEq] at hg
    subst hg
    simp only [allB, Bool.and_true, Bool.and_eq_true, inU_iff, isIns_iff] at hn
    obtain ⟨⟨h0, h1⟩, hok, hK, rfl, rfl, rfl, rfl⟩ := hn
    refine ⟨[.int false .u32 w], fun _ => rfl, fun σ => by simp only [denL, den], ?_⟩
    have e1 : decide (0 ≤ w) = true := decide_eq_true h0
    have e2 : decide (w < 4294967296) = true := decide_eq_true h1
    have hl := l11 w
    simp only [e1, e2, cond_true] at hl
    show GivesD _ (evalF E11 Try.prog 38 [.int false .u32 w] [] 1024).leaf
    rw [hl]
    have hb : Nat.blt (fstN (hit w) 63 0) 63 = true := hok
    rw [hb, cond_true]
    have hK : ((decI w : Int) + 1) = K := by simpa [dOp, decV, hok] using hK
    refine ⟨[], rfl, fun σ => ?_, trivial, rfl⟩
    simp only [den, denL, dRd, dR1, dR2, dN, decV, hok, cond_true, decK, ← hK]
    rfl
  · cases hg

attribute [local irreducible] evalF in
theorem spec38N : SpecOk Try.prog 38 (specC true g38N) := spec_okA true e11_calls mixed fn11 b11 n11 loops11 g38N fun a0 H0 r hg hn => by
  unfold g38N at hg
  split at hg
  · rename_i _ w
    simp only [Option.some.injEq] at hg
    subst hg
    simp only [allB, Bool.and_true, Bool.and_eq_true, inU_iff, noIns_iff] at hn
    obtain ⟨⟨h0, h1⟩, hok⟩ := hn
    refine ⟨[.int false .u32 w], fun _ => rfl, fun σ => by simp only [denL, den], ?_⟩
    have e1 : decide (0 ≤ w) = true := decide_eq_true h0
    have e2 : decide (w < 4294967296) = true := decide_eq_true h1
    have hl := l11 w
    simp only [e1, e2, cond_true] at hl
    show GivesD _ (evalF E11 Try.prog 38 [.int false .u32 w] [] 1024).leaf
    rw [hl]
    have hb : Nat.blt (fstN (hit w) 63 0) 63 = false := hok
    rw [hb, cond_false]
    exact ⟨[], rfl, fun σ => by simp only [den, denL], trivial, rfl⟩
  · cases hg

/-- the environment of the page's step, at an op -/
noncomputable def EP (K rd r1 r2 n : Int) : Env := inlF Try.prog (envOf [(41, specOf g41), (43, specOf g43), (46, specC true (g46 K)), (38, specC true (g38K K rd r1 r2 n))] noLoop) [39, 40, 42, 45, 61, 62, 63, 71] [] [44] 4
theorem namedP : named Try.prog [39, 40, 42, 45, 61, 62, 63, 71] = true := by kernel_rfl
theorem namedF : named Try.prog [44] = true := by kernel_rfl
theorem ep_calls (K rd r1 r2 n : Int) : CallsOk (EP K rd r1 r2 n) Try.prog := (inlF_calls ((SpecsOk.cons spec41 (SpecsOk.cons spec43 (SpecsOk.cons (spec46 K) (SpecsOk.cons (spec38K K rd r1 r2 n) SpecsOk.nil)))).calls noLoop) mixed namedP rfl namedF 4).1
theorem ep_loop (K rd r1 r2 n : Int) : (EP K rd r1 r2 n).loop = noLoop := rfl
/-- the program's: what an instruction does -/
noncomputable def ED : Env := inlF Try.prog (envOf [(75, specOf g75), (68, specOf g68)] noLoop) [66, 70, 78, 79, 80, 81, 87, 88, 89, 90, 94, 95, 96] [] [65, 67, 69, 77] 8
theorem namedD : named Try.prog [66, 70, 78, 79, 80, 81, 87, 88, 89, 90, 94, 95, 96] = true := by kernel_rfl
theorem namedDF : named Try.prog [65, 67, 69, 77] = true := by kernel_rfl
theorem ed_calls : CallsOk ED Try.prog := (inlF_calls ((SpecsOk.cons spec75 (SpecsOk.cons spec68 SpecsOk.nil)).calls noLoop) mixed namedD rfl namedDF 8).1
theorem ed_loop : ED.loop = noLoop := rfl

/-! leaves, laid together -/
def bx (b : Bool) (x : Lf) : Lf := bif b then x else .bad
/-- a register's place -/
def ix (r : Int) (x : Lf) : Lf := bx (decide (0 ≤ r)) (bx (decide (r < 32)) (bx (Nat.blt r.toNat 32) (bx (Nat.blt r.toNat 32) x)))
/-- a machine; is the number of its end told? -/
def hK (l : Bool) (m : M) : Heap := [(0, .cells [.int false .i64 m.pc, .sl 1 32, .bool false m.zf, .bool false m.sf, .bool false m.cf, .bool false m.of_, .sl 2 196608, .sl 3 m.nI, .sl 4 m.nO, .int l .i64 m.kind, .int false .i64 m.code]), (1, .tab 32 [.ints .i64 m.X] true), (2, .tab 196608 [.ints .u8 m.mem] true), (3, .tab m.nI [.ints .i64 m.inp] false), (4, .tab m.nO [.ints .i64 m.out] true)]
def retK (l : Bool) (m : M) : Lf := .ret (.tup []) (hK l m)
/-- a register is written -/
def setLf (l : Bool) (rd v : Int) (m : M) : Lf := bif cm .neq rd 0 then ix rd (retK l { m with X := upd m.X rd.toNat v }) else retK l m
def atS (s : ByteArray) (i : Int) (x : Lf) : Lf := bx (decide (0 ≤ i)) (bx (Nat.blt i.toNat s.size) x)
/-- the word at a place -/
def wordS (s : ByteArray) (a : Int) : Int := ar .or .u32 (ar .or .u32 (ar .or .u32 (conv .u32 (chr s a.toNat)) (ar .shl .u32 (conv .u32 (chr s (ar .add .i64 a 1).toNat)) 8)) (ar .shl .u32 (conv .u32 (chr s (ar .add .i64 a 2).toNat)) 16)) (ar .shl .u32 (conv .u32 (chr s (ar .add .i64 a 3).toNat)) 24)
def outP (s : ByteArray) (pc : Int) : Bool := bif cm .lss pc 4096 then true else bif cm .geq pc 262144 then true else bif cm .gtr (ar .add .i64 (ar .sub .i64 pc 4096) 4) (s.size : Int) then true else cm .neq (ar .rem .i64 pc 4) 0
noncomputable def fetchLf (s : ByteArray) (m : M) (K rd r1 r2 n : Int) (x : Lf) : Lf :=
  bif cm .neq m.kind 0 then retK false m else
  bx (bif cm .lss m.pc 4096 then true else allB [bif cm .geq m.pc 262144 then true else allB [bif cm .gtr (ar .add .i64 (ar .sub .i64 m.pc 4096) 4) (s.size : Int) then true else true]]) (bif outP s m.pc then retK true { m with kind := 5 } else
    atS s (ar .sub .i64 m.pc 4096) (atS s (ar .add .i64 (ar .sub .i64 m.pc 4096) 1) (atS s (ar .add .i64 (ar .sub .i64 m.pc 4096) 2) (atS s (ar .add .i64 (ar .sub .i64 m.pc 4096) 3)
      (bx (inU (wordS s (ar .sub .i64 m.pc 4096))) (bx (isIns (wordS s (ar .sub .i64 m.pc 4096)) K rd r1 r2 n) x))))))

end Go.Rv
end

section
set_option linter.unusedVariables false
open Go Go.Ev Go.Proofs
namespace Go.Rv

def hiD (a b : Int) : Int := ar .add .u64 (ar .add .u64 (ar .mul .u64 (ar .shr .u64 (conv .u64 a) 32) (ar .shr .u64 (conv .u64 b) 32)) (ar .shr .u64 (ar .add .u64 (ar .mul .u64 (ar .shr .u64 (conv .u64 a) 32) (ar .and .u64 (conv .u64 b) 4294967295)) (ar .shr .u64 (ar .mul .u64 (ar .and .u64 (conv .u64 a) 4294967295) (ar .and .u64 (conv .u64 b) 4294967295)) 32)) 32)) (ar .shr .u64 (ar .add .u64 (ar .and .u64 (ar .add .u64 (ar .mul .u64 (ar .shr .u64 (conv .u64 a) 32) (ar .and .u64 (conv .u64 b) 4294967295)) (ar .shr .u64 (ar .mul .u64 (ar .and .u64 (conv .u64 a) 4294967295) (ar .and .u64 (conv .u64 b) 4294967295)) 32)) 4294967295) (ar .mul .u64 (ar .and .u64 (conv .u64 a) 4294967295) (ar .shr .u64 (conv .u64 b) 32))) 32)
def hiR (a b : Int) : Int := ar .add .u64 (ar .add .u64 (ar .mul .u64 (ar .shr .u64 (conv .u64 a) 32) (ar .shr .u64 (conv .u64 b) 32)) (ar .shr .u64 (ar .add .u64 (ar .mul .u64 (ar .shr .u64 (conv .u64 a) 32) (ar .and .u64 (conv .u64 b) 4294967295)) (ar .shr .u64 (ar .mul .u64 (ar .and .u64 (conv .u64 a) 4294967295) (ar .and .u64 (conv .u64 b) 4294967295)) 32)) 32)) (ar .shr .u64 (ar .add .u64 (ar .mul .u64 (ar .and .u64 (conv .u64 a) 4294967295) (ar .shr .u64 (conv .u64 b) 32)) (ar .and .u64 (ar .add .u64 (ar .mul .u64 (ar .shr .u64 (conv .u64 a) 32) (ar .and .u64 (conv .u64 b) 4294967295)) (ar .shr .u64 (ar .mul .u64 (ar .and .u64 (conv .u64 a) 4294967295) (ar .and .u64 (conv .u64 b) 4294967295)) 32)) 4294967295)) 32)
def gD (a b : Int) : Bool := bif cm .eql b 0 then true else allB (mergeB (bif cm .eql a (-9223372036854775808) then cm .eql b (-1) else false) [] [b != 0, b != 0])
def gU (b : Int) : Bool := bif cm .eql (conv .u64 b) 0 then true else allB [conv .u64 b != 0, conv .u64 b != 0]
/-- the number that an instruction writes -/
def exV (K : Nat) (a b n pc : Int) : Int :=
  match K with
  | 1 => conv .i64 (conv .i32 (ar .shl .i64 n 12))
  | 2 => ar .add .i64 pc (conv .i64 (conv .i32 (ar .shl .i64 n 12)))
  | 3 => ar .add .i64 pc 4
  | 4 => ar .add .i64 pc 4
  | 22 => ar .add .i64 a n
  | 23 => bif cm .lss a n then 1 else 0
  | 24 => bif cm .lss (conv .u64 a) (conv .u64 n) then 1 else 0
  | 25 => ar .xor .i64 a n
  | 26 => ar .or .i64 a n
  | 27 => ar .and .i64 a n
  | 28 => ar .shl .i64 a (ar .and .u64 (conv .u64 n) 63)
  | 29 => conv .i64 (ar .shr .u64 (conv .u64 a) (ar .and .u64 (conv .u64 n) 63))
  | 30 => ar .shr .i64 a (ar .and .u64 (conv .u64 n) 63)
  | 31 => conv .i64 (conv .i32 (ar .add .i64 a n))
  | 32 => conv .i64 (ar .shl .i32 (conv .i32 a) (ar .and .u64 (conv .u64 n) 31))
  | 33 => conv .i64 (conv .i32 (ar .shr .u32 (conv .u32 a) (ar .and .u64 (conv .u64 n) 31)))
  | 34 => conv .i64 (ar .shr .i32 (conv .i32 a) (ar .and .u64 (conv .u64 n) 31))
  | 35 => ar .add .i64 a b
  | 36 => ar .sub .i64 a b
  | 37 => ar .shl .i64 a (ar .and .u64 (conv .u64 b) 63)
  | 38 => bif cm .lss a b then 1 else 0
  | 39 => bif cm .lss (conv .u64 a) (conv .u64 b) then 1 else 0
  | 40 => ar .xor .i64 a b
  | 41 => conv .i64 (ar .shr .u64 (conv .u64 a) (ar .and .u64 (conv .u64 b) 63))
  | 42 => ar .shr .i64 a (ar .and .u64 (conv .u64 b) 63)
  | 43 => ar .or .i64 a b
  | 44 => ar .and .i64 a b
  | 45 => ar .mul .i64 a b
  | 46 => bif cm .lss a 0 then bif cm .lss b 0 then conv .i64 (ar .sub .u64 (ar .sub .u64 (hiR a b) (conv .u64 b)) (conv .u64 a)) else conv .i64 (ar .sub .u64 (hiR a b) (conv .u64 b)) else bif cm .lss b 0 then conv .i64 (ar .sub .u64 (hiR a b) (conv .u64 a)) else conv .i64 (hiR a b)
  | 47 => bif cm .lss a 0 then conv .i64 (ar .sub .u64 (hiR a b) (conv .u64 b)) else conv .i64 (hiR a b)
  | 48 => conv .i64 (hiR a b)
  | 49 => bif cm .eql b 0 then -1 else bif bif cm .eql b (-1) then cm .eql a (-9223372036854775808) else false then a else ar .quo .i64 a b
  | 50 => bif cm .eql b 0 then -1 else conv .i64 (ar .quo .u64 (conv .u64 a) (conv .u64 b))
  | 51 => bif cm .eql b 0 then a else bif cm .eql b (-1) then 0 else ar .rem .i64 a b
  | 52 => bif cm .eql b 0 then a else conv .i64 (ar .rem .u64 (conv .u64 a) (conv .u64 b))
  | 53 => conv .i64 (conv .i32 (ar .add .i64 a b))
  | 54 => conv .i64 (conv .i32 (ar .sub .i64 a b))
  | 55 => conv .i64 (ar .shl .i32 (conv .i32 a) (ar .and .u64 (conv .u64 b) 31))
  | 56 => conv .i64 (conv .i32 (ar .shr .u32 (conv .u32 a) (ar .and .u64 (conv .u64 b) 31)))
  | 57 => conv .i64 (ar .shr .i32 (conv .i32 a) (ar .and .u64 (conv .u64 b) 31))
  | 58 => conv .i64 (conv .i32 (ar .mul .i64 a b))
  | 59 => conv .i64 (conv .i32 (bif cm .eql (conv .i64 (conv .i32 b)) 0 then -1 else bif bif cm .eql (conv .i64 (conv .i32 b)) (-1) then cm .eql (conv .i64 (conv .i32 a)) (-9223372036854775808) else false then conv .i64 (conv .i32 a) else ar .quo .i64 (conv .i64 (conv .i32 a)) (conv .i64 (conv .i32 b))))
  | 60 => conv .i64 (conv .i32 (bif cm .eql (conv .i64 (conv .u32 b)) 0 then -1 else conv .i64 (ar .quo .u64 (conv .u64 (conv .i64 (conv .u32 a))) (conv .u64 (conv .i64 (conv .u32 b))))))
  | 61 => conv .i64 (conv .i32 (bif cm .eql (conv .i64 (conv .i32 b)) 0 then conv .i64 (conv .i32 a) else bif cm .eql (conv .i64 (conv .i32 b)) (-1) then 0 else ar .rem .i64 (conv .i64 (conv .i32 a)) (conv .i64 (conv .i32 b))))
  | 62 => conv .i64 (conv .i32 (bif cm .eql (conv .i64 (conv .u32 b)) 0 then conv .i64 (conv .u32 a) else conv .i64 (ar .rem .u64 (conv .u64 (conv .i64 (conv .u32 a))) (conv .u64 (conv .i64 (conv .u32 b))))))
  | _ => 0
def tkn (K : Nat) (a b : Int) : Bool :=
  match K with
  | 5 => cm .eql a b
  | 6 => cm .neq a b
  | 7 => cm .lss a b
  | 8 => cm .geq a b
  | 9 => cm .lss (conv .u64 a) (conv .u64 b)
  | 10 => cm .geq (conv .u64 a) (conv .u64 b)
  | _ => false
def szX (K : Nat) : Nat :=
  match K with
  | 11 => 1
  | 12 => 2
  | 13 => 4
  | 14 => 8
  | 15 => 1
  | 16 => 2
  | 17 => 4
  | 18 => 1
  | 19 => 2
  | 20 => 4
  | 21 => 8
  | _ => 0
/-- of a number that is loaded: the page's, the program's -/
def ldR (K : Nat) (x : Int) : Int :=
  match K with
  | 11 => conv .i64 (conv .i8 x)
  | 12 => conv .i64 (conv .i16 x)
  | 13 => conv .i64 (conv .i32 x)
  | 14 => conv .i64 x
  | 15 => conv .i64 x
  | 16 => conv .i64 x
  | 17 => conv .i64 x
  | _ => 0
def ldD (K : Nat) (x : Int) : Int :=
  match K with
  | 11 => ar .shr .i64 (conv .i64 (ar .shl .u64 x 56)) 56
  | 12 => ar .shr .i64 (conv .i64 (ar .shl .u64 x 48)) 48
  | 13 => ar .shr .i64 (conv .i64 (ar .shl .u64 x 32)) 32
  | 14 => ar .shr .i64 (conv .i64 (ar .shl .u64 x 0)) 0
  | 15 => conv .i64 x
  | 16 => conv .i64 x
  | 17 => conv .i64 x
  | _ => 0
/-- a register is written -/
def setM (rd v : Int) (m : M) : M := bif cm .neq rd 0 then { m with X := upd m.X rd.toNat v } else m
/-- an access: where; how it ends; its number -/
def aX (m : M) (a n : Int) : Int := conv .u64 (ar .add .i64 a n)
def xX (m : M) (A : Int) (s : Nat) : Int := bif decide (accX A s = 0) then loadX m.mem A s else 0
def nx (m : M) : M := { m with pc := ar .add .i64 m.pc 4 }
def loadM (K : Nat) (ld : Nat → Int → Int) (rd a n : Int) (m : M) : M :=
  bif !decide (accX (aX m a n) (szX K) = 0) then { m with kind := kindA m.kind (aX m a n) (szX K) }
  else setM rd (ld K (xX m (aX m a n) (szX K))) { m with pc := ar .add .i64 m.pc 4, kind := kindA m.kind (aX m a n) (szX K) }
def storeM (K : Nat) (a b n : Int) (m : M) : M :=
  bif !decide (accX (aX m a n) (szX K) = 0) then { m with mem := storeA m.mem (aX m a n) (conv .u64 b) (szX K), kind := kindA m.kind (aX m a n) (szX K) }
  else { m with pc := ar .add .i64 m.pc 4, mem := storeA m.mem (aX m a n) (conv .u64 b) (szX K), kind := kindA m.kind (aX m a n) (szX K) }
def callM (m : M) : M :=
  bif cm .eql (m.X 17) 1 then { m with pc := ar .add .i64 m.pc 4, nO := m.nO + 1, out := cat m.nO m.out (nth [m.X 10] 0) }
  else bif cm .eql (m.X 17) 2 then (bif cm .eql (m.nI : Int) 0 then { m with pc := ar .add .i64 m.pc 4, X := upd m.X 10 0 } else { m with pc := ar .add .i64 m.pc 4, X := upd m.X 10 (m.inp 0), nI := m.nI - 1, inp := from_ 1 m.inp })
  else bif cm .eql (m.X 17) 3 then { m with kind := 1, code := m.X 10 } else { m with kind := 5 }
def exP (K : Nat) (a n pc : Int) : Int :=
  match K with
  | 3 => ar .add .i64 pc n
  | 4 => ar .andNot .i64 (ar .add .i64 a n) 1
  | _ => ar .add .i64 pc 4
/-- an instruction is done, of a machine that has not ended -/
def exec (K : Nat) (rd r1 r2 n : Int) (m : M) : M :=
  bif Nat.ble K 4 then setM rd (exV K (m.X r1.toNat) (m.X r2.toNat) n m.pc) { m with pc := exP K (m.X r1.toNat) n m.pc }
  else bif Nat.ble K 10 then { m with pc := ar .add .i64 m.pc (bif tkn K (m.X r1.toNat) (m.X r2.toNat) then n else 4) }
  else bif Nat.ble K 17 then loadM K ldR rd (m.X r1.toNat) n m
  else bif Nat.ble K 21 then storeM K (m.X r1.toNat) (m.X r2.toNat) n m
  else bif Nat.ble K 62 then setM rd (exV K (m.X r1.toNat) (m.X r2.toNat) n m.pc) { m with pc := ar .add .i64 m.pc 4 }
  else callM m

/-! leaves of the environment's calls; N: the name of the block that is new -/
def outLf (N : Nat) (v : Int) (m : M) : Lf := .ret (.tup []) [(0, .cells [.int false .i64 m.pc, .sl 1 32, .bool false m.zf, .bool false m.sf, .bool false m.cf, .bool false m.of_, .sl 2 196608, .sl 3 m.nI, .sl N (m.nO + 1), .int false .i64 m.kind, .int false .i64 m.code]), (1, .tab 32 [.ints .i64 m.X] true), (2, .tab 196608 [.ints .u8 m.mem] true), (3, .tab m.nI [.ints .i64 m.inp] false), (4, .dead), (N, .tab (m.nO + 1) [.ints .i64 (cat m.nO m.out (nth [v] 0))] true)]
def inLf (N : Nat) (m : M) : Lf := .ret (.tup []) [(0, .cells [.int false .i64 m.pc, .sl 1 32, .bool false m.zf, .bool false m.sf, .bool false m.cf, .bool false m.of_, .sl 2 196608, .sl N (m.nI - 1), .sl 4 m.nO, .int false .i64 m.kind, .int false .i64 m.code]), (1, .tab 32 [.ints .i64 m.X] true), (2, .tab 196608 [.ints .u8 m.mem] true), (3, .tab m.nI [.ints .i64 m.inp] false), (4, .tab m.nO [.ints .i64 m.out] true), (N, .tab (m.nI - 1) [.ints .i64 (from_ 1 m.inp)] false)]
def setO (N : Nat) (rd v : Int) (m : M) : Lf := bif cm .neq rd 0 then ix rd (outLf N v { m with X := upd m.X rd.toNat 0 }) else outLf N v m
def setI (N : Nat) (rd : Int) (m : M) : Lf := bif cm .neq rd 0 then ix rd (inLf N { m with X := upd m.X rd.toNat 0 }) else inLf N m
def inG (m : M) (x : Lf) : Lf := bx (decide (0 < (m.nI : Int))) (bx (Nat.blt 0 m.nI) (bx (Nat.blt 0 m.nI) (bx (Nat.ble 1 m.nI) (bx (Nat.ble m.nI m.nI) x))))
def outG (m : M) (x : Lf) : Lf := bx (Nat.ble m.nO m.nO) (bx (Nat.ble ((m.nO + 1) * 8) 1099511627776) x)
/-- the arguments of does -/
def argD (K rd r1 r2 n : Int) : List SV := [.ptr 0 0 0, .agg [.int true .i64 K, .int false .i64 rd, .int false .i64 r1, .int false .i64 r2, .int false .i64 n]]

end Go.Rv
end

section
set_option linter.unusedVariables false
open Go Go.Ev Go.Proofs
namespace Go.Rv

theorem r_1 (s : ByteArray) (m : M) (rd r1 r2 n : Int) : (evalF (EP 1 rd r1 r2 n) Try.prog 20 [.str s, .ptr 0 0 0] (hM m true true true) 1024).retH [0, 1, 2, 3, 4] =
  fetchLf s m 1 rd r1 r2 n (ix r1 (ix r2 (setLf false rd (conv .i64 (conv .i32 (ar .shl .i64 n 12))) { m with pc := ar .add .i64 m.pc 4 }))) := by kernel_rfl
theorem r_2 (s : ByteArray) (m : M) (rd r1 r2 n : Int) : (evalF (EP 2 rd r1 r2 n) Try.prog 20 [.str s, .ptr 0 0 0] (hM m true true true) 1024).retH [0, 1, 2, 3, 4] =
  fetchLf s m 2 rd r1 r2 n (ix r1 (ix r2 (setLf false rd (ar .add .i64 m.pc (conv .i64 (conv .i32 (ar .shl .i64 n 12)))) { m with pc := ar .add .i64 m.pc 4 }))) := by kernel_rfl
theorem r_3 (s : ByteArray) (m : M) (rd r1 r2 n : Int) : (evalF (EP 3 rd r1 r2 n) Try.prog 20 [.str s, .ptr 0 0 0] (hM m true true true) 1024).retH [0, 1, 2, 3, 4] =
  fetchLf s m 3 rd r1 r2 n (ix r1 (ix r2 (setLf false rd (ar .add .i64 m.pc 4) { m with pc := ar .add .i64 m.pc n }))) := by kernel_rfl
theorem r_4 (s : ByteArray) (m : M) (rd r1 r2 n : Int) : (evalF (EP 4 rd r1 r2 n) Try.prog 20 [.str s, .ptr 0 0 0] (hM m true true true) 1024).retH [0, 1, 2, 3, 4] =
  fetchLf s m 4 rd r1 r2 n (ix r1 (ix r2 (setLf false rd (ar .add .i64 m.pc 4) { m with pc := ar .andNot .i64 (ar .add .i64 (m.X r1.toNat) n) 1 }))) := by kernel_rfl
theorem r_5 (s : ByteArray) (m : M) (rd r1 r2 n : Int) : (evalF (EP 5 rd r1 r2 n) Try.prog 20 [.str s, .ptr 0 0 0] (hM m true true true) 1024).retH [0, 1, 2, 3, 4] =
  fetchLf s m 5 rd r1 r2 n (ix r1 (ix r2 (bif cm .eql (m.X r1.toNat) (m.X r2.toNat) then setLf false rd 0 { m with pc := ar .add .i64 m.pc n } else setLf false rd 0 { m with pc := ar .add .i64 m.pc 4 }))) := by kernel_rfl
theorem r_6 (s : ByteArray) (m : M) (rd r1 r2 n : Int) : (evalF (EP 6 rd r1 r2 n) Try.prog 20 [.str s, .ptr 0 0 0] (hM m true true true) 1024).retH [0, 1, 2, 3, 4] =
  fetchLf s m 6 rd r1 r2 n (ix r1 (ix r2 (bif cm .neq (m.X r1.toNat) (m.X r2.toNat) then setLf false rd 0 { m with pc := ar .add .i64 m.pc n } else setLf false rd 0 { m with pc := ar .add .i64 m.pc 4 }))) := by kernel_rfl
theorem r_7 (s : ByteArray) (m : M) (rd r1 r2 n : Int) : (evalF (EP 7 rd r1 r2 n) Try.prog 20 [.str s, .ptr 0 0 0] (hM m true true true) 1024).retH [0, 1, 2, 3, 4] =
  fetchLf s m 7 rd r1 r2 n (ix r1 (ix r2 (bif cm .lss (m.X r1.toNat) (m.X r2.toNat) then setLf false rd 0 { m with pc := ar .add .i64 m.pc n } else setLf false rd 0 { m with pc := ar .add .i64 m.pc 4 }))) := by kernel_rfl
theorem r_8 (s : ByteArray) (m : M) (rd r1 r2 n : Int) : (evalF (EP 8 rd r1 r2 n) Try.prog 20 [.str s, .ptr 0 0 0] (hM m true true true) 1024).retH [0, 1, 2, 3, 4] =
  fetchLf s m 8 rd r1 r2 n (ix r1 (ix r2 (bif cm .geq (m.X r1.toNat) (m.X r2.toNat) then setLf false rd 0 { m with pc := ar .add .i64 m.pc n } else setLf false rd 0 { m with pc := ar .add .i64 m.pc 4 }))) := by kernel_rfl
theorem r_9 (s : ByteArray) (m : M) (rd r1 r2 n : Int) : (evalF (EP 9 rd r1 r2 n) Try.prog 20 [.str s, .ptr 0 0 0] (hM m true true true) 1024).retH [0, 1, 2, 3, 4] =
  fetchLf s m 9 rd r1 r2 n (ix r1 (ix r2 (bif cm .lss (conv .u64 (m.X r1.toNat)) (conv .u64 (m.X r2.toNat)) then setLf false rd 0 { m with pc := ar .add .i64 m.pc n } else setLf false rd 0 { m with pc := ar .add .i64 m.pc 4 }))) := by kernel_rfl
theorem r_10 (s : ByteArray) (m : M) (rd r1 r2 n : Int) : (evalF (EP 10 rd r1 r2 n) Try.prog 20 [.str s, .ptr 0 0 0] (hM m true true true) 1024).retH [0, 1, 2, 3, 4] =
  fetchLf s m 10 rd r1 r2 n (ix r1 (ix r2 (bif cm .geq (conv .u64 (m.X r1.toNat)) (conv .u64 (m.X r2.toNat)) then setLf false rd 0 { m with pc := ar .add .i64 m.pc n } else setLf false rd 0 { m with pc := ar .add .i64 m.pc 4 }))) := by kernel_rfl
theorem r_11 (s : ByteArray) (m : M) (rd r1 r2 n : Int) : (evalF (EP 11 rd r1 r2 n) Try.prog 20 [.str s, .ptr 0 0 0] (hM m true true true) 1024).retH [0, 1, 2, 3, 4] =
  fetchLf s m 11 rd r1 r2 n (ix r1 (ix r2 (bx (Nat.beq (m.nI) (m.nI)) (bx (Nat.beq (m.nO) (m.nO)) (bx (byteB m.mem) (bif !decide (accX (conv .u64 (ar .add .i64 (m.X r1.toNat) n)) 1 = 0) then retK false { m with kind := kindA m.kind (conv .u64 (ar .add .i64 (m.X r1.toNat) n)) 1 } else setLf false rd (conv .i64 (conv .i8 (bif decide (accX (conv .u64 (ar .add .i64 (m.X r1.toNat) n)) 1 = 0) then loadX m.mem (conv .u64 (ar .add .i64 (m.X r1.toNat) n)) 1 else 0))) { m with pc := ar .add .i64 m.pc 4, kind := kindA m.kind (conv .u64 (ar .add .i64 (m.X r1.toNat) n)) 1 })))))) := by kernel_rfl
theorem r_12 (s : ByteArray) (m : M) (rd r1 r2 n : Int) : (evalF (EP 12 rd r1 r2 n) Try.prog 20 [.str s, .ptr 0 0 0] (hM m true true true) 1024).retH [0, 1, 2, 3, 4] =
  fetchLf s m 12 rd r1 r2 n (ix r1 (ix r2 (bx (Nat.beq (m.nI) (m.nI)) (bx (Nat.beq (m.nO) (m.nO)) (bx (byteB m.mem) (bif !decide (accX (conv .u64 (ar .add .i64 (m.X r1.toNat) n)) 2 = 0) then retK false { m with kind := kindA m.kind (conv .u64 (ar .add .i64 (m.X r1.toNat) n)) 2 } else setLf false rd (conv .i64 (conv .i16 (bif decide (accX (conv .u64 (ar .add .i64 (m.X r1.toNat) n)) 2 = 0) then loadX m.mem (conv .u64 (ar .add .i64 (m.X r1.toNat) n)) 2 else 0))) { m with pc := ar .add .i64 m.pc 4, kind := kindA m.kind (conv .u64 (ar .add .i64 (m.X r1.toNat) n)) 2 })))))) := by kernel_rfl
theorem r_13 (s : ByteArray) (m : M) (rd r1 r2 n : Int) : (evalF (EP 13 rd r1 r2 n) Try.prog 20 [.str s, .ptr 0 0 0] (hM m true true true) 1024).retH [0, 1, 2, 3, 4] =
  fetchLf s m 13 rd r1 r2 n (ix r1 (ix r2 (bx (Nat.beq (m.nI) (m.nI)) (bx (Nat.beq (m.nO) (m.nO)) (bx (byteB m.mem) (bif !decide (accX (conv .u64 (ar .add .i64 (m.X r1.toNat) n)) 4 = 0) then retK false { m with kind := kindA m.kind (conv .u64 (ar .add .i64 (m.X r1.toNat) n)) 4 } else setLf false rd (conv .i64 (conv .i32 (bif decide (accX (conv .u64 (ar .add .i64 (m.X r1.toNat) n)) 4 = 0) then loadX m.mem (conv .u64 (ar .add .i64 (m.X r1.toNat) n)) 4 else 0))) { m with pc := ar .add .i64 m.pc 4, kind := kindA m.kind (conv .u64 (ar .add .i64 (m.X r1.toNat) n)) 4 })))))) := by kernel_rfl
theorem r_14 (s : ByteArray) (m : M) (rd r1 r2 n : Int) : (evalF (EP 14 rd r1 r2 n) Try.prog 20 [.str s, .ptr 0 0 0] (hM m true true true) 1024).retH [0, 1, 2, 3, 4] =
  fetchLf s m 14 rd r1 r2 n (ix r1 (ix r2 (bx (Nat.beq (m.nI) (m.nI)) (bx (Nat.beq (m.nO) (m.nO)) (bx (byteB m.mem) (bif !decide (accX (conv .u64 (ar .add .i64 (m.X r1.toNat) n)) 8 = 0) then retK false { m with kind := kindA m.kind (conv .u64 (ar .add .i64 (m.X r1.toNat) n)) 8 } else setLf false rd (conv .i64 (bif decide (accX (conv .u64 (ar .add .i64 (m.X r1.toNat) n)) 8 = 0) then loadX m.mem (conv .u64 (ar .add .i64 (m.X r1.toNat) n)) 8 else 0)) { m with pc := ar .add .i64 m.pc 4, kind := kindA m.kind (conv .u64 (ar .add .i64 (m.X r1.toNat) n)) 8 })))))) := by kernel_rfl
theorem r_15 (s : ByteArray) (m : M) (rd r1 r2 n : Int) : (evalF (EP 15 rd r1 r2 n) Try.prog 20 [.str s, .ptr 0 0 0] (hM m true true true) 1024).retH [0, 1, 2, 3, 4] =
  fetchLf s m 15 rd r1 r2 n (ix r1 (ix r2 (bx (Nat.beq (m.nI) (m.nI)) (bx (Nat.beq (m.nO) (m.nO)) (bx (byteB m.mem) (bif !decide (accX (conv .u64 (ar .add .i64 (m.X r1.toNat) n)) 1 = 0) then retK false { m with kind := kindA m.kind (conv .u64 (ar .add .i64 (m.X r1.toNat) n)) 1 } else setLf false rd (conv .i64 (bif decide (accX (conv .u64 (ar .add .i64 (m.X r1.toNat) n)) 1 = 0) then loadX m.mem (conv .u64 (ar .add .i64 (m.X r1.toNat) n)) 1 else 0)) { m with pc := ar .add .i64 m.pc 4, kind := kindA m.kind (conv .u64 (ar .add .i64 (m.X r1.toNat) n)) 1 })))))) := by kernel_rfl
theorem r_16 (s : ByteArray) (m : M) (rd r1 r2 n : Int) : (evalF (EP 16 rd r1 r2 n) Try.prog 20 [.str s, .ptr 0 0 0] (hM m true true true) 1024).retH [0, 1, 2, 3, 4] =
  fetchLf s m 16 rd r1 r2 n (ix r1 (ix r2 (bx (Nat.beq (m.nI) (m.nI)) (bx (Nat.beq (m.nO) (m.nO)) (bx (byteB m.mem) (bif !decide (accX (conv .u64 (ar .add .i64 (m.X r1.toNat) n)) 2 = 0) then retK false { m with kind := kindA m.kind (conv .u64 (ar .add .i64 (m.X r1.toNat) n)) 2 } else setLf false rd (conv .i64 (bif decide (accX (conv .u64 (ar .add .i64 (m.X r1.toNat) n)) 2 = 0) then loadX m.mem (conv .u64 (ar .add .i64 (m.X r1.toNat) n)) 2 else 0)) { m with pc := ar .add .i64 m.pc 4, kind := kindA m.kind (conv .u64 (ar .add .i64 (m.X r1.toNat) n)) 2 })))))) := by kernel_rfl
theorem r_17 (s : ByteArray) (m : M) (rd r1 r2 n : Int) : (evalF (EP 17 rd r1 r2 n) Try.prog 20 [.str s, .ptr 0 0 0] (hM m true true true) 1024).retH [0, 1, 2, 3, 4] =
  fetchLf s m 17 rd r1 r2 n (ix r1 (ix r2 (bx (Nat.beq (m.nI) (m.nI)) (bx (Nat.beq (m.nO) (m.nO)) (bx (byteB m.mem) (bif !decide (accX (conv .u64 (ar .add .i64 (m.X r1.toNat) n)) 4 = 0) then retK false { m with kind := kindA m.kind (conv .u64 (ar .add .i64 (m.X r1.toNat) n)) 4 } else setLf false rd (conv .i64 (bif decide (accX (conv .u64 (ar .add .i64 (m.X r1.toNat) n)) 4 = 0) then loadX m.mem (conv .u64 (ar .add .i64 (m.X r1.toNat) n)) 4 else 0)) { m with pc := ar .add .i64 m.pc 4, kind := kindA m.kind (conv .u64 (ar .add .i64 (m.X r1.toNat) n)) 4 })))))) := by kernel_rfl
theorem r_18 (s : ByteArray) (m : M) (rd r1 r2 n : Int) : (evalF (EP 18 rd r1 r2 n) Try.prog 20 [.str s, .ptr 0 0 0] (hM m true true true) 1024).retH [0, 1, 2, 3, 4] =
  fetchLf s m 18 rd r1 r2 n (ix r1 (ix r2 (bx (Nat.beq (m.nI) (m.nI)) (bx (Nat.beq (m.nO) (m.nO)) (bif !decide (accX (conv .u64 (ar .add .i64 (m.X r1.toNat) n)) 1 = 0) then retK false { m with mem := storeA m.mem (conv .u64 (ar .add .i64 (m.X r1.toNat) n)) (conv .u64 (m.X r2.toNat)) 1, kind := kindA m.kind (conv .u64 (ar .add .i64 (m.X r1.toNat) n)) 1 } else setLf false rd 0 { m with pc := ar .add .i64 m.pc 4, mem := storeA m.mem (conv .u64 (ar .add .i64 (m.X r1.toNat) n)) (conv .u64 (m.X r2.toNat)) 1, kind := kindA m.kind (conv .u64 (ar .add .i64 (m.X r1.toNat) n)) 1 }))))) := by kernel_rfl
theorem r_19 (s : ByteArray) (m : M) (rd r1 r2 n : Int) : (evalF (EP 19 rd r1 r2 n) Try.prog 20 [.str s, .ptr 0 0 0] (hM m true true true) 1024).retH [0, 1, 2, 3, 4] =
  fetchLf s m 19 rd r1 r2 n (ix r1 (ix r2 (bx (Nat.beq (m.nI) (m.nI)) (bx (Nat.beq (m.nO) (m.nO)) (bif !decide (accX (conv .u64 (ar .add .i64 (m.X r1.toNat) n)) 2 = 0) then retK false { m with mem := storeA m.mem (conv .u64 (ar .add .i64 (m.X r1.toNat) n)) (conv .u64 (m.X r2.toNat)) 2, kind := kindA m.kind (conv .u64 (ar .add .i64 (m.X r1.toNat) n)) 2 } else setLf false rd 0 { m with pc := ar .add .i64 m.pc 4, mem := storeA m.mem (conv .u64 (ar .add .i64 (m.X r1.toNat) n)) (conv .u64 (m.X r2.toNat)) 2, kind := kindA m.kind (conv .u64 (ar .add .i64 (m.X r1.toNat) n)) 2 }))))) := by kernel_rfl
theorem r_20 (s : ByteArray) (m : M) (rd r1 r2 n : Int) : (evalF (EP 20 rd r1 r2 n) Try.prog 20 [.str s, .ptr 0 0 0] (hM m true true true) 1024).retH [0, 1, 2, 3, 4] =
  fetchLf s m 20 rd r1 r2 n (ix r1 (ix r2 (bx (Nat.beq (m.nI) (m.nI)) (bx (Nat.beq (m.nO) (m.nO)) (bif !decide (accX (conv .u64 (ar .add .i64 (m.X r1.toNat) n)) 4 = 0) then retK false { m with mem := storeA m.mem (conv .u64 (ar .add .i64 (m.X r1.toNat) n)) (conv .u64 (m.X r2.toNat)) 4, kind := kindA m.kind (conv .u64 (ar .add .i64 (m.X r1.toNat) n)) 4 } else setLf false rd 0 { m with pc := ar .add .i64 m.pc 4, mem := storeA m.mem (conv .u64 (ar .add .i64 (m.X r1.toNat) n)) (conv .u64 (m.X r2.toNat)) 4, kind := kindA m.kind (conv .u64 (ar .add .i64 (m.X r1.toNat) n)) 4 }))))) := by kernel_rfl
theorem r_21 (s : ByteArray) (m : M) (rd r1 r2 n : Int) : (evalF (EP 21 rd r1 r2 n) Try.prog 20 [.str s, .ptr 0 0 0] (hM m true true true) 1024).retH [0, 1, 2, 3, 4] =
  fetchLf s m 21 rd r1 r2 n (ix r1 (ix r2 (bx (Nat.beq (m.nI) (m.nI)) (bx (Nat.beq (m.nO) (m.nO)) (bif !decide (accX (conv .u64 (ar .add .i64 (m.X r1.toNat) n)) 8 = 0) then retK false { m with mem := storeA m.mem (conv .u64 (ar .add .i64 (m.X r1.toNat) n)) (conv .u64 (m.X r2.toNat)) 8, kind := kindA m.kind (conv .u64 (ar .add .i64 (m.X r1.toNat) n)) 8 } else setLf false rd 0 { m with pc := ar .add .i64 m.pc 4, mem := storeA m.mem (conv .u64 (ar .add .i64 (m.X r1.toNat) n)) (conv .u64 (m.X r2.toNat)) 8, kind := kindA m.kind (conv .u64 (ar .add .i64 (m.X r1.toNat) n)) 8 }))))) := by kernel_rfl

end Go.Rv
end

section
set_option linter.unusedVariables false
open Go Go.Ev Go.Proofs
namespace Go.Rv

theorem r_22 (s : ByteArray) (m : M) (rd r1 r2 n : Int) : (evalF (EP 22 rd r1 r2 n) Try.prog 20 [.str s, .ptr 0 0 0] (hM m true true true) 1024).retH [0, 1, 2, 3, 4] =
  fetchLf s m 22 rd r1 r2 n (ix r1 (ix r2 (setLf false rd (ar .add .i64 (m.X r1.toNat) n) { m with pc := ar .add .i64 m.pc 4 }))) := by kernel_rfl
theorem r_23 (s : ByteArray) (m : M) (rd r1 r2 n : Int) : (evalF (EP 23 rd r1 r2 n) Try.prog 20 [.str s, .ptr 0 0 0] (hM m true true true) 1024).retH [0, 1, 2, 3, 4] =
  fetchLf s m 23 rd r1 r2 n (ix r1 (ix r2 (setLf false rd (bif cm .lss (m.X r1.toNat) n then 1 else 0) { m with pc := ar .add .i64 m.pc 4 }))) := by kernel_rfl
theorem r_24 (s : ByteArray) (m : M) (rd r1 r2 n : Int) : (evalF (EP 24 rd r1 r2 n) Try.prog 20 [.str s, .ptr 0 0 0] (hM m true true true) 1024).retH [0, 1, 2, 3, 4] =
  fetchLf s m 24 rd r1 r2 n (ix r1 (ix r2 (setLf false rd (bif cm .lss (conv .u64 (m.X r1.toNat)) (conv .u64 n) then 1 else 0) { m with pc := ar .add .i64 m.pc 4 }))) := by kernel_rfl
theorem r_25 (s : ByteArray) (m : M) (rd r1 r2 n : Int) : (evalF (EP 25 rd r1 r2 n) Try.prog 20 [.str s, .ptr 0 0 0] (hM m true true true) 1024).retH [0, 1, 2, 3, 4] =
  fetchLf s m 25 rd r1 r2 n (ix r1 (ix r2 (setLf false rd (ar .xor .i64 (m.X r1.toNat) n) { m with pc := ar .add .i64 m.pc 4 }))) := by kernel_rfl
theorem r_26 (s : ByteArray) (m : M) (rd r1 r2 n : Int) : (evalF (EP 26 rd r1 r2 n) Try.prog 20 [.str s, .ptr 0 0 0] (hM m true true true) 1024).retH [0, 1, 2, 3, 4] =
  fetchLf s m 26 rd r1 r2 n (ix r1 (ix r2 (setLf false rd (ar .or .i64 (m.X r1.toNat) n) { m with pc := ar .add .i64 m.pc 4 }))) := by kernel_rfl
theorem r_27 (s : ByteArray) (m : M) (rd r1 r2 n : Int) : (evalF (EP 27 rd r1 r2 n) Try.prog 20 [.str s, .ptr 0 0 0] (hM m true true true) 1024).retH [0, 1, 2, 3, 4] =
  fetchLf s m 27 rd r1 r2 n (ix r1 (ix r2 (setLf false rd (ar .and .i64 (m.X r1.toNat) n) { m with pc := ar .add .i64 m.pc 4 }))) := by kernel_rfl
theorem r_28 (s : ByteArray) (m : M) (rd r1 r2 n : Int) : (evalF (EP 28 rd r1 r2 n) Try.prog 20 [.str s, .ptr 0 0 0] (hM m true true true) 1024).retH [0, 1, 2, 3, 4] =
  fetchLf s m 28 rd r1 r2 n (ix r1 (ix r2 (bx (decide (0 ≤ ar .and .u64 (conv .u64 n) 63)) (setLf false rd (ar .shl .i64 (m.X r1.toNat) (ar .and .u64 (conv .u64 n) 63)) { m with pc := ar .add .i64 m.pc 4 })))) := by kernel_rfl
theorem r_29 (s : ByteArray) (m : M) (rd r1 r2 n : Int) : (evalF (EP 29 rd r1 r2 n) Try.prog 20 [.str s, .ptr 0 0 0] (hM m true true true) 1024).retH [0, 1, 2, 3, 4] =
  fetchLf s m 29 rd r1 r2 n (ix r1 (ix r2 (bx (decide (0 ≤ ar .and .u64 (conv .u64 n) 63)) (setLf false rd (conv .i64 (ar .shr .u64 (conv .u64 (m.X r1.toNat)) (ar .and .u64 (conv .u64 n) 63))) { m with pc := ar .add .i64 m.pc 4 })))) := by kernel_rfl
theorem r_30 (s : ByteArray) (m : M) (rd r1 r2 n : Int) : (evalF (EP 30 rd r1 r2 n) Try.prog 20 [.str s, .ptr 0 0 0] (hM m true true true) 1024).retH [0, 1, 2, 3, 4] =
  fetchLf s m 30 rd r1 r2 n (ix r1 (ix r2 (bx (decide (0 ≤ ar .and .u64 (conv .u64 n) 63)) (setLf false rd (ar .shr .i64 (m.X r1.toNat) (ar .and .u64 (conv .u64 n) 63)) { m with pc := ar .add .i64 m.pc 4 })))) := by kernel_rfl
theorem r_31 (s : ByteArray) (m : M) (rd r1 r2 n : Int) : (evalF (EP 31 rd r1 r2 n) Try.prog 20 [.str s, .ptr 0 0 0] (hM m true true true) 1024).retH [0, 1, 2, 3, 4] =
  fetchLf s m 31 rd r1 r2 n (ix r1 (ix r2 (setLf false rd (conv .i64 (conv .i32 (ar .add .i64 (m.X r1.toNat) n))) { m with pc := ar .add .i64 m.pc 4 }))) := by kernel_rfl
theorem r_32 (s : ByteArray) (m : M) (rd r1 r2 n : Int) : (evalF (EP 32 rd r1 r2 n) Try.prog 20 [.str s, .ptr 0 0 0] (hM m true true true) 1024).retH [0, 1, 2, 3, 4] =
  fetchLf s m 32 rd r1 r2 n (ix r1 (ix r2 (bx (decide (0 ≤ ar .and .u64 (conv .u64 n) 31)) (setLf false rd (conv .i64 (ar .shl .i32 (conv .i32 (m.X r1.toNat)) (ar .and .u64 (conv .u64 n) 31))) { m with pc := ar .add .i64 m.pc 4 })))) := by kernel_rfl
theorem r_33 (s : ByteArray) (m : M) (rd r1 r2 n : Int) : (evalF (EP 33 rd r1 r2 n) Try.prog 20 [.str s, .ptr 0 0 0] (hM m true true true) 1024).retH [0, 1, 2, 3, 4] =
  fetchLf s m 33 rd r1 r2 n (ix r1 (ix r2 (bx (decide (0 ≤ ar .and .u64 (conv .u64 n) 31)) (setLf false rd (conv .i64 (conv .i32 (ar .shr .u32 (conv .u32 (m.X r1.toNat)) (ar .and .u64 (conv .u64 n) 31)))) { m with pc := ar .add .i64 m.pc 4 })))) := by kernel_rfl
theorem r_34 (s : ByteArray) (m : M) (rd r1 r2 n : Int) : (evalF (EP 34 rd r1 r2 n) Try.prog 20 [.str s, .ptr 0 0 0] (hM m true true true) 1024).retH [0, 1, 2, 3, 4] =
  fetchLf s m 34 rd r1 r2 n (ix r1 (ix r2 (bx (decide (0 ≤ ar .and .u64 (conv .u64 n) 31)) (setLf false rd (conv .i64 (ar .shr .i32 (conv .i32 (m.X r1.toNat)) (ar .and .u64 (conv .u64 n) 31))) { m with pc := ar .add .i64 m.pc 4 })))) := by kernel_rfl
theorem r_35 (s : ByteArray) (m : M) (rd r1 r2 n : Int) : (evalF (EP 35 rd r1 r2 n) Try.prog 20 [.str s, .ptr 0 0 0] (hM m true true true) 1024).retH [0, 1, 2, 3, 4] =
  fetchLf s m 35 rd r1 r2 n (ix r1 (ix r2 (setLf false rd (ar .add .i64 (m.X r1.toNat) (m.X r2.toNat)) { m with pc := ar .add .i64 m.pc 4 }))) := by kernel_rfl
theorem r_36 (s : ByteArray) (m : M) (rd r1 r2 n : Int) : (evalF (EP 36 rd r1 r2 n) Try.prog 20 [.str s, .ptr 0 0 0] (hM m true true true) 1024).retH [0, 1, 2, 3, 4] =
  fetchLf s m 36 rd r1 r2 n (ix r1 (ix r2 (setLf false rd (ar .sub .i64 (m.X r1.toNat) (m.X r2.toNat)) { m with pc := ar .add .i64 m.pc 4 }))) := by kernel_rfl
theorem r_37 (s : ByteArray) (m : M) (rd r1 r2 n : Int) : (evalF (EP 37 rd r1 r2 n) Try.prog 20 [.str s, .ptr 0 0 0] (hM m true true true) 1024).retH [0, 1, 2, 3, 4] =
  fetchLf s m 37 rd r1 r2 n (ix r1 (ix r2 (bx (decide (0 ≤ ar .and .u64 (conv .u64 (m.X r2.toNat)) 63)) (setLf false rd (ar .shl .i64 (m.X r1.toNat) (ar .and .u64 (conv .u64 (m.X r2.toNat)) 63)) { m with pc := ar .add .i64 m.pc 4 })))) := by kernel_rfl
theorem r_38 (s : ByteArray) (m : M) (rd r1 r2 n : Int) : (evalF (EP 38 rd r1 r2 n) Try.prog 20 [.str s, .ptr 0 0 0] (hM m true true true) 1024).retH [0, 1, 2, 3, 4] =
  fetchLf s m 38 rd r1 r2 n (ix r1 (ix r2 (setLf false rd (bif cm .lss (m.X r1.toNat) (m.X r2.toNat) then 1 else 0) { m with pc := ar .add .i64 m.pc 4 }))) := by kernel_rfl
theorem r_39 (s : ByteArray) (m : M) (rd r1 r2 n : Int) : (evalF (EP 39 rd r1 r2 n) Try.prog 20 [.str s, .ptr 0 0 0] (hM m true true true) 1024).retH [0, 1, 2, 3, 4] =
  fetchLf s m 39 rd r1 r2 n (ix r1 (ix r2 (setLf false rd (bif cm .lss (conv .u64 (m.X r1.toNat)) (conv .u64 (m.X r2.toNat)) then 1 else 0) { m with pc := ar .add .i64 m.pc 4 }))) := by kernel_rfl
theorem r_40 (s : ByteArray) (m : M) (rd r1 r2 n : Int) : (evalF (EP 40 rd r1 r2 n) Try.prog 20 [.str s, .ptr 0 0 0] (hM m true true true) 1024).retH [0, 1, 2, 3, 4] =
  fetchLf s m 40 rd r1 r2 n (ix r1 (ix r2 (setLf false rd (ar .xor .i64 (m.X r1.toNat) (m.X r2.toNat)) { m with pc := ar .add .i64 m.pc 4 }))) := by kernel_rfl

end Go.Rv
end

section
set_option linter.unusedVariables false
open Go Go.Ev Go.Proofs
namespace Go.Rv

theorem r_41 (s : ByteArray) (m : M) (rd r1 r2 n : Int) : (evalF (EP 41 rd r1 r2 n) Try.prog 20 [.str s, .ptr 0 0 0] (hM m true true true) 1024).retH [0, 1, 2, 3, 4] =
  fetchLf s m 41 rd r1 r2 n (ix r1 (ix r2 (bx (decide (0 ≤ ar .and .u64 (conv .u64 (m.X r2.toNat)) 63)) (setLf false rd (conv .i64 (ar .shr .u64 (conv .u64 (m.X r1.toNat)) (ar .and .u64 (conv .u64 (m.X r2.toNat)) 63))) { m with pc := ar .add .i64 m.pc 4 })))) := by kernel_rfl
theorem r_42 (s : ByteArray) (m : M) (rd r1 r2 n : Int) : (evalF (EP 42 rd r1 r2 n) Try.prog 20 [.str s, .ptr 0 0 0] (hM m true true true) 1024).retH [0, 1, 2, 3, 4] =
  fetchLf s m 42 rd r1 r2 n (ix r1 (ix r2 (bx (decide (0 ≤ ar .and .u64 (conv .u64 (m.X r2.toNat)) 63)) (setLf false rd (ar .shr .i64 (m.X r1.toNat) (ar .and .u64 (conv .u64 (m.X r2.toNat)) 63)) { m with pc := ar .add .i64 m.pc 4 })))) := by kernel_rfl
theorem r_43 (s : ByteArray) (m : M) (rd r1 r2 n : Int) : (evalF (EP 43 rd r1 r2 n) Try.prog 20 [.str s, .ptr 0 0 0] (hM m true true true) 1024).retH [0, 1, 2, 3, 4] =
  fetchLf s m 43 rd r1 r2 n (ix r1 (ix r2 (setLf false rd (ar .or .i64 (m.X r1.toNat) (m.X r2.toNat)) { m with pc := ar .add .i64 m.pc 4 }))) := by kernel_rfl
theorem r_44 (s : ByteArray) (m : M) (rd r1 r2 n : Int) : (evalF (EP 44 rd r1 r2 n) Try.prog 20 [.str s, .ptr 0 0 0] (hM m true true true) 1024).retH [0, 1, 2, 3, 4] =
  fetchLf s m 44 rd r1 r2 n (ix r1 (ix r2 (setLf false rd (ar .and .i64 (m.X r1.toNat) (m.X r2.toNat)) { m with pc := ar .add .i64 m.pc 4 }))) := by kernel_rfl
theorem r_45 (s : ByteArray) (m : M) (rd r1 r2 n : Int) : (evalF (EP 45 rd r1 r2 n) Try.prog 20 [.str s, .ptr 0 0 0] (hM m true true true) 1024).retH [0, 1, 2, 3, 4] =
  fetchLf s m 45 rd r1 r2 n (ix r1 (ix r2 (setLf false rd (ar .mul .i64 (m.X r1.toNat) (m.X r2.toNat)) { m with pc := ar .add .i64 m.pc 4 }))) := by kernel_rfl
theorem r_46 (s : ByteArray) (m : M) (rd r1 r2 n : Int) : (evalF (EP 46 rd r1 r2 n) Try.prog 20 [.str s, .ptr 0 0 0] (hM m true true true) 1024).retH [0, 1, 2, 3, 4] =
  fetchLf s m 46 rd r1 r2 n (ix r1 (ix r2 (setLf false rd (bif cm .lss (m.X r1.toNat) 0 then bif cm .lss (m.X r2.toNat) 0 then conv .i64 (ar .sub .u64 (ar .sub .u64 (hiR (m.X r1.toNat) (m.X r2.toNat)) (conv .u64 (m.X r2.toNat))) (conv .u64 (m.X r1.toNat))) else conv .i64 (ar .sub .u64 (hiR (m.X r1.toNat) (m.X r2.toNat)) (conv .u64 (m.X r2.toNat))) else bif cm .lss (m.X r2.toNat) 0 then conv .i64 (ar .sub .u64 (hiR (m.X r1.toNat) (m.X r2.toNat)) (conv .u64 (m.X r1.toNat))) else conv .i64 (hiR (m.X r1.toNat) (m.X r2.toNat))) { m with pc := ar .add .i64 m.pc 4 }))) := by kernel_rfl
theorem r_47 (s : ByteArray) (m : M) (rd r1 r2 n : Int) : (evalF (EP 47 rd r1 r2 n) Try.prog 20 [.str s, .ptr 0 0 0] (hM m true true true) 1024).retH [0, 1, 2, 3, 4] =
  fetchLf s m 47 rd r1 r2 n (ix r1 (ix r2 (setLf false rd (bif cm .lss (m.X r1.toNat) 0 then conv .i64 (ar .sub .u64 (hiR (m.X r1.toNat) (m.X r2.toNat)) (conv .u64 (m.X r2.toNat))) else conv .i64 (hiR (m.X r1.toNat) (m.X r2.toNat))) { m with pc := ar .add .i64 m.pc 4 }))) := by kernel_rfl
theorem r_48 (s : ByteArray) (m : M) (rd r1 r2 n : Int) : (evalF (EP 48 rd r1 r2 n) Try.prog 20 [.str s, .ptr 0 0 0] (hM m true true true) 1024).retH [0, 1, 2, 3, 4] =
  fetchLf s m 48 rd r1 r2 n (ix r1 (ix r2 (setLf false rd (conv .i64 (hiR (m.X r1.toNat) (m.X r2.toNat))) { m with pc := ar .add .i64 m.pc 4 }))) := by kernel_rfl
theorem r_49 (s : ByteArray) (m : M) (rd r1 r2 n : Int) : (evalF (EP 49 rd r1 r2 n) Try.prog 20 [.str s, .ptr 0 0 0] (hM m true true true) 1024).retH [0, 1, 2, 3, 4] =
  fetchLf s m 49 rd r1 r2 n (ix r1 (ix r2 (bx (bif cm .eql (m.X r2.toNat) 0 then true else allB (mergeB (bif cm .eql (m.X r2.toNat) (-1) then cm .eql (m.X r1.toNat) (-9223372036854775808) else false) [] [m.X r2.toNat != 0])) (setLf false rd (bif cm .eql (m.X r2.toNat) 0 then -1 else bif bif cm .eql (m.X r2.toNat) (-1) then cm .eql (m.X r1.toNat) (-9223372036854775808) else false then m.X r1.toNat else ar .quo .i64 (m.X r1.toNat) (m.X r2.toNat)) { m with pc := ar .add .i64 m.pc 4 })))) := by kernel_rfl
theorem r_50 (s : ByteArray) (m : M) (rd r1 r2 n : Int) : (evalF (EP 50 rd r1 r2 n) Try.prog 20 [.str s, .ptr 0 0 0] (hM m true true true) 1024).retH [0, 1, 2, 3, 4] =
  fetchLf s m 50 rd r1 r2 n (ix r1 (ix r2 (bx (bif cm .eql (m.X r2.toNat) 0 then true else allB [conv .u64 (m.X r2.toNat) != 0]) (setLf false rd (bif cm .eql (m.X r2.toNat) 0 then -1 else conv .i64 (ar .quo .u64 (conv .u64 (m.X r1.toNat)) (conv .u64 (m.X r2.toNat)))) { m with pc := ar .add .i64 m.pc 4 })))) := by kernel_rfl
theorem r_51 (s : ByteArray) (m : M) (rd r1 r2 n : Int) : (evalF (EP 51 rd r1 r2 n) Try.prog 20 [.str s, .ptr 0 0 0] (hM m true true true) 1024).retH [0, 1, 2, 3, 4] =
  fetchLf s m 51 rd r1 r2 n (ix r1 (ix r2 (bx (bif cm .eql (m.X r2.toNat) 0 then true else allB (mergeB (cm .eql (m.X r2.toNat) (-1)) [] [m.X r2.toNat != 0])) (setLf false rd (bif cm .eql (m.X r2.toNat) 0 then m.X r1.toNat else bif cm .eql (m.X r2.toNat) (-1) then 0 else ar .rem .i64 (m.X r1.toNat) (m.X r2.toNat)) { m with pc := ar .add .i64 m.pc 4 })))) := by kernel_rfl
theorem r_52 (s : ByteArray) (m : M) (rd r1 r2 n : Int) : (evalF (EP 52 rd r1 r2 n) Try.prog 20 [.str s, .ptr 0 0 0] (hM m true true true) 1024).retH [0, 1, 2, 3, 4] =
  fetchLf s m 52 rd r1 r2 n (ix r1 (ix r2 (bx (bif cm .eql (m.X r2.toNat) 0 then true else allB [conv .u64 (m.X r2.toNat) != 0]) (setLf false rd (bif cm .eql (m.X r2.toNat) 0 then m.X r1.toNat else conv .i64 (ar .rem .u64 (conv .u64 (m.X r1.toNat)) (conv .u64 (m.X r2.toNat)))) { m with pc := ar .add .i64 m.pc 4 })))) := by kernel_rfl

end Go.Rv
end

section
set_option linter.unusedVariables false
open Go Go.Ev Go.Proofs
namespace Go.Rv

theorem r_53 (s : ByteArray) (m : M) (rd r1 r2 n : Int) : (evalF (EP 53 rd r1 r2 n) Try.prog 20 [.str s, .ptr 0 0 0] (hM m true true true) 1024).retH [0, 1, 2, 3, 4] =
  fetchLf s m 53 rd r1 r2 n (ix r1 (ix r2 (setLf false rd (conv .i64 (conv .i32 (ar .add .i64 (m.X r1.toNat) (m.X r2.toNat)))) { m with pc := ar .add .i64 m.pc 4 }))) := by kernel_rfl
theorem r_54 (s : ByteArray) (m : M) (rd r1 r2 n : Int) : (evalF (EP 54 rd r1 r2 n) Try.prog 20 [.str s, .ptr 0 0 0] (hM m true true true) 1024).retH [0, 1, 2, 3, 4] =
  fetchLf s m 54 rd r1 r2 n (ix r1 (ix r2 (setLf false rd (conv .i64 (conv .i32 (ar .sub .i64 (m.X r1.toNat) (m.X r2.toNat)))) { m with pc := ar .add .i64 m.pc 4 }))) := by kernel_rfl
theorem r_55 (s : ByteArray) (m : M) (rd r1 r2 n : Int) : (evalF (EP 55 rd r1 r2 n) Try.prog 20 [.str s, .ptr 0 0 0] (hM m true true true) 1024).retH [0, 1, 2, 3, 4] =
  fetchLf s m 55 rd r1 r2 n (ix r1 (ix r2 (bx (decide (0 ≤ ar .and .u64 (conv .u64 (m.X r2.toNat)) 31)) (setLf false rd (conv .i64 (ar .shl .i32 (conv .i32 (m.X r1.toNat)) (ar .and .u64 (conv .u64 (m.X r2.toNat)) 31))) { m with pc := ar .add .i64 m.pc 4 })))) := by kernel_rfl
theorem r_56 (s : ByteArray) (m : M) (rd r1 r2 n : Int) : (evalF (EP 56 rd r1 r2 n) Try.prog 20 [.str s, .ptr 0 0 0] (hM m true true true) 1024).retH [0, 1, 2, 3, 4] =
  fetchLf s m 56 rd r1 r2 n (ix r1 (ix r2 (bx (decide (0 ≤ ar .and .u64 (conv .u64 (m.X r2.toNat)) 31)) (setLf false rd (conv .i64 (conv .i32 (ar .shr .u32 (conv .u32 (m.X r1.toNat)) (ar .and .u64 (conv .u64 (m.X r2.toNat)) 31)))) { m with pc := ar .add .i64 m.pc 4 })))) := by kernel_rfl
theorem r_57 (s : ByteArray) (m : M) (rd r1 r2 n : Int) : (evalF (EP 57 rd r1 r2 n) Try.prog 20 [.str s, .ptr 0 0 0] (hM m true true true) 1024).retH [0, 1, 2, 3, 4] =
  fetchLf s m 57 rd r1 r2 n (ix r1 (ix r2 (bx (decide (0 ≤ ar .and .u64 (conv .u64 (m.X r2.toNat)) 31)) (setLf false rd (conv .i64 (ar .shr .i32 (conv .i32 (m.X r1.toNat)) (ar .and .u64 (conv .u64 (m.X r2.toNat)) 31))) { m with pc := ar .add .i64 m.pc 4 })))) := by kernel_rfl
theorem r_58 (s : ByteArray) (m : M) (rd r1 r2 n : Int) : (evalF (EP 58 rd r1 r2 n) Try.prog 20 [.str s, .ptr 0 0 0] (hM m true true true) 1024).retH [0, 1, 2, 3, 4] =
  fetchLf s m 58 rd r1 r2 n (ix r1 (ix r2 (setLf false rd (conv .i64 (conv .i32 (ar .mul .i64 (m.X r1.toNat) (m.X r2.toNat)))) { m with pc := ar .add .i64 m.pc 4 }))) := by kernel_rfl
theorem r_59 (s : ByteArray) (m : M) (rd r1 r2 n : Int) : (evalF (EP 59 rd r1 r2 n) Try.prog 20 [.str s, .ptr 0 0 0] (hM m true true true) 1024).retH [0, 1, 2, 3, 4] =
  fetchLf s m 59 rd r1 r2 n (ix r1 (ix r2 (bx (bif cm .eql (conv .i64 (conv .i32 (m.X r2.toNat))) 0 then true else allB (mergeB (bif cm .eql (conv .i64 (conv .i32 (m.X r2.toNat))) (-1) then cm .eql (conv .i64 (conv .i32 (m.X r1.toNat))) (-9223372036854775808) else false) [] [conv .i64 (conv .i32 (m.X r2.toNat)) != 0])) (setLf false rd (conv .i64 (conv .i32 (bif cm .eql (conv .i64 (conv .i32 (m.X r2.toNat))) 0 then -1 else bif bif cm .eql (conv .i64 (conv .i32 (m.X r2.toNat))) (-1) then cm .eql (conv .i64 (conv .i32 (m.X r1.toNat))) (-9223372036854775808) else false then conv .i64 (conv .i32 (m.X r1.toNat)) else ar .quo .i64 (conv .i64 (conv .i32 (m.X r1.toNat))) (conv .i64 (conv .i32 (m.X r2.toNat)))))) { m with pc := ar .add .i64 m.pc 4 })))) := by kernel_rfl
theorem r_60 (s : ByteArray) (m : M) (rd r1 r2 n : Int) : (evalF (EP 60 rd r1 r2 n) Try.prog 20 [.str s, .ptr 0 0 0] (hM m true true true) 1024).retH [0, 1, 2, 3, 4] =
  fetchLf s m 60 rd r1 r2 n (ix r1 (ix r2 (bx (bif cm .eql (conv .i64 (conv .u32 (m.X r2.toNat))) 0 then true else allB [conv .u64 (conv .i64 (conv .u32 (m.X r2.toNat))) != 0]) (setLf false rd (conv .i64 (conv .i32 (bif cm .eql (conv .i64 (conv .u32 (m.X r2.toNat))) 0 then -1 else conv .i64 (ar .quo .u64 (conv .u64 (conv .i64 (conv .u32 (m.X r1.toNat)))) (conv .u64 (conv .i64 (conv .u32 (m.X r2.toNat)))))))) { m with pc := ar .add .i64 m.pc 4 })))) := by kernel_rfl
theorem r_61 (s : ByteArray) (m : M) (rd r1 r2 n : Int) : (evalF (EP 61 rd r1 r2 n) Try.prog 20 [.str s, .ptr 0 0 0] (hM m true true true) 1024).retH [0, 1, 2, 3, 4] =
  fetchLf s m 61 rd r1 r2 n (ix r1 (ix r2 (bx (bif cm .eql (conv .i64 (conv .i32 (m.X r2.toNat))) 0 then true else allB (mergeB (cm .eql (conv .i64 (conv .i32 (m.X r2.toNat))) (-1)) [] [conv .i64 (conv .i32 (m.X r2.toNat)) != 0])) (setLf false rd (conv .i64 (conv .i32 (bif cm .eql (conv .i64 (conv .i32 (m.X r2.toNat))) 0 then conv .i64 (conv .i32 (m.X r1.toNat)) else bif cm .eql (conv .i64 (conv .i32 (m.X r2.toNat))) (-1) then 0 else ar .rem .i64 (conv .i64 (conv .i32 (m.X r1.toNat))) (conv .i64 (conv .i32 (m.X r2.toNat)))))) { m with pc := ar .add .i64 m.pc 4 })))) := by kernel_rfl
theorem r_62 (s : ByteArray) (m : M) (rd r1 r2 n : Int) : (evalF (EP 62 rd r1 r2 n) Try.prog 20 [.str s, .ptr 0 0 0] (hM m true true true) 1024).retH [0, 1, 2, 3, 4] =
  fetchLf s m 62 rd r1 r2 n (ix r1 (ix r2 (bx (bif cm .eql (conv .i64 (conv .u32 (m.X r2.toNat))) 0 then true else allB [conv .u64 (conv .i64 (conv .u32 (m.X r2.toNat))) != 0]) (setLf false rd (conv .i64 (conv .i32 (bif cm .eql (conv .i64 (conv .u32 (m.X r2.toNat))) 0 then conv .i64 (conv .u32 (m.X r1.toNat)) else conv .i64 (ar .rem .u64 (conv .u64 (conv .i64 (conv .u32 (m.X r1.toNat)))) (conv .u64 (conv .i64 (conv .u32 (m.X r2.toNat)))))))) { m with pc := ar .add .i64 m.pc 4 })))) := by kernel_rfl
theorem r_63 (s : ByteArray) (m : M) (rd r1 r2 n : Int) : (evalF (EP 63 rd r1 r2 n) Try.prog 20 [.str s, .ptr 0 0 0] (hM m true true true) 1024).retH [0, 1, 2, 3, 4, 3568] =
  fetchLf s m 63 rd r1 r2 n (ix r1 (ix r2 (bif cm .eql (m.X 17) 1 then outG m (setO 3568 rd (m.X 10) (nx m)) else bif cm .eql (m.X 17) 2 then (bif cm .gtr (m.nI : Int) 0 then inG m (setI 3568 rd { m with pc := ar .add .i64 m.pc 4, X := upd m.X 10 (m.inp 0) }) else setLf false rd 0 { m with pc := ar .add .i64 m.pc 4, X := upd m.X 10 0 }) else bif cm .eql (m.X 17) 3 then retK true { m with kind := 1, code := m.X 10 } else retK true { m with kind := 5 }))) := by kernel_rfl

end Go.Rv
end

section
set_option linter.unusedVariables false
open Go Go.Ev Go.Proofs
namespace Go.Rv

theorem d_1 (m : M) (rd r1 r2 n : Int) : (evalF ED Try.prog 58 (argD 1 rd r1 r2 n) (hM m true true true) 1024).retH [0, 1, 2, 3, 4] =
  setLf false rd (conv .i64 (conv .i32 (ar .shl .u32 (conv .u32 n) 12))) { m with pc := ar .add .i64 m.pc 4 } := by kernel_rfl
theorem d_2 (m : M) (rd r1 r2 n : Int) : (evalF ED Try.prog 58 (argD 2 rd r1 r2 n) (hM m true true true) 1024).retH [0, 1, 2, 3, 4] =
  setLf false rd (ar .add .i64 m.pc (conv .i64 (conv .i32 (ar .shl .u32 (conv .u32 n) 12)))) { m with pc := ar .add .i64 m.pc 4 } := by kernel_rfl
theorem d_3 (m : M) (rd r1 r2 n : Int) : (evalF ED Try.prog 58 (argD 3 rd r1 r2 n) (hM m true true true) 1024).retH [0, 1, 2, 3, 4] =
  setLf false rd (ar .add .i64 m.pc 4) { m with pc := ar .add .i64 m.pc n } := by kernel_rfl
theorem d_4 (m : M) (rd r1 r2 n : Int) : (evalF ED Try.prog 58 (argD 4 rd r1 r2 n) (hM m true true true) 1024).retH [0, 1, 2, 3, 4] =
  ix r1 (setLf false rd (ar .add .i64 m.pc 4) { m with pc := ar .andNot .i64 (ar .add .i64 (m.X r1.toNat) n) 1 }) := by kernel_rfl
theorem d_5 (m : M) (rd r1 r2 n : Int) : (evalF ED Try.prog 58 (argD 5 rd r1 r2 n) (hM m true true true) 1024).retH [0, 1, 2, 3, 4] =
  ix r1 (ix r2 (bif cm .eql (m.X r1.toNat) (m.X r2.toNat) then retK false { m with pc := ar .add .i64 m.pc n } else retK false { m with pc := ar .add .i64 m.pc 4 })) := by kernel_rfl
theorem d_6 (m : M) (rd r1 r2 n : Int) : (evalF ED Try.prog 58 (argD 6 rd r1 r2 n) (hM m true true true) 1024).retH [0, 1, 2, 3, 4] =
  ix r1 (ix r2 (bif cm .neq (m.X r1.toNat) (m.X r2.toNat) then retK false { m with pc := ar .add .i64 m.pc n } else retK false { m with pc := ar .add .i64 m.pc 4 })) := by kernel_rfl
theorem d_7 (m : M) (rd r1 r2 n : Int) : (evalF ED Try.prog 58 (argD 7 rd r1 r2 n) (hM m true true true) 1024).retH [0, 1, 2, 3, 4] =
  ix r1 (ix r2 (bif cm .lss (m.X r1.toNat) (m.X r2.toNat) then retK false { m with pc := ar .add .i64 m.pc n } else retK false { m with pc := ar .add .i64 m.pc 4 })) := by kernel_rfl
theorem d_8 (m : M) (rd r1 r2 n : Int) : (evalF ED Try.prog 58 (argD 8 rd r1 r2 n) (hM m true true true) 1024).retH [0, 1, 2, 3, 4] =
  ix r1 (ix r2 (bif cm .geq (m.X r1.toNat) (m.X r2.toNat) then retK false { m with pc := ar .add .i64 m.pc n } else retK false { m with pc := ar .add .i64 m.pc 4 })) := by kernel_rfl
theorem d_9 (m : M) (rd r1 r2 n : Int) : (evalF ED Try.prog 58 (argD 9 rd r1 r2 n) (hM m true true true) 1024).retH [0, 1, 2, 3, 4] =
  ix r1 (ix r2 (bif cm .lss (conv .u64 (m.X r1.toNat)) (conv .u64 (m.X r2.toNat)) then retK false { m with pc := ar .add .i64 m.pc n } else retK false { m with pc := ar .add .i64 m.pc 4 })) := by kernel_rfl
theorem d_10 (m : M) (rd r1 r2 n : Int) : (evalF ED Try.prog 58 (argD 10 rd r1 r2 n) (hM m true true true) 1024).retH [0, 1, 2, 3, 4] =
  ix r1 (ix r2 (bif cm .geq (conv .u64 (m.X r1.toNat)) (conv .u64 (m.X r2.toNat)) then retK false { m with pc := ar .add .i64 m.pc n } else retK false { m with pc := ar .add .i64 m.pc 4 })) := by kernel_rfl
theorem d_11 (m : M) (rd r1 r2 n : Int) : (evalF ED Try.prog 58 (argD 11 rd r1 r2 n) (hM m true true true) 1024).retH [0, 1, 2, 3, 4] =
  ix r1 (bx (Nat.beq (m.nI) (m.nI)) (bx (Nat.beq (m.nO) (m.nO)) (bx (byteB m.mem) (bif !decide (accX (conv .u64 (ar .add .i64 (m.X r1.toNat) n)) 1 = 0) then retK false { m with kind := kindA m.kind (conv .u64 (ar .add .i64 (m.X r1.toNat) n)) 1 } else setLf false rd (ar .shr .i64 (conv .i64 (ar .shl .u64 (bif decide (accX (conv .u64 (ar .add .i64 (m.X r1.toNat) n)) 1 = 0) then loadX m.mem (conv .u64 (ar .add .i64 (m.X r1.toNat) n)) 1 else 0) 56)) 56) { m with pc := ar .add .i64 m.pc 4, kind := kindA m.kind (conv .u64 (ar .add .i64 (m.X r1.toNat) n)) 1 })))) := by kernel_rfl
theorem d_12 (m : M) (rd r1 r2 n : Int) : (evalF ED Try.prog 58 (argD 12 rd r1 r2 n) (hM m true true true) 1024).retH [0, 1, 2, 3, 4] =
  ix r1 (bx (Nat.beq (m.nI) (m.nI)) (bx (Nat.beq (m.nO) (m.nO)) (bx (byteB m.mem) (bif !decide (accX (conv .u64 (ar .add .i64 (m.X r1.toNat) n)) 2 = 0) then retK false { m with kind := kindA m.kind (conv .u64 (ar .add .i64 (m.X r1.toNat) n)) 2 } else setLf false rd (ar .shr .i64 (conv .i64 (ar .shl .u64 (bif decide (accX (conv .u64 (ar .add .i64 (m.X r1.toNat) n)) 2 = 0) then loadX m.mem (conv .u64 (ar .add .i64 (m.X r1.toNat) n)) 2 else 0) 48)) 48) { m with pc := ar .add .i64 m.pc 4, kind := kindA m.kind (conv .u64 (ar .add .i64 (m.X r1.toNat) n)) 2 })))) := by kernel_rfl
theorem d_13 (m : M) (rd r1 r2 n : Int) : (evalF ED Try.prog 58 (argD 13 rd r1 r2 n) (hM m true true true) 1024).retH [0, 1, 2, 3, 4] =
  ix r1 (bx (Nat.beq (m.nI) (m.nI)) (bx (Nat.beq (m.nO) (m.nO)) (bx (byteB m.mem) (bif !decide (accX (conv .u64 (ar .add .i64 (m.X r1.toNat) n)) 4 = 0) then retK false { m with kind := kindA m.kind (conv .u64 (ar .add .i64 (m.X r1.toNat) n)) 4 } else setLf false rd (ar .shr .i64 (conv .i64 (ar .shl .u64 (bif decide (accX (conv .u64 (ar .add .i64 (m.X r1.toNat) n)) 4 = 0) then loadX m.mem (conv .u64 (ar .add .i64 (m.X r1.toNat) n)) 4 else 0) 32)) 32) { m with pc := ar .add .i64 m.pc 4, kind := kindA m.kind (conv .u64 (ar .add .i64 (m.X r1.toNat) n)) 4 })))) := by kernel_rfl
theorem d_14 (m : M) (rd r1 r2 n : Int) : (evalF ED Try.prog 58 (argD 14 rd r1 r2 n) (hM m true true true) 1024).retH [0, 1, 2, 3, 4] =
  ix r1 (bx (Nat.beq (m.nI) (m.nI)) (bx (Nat.beq (m.nO) (m.nO)) (bx (byteB m.mem) (bif !decide (accX (conv .u64 (ar .add .i64 (m.X r1.toNat) n)) 8 = 0) then retK false { m with kind := kindA m.kind (conv .u64 (ar .add .i64 (m.X r1.toNat) n)) 8 } else setLf false rd (ar .shr .i64 (conv .i64 (ar .shl .u64 (bif decide (accX (conv .u64 (ar .add .i64 (m.X r1.toNat) n)) 8 = 0) then loadX m.mem (conv .u64 (ar .add .i64 (m.X r1.toNat) n)) 8 else 0) 0)) 0) { m with pc := ar .add .i64 m.pc 4, kind := kindA m.kind (conv .u64 (ar .add .i64 (m.X r1.toNat) n)) 8 })))) := by kernel_rfl
theorem d_15 (m : M) (rd r1 r2 n : Int) : (evalF ED Try.prog 58 (argD 15 rd r1 r2 n) (hM m true true true) 1024).retH [0, 1, 2, 3, 4] =
  ix r1 (bx (Nat.beq (m.nI) (m.nI)) (bx (Nat.beq (m.nO) (m.nO)) (bx (byteB m.mem) (bif !decide (accX (conv .u64 (ar .add .i64 (m.X r1.toNat) n)) 1 = 0) then retK false { m with kind := kindA m.kind (conv .u64 (ar .add .i64 (m.X r1.toNat) n)) 1 } else setLf false rd (conv .i64 (bif decide (accX (conv .u64 (ar .add .i64 (m.X r1.toNat) n)) 1 = 0) then loadX m.mem (conv .u64 (ar .add .i64 (m.X r1.toNat) n)) 1 else 0)) { m with pc := ar .add .i64 m.pc 4, kind := kindA m.kind (conv .u64 (ar .add .i64 (m.X r1.toNat) n)) 1 })))) := by kernel_rfl
theorem d_16 (m : M) (rd r1 r2 n : Int) : (evalF ED Try.prog 58 (argD 16 rd r1 r2 n) (hM m true true true) 1024).retH [0, 1, 2, 3, 4] =
  ix r1 (bx (Nat.beq (m.nI) (m.nI)) (bx (Nat.beq (m.nO) (m.nO)) (bx (byteB m.mem) (bif !decide (accX (conv .u64 (ar .add .i64 (m.X r1.toNat) n)) 2 = 0) then retK false { m with kind := kindA m.kind (conv .u64 (ar .add .i64 (m.X r1.toNat) n)) 2 } else setLf false rd (conv .i64 (bif decide (accX (conv .u64 (ar .add .i64 (m.X r1.toNat) n)) 2 = 0) then loadX m.mem (conv .u64 (ar .add .i64 (m.X r1.toNat) n)) 2 else 0)) { m with pc := ar .add .i64 m.pc 4, kind := kindA m.kind (conv .u64 (ar .add .i64 (m.X r1.toNat) n)) 2 })))) := by kernel_rfl
theorem d_17 (m : M) (rd r1 r2 n : Int) : (evalF ED Try.prog 58 (argD 17 rd r1 r2 n) (hM m true true true) 1024).retH [0, 1, 2, 3, 4] =
  ix r1 (bx (Nat.beq (m.nI) (m.nI)) (bx (Nat.beq (m.nO) (m.nO)) (bx (byteB m.mem) (bif !decide (accX (conv .u64 (ar .add .i64 (m.X r1.toNat) n)) 4 = 0) then retK false { m with kind := kindA m.kind (conv .u64 (ar .add .i64 (m.X r1.toNat) n)) 4 } else setLf false rd (conv .i64 (bif decide (accX (conv .u64 (ar .add .i64 (m.X r1.toNat) n)) 4 = 0) then loadX m.mem (conv .u64 (ar .add .i64 (m.X r1.toNat) n)) 4 else 0)) { m with pc := ar .add .i64 m.pc 4, kind := kindA m.kind (conv .u64 (ar .add .i64 (m.X r1.toNat) n)) 4 })))) := by kernel_rfl
theorem d_18 (m : M) (rd r1 r2 n : Int) : (evalF ED Try.prog 58 (argD 18 rd r1 r2 n) (hM m true true true) 1024).retH [0, 1, 2, 3, 4] =
  ix r1 (ix r2 (bx (Nat.beq (m.nI) (m.nI)) (bx (Nat.beq (m.nO) (m.nO)) (bif !decide (accX (conv .u64 (ar .add .i64 (m.X r1.toNat) n)) 1 = 0) then retK false { m with mem := storeA m.mem (conv .u64 (ar .add .i64 (m.X r1.toNat) n)) (conv .u64 (m.X r2.toNat)) 1, kind := kindA m.kind (conv .u64 (ar .add .i64 (m.X r1.toNat) n)) 1 } else retK false { m with pc := ar .add .i64 m.pc 4, mem := storeA m.mem (conv .u64 (ar .add .i64 (m.X r1.toNat) n)) (conv .u64 (m.X r2.toNat)) 1, kind := kindA m.kind (conv .u64 (ar .add .i64 (m.X r1.toNat) n)) 1 })))) := by kernel_rfl
theorem d_19 (m : M) (rd r1 r2 n : Int) : (evalF ED Try.prog 58 (argD 19 rd r1 r2 n) (hM m true true true) 1024).retH [0, 1, 2, 3, 4] =
  ix r1 (ix r2 (bx (Nat.beq (m.nI) (m.nI)) (bx (Nat.beq (m.nO) (m.nO)) (bif !decide (accX (conv .u64 (ar .add .i64 (m.X r1.toNat) n)) 2 = 0) then retK false { m with mem := storeA m.mem (conv .u64 (ar .add .i64 (m.X r1.toNat) n)) (conv .u64 (m.X r2.toNat)) 2, kind := kindA m.kind (conv .u64 (ar .add .i64 (m.X r1.toNat) n)) 2 } else retK false { m with pc := ar .add .i64 m.pc 4, mem := storeA m.mem (conv .u64 (ar .add .i64 (m.X r1.toNat) n)) (conv .u64 (m.X r2.toNat)) 2, kind := kindA m.kind (conv .u64 (ar .add .i64 (m.X r1.toNat) n)) 2 })))) := by kernel_rfl
theorem d_20 (m : M) (rd r1 r2 n : Int) : (evalF ED Try.prog 58 (argD 20 rd r1 r2 n) (hM m true true true) 1024).retH [0, 1, 2, 3, 4] =
  ix r1 (ix r2 (bx (Nat.beq (m.nI) (m.nI)) (bx (Nat.beq (m.nO) (m.nO)) (bif !decide (accX (conv .u64 (ar .add .i64 (m.X r1.toNat) n)) 4 = 0) then retK false { m with mem := storeA m.mem (conv .u64 (ar .add .i64 (m.X r1.toNat) n)) (conv .u64 (m.X r2.toNat)) 4, kind := kindA m.kind (conv .u64 (ar .add .i64 (m.X r1.toNat) n)) 4 } else retK false { m with pc := ar .add .i64 m.pc 4, mem := storeA m.mem (conv .u64 (ar .add .i64 (m.X r1.toNat) n)) (conv .u64 (m.X r2.toNat)) 4, kind := kindA m.kind (conv .u64 (ar .add .i64 (m.X r1.toNat) n)) 4 })))) := by kernel_rfl
theorem d_21 (m : M) (rd r1 r2 n : Int) : (evalF ED Try.prog 58 (argD 21 rd r1 r2 n) (hM m true true true) 1024).retH [0, 1, 2, 3, 4] =
  ix r1 (ix r2 (bx (Nat.beq (m.nI) (m.nI)) (bx (Nat.beq (m.nO) (m.nO)) (bif !decide (accX (conv .u64 (ar .add .i64 (m.X r1.toNat) n)) 8 = 0) then retK false { m with mem := storeA m.mem (conv .u64 (ar .add .i64 (m.X r1.toNat) n)) (conv .u64 (m.X r2.toNat)) 8, kind := kindA m.kind (conv .u64 (ar .add .i64 (m.X r1.toNat) n)) 8 } else retK false { m with pc := ar .add .i64 m.pc 4, mem := storeA m.mem (conv .u64 (ar .add .i64 (m.X r1.toNat) n)) (conv .u64 (m.X r2.toNat)) 8, kind := kindA m.kind (conv .u64 (ar .add .i64 (m.X r1.toNat) n)) 8 })))) := by kernel_rfl

end Go.Rv
end

section
set_option linter.unusedVariables false
open Go Go.Ev Go.Proofs
namespace Go.Rv

theorem d_22 (m : M) (rd r1 r2 n : Int) : (evalF ED Try.prog 58 (argD 22 rd r1 r2 n) (hM m true true true) 1024).retH [0, 1, 2, 3, 4] =
  ix r2 (ix r1 (bx (gD (m.X r1.toNat) n) (bx (gU n) (setLf false rd (ar .add .i64 (m.X r1.toNat) n) { m with pc := ar .add .i64 m.pc 4 })))) := by kernel_rfl
theorem d_23 (m : M) (rd r1 r2 n : Int) : (evalF ED Try.prog 58 (argD 23 rd r1 r2 n) (hM m true true true) 1024).retH [0, 1, 2, 3, 4] =
  ix r2 (ix r1 (bx (gD (m.X r1.toNat) n) (bx (gU n) (setLf false rd (bif cm .lss (m.X r1.toNat) n then 1 else 0) { m with pc := ar .add .i64 m.pc 4 })))) := by kernel_rfl
theorem d_24 (m : M) (rd r1 r2 n : Int) : (evalF ED Try.prog 58 (argD 24 rd r1 r2 n) (hM m true true true) 1024).retH [0, 1, 2, 3, 4] =
  ix r2 (ix r1 (bx (gD (m.X r1.toNat) n) (bx (gU n) (setLf false rd (bif cm .lss (conv .u64 (m.X r1.toNat)) (conv .u64 n) then 1 else 0) { m with pc := ar .add .i64 m.pc 4 })))) := by kernel_rfl
theorem d_25 (m : M) (rd r1 r2 n : Int) : (evalF ED Try.prog 58 (argD 25 rd r1 r2 n) (hM m true true true) 1024).retH [0, 1, 2, 3, 4] =
  ix r2 (ix r1 (bx (gD (m.X r1.toNat) n) (bx (gU n) (setLf false rd (ar .xor .i64 (m.X r1.toNat) n) { m with pc := ar .add .i64 m.pc 4 })))) := by kernel_rfl
theorem d_26 (m : M) (rd r1 r2 n : Int) : (evalF ED Try.prog 58 (argD 26 rd r1 r2 n) (hM m true true true) 1024).retH [0, 1, 2, 3, 4] =
  ix r2 (ix r1 (bx (gD (m.X r1.toNat) n) (bx (gU n) (setLf false rd (ar .or .i64 (m.X r1.toNat) n) { m with pc := ar .add .i64 m.pc 4 })))) := by kernel_rfl
theorem d_27 (m : M) (rd r1 r2 n : Int) : (evalF ED Try.prog 58 (argD 27 rd r1 r2 n) (hM m true true true) 1024).retH [0, 1, 2, 3, 4] =
  ix r2 (ix r1 (bx (gD (m.X r1.toNat) n) (bx (gU n) (setLf false rd (ar .and .i64 (m.X r1.toNat) n) { m with pc := ar .add .i64 m.pc 4 })))) := by kernel_rfl
theorem d_28 (m : M) (rd r1 r2 n : Int) : (evalF ED Try.prog 58 (argD 28 rd r1 r2 n) (hM m true true true) 1024).retH [0, 1, 2, 3, 4] =
  ix r2 (ix r1 (bx (gD (m.X r1.toNat) n) (bx (gU n) (bx (decide (0 ≤ ar .and .u64 (conv .u64 n) 63)) (setLf false rd (ar .shl .i64 (m.X r1.toNat) (ar .and .u64 (conv .u64 n) 63)) { m with pc := ar .add .i64 m.pc 4 }))))) := by kernel_rfl
theorem d_29 (m : M) (rd r1 r2 n : Int) : (evalF ED Try.prog 58 (argD 29 rd r1 r2 n) (hM m true true true) 1024).retH [0, 1, 2, 3, 4] =
  ix r2 (ix r1 (bx (gD (m.X r1.toNat) n) (bx (gU n) (bx (decide (0 ≤ ar .and .u64 (conv .u64 n) 63)) (setLf false rd (conv .i64 (ar .shr .u64 (conv .u64 (m.X r1.toNat)) (ar .and .u64 (conv .u64 n) 63))) { m with pc := ar .add .i64 m.pc 4 }))))) := by kernel_rfl
theorem d_30 (m : M) (rd r1 r2 n : Int) : (evalF ED Try.prog 58 (argD 30 rd r1 r2 n) (hM m true true true) 1024).retH [0, 1, 2, 3, 4] =
  ix r2 (ix r1 (bx (gD (m.X r1.toNat) n) (bx (gU n) (bx (decide (0 ≤ ar .and .u64 (conv .u64 n) 63)) (setLf false rd (ar .shr .i64 (m.X r1.toNat) (ar .and .u64 (conv .u64 n) 63)) { m with pc := ar .add .i64 m.pc 4 }))))) := by kernel_rfl
theorem d_31 (m : M) (rd r1 r2 n : Int) : (evalF ED Try.prog 58 (argD 31 rd r1 r2 n) (hM m true true true) 1024).retH [0, 1, 2, 3, 4] =
  ix r2 (ix r1 (setLf false rd (conv .i64 (conv .i32 (ar .add .i64 (m.X r1.toNat) n))) { m with pc := ar .add .i64 m.pc 4 })) := by kernel_rfl
theorem d_32 (m : M) (rd r1 r2 n : Int) : (evalF ED Try.prog 58 (argD 32 rd r1 r2 n) (hM m true true true) 1024).retH [0, 1, 2, 3, 4] =
  ix r2 (ix r1 (bx (decide (0 ≤ ar .and .u64 (conv .u64 n) 31)) (setLf false rd (conv .i64 (conv .i32 (ar .shl .i64 (m.X r1.toNat) (ar .and .u64 (conv .u64 n) 31)))) { m with pc := ar .add .i64 m.pc 4 }))) := by kernel_rfl
theorem d_33 (m : M) (rd r1 r2 n : Int) : (evalF ED Try.prog 58 (argD 33 rd r1 r2 n) (hM m true true true) 1024).retH [0, 1, 2, 3, 4] =
  ix r2 (ix r1 (bx (decide (0 ≤ ar .and .u64 (conv .u64 n) 31)) (setLf false rd (conv .i64 (conv .i32 (ar .shr .i64 (conv .i64 (conv .u32 (m.X r1.toNat))) (ar .and .u64 (conv .u64 n) 31)))) { m with pc := ar .add .i64 m.pc 4 }))) := by kernel_rfl
theorem d_34 (m : M) (rd r1 r2 n : Int) : (evalF ED Try.prog 58 (argD 34 rd r1 r2 n) (hM m true true true) 1024).retH [0, 1, 2, 3, 4] =
  ix r2 (ix r1 (bx (decide (0 ≤ ar .and .u64 (conv .u64 n) 31)) (setLf false rd (ar .shr .i64 (conv .i64 (conv .i32 (m.X r1.toNat))) (ar .and .u64 (conv .u64 n) 31)) { m with pc := ar .add .i64 m.pc 4 }))) := by kernel_rfl
theorem d_35 (m : M) (rd r1 r2 n : Int) : (evalF ED Try.prog 58 (argD 35 rd r1 r2 n) (hM m true true true) 1024).retH [0, 1, 2, 3, 4] =
  ix r2 (ix r1 (bx (gD (m.X r1.toNat) (m.X r2.toNat)) (bx (gU (m.X r2.toNat)) (setLf false rd (ar .add .i64 (m.X r1.toNat) (m.X r2.toNat)) { m with pc := ar .add .i64 m.pc 4 })))) := by kernel_rfl
theorem d_36 (m : M) (rd r1 r2 n : Int) : (evalF ED Try.prog 58 (argD 36 rd r1 r2 n) (hM m true true true) 1024).retH [0, 1, 2, 3, 4] =
  ix r2 (ix r1 (bx (gD (m.X r1.toNat) (m.X r2.toNat)) (bx (gU (m.X r2.toNat)) (setLf false rd (ar .sub .i64 (m.X r1.toNat) (m.X r2.toNat)) { m with pc := ar .add .i64 m.pc 4 })))) := by kernel_rfl
theorem d_37 (m : M) (rd r1 r2 n : Int) : (evalF ED Try.prog 58 (argD 37 rd r1 r2 n) (hM m true true true) 1024).retH [0, 1, 2, 3, 4] =
  ix r2 (ix r1 (bx (gD (m.X r1.toNat) (m.X r2.toNat)) (bx (gU (m.X r2.toNat)) (bx (decide (0 ≤ ar .and .u64 (conv .u64 (m.X r2.toNat)) 63)) (setLf false rd (ar .shl .i64 (m.X r1.toNat) (ar .and .u64 (conv .u64 (m.X r2.toNat)) 63)) { m with pc := ar .add .i64 m.pc 4 }))))) := by kernel_rfl
theorem d_38 (m : M) (rd r1 r2 n : Int) : (evalF ED Try.prog 58 (argD 38 rd r1 r2 n) (hM m true true true) 1024).retH [0, 1, 2, 3, 4] =
  ix r2 (ix r1 (bx (gD (m.X r1.toNat) (m.X r2.toNat)) (bx (gU (m.X r2.toNat)) (setLf false rd (bif cm .lss (m.X r1.toNat) (m.X r2.toNat) then 1 else 0) { m with pc := ar .add .i64 m.pc 4 })))) := by kernel_rfl
theorem d_39 (m : M) (rd r1 r2 n : Int) : (evalF ED Try.prog 58 (argD 39 rd r1 r2 n) (hM m true true true) 1024).retH [0, 1, 2, 3, 4] =
  ix r2 (ix r1 (bx (gD (m.X r1.toNat) (m.X r2.toNat)) (bx (gU (m.X r2.toNat)) (setLf false rd (bif cm .lss (conv .u64 (m.X r1.toNat)) (conv .u64 (m.X r2.toNat)) then 1 else 0) { m with pc := ar .add .i64 m.pc 4 })))) := by kernel_rfl
theorem d_40 (m : M) (rd r1 r2 n : Int) : (evalF ED Try.prog 58 (argD 40 rd r1 r2 n) (hM m true true true) 1024).retH [0, 1, 2, 3, 4] =
  ix r2 (ix r1 (bx (gD (m.X r1.toNat) (m.X r2.toNat)) (bx (gU (m.X r2.toNat)) (setLf false rd (ar .xor .i64 (m.X r1.toNat) (m.X r2.toNat)) { m with pc := ar .add .i64 m.pc 4 })))) := by kernel_rfl

end Go.Rv
end

section
set_option linter.unusedVariables false
open Go Go.Ev Go.Proofs
namespace Go.Rv

theorem d_41 (m : M) (rd r1 r2 n : Int) : (evalF ED Try.prog 58 (argD 41 rd r1 r2 n) (hM m true true true) 1024).retH [0, 1, 2, 3, 4] =
  ix r2 (ix r1 (bx (gD (m.X r1.toNat) (m.X r2.toNat)) (bx (gU (m.X r2.toNat)) (bx (decide (0 ≤ ar .and .u64 (conv .u64 (m.X r2.toNat)) 63)) (setLf false rd (conv .i64 (ar .shr .u64 (conv .u64 (m.X r1.toNat)) (ar .and .u64 (conv .u64 (m.X r2.toNat)) 63))) { m with pc := ar .add .i64 m.pc 4 }))))) := by kernel_rfl
theorem d_42 (m : M) (rd r1 r2 n : Int) : (evalF ED Try.prog 58 (argD 42 rd r1 r2 n) (hM m true true true) 1024).retH [0, 1, 2, 3, 4] =
  ix r2 (ix r1 (bx (gD (m.X r1.toNat) (m.X r2.toNat)) (bx (gU (m.X r2.toNat)) (bx (decide (0 ≤ ar .and .u64 (conv .u64 (m.X r2.toNat)) 63)) (setLf false rd (ar .shr .i64 (m.X r1.toNat) (ar .and .u64 (conv .u64 (m.X r2.toNat)) 63)) { m with pc := ar .add .i64 m.pc 4 }))))) := by kernel_rfl
theorem d_43 (m : M) (rd r1 r2 n : Int) : (evalF ED Try.prog 58 (argD 43 rd r1 r2 n) (hM m true true true) 1024).retH [0, 1, 2, 3, 4] =
  ix r2 (ix r1 (bx (gD (m.X r1.toNat) (m.X r2.toNat)) (bx (gU (m.X r2.toNat)) (setLf false rd (ar .or .i64 (m.X r1.toNat) (m.X r2.toNat)) { m with pc := ar .add .i64 m.pc 4 })))) := by kernel_rfl
theorem d_44 (m : M) (rd r1 r2 n : Int) : (evalF ED Try.prog 58 (argD 44 rd r1 r2 n) (hM m true true true) 1024).retH [0, 1, 2, 3, 4] =
  ix r2 (ix r1 (bx (gD (m.X r1.toNat) (m.X r2.toNat)) (bx (gU (m.X r2.toNat)) (setLf false rd (ar .and .i64 (m.X r1.toNat) (m.X r2.toNat)) { m with pc := ar .add .i64 m.pc 4 })))) := by kernel_rfl
theorem d_45 (m : M) (rd r1 r2 n : Int) : (evalF ED Try.prog 58 (argD 45 rd r1 r2 n) (hM m true true true) 1024).retH [0, 1, 2, 3, 4] =
  ix r2 (ix r1 (bx (gD (m.X r1.toNat) (m.X r2.toNat)) (bx (gU (m.X r2.toNat)) (setLf false rd (ar .mul .i64 (m.X r1.toNat) (m.X r2.toNat)) { m with pc := ar .add .i64 m.pc 4 })))) := by kernel_rfl
theorem d_46 (m : M) (rd r1 r2 n : Int) : (evalF ED Try.prog 58 (argD 46 rd r1 r2 n) (hM m true true true) 1024).retH [0, 1, 2, 3, 4] =
  ix r2 (ix r1 (setLf false rd (bif cm .lss (m.X r1.toNat) 0 then bif cm .lss (m.X r2.toNat) 0 then conv .i64 (ar .sub .u64 (ar .sub .u64 (hiD (m.X r1.toNat) (m.X r2.toNat)) (conv .u64 (m.X r2.toNat))) (conv .u64 (m.X r1.toNat))) else conv .i64 (ar .sub .u64 (hiD (m.X r1.toNat) (m.X r2.toNat)) (conv .u64 (m.X r2.toNat))) else bif cm .lss (m.X r2.toNat) 0 then conv .i64 (ar .sub .u64 (hiD (m.X r1.toNat) (m.X r2.toNat)) (conv .u64 (m.X r1.toNat))) else conv .i64 (hiD (m.X r1.toNat) (m.X r2.toNat))) { m with pc := ar .add .i64 m.pc 4 })) := by kernel_rfl
theorem d_47 (m : M) (rd r1 r2 n : Int) : (evalF ED Try.prog 58 (argD 47 rd r1 r2 n) (hM m true true true) 1024).retH [0, 1, 2, 3, 4] =
  ix r2 (ix r1 (setLf false rd (bif cm .lss (m.X r1.toNat) 0 then conv .i64 (ar .sub .u64 (hiD (m.X r1.toNat) (m.X r2.toNat)) (conv .u64 (m.X r2.toNat))) else conv .i64 (hiD (m.X r1.toNat) (m.X r2.toNat))) { m with pc := ar .add .i64 m.pc 4 })) := by kernel_rfl
theorem d_48 (m : M) (rd r1 r2 n : Int) : (evalF ED Try.prog 58 (argD 48 rd r1 r2 n) (hM m true true true) 1024).retH [0, 1, 2, 3, 4] =
  ix r2 (ix r1 (setLf false rd (conv .i64 (hiD (m.X r1.toNat) (m.X r2.toNat))) { m with pc := ar .add .i64 m.pc 4 })) := by kernel_rfl
theorem d_49 (m : M) (rd r1 r2 n : Int) : (evalF ED Try.prog 58 (argD 49 rd r1 r2 n) (hM m true true true) 1024).retH [0, 1, 2, 3, 4] =
  ix r2 (ix r1 (bx (gD (m.X r1.toNat) (m.X r2.toNat)) (bx (gU (m.X r2.toNat)) (setLf false rd (bif cm .eql (m.X r2.toNat) 0 then -1 else bif bif cm .eql (m.X r1.toNat) (-9223372036854775808) then cm .eql (m.X r2.toNat) (-1) else false then m.X r1.toNat else ar .quo .i64 (m.X r1.toNat) (m.X r2.toNat)) { m with pc := ar .add .i64 m.pc 4 })))) := by kernel_rfl
theorem d_50 (m : M) (rd r1 r2 n : Int) : (evalF ED Try.prog 58 (argD 50 rd r1 r2 n) (hM m true true true) 1024).retH [0, 1, 2, 3, 4] =
  ix r2 (ix r1 (bx (gD (m.X r1.toNat) (m.X r2.toNat)) (bx (gU (m.X r2.toNat)) (setLf false rd (bif cm .eql (conv .u64 (m.X r2.toNat)) 0 then -1 else conv .i64 (ar .quo .u64 (conv .u64 (m.X r1.toNat)) (conv .u64 (m.X r2.toNat)))) { m with pc := ar .add .i64 m.pc 4 })))) := by kernel_rfl
theorem d_51 (m : M) (rd r1 r2 n : Int) : (evalF ED Try.prog 58 (argD 51 rd r1 r2 n) (hM m true true true) 1024).retH [0, 1, 2, 3, 4] =
  ix r2 (ix r1 (bx (gD (m.X r1.toNat) (m.X r2.toNat)) (bx (gU (m.X r2.toNat)) (setLf false rd (bif cm .eql (m.X r2.toNat) 0 then m.X r1.toNat else bif bif cm .eql (m.X r1.toNat) (-9223372036854775808) then cm .eql (m.X r2.toNat) (-1) else false then 0 else ar .rem .i64 (m.X r1.toNat) (m.X r2.toNat)) { m with pc := ar .add .i64 m.pc 4 })))) := by kernel_rfl
theorem d_52 (m : M) (rd r1 r2 n : Int) : (evalF ED Try.prog 58 (argD 52 rd r1 r2 n) (hM m true true true) 1024).retH [0, 1, 2, 3, 4] =
  ix r2 (ix r1 (bx (gD (m.X r1.toNat) (m.X r2.toNat)) (bx (gU (m.X r2.toNat)) (setLf false rd (bif cm .eql (conv .u64 (m.X r2.toNat)) 0 then conv .i64 (conv .u64 (m.X r1.toNat)) else conv .i64 (ar .rem .u64 (conv .u64 (m.X r1.toNat)) (conv .u64 (m.X r2.toNat)))) { m with pc := ar .add .i64 m.pc 4 })))) := by kernel_rfl

end Go.Rv
end

section
set_option linter.unusedVariables false
open Go Go.Ev Go.Proofs
namespace Go.Rv

theorem d_53 (m : M) (rd r1 r2 n : Int) : (evalF ED Try.prog 58 (argD 53 rd r1 r2 n) (hM m true true true) 1024).retH [0, 1, 2, 3, 4] =
  ix r2 (ix r1 (setLf false rd (conv .i64 (conv .i32 (ar .add .i64 (m.X r1.toNat) (m.X r2.toNat)))) { m with pc := ar .add .i64 m.pc 4 })) := by kernel_rfl
theorem d_54 (m : M) (rd r1 r2 n : Int) : (evalF ED Try.prog 58 (argD 54 rd r1 r2 n) (hM m true true true) 1024).retH [0, 1, 2, 3, 4] =
  ix r2 (ix r1 (setLf false rd (conv .i64 (conv .i32 (ar .sub .i64 (m.X r1.toNat) (m.X r2.toNat)))) { m with pc := ar .add .i64 m.pc 4 })) := by kernel_rfl
theorem d_55 (m : M) (rd r1 r2 n : Int) : (evalF ED Try.prog 58 (argD 55 rd r1 r2 n) (hM m true true true) 1024).retH [0, 1, 2, 3, 4] =
  ix r2 (ix r1 (bx (decide (0 ≤ ar .and .u64 (conv .u64 (m.X r2.toNat)) 31)) (setLf false rd (conv .i64 (conv .i32 (ar .shl .i64 (m.X r1.toNat) (ar .and .u64 (conv .u64 (m.X r2.toNat)) 31)))) { m with pc := ar .add .i64 m.pc 4 }))) := by kernel_rfl
theorem d_56 (m : M) (rd r1 r2 n : Int) : (evalF ED Try.prog 58 (argD 56 rd r1 r2 n) (hM m true true true) 1024).retH [0, 1, 2, 3, 4] =
  ix r2 (ix r1 (bx (decide (0 ≤ ar .and .u64 (conv .u64 (m.X r2.toNat)) 31)) (setLf false rd (conv .i64 (conv .i32 (ar .shr .i64 (conv .i64 (conv .u32 (m.X r1.toNat))) (ar .and .u64 (conv .u64 (m.X r2.toNat)) 31)))) { m with pc := ar .add .i64 m.pc 4 }))) := by kernel_rfl
theorem d_57 (m : M) (rd r1 r2 n : Int) : (evalF ED Try.prog 58 (argD 57 rd r1 r2 n) (hM m true true true) 1024).retH [0, 1, 2, 3, 4] =
  ix r2 (ix r1 (bx (decide (0 ≤ ar .and .u64 (conv .u64 (m.X r2.toNat)) 31)) (setLf false rd (ar .shr .i64 (conv .i64 (conv .i32 (m.X r1.toNat))) (ar .and .u64 (conv .u64 (m.X r2.toNat)) 31)) { m with pc := ar .add .i64 m.pc 4 }))) := by kernel_rfl
theorem d_58 (m : M) (rd r1 r2 n : Int) : (evalF ED Try.prog 58 (argD 58 rd r1 r2 n) (hM m true true true) 1024).retH [0, 1, 2, 3, 4] =
  ix r2 (ix r1 (setLf false rd (conv .i64 (conv .i32 (ar .mul .i64 (m.X r1.toNat) (m.X r2.toNat)))) { m with pc := ar .add .i64 m.pc 4 })) := by kernel_rfl
theorem d_59 (m : M) (rd r1 r2 n : Int) : (evalF ED Try.prog 58 (argD 59 rd r1 r2 n) (hM m true true true) 1024).retH [0, 1, 2, 3, 4] =
  ix r2 (ix r1 (bx (gD (conv .i64 (conv .i32 (m.X r1.toNat))) (conv .i64 (conv .i32 (m.X r2.toNat)))) (bx (gU (conv .i64 (conv .i32 (m.X r2.toNat)))) (setLf false rd (conv .i64 (conv .i32 (bif cm .eql (conv .i64 (conv .i32 (m.X r2.toNat))) 0 then -1 else bif bif cm .eql (conv .i64 (conv .i32 (m.X r1.toNat))) (-9223372036854775808) then cm .eql (conv .i64 (conv .i32 (m.X r2.toNat))) (-1) else false then conv .i64 (conv .i32 (m.X r1.toNat)) else ar .quo .i64 (conv .i64 (conv .i32 (m.X r1.toNat))) (conv .i64 (conv .i32 (m.X r2.toNat)))))) { m with pc := ar .add .i64 m.pc 4 })))) := by kernel_rfl
theorem d_60 (m : M) (rd r1 r2 n : Int) : (evalF ED Try.prog 58 (argD 60 rd r1 r2 n) (hM m true true true) 1024).retH [0, 1, 2, 3, 4] =
  ix r2 (ix r1 (bx (gD (conv .i64 (conv .u32 (m.X r1.toNat))) (conv .i64 (conv .u32 (m.X r2.toNat)))) (bx (gU (conv .i64 (conv .u32 (m.X r2.toNat)))) (setLf false rd (conv .i64 (conv .i32 (bif cm .eql (conv .u64 (conv .i64 (conv .u32 (m.X r2.toNat)))) 0 then -1 else conv .i64 (ar .quo .u64 (conv .u64 (conv .i64 (conv .u32 (m.X r1.toNat)))) (conv .u64 (conv .i64 (conv .u32 (m.X r2.toNat)))))))) { m with pc := ar .add .i64 m.pc 4 })))) := by kernel_rfl
theorem d_61 (m : M) (rd r1 r2 n : Int) : (evalF ED Try.prog 58 (argD 61 rd r1 r2 n) (hM m true true true) 1024).retH [0, 1, 2, 3, 4] =
  ix r2 (ix r1 (bx (gD (conv .i64 (conv .i32 (m.X r1.toNat))) (conv .i64 (conv .i32 (m.X r2.toNat)))) (bx (gU (conv .i64 (conv .i32 (m.X r2.toNat)))) (setLf false rd (conv .i64 (conv .i32 (bif cm .eql (conv .i64 (conv .i32 (m.X r2.toNat))) 0 then conv .i64 (conv .i32 (m.X r1.toNat)) else bif bif cm .eql (conv .i64 (conv .i32 (m.X r1.toNat))) (-9223372036854775808) then cm .eql (conv .i64 (conv .i32 (m.X r2.toNat))) (-1) else false then 0 else ar .rem .i64 (conv .i64 (conv .i32 (m.X r1.toNat))) (conv .i64 (conv .i32 (m.X r2.toNat)))))) { m with pc := ar .add .i64 m.pc 4 })))) := by kernel_rfl
theorem d_62 (m : M) (rd r1 r2 n : Int) : (evalF ED Try.prog 58 (argD 62 rd r1 r2 n) (hM m true true true) 1024).retH [0, 1, 2, 3, 4] =
  ix r2 (ix r1 (bx (gD (conv .i64 (conv .u32 (m.X r1.toNat))) (conv .i64 (conv .u32 (m.X r2.toNat)))) (bx (gU (conv .i64 (conv .u32 (m.X r2.toNat)))) (setLf false rd (conv .i64 (conv .i32 (bif cm .eql (conv .u64 (conv .i64 (conv .u32 (m.X r2.toNat)))) 0 then conv .i64 (conv .u64 (conv .i64 (conv .u32 (m.X r1.toNat)))) else conv .i64 (ar .rem .u64 (conv .u64 (conv .i64 (conv .u32 (m.X r1.toNat)))) (conv .u64 (conv .i64 (conv .u32 (m.X r2.toNat)))))))) { m with pc := ar .add .i64 m.pc 4 })))) := by kernel_rfl
theorem d_63 (m : M) (rd r1 r2 n : Int) : (evalF ED Try.prog 58 (argD 63 rd r1 r2 n) (hM m true true true) 1024).retH [0, 1, 2, 3, 4, 1776] =
  bif cm .eql (m.X 17) 1 then outG m (outLf 1776 (m.X 10) (nx m)) else bif cm .eql (m.X 17) 2 then (bif cm .eql (m.nI : Int) 0 then retK false { m with pc := ar .add .i64 m.pc 4, X := upd m.X 10 0 } else inG m (inLf 1776 { m with pc := ar .add .i64 m.pc 4, X := upd m.X 10 (m.inp 0) })) else bif cm .eql (m.X 17) 3 then retK true { m with kind := 1, code := m.X 10 } else retK true { m with kind := 5 } := by kernel_rfl

end Go.Rv
end

section
set_option linter.unusedVariables false
open Go Go.Ev Go.Proofs
namespace Go.Rv

theorem wrap_i8' (n : Int) : IntKind.i8.wrap n = (n + 128) % 256 - 128 := by
  simp [IntKind.wrap, IntKind.bits, IntKind.signed]
  split <;> omega
theorem wrap_i16' (n : Int) : IntKind.i16.wrap n = (n + 32768) % 65536 - 32768 := by
  simp [IntKind.wrap, IntKind.bits, IntKind.signed]
  split <;> omega

def inR (x : Int) : Prop := -9223372036854775808 ≤ x ∧ x < 9223372036854775808

theorem ag1 (n : Int) : conv .i64 (conv .i32 (ar .shl .u32 (conv .u32 n) 12)) = conv .i64 (conv .i32 (ar .shl .i64 n 12)) := by
  simp only [ar, conv, IntKind.wrap_i64, IntKind.wrap_i32, IntKind.wrap_u32, show min (Int.toNat 12) IntKind.u32.bits = 12 from rfl, show min (Int.toNat 12) IntKind.i64.bits = 12 from rfl, show (2 : Int) ^ 12 = 4096 from rfl]
  omega

theorem and_in (x : Int) (n : Nat) (hn : n < 18446744073709551616) : 0 ≤ ar .and .u64 x (n : Int) ∧ ar .and .u64 x (n : Int) ≤ n := by
  simp only [ar]
  have h : (BitVec.ofInt IntKind.u64.bits x &&& BitVec.ofInt IntKind.u64.bits (n : Int)).toNat ≤ n := by
    rw [BitVec.toNat_and]
    refine Nat.le_trans Nat.and_le_right ?_
    rw [show BitVec.ofInt IntKind.u64.bits (n : Int) = BitVec.ofNat IntKind.u64.bits n from BitVec.ofInt_natCast .., BitVec.toNat_ofNat]
    exact Nat.mod_le _ _
  generalize (BitVec.ofInt IntKind.u64.bits x &&& BitVec.ofInt IntKind.u64.bits (n : Int)).toNat = z at h
  rw [IntKind.wrap_u64]
  omega
theorem and31 (x : Int) : 0 ≤ ar .and .u64 x 31 ∧ ar .and .u64 x 31 ≤ 31 := and_in x 31 (by decide)
theorem and63 (x : Int) : 0 ≤ ar .and .u64 x 63 ∧ ar .and .u64 x 63 ≤ 63 := and_in x 63 (by decide)

theorem pow_pos' (n : Nat) : (1 : Int) ≤ 2 ^ n := by
  have : (0 : Int) < 2 ^ n := Int.pow_pos (by decide)
  omega

theorem ag32 (a s : Int) (h0 : 0 ≤ s) (h1 : s ≤ 31) : conv .i64 (conv .i32 (ar .shl .i64 a s)) = conv .i64 (ar .shl .i32 (conv .i32 a) s) := by
  obtain ⟨k, rfl⟩ : ∃ k : Nat, s = k := ⟨s.toNat, by omega⟩
  simp only [ar, conv, Int.toNat_natCast, show min k IntKind.i64.bits = k from Nat.min_eq_left (by show k ≤ 64; omega), show min k IntKind.i32.bits = k from Nat.min_eq_left (by show k ≤ 32; omega)]
  congr 1
  generalize hp : (2 : Int) ^ k = p
  obtain ⟨q, hq⟩ : ∃ q, IntKind.i32.wrap a = a + 4294967296 * q := ⟨(IntKind.i32.wrap a - a) / 4294967296, by simp only [IntKind.wrap_i32]; omega⟩
  rw [hq, show (a + 4294967296 * q) * p = a * p + 4294967296 * (q * p) by rw [Int.add_mul, Int.mul_assoc]]
  generalize a * p = x
  generalize q * p = y
  simp only [IntKind.wrap_i64, IntKind.wrap_i32]
  omega

theorem ag33 (a s : Int) (h0 : 0 ≤ s) (h1 : s ≤ 31) : ar .shr .i64 (conv .i64 (conv .u32 a)) s = ar .shr .u32 (conv .u32 a) s := by
  obtain ⟨k, rfl⟩ : ∃ k : Nat, s = k := ⟨s.toNat, by omega⟩
  simp only [ar, conv, Int.toNat_natCast, show min k IntKind.i64.bits = k from Nat.min_eq_left (by show k ≤ 64; omega), show min k IntKind.u32.bits = k from Nat.min_eq_left (by show k ≤ 32; omega)]
  congr 1
  simp only [IntKind.wrap_i64, IntKind.wrap_u32]
  omega

theorem ag34 (a s : Int) (h0 : 0 ≤ s) (h1 : s ≤ 31) : ar .shr .i64 (conv .i64 (conv .i32 a)) s = conv .i64 (ar .shr .i32 (conv .i32 a) s) := by
  obtain ⟨k, rfl⟩ : ∃ k : Nat, s = k := ⟨s.toNat, by omega⟩
  simp only [ar, conv, Int.toNat_natCast, show min k IntKind.i64.bits = k from Nat.min_eq_left (by show k ≤ 64; omega), show min k IntKind.i32.bits = k from Nat.min_eq_left (by show k ≤ 32; omega)]
  have hx : IntKind.i64.wrap (IntKind.i32.wrap a) = IntKind.i32.wrap a := by simp only [IntKind.wrap_i64, IntKind.wrap_i32]; omega
  rw [hx]
  have h3 : -2147483648 ≤ IntKind.i32.wrap a ∧ IntKind.i32.wrap a < 2147483648 := by simp only [IntKind.wrap_i32]; omega
  generalize IntKind.i32.wrap a = x at h3
  have hp := pow_pos' k
  generalize (2 : Int) ^ k = p at hp
  rw [Int.fdiv_eq_ediv_of_nonneg _ (by omega)]
  have e1 : -2147483648 ≤ x / p := by
    refine Int.le_ediv_of_mul_le (by omega) ?_
    have : (-2147483648 : Int) * p ≤ -2147483648 * 1 := Int.mul_le_mul_of_nonpos_left (by decide) hp
    omega
  have e2 : x / p < 2147483648 := by
    refine Int.ediv_lt_of_lt_mul (by omega) ?_
    have : (2147483648 : Int) * 1 ≤ 2147483648 * p := Int.mul_le_mul_of_nonneg_left hp (by decide)
    omega
  generalize x / p = z at e1 e2
  simp only [IntKind.wrap_i64]
  omega

theorem ag11 (x : Int) (h0 : 0 ≤ x) (h1 : x < 256) : ar .shr .i64 (conv .i64 (ar .shl .u64 x 56)) 56 = conv .i64 (conv .i8 x) := by
  simp only [ar, conv, IntKind.wrap_i64, wrap_i8', IntKind.wrap_u64, show min (Int.toNat 56) IntKind.u64.bits = 56 from rfl, show min (Int.toNat 56) IntKind.i64.bits = 56 from rfl, show (2 : Int) ^ 56 = 72057594037927936 from rfl]
  rw [Int.fdiv_eq_ediv_of_nonneg _ (by decide)]
  omega
theorem ag12 (x : Int) (h0 : 0 ≤ x) (h1 : x < 65536) : ar .shr .i64 (conv .i64 (ar .shl .u64 x 48)) 48 = conv .i64 (conv .i16 x) := by
  simp only [ar, conv, IntKind.wrap_i64, wrap_i16', IntKind.wrap_u64, show min (Int.toNat 48) IntKind.u64.bits = 48 from rfl, show min (Int.toNat 48) IntKind.i64.bits = 48 from rfl, show (2 : Int) ^ 48 = 281474976710656 from rfl]
  rw [Int.fdiv_eq_ediv_of_nonneg _ (by decide)]
  omega
theorem ag13 (x : Int) (h0 : 0 ≤ x) (h1 : x < 4294967296) : ar .shr .i64 (conv .i64 (ar .shl .u64 x 32)) 32 = conv .i64 (conv .i32 x) := by
  simp only [ar, conv, IntKind.wrap_i64, IntKind.wrap_i32, IntKind.wrap_u64, show min (Int.toNat 32) IntKind.u64.bits = 32 from rfl, show min (Int.toNat 32) IntKind.i64.bits = 32 from rfl, show (2 : Int) ^ 32 = 4294967296 from rfl]
  rw [Int.fdiv_eq_ediv_of_nonneg _ (by decide)]
  omega
theorem ag14 (x : Int) (h0 : 0 ≤ x) (h1 : x < 18446744073709551616) : ar .shr .i64 (conv .i64 (ar .shl .u64 x 0)) 0 = conv .i64 x := by
  simp only [ar, conv, IntKind.wrap_i64, IntKind.wrap_u64, show min (Int.toNat 0) IntKind.u64.bits = 0 from rfl, show min (Int.toNat 0) IntKind.i64.bits = 0 from rfl, show (2 : Int) ^ 0 = 1 from rfl]
  rw [Int.fdiv_eq_ediv_of_nonneg _ (by decide)]
  omega

theorem add_comm' (k : IntKind) (x y : Int) : ar .add k x y = ar .add k y x := by simp only [ar, Int.add_comm]
theorem hi_same (a b : Int) : hiD a b = hiR a b := by
  simp only [hiD, hiR]
  congr 2
  exact add_comm' _ _ _

theorem conv_u0 {b : Int} (h : inR b) : cm .eql (conv .u64 b) 0 = cm .eql b 0 := by
  have hb : (conv .u64 b == 0) = (b == 0) := by
    rw [Bool.eq_iff_iff]
    simp only [beq_iff_eq, conv, IntKind.wrap_u64]
    unfold inR at h
    omega
  exact hb
theorem conv_back {a : Int} (h : inR a) : conv .i64 (conv .u64 a) = a := by
  simp only [conv, IntKind.wrap_u64, IntKind.wrap_i64]; unfold inR at h; omega
theorem inR_i32 (x : Int) : inR (conv .i64 (conv .i32 x)) := by simp only [inR, conv, IntKind.wrap_i32, IntKind.wrap_i64]; omega
theorem inR_u32 (x : Int) : inR (conv .i64 (conv .u32 x)) := by simp only [inR, conv, IntKind.wrap_u32, IntKind.wrap_i64]; omega

theorem swap_and {α : Type} (p q : Bool) (x y : α) : (bif (bif p then q else false) then x else y) = (bif (bif q then p else false) then x else y) := by
  cases p <;> cases q <;> rfl
theorem rem_m1 (a : Int) : ar .rem .i64 a (-1) = 0 := by simp [ar]
theorem rem_same (a b : Int) : (bif (bif cm .eql a (-9223372036854775808) then cm .eql b (-1) else false) then 0 else ar .rem .i64 a b) = (bif cm .eql b (-1) then 0 else ar .rem .i64 a b) := by
  cases h : cm .eql b (-1) with
  | true =>
    have : b = -1 := by simpa [cm] using h
    subst this
    rw [rem_m1]
    cases cm .eql a (-9223372036854775808) <;> rfl
  | false => cases cm .eql a (-9223372036854775808) <;> rfl

theorem gD_true (a b : Int) : gD a b = true := by
  simp only [gD, cm, mergeB, allB]
  cases h : b == 0 with
  | true => rfl
  | false =>
    have : (b != 0) = true := by simp [bne, h]
    simp only [this]
    cases (bif a == -9223372036854775808 then b == -1 else false) <;> rfl
theorem gU_true (b : Int) : gU b = true := by
  simp only [gU, cm, allB]
  cases h : conv .u64 b == 0 with
  | true => rfl
  | false =>
    have : (conv .u64 b != 0) = true := by simp [bne, h]
    simp only [this]
    rfl

end Go.Rv
end

section
set_option linter.unusedVariables false
open Go Go.Ev Go.Proofs
namespace Go.Rv

/-- a machine that has changed: what comes in and goes out may have new names -/
def outM (nn : List Bool) (m : M) : R := ⟨nn, .tup [], [(0, .cells (cpuL m 1 2 1024 1025)), (1, .tab 32 [.ints .i64 m.X] true), (2, .tab 196608 [.ints .u8 m.mem] true), (1024, .tab m.nI [.ints .i64 m.inp] false), (1025, .tab m.nO [.ints .i64 m.out] true), (4, .dead), (3, .dead)]⟩

theorem retK_gives {nn : List Bool} {l : Bool} {m m' : M} (h : m' = m) : GivesD (outM nn m') (retK l m) := by
  subst h
  refine ⟨[(1024, .old 3), (1025, .old 4)], rfl, fun σ => by simp only [outM, den, denL], ?_, rfl⟩
  simp [outM, hK, wkH, cpuL, rmap, rlook, Ev.look, wkB, simL, sim, wkCs, wkC]

theorem outLf_gives {nn : List Bool} {N : Nat} {v : Int} {m m' : M} (hN : N = 1776 ∨ N = 3568) (h : m' = { m with nO := m.nO + 1, out := cat m.nO m.out (nth [v] 0) }) : GivesD (outM nn m') (outLf N v m) := by
  subst h
  rcases hN with rfl | rfl
  · refine ⟨[(1024, .old 3), (1025, .old 1776)], rfl, fun σ => by simp only [outM, den, denL], ?_, rfl⟩
    simp [outM, wkH, cpuL, rmap, rlook, Ev.look, wkB, simL, sim, wkCs, wkC]
  · refine ⟨[(1024, .old 3), (1025, .old 3568)], rfl, fun σ => by simp only [outM, den, denL], ?_, rfl⟩
    simp [outM, wkH, cpuL, rmap, rlook, Ev.look, wkB, simL, sim, wkCs, wkC]

theorem inLf_gives {nn : List Bool} {N : Nat} {m m' : M} (hN : N = 1776 ∨ N = 3568) (h : m' = { m with nI := m.nI - 1, inp := from_ 1 m.inp }) : GivesD (outM nn m') (inLf N m) := by
  subst h
  rcases hN with rfl | rfl
  · refine ⟨[(1024, .old 1776), (1025, .old 4)], rfl, fun σ => by simp only [outM, den, denL], ?_, rfl⟩
    simp [outM, wkH, cpuL, rmap, rlook, Ev.look, wkB, simL, sim, wkCs, wkC]
  · refine ⟨[(1024, .old 3568), (1025, .old 4)], rfl, fun σ => by simp only [outM, den, denL], ?_, rfl⟩
    simp [outM, wkH, cpuL, rmap, rlook, Ev.look, wkB, simL, sim, wkCs, wkC]

theorem bx_true {b : Bool} (h : b = true) (x : Lf) : bx b x = x := by subst h; rfl
theorem ix_ok {r : Int} (h : 0 ≤ r ∧ r < 32) (x : Lf) : ix r x = x := by
  have e : Nat.blt r.toNat 32 = true := by rw [Nat.blt_eq]; omega
  simp only [ix, bx, decide_eq_true h.1, decide_eq_true h.2, e, cond_true]

theorem setLf_gives {nn : List Bool} {l : Bool} {rd v v' : Int} {m m'' : M} (hr : 0 ≤ rd ∧ rd < 32) (hv : v = v') (h : m'' = setM rd v' m) : GivesD (outM nn m'') (setLf l rd v m) := by
  subst hv h
  unfold setLf setM
  rw [ix_ok hr]
  cases cm .neq rd 0 with
  | true => exact retK_gives rfl
  | false => exact retK_gives rfl

theorem setLf_zero {l : Bool} {v : Int} {m : M} : setLf l 0 v m = retK l m := rfl

/-- the registers of an instruction; what its machine holds -/
structure Good (rd r1 r2 : Int) (m : M) : Prop where
  d : 0 ≤ rd ∧ rd < 32
  a : 0 ≤ r1 ∧ r1 < 32
  b : 0 ≤ r2 ∧ r2 < 32
  X : ∀ r, inR (m.X r)
  mem : ∀ r, 0 ≤ m.mem r ∧ m.mem r < 256
  nO : m.nO < 1000000

end Go.Rv
end

section
set_option linter.unusedVariables false
open Go Go.Ev Go.Proofs
namespace Go.Rv

theorem bxT (x : Lf) : bx true x = x := rfl
theorem and63b (x : Int) : decide (0 ≤ ar .and .u64 x 63) = true := decide_eq_true (and63 x).1
theorem and31b (x : Int) : decide (0 ≤ ar .and .u64 x 31) = true := decide_eq_true (and31 x).1
theorem xX_in {rd r1 r2 : Int} {m : M} (h : Good rd r1 r2 m) (A : Int) (s : Nat) : 0 ≤ xX m A s ∧ xX m A s < (2 ^ (8 * s) : Nat) := by
  unfold xX
  have hp : 0 < 2 ^ (8 * s) := Nat.two_pow_pos _
  cases decide (accX A s = 0) with
  | true =>
    simp only [cond_true, loadX]
    have := natB_lt (f := fun j => m.mem (ixX A j)) (fun j => h.mem _) s
    omega
  | false => simp only [cond_false]; omega

attribute [local irreducible] evalF Tr.retH Tr.leaf

theorem dg_1 {rd r1 r2 : Int} {m : M} (h : Good rd r1 r2 m) (nn : List Bool) (n : Int) : GivesD (outM nn (exec 1 rd r1 r2 n m)) ((evalF ED Try.prog 58 (argD 1 rd r1 r2 n) (hM m true true true) 1024).leaf) := by
  refine gives_retH _ (d_1 m rd r1 r2 n) ?_
  try simp only [ix_ok h.a, ix_ok h.b, gD_true, gU_true, bxT, Nat.beq_refl, byteB_iff.2 h.mem, and63b, and31b]
  exact setLf_gives h.d (ag1 n) rfl
theorem dg_2 {rd r1 r2 : Int} {m : M} (h : Good rd r1 r2 m) (nn : List Bool) (n : Int) : GivesD (outM nn (exec 2 rd r1 r2 n m)) ((evalF ED Try.prog 58 (argD 2 rd r1 r2 n) (hM m true true true) 1024).leaf) := by
  refine gives_retH _ (d_2 m rd r1 r2 n) ?_
  try simp only [ix_ok h.a, ix_ok h.b, gD_true, gU_true, bxT, Nat.beq_refl, byteB_iff.2 h.mem, and63b, and31b]
  exact setLf_gives h.d (congrArg (ar .add .i64 m.pc) (ag1 n)) rfl
theorem dg_3 {rd r1 r2 : Int} {m : M} (h : Good rd r1 r2 m) (nn : List Bool) (n : Int) : GivesD (outM nn (exec 3 rd r1 r2 n m)) ((evalF ED Try.prog 58 (argD 3 rd r1 r2 n) (hM m true true true) 1024).leaf) := by
  refine gives_retH _ (d_3 m rd r1 r2 n) ?_
  try simp only [ix_ok h.a, ix_ok h.b, gD_true, gU_true, bxT, Nat.beq_refl, byteB_iff.2 h.mem, and63b, and31b]
  exact setLf_gives h.d rfl rfl
theorem dg_4 {rd r1 r2 : Int} {m : M} (h : Good rd r1 r2 m) (nn : List Bool) (n : Int) : GivesD (outM nn (exec 4 rd r1 r2 n m)) ((evalF ED Try.prog 58 (argD 4 rd r1 r2 n) (hM m true true true) 1024).leaf) := by
  refine gives_retH _ (d_4 m rd r1 r2 n) ?_
  try simp only [ix_ok h.a, ix_ok h.b, gD_true, gU_true, bxT, Nat.beq_refl, byteB_iff.2 h.mem, and63b, and31b]
  exact setLf_gives h.d rfl rfl
theorem dg_5 {rd r1 r2 : Int} {m : M} (h : Good rd r1 r2 m) (nn : List Bool) (n : Int) : GivesD (outM nn (exec 5 rd r1 r2 n m)) ((evalF ED Try.prog 58 (argD 5 rd r1 r2 n) (hM m true true true) 1024).leaf) := by
  refine gives_retH _ (d_5 m rd r1 r2 n) ?_
  try simp only [ix_ok h.a, ix_ok h.b, gD_true, gU_true, bxT, Nat.beq_refl, byteB_iff.2 h.mem, and63b, and31b]
  exact GivesD_cond (fun hc => retK_gives (by show ({ m with pc := ar .add .i64 m.pc (bif tkn 5 (m.X r1.toNat) (m.X r2.toNat) then n else 4) } : M) = _; rw [show tkn 5 (m.X r1.toNat) (m.X r2.toNat) = true from hc]; rfl)) (fun hc => retK_gives (by show ({ m with pc := ar .add .i64 m.pc (bif tkn 5 (m.X r1.toNat) (m.X r2.toNat) then n else 4) } : M) = _; rw [show tkn 5 (m.X r1.toNat) (m.X r2.toNat) = false from hc]; rfl))
theorem dg_6 {rd r1 r2 : Int} {m : M} (h : Good rd r1 r2 m) (nn : List Bool) (n : Int) : GivesD (outM nn (exec 6 rd r1 r2 n m)) ((evalF ED Try.prog 58 (argD 6 rd r1 r2 n) (hM m true true true) 1024).leaf) := by
  refine gives_retH _ (d_6 m rd r1 r2 n) ?_
  try simp only [ix_ok h.a, ix_ok h.b, gD_true, gU_true, bxT, Nat.beq_refl, byteB_iff.2 h.mem, and63b, and31b]
  exact GivesD_cond (fun hc => retK_gives (by show ({ m with pc := ar .add .i64 m.pc (bif tkn 6 (m.X r1.toNat) (m.X r2.toNat) then n else 4) } : M) = _; rw [show tkn 6 (m.X r1.toNat) (m.X r2.toNat) = true from hc]; rfl)) (fun hc => retK_gives (by show ({ m with pc := ar .add .i64 m.pc (bif tkn 6 (m.X r1.toNat) (m.X r2.toNat) then n else 4) } : M) = _; rw [show tkn 6 (m.X r1.toNat) (m.X r2.toNat) = false from hc]; rfl))
theorem dg_7 {rd r1 r2 : Int} {m : M} (h : Good rd r1 r2 m) (nn : List Bool) (n : Int) : GivesD (outM nn (exec 7 rd r1 r2 n m)) ((evalF ED Try.prog 58 (argD 7 rd r1 r2 n) (hM m true true true) 1024).leaf) := by
  refine gives_retH _ (d_7 m rd r1 r2 n) ?_
  try simp only [ix_ok h.a, ix_ok h.b, gD_true, gU_true, bxT, Nat.beq_refl, byteB_iff.2 h.mem, and63b, and31b]
  exact GivesD_cond (fun hc => retK_gives (by show ({ m with pc := ar .add .i64 m.pc (bif tkn 7 (m.X r1.toNat) (m.X r2.toNat) then n else 4) } : M) = _; rw [show tkn 7 (m.X r1.toNat) (m.X r2.toNat) = true from hc]; rfl)) (fun hc => retK_gives (by show ({ m with pc := ar .add .i64 m.pc (bif tkn 7 (m.X r1.toNat) (m.X r2.toNat) then n else 4) } : M) = _; rw [show tkn 7 (m.X r1.toNat) (m.X r2.toNat) = false from hc]; rfl))
theorem dg_8 {rd r1 r2 : Int} {m : M} (h : Good rd r1 r2 m) (nn : List Bool) (n : Int) : GivesD (outM nn (exec 8 rd r1 r2 n m)) ((evalF ED Try.prog 58 (argD 8 rd r1 r2 n) (hM m true true true) 1024).leaf) := by
  refine gives_retH _ (d_8 m rd r1 r2 n) ?_
  try simp only [ix_ok h.a, ix_ok h.b, gD_true, gU_true, bxT, Nat.beq_refl, byteB_iff.2 h.mem, and63b, and31b]
  exact GivesD_cond (fun hc => retK_gives (by show ({ m with pc := ar .add .i64 m.pc (bif tkn 8 (m.X r1.toNat) (m.X r2.toNat) then n else 4) } : M) = _; rw [show tkn 8 (m.X r1.toNat) (m.X r2.toNat) = true from hc]; rfl)) (fun hc => retK_gives (by show ({ m with pc := ar .add .i64 m.pc (bif tkn 8 (m.X r1.toNat) (m.X r2.toNat) then n else 4) } : M) = _; rw [show tkn 8 (m.X r1.toNat) (m.X r2.toNat) = false from hc]; rfl))
theorem dg_9 {rd r1 r2 : Int} {m : M} (h : Good rd r1 r2 m) (nn : List Bool) (n : Int) : GivesD (outM nn (exec 9 rd r1 r2 n m)) ((evalF ED Try.prog 58 (argD 9 rd r1 r2 n) (hM m true true true) 1024).leaf) := by
  refine gives_retH _ (d_9 m rd r1 r2 n) ?_
  try simp only [ix_ok h.a, ix_ok h.b, gD_true, gU_true, bxT, Nat.beq_refl, byteB_iff.2 h.mem, and63b, and31b]
  exact GivesD_cond (fun hc => retK_gives (by show ({ m with pc := ar .add .i64 m.pc (bif tkn 9 (m.X r1.toNat) (m.X r2.toNat) then n else 4) } : M) = _; rw [show tkn 9 (m.X r1.toNat) (m.X r2.toNat) = true from hc]; rfl)) (fun hc => retK_gives (by show ({ m with pc := ar .add .i64 m.pc (bif tkn 9 (m.X r1.toNat) (m.X r2.toNat) then n else 4) } : M) = _; rw [show tkn 9 (m.X r1.toNat) (m.X r2.toNat) = false from hc]; rfl))
theorem dg_10 {rd r1 r2 : Int} {m : M} (h : Good rd r1 r2 m) (nn : List Bool) (n : Int) : GivesD (outM nn (exec 10 rd r1 r2 n m)) ((evalF ED Try.prog 58 (argD 10 rd r1 r2 n) (hM m true true true) 1024).leaf) := by
  refine gives_retH _ (d_10 m rd r1 r2 n) ?_
  try simp only [ix_ok h.a, ix_ok h.b, gD_true, gU_true, bxT, Nat.beq_refl, byteB_iff.2 h.mem, and63b, and31b]
  exact GivesD_cond (fun hc => retK_gives (by show ({ m with pc := ar .add .i64 m.pc (bif tkn 10 (m.X r1.toNat) (m.X r2.toNat) then n else 4) } : M) = _; rw [show tkn 10 (m.X r1.toNat) (m.X r2.toNat) = true from hc]; rfl)) (fun hc => retK_gives (by show ({ m with pc := ar .add .i64 m.pc (bif tkn 10 (m.X r1.toNat) (m.X r2.toNat) then n else 4) } : M) = _; rw [show tkn 10 (m.X r1.toNat) (m.X r2.toNat) = false from hc]; rfl))
theorem dg_11 {rd r1 r2 : Int} {m : M} (h : Good rd r1 r2 m) (nn : List Bool) (n : Int) : GivesD (outM nn (exec 11 rd r1 r2 n m)) ((evalF ED Try.prog 58 (argD 11 rd r1 r2 n) (hM m true true true) 1024).leaf) := by
  refine gives_retH _ (d_11 m rd r1 r2 n) ?_
  try simp only [ix_ok h.a, ix_ok h.b, gD_true, gU_true, bxT, Nat.beq_refl, byteB_iff.2 h.mem, and63b, and31b]
  exact GivesD_cond (fun hc => retK_gives (by show loadM 11 ldR rd (m.X r1.toNat) n m = _; unfold loadM; rw [show (!decide (accX (aX m (m.X r1.toNat) n) (szX 11) = 0)) = true from hc]; rfl)) (fun hc => setLf_gives h.d (ag11 _ (xX_in h _ 1).1 (xX_in h _ 1).2) (by show loadM 11 ldR rd (m.X r1.toNat) n m = _; unfold loadM; rw [show (!decide (accX (aX m (m.X r1.toNat) n) (szX 11) = 0)) = false from hc]; rfl))
theorem dg_12 {rd r1 r2 : Int} {m : M} (h : Good rd r1 r2 m) (nn : List Bool) (n : Int) : GivesD (outM nn (exec 12 rd r1 r2 n m)) ((evalF ED Try.prog 58 (argD 12 rd r1 r2 n) (hM m true true true) 1024).leaf) := by
  refine gives_retH _ (d_12 m rd r1 r2 n) ?_
  try simp only [ix_ok h.a, ix_ok h.b, gD_true, gU_true, bxT, Nat.beq_refl, byteB_iff.2 h.mem, and63b, and31b]
  exact GivesD_cond (fun hc => retK_gives (by show loadM 12 ldR rd (m.X r1.toNat) n m = _; unfold loadM; rw [show (!decide (accX (aX m (m.X r1.toNat) n) (szX 12) = 0)) = true from hc]; rfl)) (fun hc => setLf_gives h.d (ag12 _ (xX_in h _ 2).1 (xX_in h _ 2).2) (by show loadM 12 ldR rd (m.X r1.toNat) n m = _; unfold loadM; rw [show (!decide (accX (aX m (m.X r1.toNat) n) (szX 12) = 0)) = false from hc]; rfl))
theorem dg_13 {rd r1 r2 : Int} {m : M} (h : Good rd r1 r2 m) (nn : List Bool) (n : Int) : GivesD (outM nn (exec 13 rd r1 r2 n m)) ((evalF ED Try.prog 58 (argD 13 rd r1 r2 n) (hM m true true true) 1024).leaf) := by
  refine gives_retH _ (d_13 m rd r1 r2 n) ?_
  try simp only [ix_ok h.a, ix_ok h.b, gD_true, gU_true, bxT, Nat.beq_refl, byteB_iff.2 h.mem, and63b, and31b]
  exact GivesD_cond (fun hc => retK_gives (by show loadM 13 ldR rd (m.X r1.toNat) n m = _; unfold loadM; rw [show (!decide (accX (aX m (m.X r1.toNat) n) (szX 13) = 0)) = true from hc]; rfl)) (fun hc => setLf_gives h.d (ag13 _ (xX_in h _ 4).1 (xX_in h _ 4).2) (by show loadM 13 ldR rd (m.X r1.toNat) n m = _; unfold loadM; rw [show (!decide (accX (aX m (m.X r1.toNat) n) (szX 13) = 0)) = false from hc]; rfl))
theorem dg_14 {rd r1 r2 : Int} {m : M} (h : Good rd r1 r2 m) (nn : List Bool) (n : Int) : GivesD (outM nn (exec 14 rd r1 r2 n m)) ((evalF ED Try.prog 58 (argD 14 rd r1 r2 n) (hM m true true true) 1024).leaf) := by
  refine gives_retH _ (d_14 m rd r1 r2 n) ?_
  try simp only [ix_ok h.a, ix_ok h.b, gD_true, gU_true, bxT, Nat.beq_refl, byteB_iff.2 h.mem, and63b, and31b]
  exact GivesD_cond (fun hc => retK_gives (by show loadM 14 ldR rd (m.X r1.toNat) n m = _; unfold loadM; rw [show (!decide (accX (aX m (m.X r1.toNat) n) (szX 14) = 0)) = true from hc]; rfl)) (fun hc => setLf_gives h.d (ag14 _ (xX_in h _ 8).1 (xX_in h _ 8).2) (by show loadM 14 ldR rd (m.X r1.toNat) n m = _; unfold loadM; rw [show (!decide (accX (aX m (m.X r1.toNat) n) (szX 14) = 0)) = false from hc]; rfl))
theorem dg_15 {rd r1 r2 : Int} {m : M} (h : Good rd r1 r2 m) (nn : List Bool) (n : Int) : GivesD (outM nn (exec 15 rd r1 r2 n m)) ((evalF ED Try.prog 58 (argD 15 rd r1 r2 n) (hM m true true true) 1024).leaf) := by
  refine gives_retH _ (d_15 m rd r1 r2 n) ?_
  try simp only [ix_ok h.a, ix_ok h.b, gD_true, gU_true, bxT, Nat.beq_refl, byteB_iff.2 h.mem, and63b, and31b]
  exact GivesD_cond (fun hc => retK_gives (by show loadM 15 ldR rd (m.X r1.toNat) n m = _; unfold loadM; rw [show (!decide (accX (aX m (m.X r1.toNat) n) (szX 15) = 0)) = true from hc]; rfl)) (fun hc => setLf_gives h.d rfl (by show loadM 15 ldR rd (m.X r1.toNat) n m = _; unfold loadM; rw [show (!decide (accX (aX m (m.X r1.toNat) n) (szX 15) = 0)) = false from hc]; rfl))
theorem dg_16 {rd r1 r2 : Int} {m : M} (h : Good rd r1 r2 m) (nn : List Bool) (n : Int) : GivesD (outM nn (exec 16 rd r1 r2 n m)) ((evalF ED Try.prog 58 (argD 16 rd r1 r2 n) (hM m true true true) 1024).leaf) := by
  refine gives_retH _ (d_16 m rd r1 r2 n) ?_
  try simp only [ix_ok h.a, ix_ok h.b, gD_true, gU_true, bxT, Nat.beq_refl, byteB_iff.2 h.mem, and63b, and31b]
  exact GivesD_cond (fun hc => retK_gives (by show loadM 16 ldR rd (m.X r1.toNat) n m = _; unfold loadM; rw [show (!decide (accX (aX m (m.X r1.toNat) n) (szX 16) = 0)) = true from hc]; rfl)) (fun hc => setLf_gives h.d rfl (by show loadM 16 ldR rd (m.X r1.toNat) n m = _; unfold loadM; rw [show (!decide (accX (aX m (m.X r1.toNat) n) (szX 16) = 0)) = false from hc]; rfl))
theorem dg_17 {rd r1 r2 : Int} {m : M} (h : Good rd r1 r2 m) (nn : List Bool) (n : Int) : GivesD (outM nn (exec 17 rd r1 r2 n m)) ((evalF ED Try.prog 58 (argD 17 rd r1 r2 n) (hM m true true true) 1024).leaf) := by
  refine gives_retH _ (d_17 m rd r1 r2 n) ?_
  try simp only [ix_ok h.a, ix_ok h.b, gD_true, gU_true, bxT, Nat.beq_refl, byteB_iff.2 h.mem, and63b, and31b]
  exact GivesD_cond (fun hc => retK_gives (by show loadM 17 ldR rd (m.X r1.toNat) n m = _; unfold loadM; rw [show (!decide (accX (aX m (m.X r1.toNat) n) (szX 17) = 0)) = true from hc]; rfl)) (fun hc => setLf_gives h.d rfl (by show loadM 17 ldR rd (m.X r1.toNat) n m = _; unfold loadM; rw [show (!decide (accX (aX m (m.X r1.toNat) n) (szX 17) = 0)) = false from hc]; rfl))
theorem dg_18 {rd r1 r2 : Int} {m : M} (h : Good rd r1 r2 m) (nn : List Bool) (n : Int) : GivesD (outM nn (exec 18 rd r1 r2 n m)) ((evalF ED Try.prog 58 (argD 18 rd r1 r2 n) (hM m true true true) 1024).leaf) := by
  refine gives_retH _ (d_18 m rd r1 r2 n) ?_
  try simp only [ix_ok h.a, ix_ok h.b, gD_true, gU_true, bxT, Nat.beq_refl, byteB_iff.2 h.mem, and63b, and31b]
  exact GivesD_cond (fun hc => retK_gives (by show storeM 18 (m.X r1.toNat) (m.X r2.toNat) n m = _; unfold storeM; rw [show (!decide (accX (aX m (m.X r1.toNat) n) (szX 18) = 0)) = true from hc]; rfl)) (fun hc => retK_gives (by show storeM 18 (m.X r1.toNat) (m.X r2.toNat) n m = _; unfold storeM; rw [show (!decide (accX (aX m (m.X r1.toNat) n) (szX 18) = 0)) = false from hc]; rfl))
theorem dg_19 {rd r1 r2 : Int} {m : M} (h : Good rd r1 r2 m) (nn : List Bool) (n : Int) : GivesD (outM nn (exec 19 rd r1 r2 n m)) ((evalF ED Try.prog 58 (argD 19 rd r1 r2 n) (hM m true true true) 1024).leaf) := by
  refine gives_retH _ (d_19 m rd r1 r2 n) ?_
  try simp only [ix_ok h.a, ix_ok h.b, gD_true, gU_true, bxT, Nat.beq_refl, byteB_iff.2 h.mem, and63b, and31b]
  exact GivesD_cond (fun hc => retK_gives (by show storeM 19 (m.X r1.toNat) (m.X r2.toNat) n m = _; unfold storeM; rw [show (!decide (accX (aX m (m.X r1.toNat) n) (szX 19) = 0)) = true from hc]; rfl)) (fun hc => retK_gives (by show storeM 19 (m.X r1.toNat) (m.X r2.toNat) n m = _; unfold storeM; rw [show (!decide (accX (aX m (m.X r1.toNat) n) (szX 19) = 0)) = false from hc]; rfl))
theorem dg_20 {rd r1 r2 : Int} {m : M} (h : Good rd r1 r2 m) (nn : List Bool) (n : Int) : GivesD (outM nn (exec 20 rd r1 r2 n m)) ((evalF ED Try.prog 58 (argD 20 rd r1 r2 n) (hM m true true true) 1024).leaf) := by
  refine gives_retH _ (d_20 m rd r1 r2 n) ?_
  try simp only [ix_ok h.a, ix_ok h.b, gD_true, gU_true, bxT, Nat.beq_refl, byteB_iff.2 h.mem, and63b, and31b]
  exact GivesD_cond (fun hc => retK_gives (by show storeM 20 (m.X r1.toNat) (m.X r2.toNat) n m = _; unfold storeM; rw [show (!decide (accX (aX m (m.X r1.toNat) n) (szX 20) = 0)) = true from hc]; rfl)) (fun hc => retK_gives (by show storeM 20 (m.X r1.toNat) (m.X r2.toNat) n m = _; unfold storeM; rw [show (!decide (accX (aX m (m.X r1.toNat) n) (szX 20) = 0)) = false from hc]; rfl))
theorem dg_21 {rd r1 r2 : Int} {m : M} (h : Good rd r1 r2 m) (nn : List Bool) (n : Int) : GivesD (outM nn (exec 21 rd r1 r2 n m)) ((evalF ED Try.prog 58 (argD 21 rd r1 r2 n) (hM m true true true) 1024).leaf) := by
  refine gives_retH _ (d_21 m rd r1 r2 n) ?_
  try simp only [ix_ok h.a, ix_ok h.b, gD_true, gU_true, bxT, Nat.beq_refl, byteB_iff.2 h.mem, and63b, and31b]
  exact GivesD_cond (fun hc => retK_gives (by show storeM 21 (m.X r1.toNat) (m.X r2.toNat) n m = _; unfold storeM; rw [show (!decide (accX (aX m (m.X r1.toNat) n) (szX 21) = 0)) = true from hc]; rfl)) (fun hc => retK_gives (by show storeM 21 (m.X r1.toNat) (m.X r2.toNat) n m = _; unfold storeM; rw [show (!decide (accX (aX m (m.X r1.toNat) n) (szX 21) = 0)) = false from hc]; rfl))
theorem dg_22 {rd r1 r2 : Int} {m : M} (h : Good rd r1 r2 m) (nn : List Bool) (n : Int) : GivesD (outM nn (exec 22 rd r1 r2 n m)) ((evalF ED Try.prog 58 (argD 22 rd r1 r2 n) (hM m true true true) 1024).leaf) := by
  refine gives_retH _ (d_22 m rd r1 r2 n) ?_
  try simp only [ix_ok h.a, ix_ok h.b, gD_true, gU_true, bxT, Nat.beq_refl, byteB_iff.2 h.mem, and63b, and31b]
  exact setLf_gives h.d rfl rfl
theorem dg_23 {rd r1 r2 : Int} {m : M} (h : Good rd r1 r2 m) (nn : List Bool) (n : Int) : GivesD (outM nn (exec 23 rd r1 r2 n m)) ((evalF ED Try.prog 58 (argD 23 rd r1 r2 n) (hM m true true true) 1024).leaf) := by
  refine gives_retH _ (d_23 m rd r1 r2 n) ?_
  try simp only [ix_ok h.a, ix_ok h.b, gD_true, gU_true, bxT, Nat.beq_refl, byteB_iff.2 h.mem, and63b, and31b]
  exact setLf_gives h.d rfl rfl
theorem dg_24 {rd r1 r2 : Int} {m : M} (h : Good rd r1 r2 m) (nn : List Bool) (n : Int) : GivesD (outM nn (exec 24 rd r1 r2 n m)) ((evalF ED Try.prog 58 (argD 24 rd r1 r2 n) (hM m true true true) 1024).leaf) := by
  refine gives_retH _ (d_24 m rd r1 r2 n) ?_
  try simp only [ix_ok h.a, ix_ok h.b, gD_true, gU_true, bxT, Nat.beq_refl, byteB_iff.2 h.mem, and63b, and31b]
  exact setLf_gives h.d rfl rfl
theorem dg_25 {rd r1 r2 : Int} {m : M} (h : Good rd r1 r2 m) (nn : List Bool) (n : Int) : GivesD (outM nn (exec 25 rd r1 r2 n m)) ((evalF ED Try.prog 58 (argD 25 rd r1 r2 n) (hM m true true true) 1024).leaf) := by
  refine gives_retH _ (d_25 m rd r1 r2 n) ?_
  try simp only [ix_ok h.a, ix_ok h.b, gD_true, gU_true, bxT, Nat.beq_refl, byteB_iff.2 h.mem, and63b, and31b]
  exact setLf_gives h.d rfl rfl
theorem dg_26 {rd r1 r2 : Int} {m : M} (h : Good rd r1 r2 m) (nn : List Bool) (n : Int) : GivesD (outM nn (exec 26 rd r1 r2 n m)) ((evalF ED Try.prog 58 (argD 26 rd r1 r2 n) (hM m true true true) 1024).leaf) := by
  refine gives_retH _ (d_26 m rd r1 r2 n) ?_
  try simp only [ix_ok h.a, ix_ok h.b, gD_true, gU_true, bxT, Nat.beq_refl, byteB_iff.2 h.mem, and63b, and31b]
  exact setLf_gives h.d rfl rfl
theorem dg_27 {rd r1 r2 : Int} {m : M} (h : Good rd r1 r2 m) (nn : List Bool) (n : Int) : GivesD (outM nn (exec 27 rd r1 r2 n m)) ((evalF ED Try.prog 58 (argD 27 rd r1 r2 n) (hM m true true true) 1024).leaf) := by
  refine gives_retH _ (d_27 m rd r1 r2 n) ?_
  try simp only [ix_ok h.a, ix_ok h.b, gD_true, gU_true, bxT, Nat.beq_refl, byteB_iff.2 h.mem, and63b, and31b]
  exact setLf_gives h.d rfl rfl
theorem dg_28 {rd r1 r2 : Int} {m : M} (h : Good rd r1 r2 m) (nn : List Bool) (n : Int) : GivesD (outM nn (exec 28 rd r1 r2 n m)) ((evalF ED Try.prog 58 (argD 28 rd r1 r2 n) (hM m true true true) 1024).leaf) := by
  refine gives_retH _ (d_28 m rd r1 r2 n) ?_
  try simp only [ix_ok h.a, ix_ok h.b, gD_true, gU_true, bxT, Nat.beq_refl, byteB_iff.2 h.mem, and63b, and31b]
  exact setLf_gives h.d rfl rfl
theorem dg_29 {rd r1 r2 : Int} {m : M} (h : Good rd r1 r2 m) (nn : List Bool) (n : Int) : GivesD (outM nn (exec 29 rd r1 r2 n m)) ((evalF ED Try.prog 58 (argD 29 rd r1 r2 n) (hM m true true true) 1024).leaf) := by
  refine gives_retH _ (d_29 m rd r1 r2 n) ?_
  try simp only [ix_ok h.a, ix_ok h.b, gD_true, gU_true, bxT, Nat.beq_refl, byteB_iff.2 h.mem, and63b, and31b]
  exact setLf_gives h.d rfl rfl
theorem dg_30 {rd r1 r2 : Int} {m : M} (h : Good rd r1 r2 m) (nn : List Bool) (n : Int) : GivesD (outM nn (exec 30 rd r1 r2 n m)) ((evalF ED Try.prog 58 (argD 30 rd r1 r2 n) (hM m true true true) 1024).leaf) := by
  refine gives_retH _ (d_30 m rd r1 r2 n) ?_
  try simp only [ix_ok h.a, ix_ok h.b, gD_true, gU_true, bxT, Nat.beq_refl, byteB_iff.2 h.mem, and63b, and31b]
  exact setLf_gives h.d rfl rfl
theorem dg_31 {rd r1 r2 : Int} {m : M} (h : Good rd r1 r2 m) (nn : List Bool) (n : Int) : GivesD (outM nn (exec 31 rd r1 r2 n m)) ((evalF ED Try.prog 58 (argD 31 rd r1 r2 n) (hM m true true true) 1024).leaf) := by
  refine gives_retH _ (d_31 m rd r1 r2 n) ?_
  try simp only [ix_ok h.a, ix_ok h.b, gD_true, gU_true, bxT, Nat.beq_refl, byteB_iff.2 h.mem, and63b, and31b]
  exact setLf_gives h.d rfl rfl
theorem dg_32 {rd r1 r2 : Int} {m : M} (h : Good rd r1 r2 m) (nn : List Bool) (n : Int) : GivesD (outM nn (exec 32 rd r1 r2 n m)) ((evalF ED Try.prog 58 (argD 32 rd r1 r2 n) (hM m true true true) 1024).leaf) := by
  refine gives_retH _ (d_32 m rd r1 r2 n) ?_
  try simp only [ix_ok h.a, ix_ok h.b, gD_true, gU_true, bxT, Nat.beq_refl, byteB_iff.2 h.mem, and63b, and31b]
  exact setLf_gives h.d (ag32 _ _ (and31 _).1 (and31 _).2) rfl
theorem dg_33 {rd r1 r2 : Int} {m : M} (h : Good rd r1 r2 m) (nn : List Bool) (n : Int) : GivesD (outM nn (exec 33 rd r1 r2 n m)) ((evalF ED Try.prog 58 (argD 33 rd r1 r2 n) (hM m true true true) 1024).leaf) := by
  refine gives_retH _ (d_33 m rd r1 r2 n) ?_
  try simp only [ix_ok h.a, ix_ok h.b, gD_true, gU_true, bxT, Nat.beq_refl, byteB_iff.2 h.mem, and63b, and31b]
  exact setLf_gives h.d (congrArg (fun x => conv .i64 (conv .i32 x)) (ag33 _ _ (and31 _).1 (and31 _).2)) rfl
theorem dg_34 {rd r1 r2 : Int} {m : M} (h : Good rd r1 r2 m) (nn : List Bool) (n : Int) : GivesD (outM nn (exec 34 rd r1 r2 n m)) ((evalF ED Try.prog 58 (argD 34 rd r1 r2 n) (hM m true true true) 1024).leaf) := by
  refine gives_retH _ (d_34 m rd r1 r2 n) ?_
  try simp only [ix_ok h.a, ix_ok h.b, gD_true, gU_true, bxT, Nat.beq_refl, byteB_iff.2 h.mem, and63b, and31b]
  exact setLf_gives h.d (ag34 _ _ (and31 _).1 (and31 _).2) rfl
theorem dg_35 {rd r1 r2 : Int} {m : M} (h : Good rd r1 r2 m) (nn : List Bool) (n : Int) : GivesD (outM nn (exec 35 rd r1 r2 n m)) ((evalF ED Try.prog 58 (argD 35 rd r1 r2 n) (hM m true true true) 1024).leaf) := by
  refine gives_retH _ (d_35 m rd r1 r2 n) ?_
  try simp only [ix_ok h.a, ix_ok h.b, gD_true, gU_true, bxT, Nat.beq_refl, byteB_iff.2 h.mem, and63b, and31b]
  exact setLf_gives h.d rfl rfl
theorem dg_36 {rd r1 r2 : Int} {m : M} (h : Good rd r1 r2 m) (nn : List Bool) (n : Int) : GivesD (outM nn (exec 36 rd r1 r2 n m)) ((evalF ED Try.prog 58 (argD 36 rd r1 r2 n) (hM m true true true) 1024).leaf) := by
  refine gives_retH _ (d_36 m rd r1 r2 n) ?_
  try simp only [ix_ok h.a, ix_ok h.b, gD_true, gU_true, bxT, Nat.beq_refl, byteB_iff.2 h.mem, and63b, and31b]
  exact setLf_gives h.d rfl rfl
theorem dg_37 {rd r1 r2 : Int} {m : M} (h : Good rd r1 r2 m) (nn : List Bool) (n : Int) : GivesD (outM nn (exec 37 rd r1 r2 n m)) ((evalF ED Try.prog 58 (argD 37 rd r1 r2 n) (hM m true true true) 1024).leaf) := by
  refine gives_retH _ (d_37 m rd r1 r2 n) ?_
  try simp only [ix_ok h.a, ix_ok h.b, gD_true, gU_true, bxT, Nat.beq_refl, byteB_iff.2 h.mem, and63b, and31b]
  exact setLf_gives h.d rfl rfl
theorem dg_38 {rd r1 r2 : Int} {m : M} (h : Good rd r1 r2 m) (nn : List Bool) (n : Int) : GivesD (outM nn (exec 38 rd r1 r2 n m)) ((evalF ED Try.prog 58 (argD 38 rd r1 r2 n) (hM m true true true) 1024).leaf) := by
  refine gives_retH _ (d_38 m rd r1 r2 n) ?_
  try simp only [ix_ok h.a, ix_ok h.b, gD_true, gU_true, bxT, Nat.beq_refl, byteB_iff.2 h.mem, and63b, and31b]
  exact setLf_gives h.d rfl rfl
theorem dg_39 {rd r1 r2 : Int} {m : M} (h : Good rd r1 r2 m) (nn : List Bool) (n : Int) : GivesD (outM nn (exec 39 rd r1 r2 n m)) ((evalF ED Try.prog 58 (argD 39 rd r1 r2 n) (hM m true true true) 1024).leaf) := by
  refine gives_retH _ (d_39 m rd r1 r2 n) ?_
  try simp only [ix_ok h.a, ix_ok h.b, gD_true, gU_true, bxT, Nat.beq_refl, byteB_iff.2 h.mem, and63b, and31b]
  exact setLf_gives h.d rfl rfl
theorem dg_40 {rd r1 r2 : Int} {m : M} (h : Good rd r1 r2 m) (nn : List Bool) (n : Int) : GivesD (outM nn (exec 40 rd r1 r2 n m)) ((evalF ED Try.prog 58 (argD 40 rd r1 r2 n) (hM m true true true) 1024).leaf) := by
  refine gives_retH _ (d_40 m rd r1 r2 n) ?_
  try simp only [ix_ok h.a, ix_ok h.b, gD_true, gU_true, bxT, Nat.beq_refl, byteB_iff.2 h.mem, and63b, and31b]
  exact setLf_gives h.d rfl rfl
theorem dg_41 {rd r1 r2 : Int} {m : M} (h : Good rd r1 r2 m) (nn : List Bool) (n : Int) : GivesD (outM nn (exec 41 rd r1 r2 n m)) ((evalF ED Try.prog 58 (argD 41 rd r1 r2 n) (hM m true true true) 1024).leaf) := by
  refine gives_retH _ (d_41 m rd r1 r2 n) ?_
  try simp only [ix_ok h.a, ix_ok h.b, gD_true, gU_true, bxT, Nat.beq_refl, byteB_iff.2 h.mem, and63b, and31b]
  exact setLf_gives h.d rfl rfl
theorem dg_42 {rd r1 r2 : Int} {m : M} (h : Good rd r1 r2 m) (nn : List Bool) (n : Int) : GivesD (outM nn (exec 42 rd r1 r2 n m)) ((evalF ED Try.prog 58 (argD 42 rd r1 r2 n) (hM m true true true) 1024).leaf) := by
  refine gives_retH _ (d_42 m rd r1 r2 n) ?_
  try simp only [ix_ok h.a, ix_ok h.b, gD_true, gU_true, bxT, Nat.beq_refl, byteB_iff.2 h.mem, and63b, and31b]
  exact setLf_gives h.d rfl rfl
theorem dg_43 {rd r1 r2 : Int} {m : M} (h : Good rd r1 r2 m) (nn : List Bool) (n : Int) : GivesD (outM nn (exec 43 rd r1 r2 n m)) ((evalF ED Try.prog 58 (argD 43 rd r1 r2 n) (hM m true true true) 1024).leaf) := by
  refine gives_retH _ (d_43 m rd r1 r2 n) ?_
  try simp only [ix_ok h.a, ix_ok h.b, gD_true, gU_true, bxT, Nat.beq_refl, byteB_iff.2 h.mem, and63b, and31b]
  exact setLf_gives h.d rfl rfl
theorem dg_44 {rd r1 r2 : Int} {m : M} (h : Good rd r1 r2 m) (nn : List Bool) (n : Int) : GivesD (outM nn (exec 44 rd r1 r2 n m)) ((evalF ED Try.prog 58 (argD 44 rd r1 r2 n) (hM m true true true) 1024).leaf) := by
  refine gives_retH _ (d_44 m rd r1 r2 n) ?_
  try simp only [ix_ok h.a, ix_ok h.b, gD_true, gU_true, bxT, Nat.beq_refl, byteB_iff.2 h.mem, and63b, and31b]
  exact setLf_gives h.d rfl rfl
theorem dg_45 {rd r1 r2 : Int} {m : M} (h : Good rd r1 r2 m) (nn : List Bool) (n : Int) : GivesD (outM nn (exec 45 rd r1 r2 n m)) ((evalF ED Try.prog 58 (argD 45 rd r1 r2 n) (hM m true true true) 1024).leaf) := by
  refine gives_retH _ (d_45 m rd r1 r2 n) ?_
  try simp only [ix_ok h.a, ix_ok h.b, gD_true, gU_true, bxT, Nat.beq_refl, byteB_iff.2 h.mem, and63b, and31b]
  exact setLf_gives h.d rfl rfl
theorem dg_46 {rd r1 r2 : Int} {m : M} (h : Good rd r1 r2 m) (nn : List Bool) (n : Int) : GivesD (outM nn (exec 46 rd r1 r2 n m)) ((evalF ED Try.prog 58 (argD 46 rd r1 r2 n) (hM m true true true) 1024).leaf) := by
  refine gives_retH _ (d_46 m rd r1 r2 n) ?_
  try simp only [ix_ok h.a, ix_ok h.b, gD_true, gU_true, bxT, Nat.beq_refl, byteB_iff.2 h.mem, and63b, and31b]
  exact setLf_gives h.d (by simp only [hi_same]; rfl) rfl
theorem dg_47 {rd r1 r2 : Int} {m : M} (h : Good rd r1 r2 m) (nn : List Bool) (n : Int) : GivesD (outM nn (exec 47 rd r1 r2 n m)) ((evalF ED Try.prog 58 (argD 47 rd r1 r2 n) (hM m true true true) 1024).leaf) := by
  refine gives_retH _ (d_47 m rd r1 r2 n) ?_
  try simp only [ix_ok h.a, ix_ok h.b, gD_true, gU_true, bxT, Nat.beq_refl, byteB_iff.2 h.mem, and63b, and31b]
  exact setLf_gives h.d (by simp only [hi_same]; rfl) rfl
theorem dg_48 {rd r1 r2 : Int} {m : M} (h : Good rd r1 r2 m) (nn : List Bool) (n : Int) : GivesD (outM nn (exec 48 rd r1 r2 n m)) ((evalF ED Try.prog 58 (argD 48 rd r1 r2 n) (hM m true true true) 1024).leaf) := by
  refine gives_retH _ (d_48 m rd r1 r2 n) ?_
  try simp only [ix_ok h.a, ix_ok h.b, gD_true, gU_true, bxT, Nat.beq_refl, byteB_iff.2 h.mem, and63b, and31b]
  exact setLf_gives h.d (by simp only [hi_same]; rfl) rfl
theorem dg_49 {rd r1 r2 : Int} {m : M} (h : Good rd r1 r2 m) (nn : List Bool) (n : Int) : GivesD (outM nn (exec 49 rd r1 r2 n m)) ((evalF ED Try.prog 58 (argD 49 rd r1 r2 n) (hM m true true true) 1024).leaf) := by
  refine gives_retH _ (d_49 m rd r1 r2 n) ?_
  try simp only [ix_ok h.a, ix_ok h.b, gD_true, gU_true, bxT, Nat.beq_refl, byteB_iff.2 h.mem, and63b, and31b]
  exact setLf_gives h.d (congrArg (cond _ _) (swap_and _ _ _ _)) rfl
theorem dg_50 {rd r1 r2 : Int} {m : M} (h : Good rd r1 r2 m) (nn : List Bool) (n : Int) : GivesD (outM nn (exec 50 rd r1 r2 n m)) ((evalF ED Try.prog 58 (argD 50 rd r1 r2 n) (hM m true true true) 1024).leaf) := by
  refine gives_retH _ (d_50 m rd r1 r2 n) ?_
  try simp only [ix_ok h.a, ix_ok h.b, gD_true, gU_true, bxT, Nat.beq_refl, byteB_iff.2 h.mem, and63b, and31b]
  exact setLf_gives h.d (by simp only [conv_u0 (h.X _)]; rfl) rfl
theorem dg_51 {rd r1 r2 : Int} {m : M} (h : Good rd r1 r2 m) (nn : List Bool) (n : Int) : GivesD (outM nn (exec 51 rd r1 r2 n m)) ((evalF ED Try.prog 58 (argD 51 rd r1 r2 n) (hM m true true true) 1024).leaf) := by
  refine gives_retH _ (d_51 m rd r1 r2 n) ?_
  try simp only [ix_ok h.a, ix_ok h.b, gD_true, gU_true, bxT, Nat.beq_refl, byteB_iff.2 h.mem, and63b, and31b]
  exact setLf_gives h.d (congrArg (cond _ _) (rem_same _ _)) rfl
theorem dg_52 {rd r1 r2 : Int} {m : M} (h : Good rd r1 r2 m) (nn : List Bool) (n : Int) : GivesD (outM nn (exec 52 rd r1 r2 n m)) ((evalF ED Try.prog 58 (argD 52 rd r1 r2 n) (hM m true true true) 1024).leaf) := by
  refine gives_retH _ (d_52 m rd r1 r2 n) ?_
  try simp only [ix_ok h.a, ix_ok h.b, gD_true, gU_true, bxT, Nat.beq_refl, byteB_iff.2 h.mem, and63b, and31b]
  exact setLf_gives h.d (by simp only [conv_u0 (h.X _), conv_back (h.X _)]; rfl) rfl
theorem dg_53 {rd r1 r2 : Int} {m : M} (h : Good rd r1 r2 m) (nn : List Bool) (n : Int) : GivesD (outM nn (exec 53 rd r1 r2 n m)) ((evalF ED Try.prog 58 (argD 53 rd r1 r2 n) (hM m true true true) 1024).leaf) := by
  refine gives_retH _ (d_53 m rd r1 r2 n) ?_
  try simp only [ix_ok h.a, ix_ok h.b, gD_true, gU_true, bxT, Nat.beq_refl, byteB_iff.2 h.mem, and63b, and31b]
  exact setLf_gives h.d rfl rfl
theorem dg_54 {rd r1 r2 : Int} {m : M} (h : Good rd r1 r2 m) (nn : List Bool) (n : Int) : GivesD (outM nn (exec 54 rd r1 r2 n m)) ((evalF ED Try.prog 58 (argD 54 rd r1 r2 n) (hM m true true true) 1024).leaf) := by
  refine gives_retH _ (d_54 m rd r1 r2 n) ?_
  try simp only [ix_ok h.a, ix_ok h.b, gD_true, gU_true, bxT, Nat.beq_refl, byteB_iff.2 h.mem, and63b, and31b]
  exact setLf_gives h.d rfl rfl
theorem dg_55 {rd r1 r2 : Int} {m : M} (h : Good rd r1 r2 m) (nn : List Bool) (n : Int) : GivesD (outM nn (exec 55 rd r1 r2 n m)) ((evalF ED Try.prog 58 (argD 55 rd r1 r2 n) (hM m true true true) 1024).leaf) := by
  refine gives_retH _ (d_55 m rd r1 r2 n) ?_
  try simp only [ix_ok h.a, ix_ok h.b, gD_true, gU_true, bxT, Nat.beq_refl, byteB_iff.2 h.mem, and63b, and31b]
  exact setLf_gives h.d (ag32 _ _ (and31 _).1 (and31 _).2) rfl
theorem dg_56 {rd r1 r2 : Int} {m : M} (h : Good rd r1 r2 m) (nn : List Bool) (n : Int) : GivesD (outM nn (exec 56 rd r1 r2 n m)) ((evalF ED Try.prog 58 (argD 56 rd r1 r2 n) (hM m true true true) 1024).leaf) := by
  refine gives_retH _ (d_56 m rd r1 r2 n) ?_
  try simp only [ix_ok h.a, ix_ok h.b, gD_true, gU_true, bxT, Nat.beq_refl, byteB_iff.2 h.mem, and63b, and31b]
  exact setLf_gives h.d (congrArg (fun x => conv .i64 (conv .i32 x)) (ag33 _ _ (and31 _).1 (and31 _).2)) rfl
theorem dg_57 {rd r1 r2 : Int} {m : M} (h : Good rd r1 r2 m) (nn : List Bool) (n : Int) : GivesD (outM nn (exec 57 rd r1 r2 n m)) ((evalF ED Try.prog 58 (argD 57 rd r1 r2 n) (hM m true true true) 1024).leaf) := by
  refine gives_retH _ (d_57 m rd r1 r2 n) ?_
  try simp only [ix_ok h.a, ix_ok h.b, gD_true, gU_true, bxT, Nat.beq_refl, byteB_iff.2 h.mem, and63b, and31b]
  exact setLf_gives h.d (ag34 _ _ (and31 _).1 (and31 _).2) rfl
theorem dg_58 {rd r1 r2 : Int} {m : M} (h : Good rd r1 r2 m) (nn : List Bool) (n : Int) : GivesD (outM nn (exec 58 rd r1 r2 n m)) ((evalF ED Try.prog 58 (argD 58 rd r1 r2 n) (hM m true true true) 1024).leaf) := by
  refine gives_retH _ (d_58 m rd r1 r2 n) ?_
  try simp only [ix_ok h.a, ix_ok h.b, gD_true, gU_true, bxT, Nat.beq_refl, byteB_iff.2 h.mem, and63b, and31b]
  exact setLf_gives h.d rfl rfl
theorem dg_59 {rd r1 r2 : Int} {m : M} (h : Good rd r1 r2 m) (nn : List Bool) (n : Int) : GivesD (outM nn (exec 59 rd r1 r2 n m)) ((evalF ED Try.prog 58 (argD 59 rd r1 r2 n) (hM m true true true) 1024).leaf) := by
  refine gives_retH _ (d_59 m rd r1 r2 n) ?_
  try simp only [ix_ok h.a, ix_ok h.b, gD_true, gU_true, bxT, Nat.beq_refl, byteB_iff.2 h.mem, and63b, and31b]
  exact setLf_gives h.d (congrArg (fun x => conv .i64 (conv .i32 x)) (congrArg (cond _ _) (swap_and _ _ _ _))) rfl
theorem dg_60 {rd r1 r2 : Int} {m : M} (h : Good rd r1 r2 m) (nn : List Bool) (n : Int) : GivesD (outM nn (exec 60 rd r1 r2 n m)) ((evalF ED Try.prog 58 (argD 60 rd r1 r2 n) (hM m true true true) 1024).leaf) := by
  refine gives_retH _ (d_60 m rd r1 r2 n) ?_
  try simp only [ix_ok h.a, ix_ok h.b, gD_true, gU_true, bxT, Nat.beq_refl, byteB_iff.2 h.mem, and63b, and31b]
  exact setLf_gives h.d (by simp only [conv_u0 (inR_u32 _)]; rfl) rfl
theorem dg_61 {rd r1 r2 : Int} {m : M} (h : Good rd r1 r2 m) (nn : List Bool) (n : Int) : GivesD (outM nn (exec 61 rd r1 r2 n m)) ((evalF ED Try.prog 58 (argD 61 rd r1 r2 n) (hM m true true true) 1024).leaf) := by
  refine gives_retH _ (d_61 m rd r1 r2 n) ?_
  try simp only [ix_ok h.a, ix_ok h.b, gD_true, gU_true, bxT, Nat.beq_refl, byteB_iff.2 h.mem, and63b, and31b]
  exact setLf_gives h.d (congrArg (fun x => conv .i64 (conv .i32 x)) (congrArg (cond _ _) (rem_same _ _))) rfl
theorem dg_62 {rd r1 r2 : Int} {m : M} (h : Good rd r1 r2 m) (nn : List Bool) (n : Int) : GivesD (outM nn (exec 62 rd r1 r2 n m)) ((evalF ED Try.prog 58 (argD 62 rd r1 r2 n) (hM m true true true) 1024).leaf) := by
  refine gives_retH _ (d_62 m rd r1 r2 n) ?_
  try simp only [ix_ok h.a, ix_ok h.b, gD_true, gU_true, bxT, Nat.beq_refl, byteB_iff.2 h.mem, and63b, and31b]
  exact setLf_gives h.d (by simp only [conv_u0 (inR_u32 _), conv_back (inR_u32 _)]; rfl) rfl

end Go.Rv
end
