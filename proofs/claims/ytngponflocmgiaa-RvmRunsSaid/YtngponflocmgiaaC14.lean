/-
  rvm: what the page's Step gives, op by op. Laid by gen50.py.
-/
import Derived.Test.YtngponflocmgiaaC13
import Derived.Test.YtngponflocmgiaaC11
set_option linter.unusedSimpArgs false
set_option linter.unusedVariables false
section
set_option linter.unusedVariables false
open Go Go.Ev Go.Proofs
namespace Go.Rv

/-- a machine that has not ended stands before an instruction -/
structure Fet (s : ByteArray) (m : M) (K rd r1 r2 n : Int) : Prop where
  kind : m.kind = 0
  inn : outP s m.pc = false
  small : s.size ≤ 1000000
  ins : isIns (wordS s (ar .sub .i64 m.pc 4096)) K rd r1 r2 n = true

theorem outP_in {s : ByteArray} {pc : Int} (h : outP s pc = false) (hs : s.size ≤ 1000000) : 4096 ≤ pc ∧ pc < 262144 ∧ pc - 4096 + 4 ≤ s.size ∧ ar .sub .i64 pc 4096 = pc - 4096 := by
  unfold outP at h
  have h1 : cm .lss pc 4096 = false := by cases hc : cm .lss pc 4096 with | false => rfl | true => rw [hc] at h; cases h
  rw [h1] at h
  have h2 : cm .geq pc 262144 = false := by cases hc : cm .geq pc 262144 with | false => rfl | true => rw [hc] at h; cases h
  rw [h2] at h
  have h3 : cm .gtr (ar .add .i64 (ar .sub .i64 pc 4096) 4) (s.size : Int) = false := by cases hc : cm .gtr (ar .add .i64 (ar .sub .i64 pc 4096) 4) (s.size : Int) with | false => rfl | true => rw [hc] at h; cases h
  simp only [cm, decide_eq_false_iff_not] at h1 h2 h3
  simp only [ar, IntKind.wrap_i64] at h3 ⊢
  omega

theorem wordS_inU (s : ByteArray) (a : Int) : inU (wordS s a) = true := by
  rw [inU_iff]
  unfold wordS
  generalize ar .or .u32 (ar .or .u32 (conv .u32 (chr s a.toNat)) (ar .shl .u32 (conv .u32 (chr s (ar .add .i64 a 1).toNat)) 8)) (ar .shl .u32 (conv .u32 (chr s (ar .add .i64 a 2).toNat)) 16) = x
  generalize ar .shl .u32 (conv .u32 (chr s (ar .add .i64 a 3).toNat)) 24 = y
  simp only [ar, IntKind.wrap_u32]
  omega

theorem atS_ok {s : ByteArray} {i : Int} (h : 0 ≤ i ∧ i < s.size) (x : Lf) : atS s i x = x := by
  have e : Nat.blt i.toNat s.size = true := by rw [Nat.blt_eq]; omega
  simp only [atS, bx, decide_eq_true h.1, e, cond_true]

theorem fetch_ok {s : ByteArray} {m : M} {K rd r1 r2 n : Int} (h : Fet s m K rd r1 r2 n) (x : Lf) : fetchLf s m K rd r1 r2 n x = x := by
  obtain ⟨p1, p2, p3, p4⟩ := outP_in h.inn h.small
  have e1 : cm .neq m.kind 0 = false := by rw [h.kind]; rfl
  have e2 : (bif cm .lss m.pc 4096 then true else allB [bif cm .geq m.pc 262144 then true else allB [bif cm .gtr (ar .add .i64 (ar .sub .i64 m.pc 4096) 4) (s.size : Int) then true else true]]) = true := by
    cases cm .lss m.pc 4096 <;> cases cm .geq m.pc 262144 <;> cases cm .gtr (ar .add .i64 (ar .sub .i64 m.pc 4096) 4) (s.size : Int) <;> rfl
  have a1 : ar .add .i64 (m.pc - 4096) 1 = m.pc - 4096 + 1 := by simp only [ar, IntKind.wrap_i64]; omega
  have a2 : ar .add .i64 (m.pc - 4096) 2 = m.pc - 4096 + 2 := by simp only [ar, IntKind.wrap_i64]; omega
  have a3 : ar .add .i64 (m.pc - 4096) 3 = m.pc - 4096 + 3 := by simp only [ar, IntKind.wrap_i64]; omega
  have hi := h.ins
  unfold fetchLf
  rw [e1, cond_false, e2, bx_true rfl, h.inn, cond_false, bx_true (wordS_inU _ _), bx_true hi, p4, a1, a2, a3, atS_ok (by omega), atS_ok (by omega), atS_ok (by omega), atS_ok (by omega)]

theorem gDr_true (b : Int) (p : Bool) : (bif cm .eql b 0 then true else allB (mergeB p [] [b != 0])) = true := by
  simp only [cm, mergeB, allB]
  cases h : b == 0 with
  | true => rfl
  | false =>
    have : (b != 0) = true := by simp [bne, h]
    simp only [this]
    cases p <;> rfl
theorem gUr_true {b : Int} (h : inR b) : (bif cm .eql b 0 then true else allB [conv .u64 b != 0]) = true := by
  rw [← conv_u0 h]
  simp only [cm, allB]
  cases h : conv .u64 b == 0 with
  | true => rfl
  | false =>
    have : (conv .u64 b != 0) = true := by simp [bne, h]
    simp only [this]
    rfl

attribute [local irreducible] evalF Tr.retH Tr.leaf fetchLf

theorem rg_1 {s : ByteArray} {rd r1 r2 : Int} {m : M} {n : Int} (h : Good rd r1 r2 m) (hf : Fet s m 1 rd r1 r2 n) (nn : List Bool) : GivesD (outM nn (exec 1 rd r1 r2 n m)) ((evalF (EP 1 rd r1 r2 n) Try.prog 20 [.str s, .ptr 0 0 0] (hM m true true true) 1024).leaf) := by
  refine gives_retH _ (r_1 s m rd r1 r2 n) ?_
  rw [fetch_ok hf]
  try simp only [ix_ok h.a, ix_ok h.b, gD_true, gU_true, bxT, Nat.beq_refl, byteB_iff.2 h.mem, and63b, and31b, gDr_true, gUr_true (h.X _), gUr_true (inR_u32 _), setLf_zero]
  exact setLf_gives h.d rfl rfl
theorem rg_2 {s : ByteArray} {rd r1 r2 : Int} {m : M} {n : Int} (h : Good rd r1 r2 m) (hf : Fet s m 2 rd r1 r2 n) (nn : List Bool) : GivesD (outM nn (exec 2 rd r1 r2 n m)) ((evalF (EP 2 rd r1 r2 n) Try.prog 20 [.str s, .ptr 0 0 0] (hM m true true true) 1024).leaf) := by
  refine gives_retH _ (r_2 s m rd r1 r2 n) ?_
  rw [fetch_ok hf]
  try simp only [ix_ok h.a, ix_ok h.b, gD_true, gU_true, bxT, Nat.beq_refl, byteB_iff.2 h.mem, and63b, and31b, gDr_true, gUr_true (h.X _), gUr_true (inR_u32 _), setLf_zero]
  exact setLf_gives h.d rfl rfl
theorem rg_3 {s : ByteArray} {rd r1 r2 : Int} {m : M} {n : Int} (h : Good rd r1 r2 m) (hf : Fet s m 3 rd r1 r2 n) (nn : List Bool) : GivesD (outM nn (exec 3 rd r1 r2 n m)) ((evalF (EP 3 rd r1 r2 n) Try.prog 20 [.str s, .ptr 0 0 0] (hM m true true true) 1024).leaf) := by
  refine gives_retH _ (r_3 s m rd r1 r2 n) ?_
  rw [fetch_ok hf]
  try simp only [ix_ok h.a, ix_ok h.b, gD_true, gU_true, bxT, Nat.beq_refl, byteB_iff.2 h.mem, and63b, and31b, gDr_true, gUr_true (h.X _), gUr_true (inR_u32 _), setLf_zero]
  exact setLf_gives h.d rfl rfl
theorem rg_4 {s : ByteArray} {rd r1 r2 : Int} {m : M} {n : Int} (h : Good rd r1 r2 m) (hf : Fet s m 4 rd r1 r2 n) (nn : List Bool) : GivesD (outM nn (exec 4 rd r1 r2 n m)) ((evalF (EP 4 rd r1 r2 n) Try.prog 20 [.str s, .ptr 0 0 0] (hM m true true true) 1024).leaf) := by
  refine gives_retH _ (r_4 s m rd r1 r2 n) ?_
  rw [fetch_ok hf]
  try simp only [ix_ok h.a, ix_ok h.b, gD_true, gU_true, bxT, Nat.beq_refl, byteB_iff.2 h.mem, and63b, and31b, gDr_true, gUr_true (h.X _), gUr_true (inR_u32 _), setLf_zero]
  exact setLf_gives h.d rfl rfl
theorem rg_5 {s : ByteArray} {rd r1 r2 : Int} {m : M} {n : Int} (h : Good rd r1 r2 m) (hf : Fet s m 5 rd r1 r2 n) (hz : rd = 0) (nn : List Bool) : GivesD (outM nn (exec 5 rd r1 r2 n m)) ((evalF (EP 5 rd r1 r2 n) Try.prog 20 [.str s, .ptr 0 0 0] (hM m true true true) 1024).leaf) := by
  refine gives_retH _ (r_5 s m rd r1 r2 n) ?_
  rw [fetch_ok hf]
  subst hz
  try simp only [ix_ok h.a, ix_ok h.b, gD_true, gU_true, bxT, Nat.beq_refl, byteB_iff.2 h.mem, and63b, and31b, gDr_true, gUr_true (h.X _), gUr_true (inR_u32 _), setLf_zero]
  exact GivesD_cond (fun hc => retK_gives (by show ({ m with pc := ar .add .i64 m.pc (bif tkn 5 (m.X r1.toNat) (m.X r2.toNat) then n else 4) } : M) = _; rw [show tkn 5 (m.X r1.toNat) (m.X r2.toNat) = true from hc]; rfl)) (fun hc => retK_gives (by show ({ m with pc := ar .add .i64 m.pc (bif tkn 5 (m.X r1.toNat) (m.X r2.toNat) then n else 4) } : M) = _; rw [show tkn 5 (m.X r1.toNat) (m.X r2.toNat) = false from hc]; rfl))
theorem rg_6 {s : ByteArray} {rd r1 r2 : Int} {m : M} {n : Int} (h : Good rd r1 r2 m) (hf : Fet s m 6 rd r1 r2 n) (hz : rd = 0) (nn : List Bool) : GivesD (outM nn (exec 6 rd r1 r2 n m)) ((evalF (EP 6 rd r1 r2 n) Try.prog 20 [.str s, .ptr 0 0 0] (hM m true true true) 1024).leaf) := by
  refine gives_retH _ (r_6 s m rd r1 r2 n) ?_
  rw [fetch_ok hf]
  subst hz
  try simp only [ix_ok h.a, ix_ok h.b, gD_true, gU_true, bxT, Nat.beq_refl, byteB_iff.2 h.mem, and63b, and31b, gDr_true, gUr_true (h.X _), gUr_true (inR_u32 _), setLf_zero]
  exact GivesD_cond (fun hc => retK_gives (by show ({ m with pc := ar .add .i64 m.pc (bif tkn 6 (m.X r1.toNat) (m.X r2.toNat) then n else 4) } : M) = _; rw [show tkn 6 (m.X r1.toNat) (m.X r2.toNat) = true from hc]; rfl)) (fun hc => retK_gives (by show ({ m with pc := ar .add .i64 m.pc (bif tkn 6 (m.X r1.toNat) (m.X r2.toNat) then n else 4) } : M) = _; rw [show tkn 6 (m.X r1.toNat) (m.X r2.toNat) = false from hc]; rfl))
theorem rg_7 {s : ByteArray} {rd r1 r2 : Int} {m : M} {n : Int} (h : Good rd r1 r2 m) (hf : Fet s m 7 rd r1 r2 n) (hz : rd = 0) (nn : List Bool) : GivesD (outM nn (exec 7 rd r1 r2 n m)) ((evalF (EP 7 rd r1 r2 n) Try.prog 20 [.str s, .ptr 0 0 0] (hM m true true true) 1024).leaf) := by
  refine gives_retH _ (r_7 s m rd r1 r2 n) ?_
  rw [fetch_ok hf]
  subst hz
  try simp only [ix_ok h.a, ix_ok h.b, gD_true, gU_true, bxT, Nat.beq_refl, byteB_iff.2 h.mem, and63b, and31b, gDr_true, gUr_true (h.X _), gUr_true (inR_u32 _), setLf_zero]
  exact GivesD_cond (fun hc => retK_gives (by show ({ m with pc := ar .add .i64 m.pc (bif tkn 7 (m.X r1.toNat) (m.X r2.toNat) then n else 4) } : M) = _; rw [show tkn 7 (m.X r1.toNat) (m.X r2.toNat) = true from hc]; rfl)) (fun hc => retK_gives (by show ({ m with pc := ar .add .i64 m.pc (bif tkn 7 (m.X r1.toNat) (m.X r2.toNat) then n else 4) } : M) = _; rw [show tkn 7 (m.X r1.toNat) (m.X r2.toNat) = false from hc]; rfl))
theorem rg_8 {s : ByteArray} {rd r1 r2 : Int} {m : M} {n : Int} (h : Good rd r1 r2 m) (hf : Fet s m 8 rd r1 r2 n) (hz : rd = 0) (nn : List Bool) : GivesD (outM nn (exec 8 rd r1 r2 n m)) ((evalF (EP 8 rd r1 r2 n) Try.prog 20 [.str s, .ptr 0 0 0] (hM m true true true) 1024).leaf) := by
  refine gives_retH _ (r_8 s m rd r1 r2 n) ?_
  rw [fetch_ok hf]
  subst hz
  try simp only [ix_ok h.a, ix_ok h.b, gD_true, gU_true, bxT, Nat.beq_refl, byteB_iff.2 h.mem, and63b, and31b, gDr_true, gUr_true (h.X _), gUr_true (inR_u32 _), setLf_zero]
  exact GivesD_cond (fun hc => retK_gives (by show ({ m with pc := ar .add .i64 m.pc (bif tkn 8 (m.X r1.toNat) (m.X r2.toNat) then n else 4) } : M) = _; rw [show tkn 8 (m.X r1.toNat) (m.X r2.toNat) = true from hc]; rfl)) (fun hc => retK_gives (by show ({ m with pc := ar .add .i64 m.pc (bif tkn 8 (m.X r1.toNat) (m.X r2.toNat) then n else 4) } : M) = _; rw [show tkn 8 (m.X r1.toNat) (m.X r2.toNat) = false from hc]; rfl))
theorem rg_9 {s : ByteArray} {rd r1 r2 : Int} {m : M} {n : Int} (h : Good rd r1 r2 m) (hf : Fet s m 9 rd r1 r2 n) (hz : rd = 0) (nn : List Bool) : GivesD (outM nn (exec 9 rd r1 r2 n m)) ((evalF (EP 9 rd r1 r2 n) Try.prog 20 [.str s, .ptr 0 0 0] (hM m true true true) 1024).leaf) := by
  refine gives_retH _ (r_9 s m rd r1 r2 n) ?_
  rw [fetch_ok hf]
  subst hz
  try simp only [ix_ok h.a, ix_ok h.b, gD_true, gU_true, bxT, Nat.beq_refl, byteB_iff.2 h.mem, and63b, and31b, gDr_true, gUr_true (h.X _), gUr_true (inR_u32 _), setLf_zero]
  exact GivesD_cond (fun hc => retK_gives (by show ({ m with pc := ar .add .i64 m.pc (bif tkn 9 (m.X r1.toNat) (m.X r2.toNat) then n else 4) } : M) = _; rw [show tkn 9 (m.X r1.toNat) (m.X r2.toNat) = true from hc]; rfl)) (fun hc => retK_gives (by show ({ m with pc := ar .add .i64 m.pc (bif tkn 9 (m.X r1.toNat) (m.X r2.toNat) then n else 4) } : M) = _; rw [show tkn 9 (m.X r1.toNat) (m.X r2.toNat) = false from hc]; rfl))
theorem rg_10 {s : ByteArray} {rd r1 r2 : Int} {m : M} {n : Int} (h : Good rd r1 r2 m) (hf : Fet s m 10 rd r1 r2 n) (hz : rd = 0) (nn : List Bool) : GivesD (outM nn (exec 10 rd r1 r2 n m)) ((evalF (EP 10 rd r1 r2 n) Try.prog 20 [.str s, .ptr 0 0 0] (hM m true true true) 1024).leaf) := by
  refine gives_retH _ (r_10 s m rd r1 r2 n) ?_
  rw [fetch_ok hf]
  subst hz
  try simp only [ix_ok h.a, ix_ok h.b, gD_true, gU_true, bxT, Nat.beq_refl, byteB_iff.2 h.mem, and63b, and31b, gDr_true, gUr_true (h.X _), gUr_true (inR_u32 _), setLf_zero]
  exact GivesD_cond (fun hc => retK_gives (by show ({ m with pc := ar .add .i64 m.pc (bif tkn 10 (m.X r1.toNat) (m.X r2.toNat) then n else 4) } : M) = _; rw [show tkn 10 (m.X r1.toNat) (m.X r2.toNat) = true from hc]; rfl)) (fun hc => retK_gives (by show ({ m with pc := ar .add .i64 m.pc (bif tkn 10 (m.X r1.toNat) (m.X r2.toNat) then n else 4) } : M) = _; rw [show tkn 10 (m.X r1.toNat) (m.X r2.toNat) = false from hc]; rfl))
theorem rg_11 {s : ByteArray} {rd r1 r2 : Int} {m : M} {n : Int} (h : Good rd r1 r2 m) (hf : Fet s m 11 rd r1 r2 n) (nn : List Bool) : GivesD (outM nn (exec 11 rd r1 r2 n m)) ((evalF (EP 11 rd r1 r2 n) Try.prog 20 [.str s, .ptr 0 0 0] (hM m true true true) 1024).leaf) := by
  refine gives_retH _ (r_11 s m rd r1 r2 n) ?_
  rw [fetch_ok hf]
  try simp only [ix_ok h.a, ix_ok h.b, gD_true, gU_true, bxT, Nat.beq_refl, byteB_iff.2 h.mem, and63b, and31b, gDr_true, gUr_true (h.X _), gUr_true (inR_u32 _), setLf_zero]
  exact GivesD_cond (fun hc => retK_gives (by show loadM 11 ldR rd (m.X r1.toNat) n m = _; unfold loadM; rw [show (!decide (accX (aX m (m.X r1.toNat) n) (szX 11) = 0)) = true from hc]; rfl)) (fun hc => setLf_gives h.d rfl (by show loadM 11 ldR rd (m.X r1.toNat) n m = _; unfold loadM; rw [show (!decide (accX (aX m (m.X r1.toNat) n) (szX 11) = 0)) = false from hc]; rfl))
theorem rg_12 {s : ByteArray} {rd r1 r2 : Int} {m : M} {n : Int} (h : Good rd r1 r2 m) (hf : Fet s m 12 rd r1 r2 n) (nn : List Bool) : GivesD (outM nn (exec 12 rd r1 r2 n m)) ((evalF (EP 12 rd r1 r2 n) Try.prog 20 [.str s, .ptr 0 0 0] (hM m true true true) 1024).leaf) := by
  refine gives_retH _ (r_12 s m rd r1 r2 n) ?_
  rw [fetch_ok hf]
  try simp only [ix_ok h.a, ix_ok h.b, gD_true, gU_true, bxT, Nat.beq_refl, byteB_iff.2 h.mem, and63b, and31b, gDr_true, gUr_true (h.X _), gUr_true (inR_u32 _), setLf_zero]
  exact GivesD_cond (fun hc => retK_gives (by show loadM 12 ldR rd (m.X r1.toNat) n m = _; unfold loadM; rw [show (!decide (accX (aX m (m.X r1.toNat) n) (szX 12) = 0)) = true from hc]; rfl)) (fun hc => setLf_gives h.d rfl (by show loadM 12 ldR rd (m.X r1.toNat) n m = _; unfold loadM; rw [show (!decide (accX (aX m (m.X r1.toNat) n) (szX 12) = 0)) = false from hc]; rfl))
theorem rg_13 {s : ByteArray} {rd r1 r2 : Int} {m : M} {n : Int} (h : Good rd r1 r2 m) (hf : Fet s m 13 rd r1 r2 n) (nn : List Bool) : GivesD (outM nn (exec 13 rd r1 r2 n m)) ((evalF (EP 13 rd r1 r2 n) Try.prog 20 [.str s, .ptr 0 0 0] (hM m true true true) 1024).leaf) := by
  refine gives_retH _ (r_13 s m rd r1 r2 n) ?_
  rw [fetch_ok hf]
  try simp only [ix_ok h.a, ix_ok h.b, gD_true, gU_true, bxT, Nat.beq_refl, byteB_iff.2 h.mem, and63b, and31b, gDr_true, gUr_true (h.X _), gUr_true (inR_u32 _), setLf_zero]
  exact GivesD_cond (fun hc => retK_gives (by show loadM 13 ldR rd (m.X r1.toNat) n m = _; unfold loadM; rw [show (!decide (accX (aX m (m.X r1.toNat) n) (szX 13) = 0)) = true from hc]; rfl)) (fun hc => setLf_gives h.d rfl (by show loadM 13 ldR rd (m.X r1.toNat) n m = _; unfold loadM; rw [show (!decide (accX (aX m (m.X r1.toNat) n) (szX 13) = 0)) = false from hc]; rfl))
theorem rg_14 {s : ByteArray} {rd r1 r2 : Int} {m : M} {n : Int} (h : Good rd r1 r2 m) (hf : Fet s m 14 rd r1 r2 n) (nn : List Bool) : GivesD (outM nn (exec 14 rd r1 r2 n m)) ((evalF (EP 14 rd r1 r2 n) Try.prog 20 [.str s, .ptr 0 0 0] (hM m true true true) 1024).leaf) := by
  refine gives_retH _ (r_14 s m rd r1 r2 n) ?_
  rw [fetch_ok hf]
  try simp only [ix_ok h.a, ix_ok h.b, gD_true, gU_true, bxT, Nat.beq_refl, byteB_iff.2 h.mem, and63b, and31b, gDr_true, gUr_true (h.X _), gUr_true (inR_u32 _), setLf_zero]
  exact GivesD_cond (fun hc => retK_gives (by show loadM 14 ldR rd (m.X r1.toNat) n m = _; unfold loadM; rw [show (!decide (accX (aX m (m.X r1.toNat) n) (szX 14) = 0)) = true from hc]; rfl)) (fun hc => setLf_gives h.d rfl (by show loadM 14 ldR rd (m.X r1.toNat) n m = _; unfold loadM; rw [show (!decide (accX (aX m (m.X r1.toNat) n) (szX 14) = 0)) = false from hc]; rfl))
theorem rg_15 {s : ByteArray} {rd r1 r2 : Int} {m : M} {n : Int} (h : Good rd r1 r2 m) (hf : Fet s m 15 rd r1 r2 n) (nn : List Bool) : GivesD (outM nn (exec 15 rd r1 r2 n m)) ((evalF (EP 15 rd r1 r2 n) Try.prog 20 [.str s, .ptr 0 0 0] (hM m true true true) 1024).leaf) := by
  refine gives_retH _ (r_15 s m rd r1 r2 n) ?_
  rw [fetch_ok hf]
  try simp only [ix_ok h.a, ix_ok h.b, gD_true, gU_true, bxT, Nat.beq_refl, byteB_iff.2 h.mem, and63b, and31b, gDr_true, gUr_true (h.X _), gUr_true (inR_u32 _), setLf_zero]
  exact GivesD_cond (fun hc => retK_gives (by show loadM 15 ldR rd (m.X r1.toNat) n m = _; unfold loadM; rw [show (!decide (accX (aX m (m.X r1.toNat) n) (szX 15) = 0)) = true from hc]; rfl)) (fun hc => setLf_gives h.d rfl (by show loadM 15 ldR rd (m.X r1.toNat) n m = _; unfold loadM; rw [show (!decide (accX (aX m (m.X r1.toNat) n) (szX 15) = 0)) = false from hc]; rfl))
theorem rg_16 {s : ByteArray} {rd r1 r2 : Int} {m : M} {n : Int} (h : Good rd r1 r2 m) (hf : Fet s m 16 rd r1 r2 n) (nn : List Bool) : GivesD (outM nn (exec 16 rd r1 r2 n m)) ((evalF (EP 16 rd r1 r2 n) Try.prog 20 [.str s, .ptr 0 0 0] (hM m true true true) 1024).leaf) := by
  refine gives_retH _ (r_16 s m rd r1 r2 n) ?_
  rw [fetch_ok hf]
  try simp only [ix_ok h.a, ix_ok h.b, gD_true, gU_true, bxT, Nat.beq_refl, byteB_iff.2 h.mem, and63b, and31b, gDr_true, gUr_true (h.X _), gUr_true (inR_u32 _), setLf_zero]
  exact GivesD_cond (fun hc => retK_gives (by show loadM 16 ldR rd (m.X r1.toNat) n m = _; unfold loadM; rw [show (!decide (accX (aX m (m.X r1.toNat) n) (szX 16) = 0)) = true from hc]; rfl)) (fun hc => setLf_gives h.d rfl (by show loadM 16 ldR rd (m.X r1.toNat) n m = _; unfold loadM; rw [show (!decide (accX (aX m (m.X r1.toNat) n) (szX 16) = 0)) = false from hc]; rfl))
theorem rg_17 {s : ByteArray} {rd r1 r2 : Int} {m : M} {n : Int} (h : Good rd r1 r2 m) (hf : Fet s m 17 rd r1 r2 n) (nn : List Bool) : GivesD (outM nn (exec 17 rd r1 r2 n m)) ((evalF (EP 17 rd r1 r2 n) Try.prog 20 [.str s, .ptr 0 0 0] (hM m true true true) 1024).leaf) := by
  refine gives_retH _ (r_17 s m rd r1 r2 n) ?_
  rw [fetch_ok hf]
  try simp only [ix_ok h.a, ix_ok h.b, gD_true, gU_true, bxT, Nat.beq_refl, byteB_iff.2 h.mem, and63b, and31b, gDr_true, gUr_true (h.X _), gUr_true (inR_u32 _), setLf_zero]
  exact GivesD_cond (fun hc => retK_gives (by show loadM 17 ldR rd (m.X r1.toNat) n m = _; unfold loadM; rw [show (!decide (accX (aX m (m.X r1.toNat) n) (szX 17) = 0)) = true from hc]; rfl)) (fun hc => setLf_gives h.d rfl (by show loadM 17 ldR rd (m.X r1.toNat) n m = _; unfold loadM; rw [show (!decide (accX (aX m (m.X r1.toNat) n) (szX 17) = 0)) = false from hc]; rfl))
theorem rg_18 {s : ByteArray} {rd r1 r2 : Int} {m : M} {n : Int} (h : Good rd r1 r2 m) (hf : Fet s m 18 rd r1 r2 n) (hz : rd = 0) (nn : List Bool) : GivesD (outM nn (exec 18 rd r1 r2 n m)) ((evalF (EP 18 rd r1 r2 n) Try.prog 20 [.str s, .ptr 0 0 0] (hM m true true true) 1024).leaf) := by
  refine gives_retH _ (r_18 s m rd r1 r2 n) ?_
  rw [fetch_ok hf]
  subst hz
  try simp only [ix_ok h.a, ix_ok h.b, gD_true, gU_true, bxT, Nat.beq_refl, byteB_iff.2 h.mem, and63b, and31b, gDr_true, gUr_true (h.X _), gUr_true (inR_u32 _), setLf_zero]
  exact GivesD_cond (fun hc => retK_gives (by show storeM 18 (m.X r1.toNat) (m.X r2.toNat) n m = _; unfold storeM; rw [show (!decide (accX (aX m (m.X r1.toNat) n) (szX 18) = 0)) = true from hc]; rfl)) (fun hc => retK_gives (by show storeM 18 (m.X r1.toNat) (m.X r2.toNat) n m = _; unfold storeM; rw [show (!decide (accX (aX m (m.X r1.toNat) n) (szX 18) = 0)) = false from hc]; rfl))
theorem rg_19 {s : ByteArray} {rd r1 r2 : Int} {m : M} {n : Int} (h : Good rd r1 r2 m) (hf : Fet s m 19 rd r1 r2 n) (hz : rd = 0) (nn : List Bool) : GivesD (outM nn (exec 19 rd r1 r2 n m)) ((evalF (EP 19 rd r1 r2 n) Try.prog 20 [.str s, .ptr 0 0 0] (hM m true true true) 1024).leaf) := by
  refine gives_retH _ (r_19 s m rd r1 r2 n) ?_
  rw [fetch_ok hf]
  subst hz
  try simp only [ix_ok h.a, ix_ok h.b, gD_true, gU_true, bxT, Nat.beq_refl, byteB_iff.2 h.mem, and63b, and31b, gDr_true, gUr_true (h.X _), gUr_true (inR_u32 _), setLf_zero]
  exact GivesD_cond (fun hc => retK_gives (by show storeM 19 (m.X r1.toNat) (m.X r2.toNat) n m = _; unfold storeM; rw [show (!decide (accX (aX m (m.X r1.toNat) n) (szX 19) = 0)) = true from hc]; rfl)) (fun hc => retK_gives (by show storeM 19 (m.X r1.toNat) (m.X r2.toNat) n m = _; unfold storeM; rw [show (!decide (accX (aX m (m.X r1.toNat) n) (szX 19) = 0)) = false from hc]; rfl))
theorem rg_20 {s : ByteArray} {rd r1 r2 : Int} {m : M} {n : Int} (h : Good rd r1 r2 m) (hf : Fet s m 20 rd r1 r2 n) (hz : rd = 0) (nn : List Bool) : GivesD (outM nn (exec 20 rd r1 r2 n m)) ((evalF (EP 20 rd r1 r2 n) Try.prog 20 [.str s, .ptr 0 0 0] (hM m true true true) 1024).leaf) := by
  refine gives_retH _ (r_20 s m rd r1 r2 n) ?_
  rw [fetch_ok hf]
  subst hz
  try simp only [ix_ok h.a, ix_ok h.b, gD_true, gU_true, bxT, Nat.beq_refl, byteB_iff.2 h.mem, and63b, and31b, gDr_true, gUr_true (h.X _), gUr_true (inR_u32 _), setLf_zero]
  exact GivesD_cond (fun hc => retK_gives (by show storeM 20 (m.X r1.toNat) (m.X r2.toNat) n m = _; unfold storeM; rw [show (!decide (accX (aX m (m.X r1.toNat) n) (szX 20) = 0)) = true from hc]; rfl)) (fun hc => retK_gives (by show storeM 20 (m.X r1.toNat) (m.X r2.toNat) n m = _; unfold storeM; rw [show (!decide (accX (aX m (m.X r1.toNat) n) (szX 20) = 0)) = false from hc]; rfl))
theorem rg_21 {s : ByteArray} {rd r1 r2 : Int} {m : M} {n : Int} (h : Good rd r1 r2 m) (hf : Fet s m 21 rd r1 r2 n) (hz : rd = 0) (nn : List Bool) : GivesD (outM nn (exec 21 rd r1 r2 n m)) ((evalF (EP 21 rd r1 r2 n) Try.prog 20 [.str s, .ptr 0 0 0] (hM m true true true) 1024).leaf) := by
  refine gives_retH _ (r_21 s m rd r1 r2 n) ?_
  rw [fetch_ok hf]
  subst hz
  try simp only [ix_ok h.a, ix_ok h.b, gD_true, gU_true, bxT, Nat.beq_refl, byteB_iff.2 h.mem, and63b, and31b, gDr_true, gUr_true (h.X _), gUr_true (inR_u32 _), setLf_zero]
  exact GivesD_cond (fun hc => retK_gives (by show storeM 21 (m.X r1.toNat) (m.X r2.toNat) n m = _; unfold storeM; rw [show (!decide (accX (aX m (m.X r1.toNat) n) (szX 21) = 0)) = true from hc]; rfl)) (fun hc => retK_gives (by show storeM 21 (m.X r1.toNat) (m.X r2.toNat) n m = _; unfold storeM; rw [show (!decide (accX (aX m (m.X r1.toNat) n) (szX 21) = 0)) = false from hc]; rfl))
theorem rg_22 {s : ByteArray} {rd r1 r2 : Int} {m : M} {n : Int} (h : Good rd r1 r2 m) (hf : Fet s m 22 rd r1 r2 n) (nn : List Bool) : GivesD (outM nn (exec 22 rd r1 r2 n m)) ((evalF (EP 22 rd r1 r2 n) Try.prog 20 [.str s, .ptr 0 0 0] (hM m true true true) 1024).leaf) := by
  refine gives_retH _ (r_22 s m rd r1 r2 n) ?_
  rw [fetch_ok hf]
  try simp only [ix_ok h.a, ix_ok h.b, gD_true, gU_true, bxT, Nat.beq_refl, byteB_iff.2 h.mem, and63b, and31b, gDr_true, gUr_true (h.X _), gUr_true (inR_u32 _), setLf_zero]
  exact setLf_gives h.d rfl rfl
theorem rg_23 {s : ByteArray} {rd r1 r2 : Int} {m : M} {n : Int} (h : Good rd r1 r2 m) (hf : Fet s m 23 rd r1 r2 n) (nn : List Bool) : GivesD (outM nn (exec 23 rd r1 r2 n m)) ((evalF (EP 23 rd r1 r2 n) Try.prog 20 [.str s, .ptr 0 0 0] (hM m true true true) 1024).leaf) := by
  refine gives_retH _ (r_23 s m rd r1 r2 n) ?_
  rw [fetch_ok hf]
  try simp only [ix_ok h.a, ix_ok h.b, gD_true, gU_true, bxT, Nat.beq_refl, byteB_iff.2 h.mem, and63b, and31b, gDr_true, gUr_true (h.X _), gUr_true (inR_u32 _), setLf_zero]
  exact setLf_gives h.d rfl rfl
theorem rg_24 {s : ByteArray} {rd r1 r2 : Int} {m : M} {n : Int} (h : Good rd r1 r2 m) (hf : Fet s m 24 rd r1 r2 n) (nn : List Bool) : GivesD (outM nn (exec 24 rd r1 r2 n m)) ((evalF (EP 24 rd r1 r2 n) Try.prog 20 [.str s, .ptr 0 0 0] (hM m true true true) 1024).leaf) := by
  refine gives_retH _ (r_24 s m rd r1 r2 n) ?_
  rw [fetch_ok hf]
  try simp only [ix_ok h.a, ix_ok h.b, gD_true, gU_true, bxT, Nat.beq_refl, byteB_iff.2 h.mem, and63b, and31b, gDr_true, gUr_true (h.X _), gUr_true (inR_u32 _), setLf_zero]
  exact setLf_gives h.d rfl rfl
theorem rg_25 {s : ByteArray} {rd r1 r2 : Int} {m : M} {n : Int} (h : Good rd r1 r2 m) (hf : Fet s m 25 rd r1 r2 n) (nn : List Bool) : GivesD (outM nn (exec 25 rd r1 r2 n m)) ((evalF (EP 25 rd r1 r2 n) Try.prog 20 [.str s, .ptr 0 0 0] (hM m true true true) 1024).leaf) := by
  refine gives_retH _ (r_25 s m rd r1 r2 n) ?_
  rw [fetch_ok hf]
  try simp only [ix_ok h.a, ix_ok h.b, gD_true, gU_true, bxT, Nat.beq_refl, byteB_iff.2 h.mem, and63b, and31b, gDr_true, gUr_true (h.X _), gUr_true (inR_u32 _), setLf_zero]
  exact setLf_gives h.d rfl rfl
theorem rg_26 {s : ByteArray} {rd r1 r2 : Int} {m : M} {n : Int} (h : Good rd r1 r2 m) (hf : Fet s m 26 rd r1 r2 n) (nn : List Bool) : GivesD (outM nn (exec 26 rd r1 r2 n m)) ((evalF (EP 26 rd r1 r2 n) Try.prog 20 [.str s, .ptr 0 0 0] (hM m true true true) 1024).leaf) := by
  refine gives_retH _ (r_26 s m rd r1 r2 n) ?_
  rw [fetch_ok hf]
  try simp only [ix_ok h.a, ix_ok h.b, gD_true, gU_true, bxT, Nat.beq_refl, byteB_iff.2 h.mem, and63b, and31b, gDr_true, gUr_true (h.X _), gUr_true (inR_u32 _), setLf_zero]
  exact setLf_gives h.d rfl rfl
theorem rg_27 {s : ByteArray} {rd r1 r2 : Int} {m : M} {n : Int} (h : Good rd r1 r2 m) (hf : Fet s m 27 rd r1 r2 n) (nn : List Bool) : GivesD (outM nn (exec 27 rd r1 r2 n m)) ((evalF (EP 27 rd r1 r2 n) Try.prog 20 [.str s, .ptr 0 0 0] (hM m true true true) 1024).leaf) := by
  refine gives_retH _ (r_27 s m rd r1 r2 n) ?_
  rw [fetch_ok hf]
  try simp only [ix_ok h.a, ix_ok h.b, gD_true, gU_true, bxT, Nat.beq_refl, byteB_iff.2 h.mem, and63b, and31b, gDr_true, gUr_true (h.X _), gUr_true (inR_u32 _), setLf_zero]
  exact setLf_gives h.d rfl rfl
theorem rg_28 {s : ByteArray} {rd r1 r2 : Int} {m : M} {n : Int} (h : Good rd r1 r2 m) (hf : Fet s m 28 rd r1 r2 n) (nn : List Bool) : GivesD (outM nn (exec 28 rd r1 r2 n m)) ((evalF (EP 28 rd r1 r2 n) Try.prog 20 [.str s, .ptr 0 0 0] (hM m true true true) 1024).leaf) := by
  refine gives_retH _ (r_28 s m rd r1 r2 n) ?_
  rw [fetch_ok hf]
  try simp only [ix_ok h.a, ix_ok h.b, gD_true, gU_true, bxT, Nat.beq_refl, byteB_iff.2 h.mem, and63b, and31b, gDr_true, gUr_true (h.X _), gUr_true (inR_u32 _), setLf_zero]
  exact setLf_gives h.d rfl rfl
theorem rg_29 {s : ByteArray} {rd r1 r2 : Int} {m : M} {n : Int} (h : Good rd r1 r2 m) (hf : Fet s m 29 rd r1 r2 n) (nn : List Bool) : GivesD (outM nn (exec 29 rd r1 r2 n m)) ((evalF (EP 29 rd r1 r2 n) Try.prog 20 [.str s, .ptr 0 0 0] (hM m true true true) 1024).leaf) := by
  refine gives_retH _ (r_29 s m rd r1 r2 n) ?_
  rw [fetch_ok hf]
  try simp only [ix_ok h.a, ix_ok h.b, gD_true, gU_true, bxT, Nat.beq_refl, byteB_iff.2 h.mem, and63b, and31b, gDr_true, gUr_true (h.X _), gUr_true (inR_u32 _), setLf_zero]
  exact setLf_gives h.d rfl rfl
theorem rg_30 {s : ByteArray} {rd r1 r2 : Int} {m : M} {n : Int} (h : Good rd r1 r2 m) (hf : Fet s m 30 rd r1 r2 n) (nn : List Bool) : GivesD (outM nn (exec 30 rd r1 r2 n m)) ((evalF (EP 30 rd r1 r2 n) Try.prog 20 [.str s, .ptr 0 0 0] (hM m true true true) 1024).leaf) := by
  refine gives_retH _ (r_30 s m rd r1 r2 n) ?_
  rw [fetch_ok hf]
  try simp only [ix_ok h.a, ix_ok h.b, gD_true, gU_true, bxT, Nat.beq_refl, byteB_iff.2 h.mem, and63b, and31b, gDr_true, gUr_true (h.X _), gUr_true (inR_u32 _), setLf_zero]
  exact setLf_gives h.d rfl rfl
theorem rg_31 {s : ByteArray} {rd r1 r2 : Int} {m : M} {n : Int} (h : Good rd r1 r2 m) (hf : Fet s m 31 rd r1 r2 n) (nn : List Bool) : GivesD (outM nn (exec 31 rd r1 r2 n m)) ((evalF (EP 31 rd r1 r2 n) Try.prog 20 [.str s, .ptr 0 0 0] (hM m true true true) 1024).leaf) := by
  refine gives_retH _ (r_31 s m rd r1 r2 n) ?_
  rw [fetch_ok hf]
  try simp only [ix_ok h.a, ix_ok h.b, gD_true, gU_true, bxT, Nat.beq_refl, byteB_iff.2 h.mem, and63b, and31b, gDr_true, gUr_true (h.X _), gUr_true (inR_u32 _), setLf_zero]
  exact setLf_gives h.d rfl rfl
theorem rg_32 {s : ByteArray} {rd r1 r2 : Int} {m : M} {n : Int} (h : Good rd r1 r2 m) (hf : Fet s m 32 rd r1 r2 n) (nn : List Bool) : GivesD (outM nn (exec 32 rd r1 r2 n m)) ((evalF (EP 32 rd r1 r2 n) Try.prog 20 [.str s, .ptr 0 0 0] (hM m true true true) 1024).leaf) := by
  refine gives_retH _ (r_32 s m rd r1 r2 n) ?_
  rw [fetch_ok hf]
  try simp only [ix_ok h.a, ix_ok h.b, gD_true, gU_true, bxT, Nat.beq_refl, byteB_iff.2 h.mem, and63b, and31b, gDr_true, gUr_true (h.X _), gUr_true (inR_u32 _), setLf_zero]
  exact setLf_gives h.d rfl rfl
theorem rg_33 {s : ByteArray} {rd r1 r2 : Int} {m : M} {n : Int} (h : Good rd r1 r2 m) (hf : Fet s m 33 rd r1 r2 n) (nn : List Bool) : GivesD (outM nn (exec 33 rd r1 r2 n m)) ((evalF (EP 33 rd r1 r2 n) Try.prog 20 [.str s, .ptr 0 0 0] (hM m true true true) 1024).leaf) := by
  refine gives_retH _ (r_33 s m rd r1 r2 n) ?_
  rw [fetch_ok hf]
  try simp only [ix_ok h.a, ix_ok h.b, gD_true, gU_true, bxT, Nat.beq_refl, byteB_iff.2 h.mem, and63b, and31b, gDr_true, gUr_true (h.X _), gUr_true (inR_u32 _), setLf_zero]
  exact setLf_gives h.d rfl rfl
theorem rg_34 {s : ByteArray} {rd r1 r2 : Int} {m : M} {n : Int} (h : Good rd r1 r2 m) (hf : Fet s m 34 rd r1 r2 n) (nn : List Bool) : GivesD (outM nn (exec 34 rd r1 r2 n m)) ((evalF (EP 34 rd r1 r2 n) Try.prog 20 [.str s, .ptr 0 0 0] (hM m true true true) 1024).leaf) := by
  refine gives_retH _ (r_34 s m rd r1 r2 n) ?_
  rw [fetch_ok hf]
  try simp only [ix_ok h.a, ix_ok h.b, gD_true, gU_true, bxT, Nat.beq_refl, byteB_iff.2 h.mem, and63b, and31b, gDr_true, gUr_true (h.X _), gUr_true (inR_u32 _), setLf_zero]
  exact setLf_gives h.d rfl rfl
theorem rg_35 {s : ByteArray} {rd r1 r2 : Int} {m : M} {n : Int} (h : Good rd r1 r2 m) (hf : Fet s m 35 rd r1 r2 n) (nn : List Bool) : GivesD (outM nn (exec 35 rd r1 r2 n m)) ((evalF (EP 35 rd r1 r2 n) Try.prog 20 [.str s, .ptr 0 0 0] (hM m true true true) 1024).leaf) := by
  refine gives_retH _ (r_35 s m rd r1 r2 n) ?_
  rw [fetch_ok hf]
  try simp only [ix_ok h.a, ix_ok h.b, gD_true, gU_true, bxT, Nat.beq_refl, byteB_iff.2 h.mem, and63b, and31b, gDr_true, gUr_true (h.X _), gUr_true (inR_u32 _), setLf_zero]
  exact setLf_gives h.d rfl rfl
theorem rg_36 {s : ByteArray} {rd r1 r2 : Int} {m : M} {n : Int} (h : Good rd r1 r2 m) (hf : Fet s m 36 rd r1 r2 n) (nn : List Bool) : GivesD (outM nn (exec 36 rd r1 r2 n m)) ((evalF (EP 36 rd r1 r2 n) Try.prog 20 [.str s, .ptr 0 0 0] (hM m true true true) 1024).leaf) := by
  refine gives_retH _ (r_36 s m rd r1 r2 n) ?_
  rw [fetch_ok hf]
  try simp only [ix_ok h.a, ix_ok h.b, gD_true, gU_true, bxT, Nat.beq_refl, byteB_iff.2 h.mem, and63b, and31b, gDr_true, gUr_true (h.X _), gUr_true (inR_u32 _), setLf_zero]
  exact setLf_gives h.d rfl rfl
theorem rg_37 {s : ByteArray} {rd r1 r2 : Int} {m : M} {n : Int} (h : Good rd r1 r2 m) (hf : Fet s m 37 rd r1 r2 n) (nn : List Bool) : GivesD (outM nn (exec 37 rd r1 r2 n m)) ((evalF (EP 37 rd r1 r2 n) Try.prog 20 [.str s, .ptr 0 0 0] (hM m true true true) 1024).leaf) := by
  refine gives_retH _ (r_37 s m rd r1 r2 n) ?_
  rw [fetch_ok hf]
  try simp only [ix_ok h.a, ix_ok h.b, gD_true, gU_true, bxT, Nat.beq_refl, byteB_iff.2 h.mem, and63b, and31b, gDr_true, gUr_true (h.X _), gUr_true (inR_u32 _), setLf_zero]
  exact setLf_gives h.d rfl rfl
theorem rg_38 {s : ByteArray} {rd r1 r2 : Int} {m : M} {n : Int} (h : Good rd r1 r2 m) (hf : Fet s m 38 rd r1 r2 n) (nn : List Bool) : GivesD (outM nn (exec 38 rd r1 r2 n m)) ((evalF (EP 38 rd r1 r2 n) Try.prog 20 [.str s, .ptr 0 0 0] (hM m true true true) 1024).leaf) := by
  refine gives_retH _ (r_38 s m rd r1 r2 n) ?_
  rw [fetch_ok hf]
  try simp only [ix_ok h.a, ix_ok h.b, gD_true, gU_true, bxT, Nat.beq_refl, byteB_iff.2 h.mem, and63b, and31b, gDr_true, gUr_true (h.X _), gUr_true (inR_u32 _), setLf_zero]
  exact setLf_gives h.d rfl rfl
theorem rg_39 {s : ByteArray} {rd r1 r2 : Int} {m : M} {n : Int} (h : Good rd r1 r2 m) (hf : Fet s m 39 rd r1 r2 n) (nn : List Bool) : GivesD (outM nn (exec 39 rd r1 r2 n m)) ((evalF (EP 39 rd r1 r2 n) Try.prog 20 [.str s, .ptr 0 0 0] (hM m true true true) 1024).leaf) := by
  refine gives_retH _ (r_39 s m rd r1 r2 n) ?_
  rw [fetch_ok hf]
  try simp only [ix_ok h.a, ix_ok h.b, gD_true, gU_true, bxT, Nat.beq_refl, byteB_iff.2 h.mem, and63b, and31b, gDr_true, gUr_true (h.X _), gUr_true (inR_u32 _), setLf_zero]
  exact setLf_gives h.d rfl rfl
theorem rg_40 {s : ByteArray} {rd r1 r2 : Int} {m : M} {n : Int} (h : Good rd r1 r2 m) (hf : Fet s m 40 rd r1 r2 n) (nn : List Bool) : GivesD (outM nn (exec 40 rd r1 r2 n m)) ((evalF (EP 40 rd r1 r2 n) Try.prog 20 [.str s, .ptr 0 0 0] (hM m true true true) 1024).leaf) := by
  refine gives_retH _ (r_40 s m rd r1 r2 n) ?_
  rw [fetch_ok hf]
  try simp only [ix_ok h.a, ix_ok h.b, gD_true, gU_true, bxT, Nat.beq_refl, byteB_iff.2 h.mem, and63b, and31b, gDr_true, gUr_true (h.X _), gUr_true (inR_u32 _), setLf_zero]
  exact setLf_gives h.d rfl rfl
theorem rg_41 {s : ByteArray} {rd r1 r2 : Int} {m : M} {n : Int} (h : Good rd r1 r2 m) (hf : Fet s m 41 rd r1 r2 n) (nn : List Bool) : GivesD (outM nn (exec 41 rd r1 r2 n m)) ((evalF (EP 41 rd r1 r2 n) Try.prog 20 [.str s, .ptr 0 0 0] (hM m true true true) 1024).leaf) := by
  refine gives_retH _ (r_41 s m rd r1 r2 n) ?_
  rw [fetch_ok hf]
  try simp only [ix_ok h.a, ix_ok h.b, gD_true, gU_true, bxT, Nat.beq_refl, byteB_iff.2 h.mem, and63b, and31b, gDr_true, gUr_true (h.X _), gUr_true (inR_u32 _), setLf_zero]
  exact setLf_gives h.d rfl rfl
theorem rg_42 {s : ByteArray} {rd r1 r2 : Int} {m : M} {n : Int} (h : Good rd r1 r2 m) (hf : Fet s m 42 rd r1 r2 n) (nn : List Bool) : GivesD (outM nn (exec 42 rd r1 r2 n m)) ((evalF (EP 42 rd r1 r2 n) Try.prog 20 [.str s, .ptr 0 0 0] (hM m true true true) 1024).leaf) := by
  refine gives_retH _ (r_42 s m rd r1 r2 n) ?_
  rw [fetch_ok hf]
  try simp only [ix_ok h.a, ix_ok h.b, gD_true, gU_true, bxT, Nat.beq_refl, byteB_iff.2 h.mem, and63b, and31b, gDr_true, gUr_true (h.X _), gUr_true (inR_u32 _), setLf_zero]
  exact setLf_gives h.d rfl rfl
theorem rg_43 {s : ByteArray} {rd r1 r2 : Int} {m : M} {n : Int} (h : Good rd r1 r2 m) (hf : Fet s m 43 rd r1 r2 n) (nn : List Bool) : GivesD (outM nn (exec 43 rd r1 r2 n m)) ((evalF (EP 43 rd r1 r2 n) Try.prog 20 [.str s, .ptr 0 0 0] (hM m true true true) 1024).leaf) := by
  refine gives_retH _ (r_43 s m rd r1 r2 n) ?_
  rw [fetch_ok hf]
  try simp only [ix_ok h.a, ix_ok h.b, gD_true, gU_true, bxT, Nat.beq_refl, byteB_iff.2 h.mem, and63b, and31b, gDr_true, gUr_true (h.X _), gUr_true (inR_u32 _), setLf_zero]
  exact setLf_gives h.d rfl rfl
theorem rg_44 {s : ByteArray} {rd r1 r2 : Int} {m : M} {n : Int} (h : Good rd r1 r2 m) (hf : Fet s m 44 rd r1 r2 n) (nn : List Bool) : GivesD (outM nn (exec 44 rd r1 r2 n m)) ((evalF (EP 44 rd r1 r2 n) Try.prog 20 [.str s, .ptr 0 0 0] (hM m true true true) 1024).leaf) := by
  refine gives_retH _ (r_44 s m rd r1 r2 n) ?_
  rw [fetch_ok hf]
  try simp only [ix_ok h.a, ix_ok h.b, gD_true, gU_true, bxT, Nat.beq_refl, byteB_iff.2 h.mem, and63b, and31b, gDr_true, gUr_true (h.X _), gUr_true (inR_u32 _), setLf_zero]
  exact setLf_gives h.d rfl rfl
theorem rg_45 {s : ByteArray} {rd r1 r2 : Int} {m : M} {n : Int} (h : Good rd r1 r2 m) (hf : Fet s m 45 rd r1 r2 n) (nn : List Bool) : GivesD (outM nn (exec 45 rd r1 r2 n m)) ((evalF (EP 45 rd r1 r2 n) Try.prog 20 [.str s, .ptr 0 0 0] (hM m true true true) 1024).leaf) := by
  refine gives_retH _ (r_45 s m rd r1 r2 n) ?_
  rw [fetch_ok hf]
  try simp only [ix_ok h.a, ix_ok h.b, gD_true, gU_true, bxT, Nat.beq_refl, byteB_iff.2 h.mem, and63b, and31b, gDr_true, gUr_true (h.X _), gUr_true (inR_u32 _), setLf_zero]
  exact setLf_gives h.d rfl rfl
theorem rg_46 {s : ByteArray} {rd r1 r2 : Int} {m : M} {n : Int} (h : Good rd r1 r2 m) (hf : Fet s m 46 rd r1 r2 n) (nn : List Bool) : GivesD (outM nn (exec 46 rd r1 r2 n m)) ((evalF (EP 46 rd r1 r2 n) Try.prog 20 [.str s, .ptr 0 0 0] (hM m true true true) 1024).leaf) := by
  refine gives_retH _ (r_46 s m rd r1 r2 n) ?_
  rw [fetch_ok hf]
  try simp only [ix_ok h.a, ix_ok h.b, gD_true, gU_true, bxT, Nat.beq_refl, byteB_iff.2 h.mem, and63b, and31b, gDr_true, gUr_true (h.X _), gUr_true (inR_u32 _), setLf_zero]
  exact setLf_gives h.d rfl rfl
theorem rg_47 {s : ByteArray} {rd r1 r2 : Int} {m : M} {n : Int} (h : Good rd r1 r2 m) (hf : Fet s m 47 rd r1 r2 n) (nn : List Bool) : GivesD (outM nn (exec 47 rd r1 r2 n m)) ((evalF (EP 47 rd r1 r2 n) Try.prog 20 [.str s, .ptr 0 0 0] (hM m true true true) 1024).leaf) := by
  refine gives_retH _ (r_47 s m rd r1 r2 n) ?_
  rw [fetch_ok hf]
  try simp only [ix_ok h.a, ix_ok h.b, gD_true, gU_true, bxT, Nat.beq_refl, byteB_iff.2 h.mem, and63b, and31b, gDr_true, gUr_true (h.X _), gUr_true (inR_u32 _), setLf_zero]
  exact setLf_gives h.d rfl rfl
theorem rg_48 {s : ByteArray} {rd r1 r2 : Int} {m : M} {n : Int} (h : Good rd r1 r2 m) (hf : Fet s m 48 rd r1 r2 n) (nn : List Bool) : GivesD (outM nn (exec 48 rd r1 r2 n m)) ((evalF (EP 48 rd r1 r2 n) Try.prog 20 [.str s, .ptr 0 0 0] (hM m true true true) 1024).leaf) := by
  refine gives_retH _ (r_48 s m rd r1 r2 n) ?_
  rw [fetch_ok hf]
  try simp only [ix_ok h.a, ix_ok h.b, gD_true, gU_true, bxT, Nat.beq_refl, byteB_iff.2 h.mem, and63b, and31b, gDr_true, gUr_true (h.X _), gUr_true (inR_u32 _), setLf_zero]
  exact setLf_gives h.d rfl rfl
theorem rg_49 {s : ByteArray} {rd r1 r2 : Int} {m : M} {n : Int} (h : Good rd r1 r2 m) (hf : Fet s m 49 rd r1 r2 n) (nn : List Bool) : GivesD (outM nn (exec 49 rd r1 r2 n m)) ((evalF (EP 49 rd r1 r2 n) Try.prog 20 [.str s, .ptr 0 0 0] (hM m true true true) 1024).leaf) := by
  refine gives_retH _ (r_49 s m rd r1 r2 n) ?_
  rw [fetch_ok hf]
  try simp only [ix_ok h.a, ix_ok h.b, gD_true, gU_true, bxT, Nat.beq_refl, byteB_iff.2 h.mem, and63b, and31b, gDr_true, gUr_true (h.X _), gUr_true (inR_u32 _), setLf_zero]
  exact setLf_gives h.d rfl rfl
theorem rg_50 {s : ByteArray} {rd r1 r2 : Int} {m : M} {n : Int} (h : Good rd r1 r2 m) (hf : Fet s m 50 rd r1 r2 n) (nn : List Bool) : GivesD (outM nn (exec 50 rd r1 r2 n m)) ((evalF (EP 50 rd r1 r2 n) Try.prog 20 [.str s, .ptr 0 0 0] (hM m true true true) 1024).leaf) := by
  refine gives_retH _ (r_50 s m rd r1 r2 n) ?_
  rw [fetch_ok hf]
  try simp only [ix_ok h.a, ix_ok h.b, gD_true, gU_true, bxT, Nat.beq_refl, byteB_iff.2 h.mem, and63b, and31b, gDr_true, gUr_true (h.X _), gUr_true (inR_u32 _), setLf_zero]
  exact setLf_gives h.d rfl rfl
theorem rg_51 {s : ByteArray} {rd r1 r2 : Int} {m : M} {n : Int} (h : Good rd r1 r2 m) (hf : Fet s m 51 rd r1 r2 n) (nn : List Bool) : GivesD (outM nn (exec 51 rd r1 r2 n m)) ((evalF (EP 51 rd r1 r2 n) Try.prog 20 [.str s, .ptr 0 0 0] (hM m true true true) 1024).leaf) := by
  refine gives_retH _ (r_51 s m rd r1 r2 n) ?_
  rw [fetch_ok hf]
  try simp only [ix_ok h.a, ix_ok h.b, gD_true, gU_true, bxT, Nat.beq_refl, byteB_iff.2 h.mem, and63b, and31b, gDr_true, gUr_true (h.X _), gUr_true (inR_u32 _), setLf_zero]
  exact setLf_gives h.d rfl rfl
theorem rg_52 {s : ByteArray} {rd r1 r2 : Int} {m : M} {n : Int} (h : Good rd r1 r2 m) (hf : Fet s m 52 rd r1 r2 n) (nn : List Bool) : GivesD (outM nn (exec 52 rd r1 r2 n m)) ((evalF (EP 52 rd r1 r2 n) Try.prog 20 [.str s, .ptr 0 0 0] (hM m true true true) 1024).leaf) := by
  refine gives_retH _ (r_52 s m rd r1 r2 n) ?_
  rw [fetch_ok hf]
  try simp only [ix_ok h.a, ix_ok h.b, gD_true, gU_true, bxT, Nat.beq_refl, byteB_iff.2 h.mem, and63b, and31b, gDr_true, gUr_true (h.X _), gUr_true (inR_u32 _), setLf_zero]
  exact setLf_gives h.d rfl rfl
theorem rg_53 {s : ByteArray} {rd r1 r2 : Int} {m : M} {n : Int} (h : Good rd r1 r2 m) (hf : Fet s m 53 rd r1 r2 n) (nn : List Bool) : GivesD (outM nn (exec 53 rd r1 r2 n m)) ((evalF (EP 53 rd r1 r2 n) Try.prog 20 [.str s, .ptr 0 0 0] (hM m true true true) 1024).leaf) := by
  refine gives_retH _ (r_53 s m rd r1 r2 n) ?_
  rw [fetch_ok hf]
  try simp only [ix_ok h.a, ix_ok h.b, gD_true, gU_true, bxT, Nat.beq_refl, byteB_iff.2 h.mem, and63b, and31b, gDr_true, gUr_true (h.X _), gUr_true (inR_u32 _), setLf_zero]
  exact setLf_gives h.d rfl rfl
theorem rg_54 {s : ByteArray} {rd r1 r2 : Int} {m : M} {n : Int} (h : Good rd r1 r2 m) (hf : Fet s m 54 rd r1 r2 n) (nn : List Bool) : GivesD (outM nn (exec 54 rd r1 r2 n m)) ((evalF (EP 54 rd r1 r2 n) Try.prog 20 [.str s, .ptr 0 0 0] (hM m true true true) 1024).leaf) := by
  refine gives_retH _ (r_54 s m rd r1 r2 n) ?_
  rw [fetch_ok hf]
  try simp only [ix_ok h.a, ix_ok h.b, gD_true, gU_true, bxT, Nat.beq_refl, byteB_iff.2 h.mem, and63b, and31b, gDr_true, gUr_true (h.X _), gUr_true (inR_u32 _), setLf_zero]
  exact setLf_gives h.d rfl rfl
theorem rg_55 {s : ByteArray} {rd r1 r2 : Int} {m : M} {n : Int} (h : Good rd r1 r2 m) (hf : Fet s m 55 rd r1 r2 n) (nn : List Bool) : GivesD (outM nn (exec 55 rd r1 r2 n m)) ((evalF (EP 55 rd r1 r2 n) Try.prog 20 [.str s, .ptr 0 0 0] (hM m true true true) 1024).leaf) := by
  refine gives_retH _ (r_55 s m rd r1 r2 n) ?_
  rw [fetch_ok hf]
  try simp only [ix_ok h.a, ix_ok h.b, gD_true, gU_true, bxT, Nat.beq_refl, byteB_iff.2 h.mem, and63b, and31b, gDr_true, gUr_true (h.X _), gUr_true (inR_u32 _), setLf_zero]
  exact setLf_gives h.d rfl rfl
theorem rg_56 {s : ByteArray} {rd r1 r2 : Int} {m : M} {n : Int} (h : Good rd r1 r2 m) (hf : Fet s m 56 rd r1 r2 n) (nn : List Bool) : GivesD (outM nn (exec 56 rd r1 r2 n m)) ((evalF (EP 56 rd r1 r2 n) Try.prog 20 [.str s, .ptr 0 0 0] (hM m true true true) 1024).leaf) := by
  refine gives_retH _ (r_56 s m rd r1 r2 n) ?_
  rw [fetch_ok hf]
  try simp only [ix_ok h.a, ix_ok h.b, gD_true, gU_true, bxT, Nat.beq_refl, byteB_iff.2 h.mem, and63b, and31b, gDr_true, gUr_true (h.X _), gUr_true (inR_u32 _), setLf_zero]
  exact setLf_gives h.d rfl rfl
theorem rg_57 {s : ByteArray} {rd r1 r2 : Int} {m : M} {n : Int} (h : Good rd r1 r2 m) (hf : Fet s m 57 rd r1 r2 n) (nn : List Bool) : GivesD (outM nn (exec 57 rd r1 r2 n m)) ((evalF (EP 57 rd r1 r2 n) Try.prog 20 [.str s, .ptr 0 0 0] (hM m true true true) 1024).leaf) := by
  refine gives_retH _ (r_57 s m rd r1 r2 n) ?_
  rw [fetch_ok hf]
  try simp only [ix_ok h.a, ix_ok h.b, gD_true, gU_true, bxT, Nat.beq_refl, byteB_iff.2 h.mem, and63b, and31b, gDr_true, gUr_true (h.X _), gUr_true (inR_u32 _), setLf_zero]
  exact setLf_gives h.d rfl rfl
theorem rg_58 {s : ByteArray} {rd r1 r2 : Int} {m : M} {n : Int} (h : Good rd r1 r2 m) (hf : Fet s m 58 rd r1 r2 n) (nn : List Bool) : GivesD (outM nn (exec 58 rd r1 r2 n m)) ((evalF (EP 58 rd r1 r2 n) Try.prog 20 [.str s, .ptr 0 0 0] (hM m true true true) 1024).leaf) := by
  refine gives_retH _ (r_58 s m rd r1 r2 n) ?_
  rw [fetch_ok hf]
  try simp only [ix_ok h.a, ix_ok h.b, gD_true, gU_true, bxT, Nat.beq_refl, byteB_iff.2 h.mem, and63b, and31b, gDr_true, gUr_true (h.X _), gUr_true (inR_u32 _), setLf_zero]
  exact setLf_gives h.d rfl rfl
theorem rg_59 {s : ByteArray} {rd r1 r2 : Int} {m : M} {n : Int} (h : Good rd r1 r2 m) (hf : Fet s m 59 rd r1 r2 n) (nn : List Bool) : GivesD (outM nn (exec 59 rd r1 r2 n m)) ((evalF (EP 59 rd r1 r2 n) Try.prog 20 [.str s, .ptr 0 0 0] (hM m true true true) 1024).leaf) := by
  refine gives_retH _ (r_59 s m rd r1 r2 n) ?_
  rw [fetch_ok hf]
  try simp only [ix_ok h.a, ix_ok h.b, gD_true, gU_true, bxT, Nat.beq_refl, byteB_iff.2 h.mem, and63b, and31b, gDr_true, gUr_true (h.X _), gUr_true (inR_u32 _), setLf_zero]
  exact setLf_gives h.d rfl rfl
theorem rg_60 {s : ByteArray} {rd r1 r2 : Int} {m : M} {n : Int} (h : Good rd r1 r2 m) (hf : Fet s m 60 rd r1 r2 n) (nn : List Bool) : GivesD (outM nn (exec 60 rd r1 r2 n m)) ((evalF (EP 60 rd r1 r2 n) Try.prog 20 [.str s, .ptr 0 0 0] (hM m true true true) 1024).leaf) := by
  refine gives_retH _ (r_60 s m rd r1 r2 n) ?_
  rw [fetch_ok hf]
  try simp only [ix_ok h.a, ix_ok h.b, gD_true, gU_true, bxT, Nat.beq_refl, byteB_iff.2 h.mem, and63b, and31b, gDr_true, gUr_true (h.X _), gUr_true (inR_u32 _), setLf_zero]
  exact setLf_gives h.d rfl rfl
theorem rg_61 {s : ByteArray} {rd r1 r2 : Int} {m : M} {n : Int} (h : Good rd r1 r2 m) (hf : Fet s m 61 rd r1 r2 n) (nn : List Bool) : GivesD (outM nn (exec 61 rd r1 r2 n m)) ((evalF (EP 61 rd r1 r2 n) Try.prog 20 [.str s, .ptr 0 0 0] (hM m true true true) 1024).leaf) := by
  refine gives_retH _ (r_61 s m rd r1 r2 n) ?_
  rw [fetch_ok hf]
  try simp only [ix_ok h.a, ix_ok h.b, gD_true, gU_true, bxT, Nat.beq_refl, byteB_iff.2 h.mem, and63b, and31b, gDr_true, gUr_true (h.X _), gUr_true (inR_u32 _), setLf_zero]
  exact setLf_gives h.d rfl rfl
theorem rg_62 {s : ByteArray} {rd r1 r2 : Int} {m : M} {n : Int} (h : Good rd r1 r2 m) (hf : Fet s m 62 rd r1 r2 n) (nn : List Bool) : GivesD (outM nn (exec 62 rd r1 r2 n m)) ((evalF (EP 62 rd r1 r2 n) Try.prog 20 [.str s, .ptr 0 0 0] (hM m true true true) 1024).leaf) := by
  refine gives_retH _ (r_62 s m rd r1 r2 n) ?_
  rw [fetch_ok hf]
  try simp only [ix_ok h.a, ix_ok h.b, gD_true, gU_true, bxT, Nat.beq_refl, byteB_iff.2 h.mem, and63b, and31b, gDr_true, gUr_true (h.X _), gUr_true (inR_u32 _), setLf_zero]
  exact setLf_gives h.d rfl rfl

end Go.Rv
end

section
set_option linter.unusedVariables false
open Go Go.Ev Go.Proofs
namespace Go.Rv

theorem outG_ok {m : M} (h : m.nO < 1000000) (x : Lf) : outG m x = x := by
  have e : Nat.ble ((m.nO + 1) * 8) 1099511627776 = true := by rw [Nat.ble_eq]; omega
  have e2 : Nat.ble m.nO m.nO = true := by rw [Nat.ble_eq]; omega
  simp only [outG, bx, e, e2, cond_true]
theorem inG_ok {m : M} (h : 0 < m.nI) (x : Lf) : inG m x = x := by
  have e1 : decide (0 < (m.nI : Int)) = true := decide_eq_true (by omega)
  have e2 : Nat.blt 0 m.nI = true := by rw [Nat.blt_eq]; omega
  have e3 : Nat.ble 1 m.nI = true := by rw [Nat.ble_eq]; omega
  have e4 : Nat.ble m.nI m.nI = true := by rw [Nat.ble_eq]; omega
  simp only [inG, bx, e1, e2, e3, e4, cond_true]
theorem setO_zero {N : Nat} {v : Int} {m : M} : setO N 0 v m = outLf N v m := rfl
theorem setI_zero {N : Nat} {m : M} : setI N 0 m = inLf N m := rfl

attribute [local irreducible] evalF Tr.retH Tr.leaf fetchLf

theorem dg_63 {rd r1 r2 : Int} {m : M} (h : Good rd r1 r2 m) (nn : List Bool) (n : Int) : GivesD (outM nn (exec 63 rd r1 r2 n m)) ((evalF ED Try.prog 58 (argD 63 rd r1 r2 n) (hM m true true true) 1024).leaf) := by
  refine gives_retH _ (d_63 m rd r1 r2 n) ?_
  show GivesD (outM nn (callM m)) _
  refine GivesD_cond (fun h1 => ?_) (fun h1 => GivesD_cond (fun h2 => GivesD_cond (fun h3 => ?_) (fun h3 => ?_)) (fun h2 => GivesD_cond (fun h3 => ?_) (fun h3 => ?_)))
  · rw [outG_ok h.nO]
    exact outLf_gives (.inl rfl) (by unfold callM; rw [h1]; rfl)
  · exact retK_gives (by unfold callM; rw [h1, h2, h3]; rfl)
  · rw [inG_ok (by simp only [cm, beq_eq_false_iff_ne] at h3; omega)]
    exact inLf_gives (.inl rfl) (by unfold callM; rw [h1, h2, h3]; rfl)
  · exact retK_gives (by unfold callM; rw [h1, h2, h3]; rfl)
  · exact retK_gives (by unfold callM; rw [h1, h2, h3]; rfl)

theorem rg_63 {s : ByteArray} {rd r1 r2 : Int} {m : M} {n : Int} (h : Good rd r1 r2 m) (hf : Fet s m 63 rd r1 r2 n) (hz : rd = 0) (nn : List Bool) : GivesD (outM nn (exec 63 rd r1 r2 n m)) ((evalF (EP 63 rd r1 r2 n) Try.prog 20 [.str s, .ptr 0 0 0] (hM m true true true) 1024).leaf) := by
  refine gives_retH _ (r_63 s m rd r1 r2 n) ?_
  rw [fetch_ok hf]
  subst hz
  simp only [ix_ok h.a, ix_ok h.b, setLf_zero, setO_zero, setI_zero]
  show GivesD (outM nn (callM m)) _
  refine GivesD_cond (fun h1 => ?_) (fun h1 => GivesD_cond (fun h2 => GivesD_cond (fun h3 => ?_) (fun h3 => ?_)) (fun h2 => GivesD_cond (fun h3 => ?_) (fun h3 => ?_)))
  · rw [outG_ok h.nO]
    exact outLf_gives (.inr rfl) (by unfold callM; rw [h1]; rfl)
  · have h4 : 0 < m.nI := by simp only [cm, decide_eq_true_eq] at h3; omega
    have h5 : cm .eql (m.nI : Int) 0 = false := by simp only [cm, beq_eq_false_iff_ne]; omega
    rw [inG_ok h4]
    exact inLf_gives (.inr rfl) (by unfold callM; rw [h1, h2, h5]; rfl)
  · have h5 : cm .eql (m.nI : Int) 0 = true := by simp only [cm, decide_eq_false_iff_not, beq_iff_eq] at h3 ⊢; omega
    exact retK_gives (by unfold callM; rw [h1, h2, h5]; rfl)
  · exact retK_gives (by unfold callM; rw [h1, h2, h3]; rfl)
  · exact retK_gives (by unfold callM; rw [h1, h2, h3]; rfl)

end Go.Rv
end

section
set_option linter.unusedVariables false
open Go Go.Ev Go.Proofs
namespace Go.Rv

noncomputable def EPN : Env := inlF Try.prog (envOf [(41, specOf g41), (43, specOf g43), (46, specC true (g46 0)), (38, specC true g38N)] noLoop) [39, 40, 42, 45, 61, 62, 63, 71] [] [44] 4
theorem epn_calls : CallsOk EPN Try.prog := (inlF_calls ((SpecsOk.cons spec41 (SpecsOk.cons spec43 (SpecsOk.cons (spec46 0) (SpecsOk.cons spec38N SpecsOk.nil)))).calls noLoop) mixed namedP rfl namedF 4).1
theorem epn_loop : EPN.loop = noLoop := rfl
noncomputable def fetchN (s : ByteArray) (m : M) (x : Lf) : Lf :=
  bif cm .neq m.kind 0 then retK false m else
  bx (bif cm .lss m.pc 4096 then true else allB [bif cm .geq m.pc 262144 then true else allB [bif cm .gtr (ar .add .i64 (ar .sub .i64 m.pc 4096) 4) (s.size : Int) then true else true]]) (bif outP s m.pc then retK true { m with kind := 5 } else
    atS s (ar .sub .i64 m.pc 4096) (atS s (ar .add .i64 (ar .sub .i64 m.pc 4096) 1) (atS s (ar .add .i64 (ar .sub .i64 m.pc 4096) 2) (atS s (ar .add .i64 (ar .sub .i64 m.pc 4096) 3)
      (bx (inU (wordS s (ar .sub .i64 m.pc 4096))) (bx (noIns (wordS s (ar .sub .i64 m.pc 4096))) x))))))
theorem r_N (s : ByteArray) (m : M) : (evalF EPN Try.prog 20 [.str s, .ptr 0 0 0] (hM m true true true) 1024).retH [0, 1, 2, 3, 4] = fetchN s m (retK true { m with kind := 5 }) := by kernel_rfl

/-- the word that a machine stands before -/
def wdM (s : ByteArray) (m : M) : Int := wordS s (ar .sub .i64 m.pc 4096)
/-- a step -/
def stepM (s : ByteArray) (m : M) : M :=
  bif cm .neq m.kind 0 then m else bif outP s m.pc then { m with kind := 5 } else
  bif decOk (wdM s m) then exec (dOp (wdM s m)).toNat (dRd (wdM s m)) (dR1 (wdM s m)) (dR2 (wdM s m)) (dN (wdM s m)) m else { m with kind := 5 }

theorem bits31 (w : BitVec 32) (k : Nat) : ((w >>> k) &&& 31#32).toNat < 32 := by
  rw [BitVec.toNat_and]
  have : ((w >>> k).toNat &&& (31#32).toNat) ≤ (31#32).toNat := Nat.and_le_right
  have h : (31#32).toNat = 31 := rfl
  omega
theorem dRd_in (w : Int) : 0 ≤ dRd w ∧ dRd w < 32 := by
  unfold dRd decV rdB
  have := bits31 (W w) 7
  cases decOk w <;> simp only [cond_true, cond_false]
  · omega
  · split <;> omega
theorem dR1_in (w : Int) : 0 ≤ dR1 w ∧ dR1 w < 32 := by
  unfold dR1 decV r1B
  have := bits31 (W w) 15
  cases decOk w <;> simp only [cond_true, cond_false]
  · omega
  · split <;> omega
theorem dR2_in (w : Int) : 0 ≤ dR2 w ∧ dR2 w < 32 := by
  unfold dR2 decV r2B
  have := bits31 (W w) 20
  cases decOk w <;> simp only [cond_true, cond_false]
  · omega
  · split <;> omega
theorem dOp_in {w : Int} (h : decOk w = true) : 1 ≤ dOp w ∧ dOp w ≤ 63 := by
  have h2 := h
  unfold decOk at h2
  rw [Nat.blt_eq] at h2
  unfold dOp decV
  rw [h, cond_true]
  omega

/-- ops that write no register -/
def noRd (K : Nat) : Bool := (Nat.ble 5 K && Nat.ble K 10) || ((Nat.ble 18 K && Nat.ble K 21) || Nat.beq K 63)
theorem noRd_all : ((List.range 63).all fun j => !noRd (j + 1) || !(hasL (nth kinds 0 j)).1) = true := by kernel_rfl
theorem noRd_zero {w : Int} (h : decOk w = true) {K : Nat} (hK : dOp w = K) (hn : noRd K = true) : dRd w = 0 := by
  have h2 := h
  unfold decOk at h2
  rw [Nat.blt_eq] at h2
  have e : K = decI w + 1 := by
    unfold dOp decV at hK
    rw [h, cond_true] at hK
    omega
  have := List.all_eq_true.1 noRd_all (decI w) (List.mem_range.2 h2)
  rw [← e, hn] at this
  simp only [Bool.not_true, Bool.false_or, Bool.not_eq_true'] at this
  unfold dRd decV rdB decK
  rw [h, cond_true, this]
  rfl

attribute [local irreducible] evalF Tr.retH Tr.leaf fetchLf fetchN

theorem dg_all {rd r1 r2 : Int} {m : M} (h : Good rd r1 r2 m) (nn : List Bool) (n : Int) : ∀ (K : Nat), 1 ≤ K → K ≤ 63 → GivesD (outM nn (exec K rd r1 r2 n m)) ((evalF ED Try.prog 58 (argD (K : Int) rd r1 r2 n) (hM m true true true) 1024).leaf)
  | 0, h1, _ => absurd h1 (by decide)
  | 1, _, _ => dg_1 h nn n
  | 2, _, _ => dg_2 h nn n
  | 3, _, _ => dg_3 h nn n
  | 4, _, _ => dg_4 h nn n
  | 5, _, _ => dg_5 h nn n
  | 6, _, _ => dg_6 h nn n
  | 7, _, _ => dg_7 h nn n
  | 8, _, _ => dg_8 h nn n
  | 9, _, _ => dg_9 h nn n
  | 10, _, _ => dg_10 h nn n
  | 11, _, _ => dg_11 h nn n
  | 12, _, _ => dg_12 h nn n
  | 13, _, _ => dg_13 h nn n
  | 14, _, _ => dg_14 h nn n
  | 15, _, _ => dg_15 h nn n
  | 16, _, _ => dg_16 h nn n
  | 17, _, _ => dg_17 h nn n
  | 18, _, _ => dg_18 h nn n
  | 19, _, _ => dg_19 h nn n
  | 20, _, _ => dg_20 h nn n
  | 21, _, _ => dg_21 h nn n
  | 22, _, _ => dg_22 h nn n
  | 23, _, _ => dg_23 h nn n
  | 24, _, _ => dg_24 h nn n
  | 25, _, _ => dg_25 h nn n
  | 26, _, _ => dg_26 h nn n
  | 27, _, _ => dg_27 h nn n
  | 28, _, _ => dg_28 h nn n
  | 29, _, _ => dg_29 h nn n
  | 30, _, _ => dg_30 h nn n
  | 31, _, _ => dg_31 h nn n
  | 32, _, _ => dg_32 h nn n
  | 33, _, _ => dg_33 h nn n
  | 34, _, _ => dg_34 h nn n
  | 35, _, _ => dg_35 h nn n
  | 36, _, _ => dg_36 h nn n
  | 37, _, _ => dg_37 h nn n
  | 38, _, _ => dg_38 h nn n
  | 39, _, _ => dg_39 h nn n
  | 40, _, _ => dg_40 h nn n
  | 41, _, _ => dg_41 h nn n
  | 42, _, _ => dg_42 h nn n
  | 43, _, _ => dg_43 h nn n
  | 44, _, _ => dg_44 h nn n
  | 45, _, _ => dg_45 h nn n
  | 46, _, _ => dg_46 h nn n
  | 47, _, _ => dg_47 h nn n
  | 48, _, _ => dg_48 h nn n
  | 49, _, _ => dg_49 h nn n
  | 50, _, _ => dg_50 h nn n
  | 51, _, _ => dg_51 h nn n
  | 52, _, _ => dg_52 h nn n
  | 53, _, _ => dg_53 h nn n
  | 54, _, _ => dg_54 h nn n
  | 55, _, _ => dg_55 h nn n
  | 56, _, _ => dg_56 h nn n
  | 57, _, _ => dg_57 h nn n
  | 58, _, _ => dg_58 h nn n
  | 59, _, _ => dg_59 h nn n
  | 60, _, _ => dg_60 h nn n
  | 61, _, _ => dg_61 h nn n
  | 62, _, _ => dg_62 h nn n
  | 63, _, _ => dg_63 h nn n
  | K + 64, _, h2 => absurd h2 (by omega)

theorem rg_all {s : ByteArray} {rd r1 r2 : Int} {m : M} {n : Int} (h : Good rd r1 r2 m) (nn : List Bool) : ∀ (K : Nat), 1 ≤ K → K ≤ 63 → Fet s m (K : Int) rd r1 r2 n → (noRd K = true → rd = 0) →
    GivesD (outM nn (exec K rd r1 r2 n m)) ((evalF (EP (K : Int) rd r1 r2 n) Try.prog 20 [.str s, .ptr 0 0 0] (hM m true true true) 1024).leaf)
  | 0, h1, _, _, _ => absurd h1 (by decide)
  | 1, _, _, hf, hz => rg_1 h hf nn
  | 2, _, _, hf, hz => rg_2 h hf nn
  | 3, _, _, hf, hz => rg_3 h hf nn
  | 4, _, _, hf, hz => rg_4 h hf nn
  | 5, _, _, hf, hz => rg_5 h hf (hz rfl) nn
  | 6, _, _, hf, hz => rg_6 h hf (hz rfl) nn
  | 7, _, _, hf, hz => rg_7 h hf (hz rfl) nn
  | 8, _, _, hf, hz => rg_8 h hf (hz rfl) nn
  | 9, _, _, hf, hz => rg_9 h hf (hz rfl) nn
  | 10, _, _, hf, hz => rg_10 h hf (hz rfl) nn
  | 11, _, _, hf, hz => rg_11 h hf nn
  | 12, _, _, hf, hz => rg_12 h hf nn
  | 13, _, _, hf, hz => rg_13 h hf nn
  | 14, _, _, hf, hz => rg_14 h hf nn
  | 15, _, _, hf, hz => rg_15 h hf nn
  | 16, _, _, hf, hz => rg_16 h hf nn
  | 17, _, _, hf, hz => rg_17 h hf nn
  | 18, _, _, hf, hz => rg_18 h hf (hz rfl) nn
  | 19, _, _, hf, hz => rg_19 h hf (hz rfl) nn
  | 20, _, _, hf, hz => rg_20 h hf (hz rfl) nn
  | 21, _, _, hf, hz => rg_21 h hf (hz rfl) nn
  | 22, _, _, hf, hz => rg_22 h hf nn
  | 23, _, _, hf, hz => rg_23 h hf nn
  | 24, _, _, hf, hz => rg_24 h hf nn
  | 25, _, _, hf, hz => rg_25 h hf nn
  | 26, _, _, hf, hz => rg_26 h hf nn
  | 27, _, _, hf, hz => rg_27 h hf nn
  | 28, _, _, hf, hz => rg_28 h hf nn
  | 29, _, _, hf, hz => rg_29 h hf nn
  | 30, _, _, hf, hz => rg_30 h hf nn
  | 31, _, _, hf, hz => rg_31 h hf nn
  | 32, _, _, hf, hz => rg_32 h hf nn
  | 33, _, _, hf, hz => rg_33 h hf nn
  | 34, _, _, hf, hz => rg_34 h hf nn
  | 35, _, _, hf, hz => rg_35 h hf nn
  | 36, _, _, hf, hz => rg_36 h hf nn
  | 37, _, _, hf, hz => rg_37 h hf nn
  | 38, _, _, hf, hz => rg_38 h hf nn
  | 39, _, _, hf, hz => rg_39 h hf nn
  | 40, _, _, hf, hz => rg_40 h hf nn
  | 41, _, _, hf, hz => rg_41 h hf nn
  | 42, _, _, hf, hz => rg_42 h hf nn
  | 43, _, _, hf, hz => rg_43 h hf nn
  | 44, _, _, hf, hz => rg_44 h hf nn
  | 45, _, _, hf, hz => rg_45 h hf nn
  | 46, _, _, hf, hz => rg_46 h hf nn
  | 47, _, _, hf, hz => rg_47 h hf nn
  | 48, _, _, hf, hz => rg_48 h hf nn
  | 49, _, _, hf, hz => rg_49 h hf nn
  | 50, _, _, hf, hz => rg_50 h hf nn
  | 51, _, _, hf, hz => rg_51 h hf nn
  | 52, _, _, hf, hz => rg_52 h hf nn
  | 53, _, _, hf, hz => rg_53 h hf nn
  | 54, _, _, hf, hz => rg_54 h hf nn
  | 55, _, _, hf, hz => rg_55 h hf nn
  | 56, _, _, hf, hz => rg_56 h hf nn
  | 57, _, _, hf, hz => rg_57 h hf nn
  | 58, _, _, hf, hz => rg_58 h hf nn
  | 59, _, _, hf, hz => rg_59 h hf nn
  | 60, _, _, hf, hz => rg_60 h hf nn
  | 61, _, _, hf, hz => rg_61 h hf nn
  | 62, _, _, hf, hz => rg_62 h hf nn
  | 63, _, _, hf, hz => rg_63 h hf (hz rfl) nn
  | K + 64, _, h2, _, _ => absurd h2 (by omega)

end Go.Rv
end

section
set_option linter.unusedVariables false
open Go Go.Ev Go.Proofs
namespace Go.Rv

/-- what a machine's numbers are -/
structure MG (m : M) : Prop where
  X : ∀ r, inR (m.X r)
  mem : ∀ r, 0 ≤ m.mem r ∧ m.mem r < 256
  nO : m.nO < 1000000
noncomputable def goodB (m : M) : Bool := @decide (MG m) (Classical.propDecidable _)
theorem goodB_iff {m : M} : goodB m = true ↔ MG m := @decide_eq_true_iff _ (Classical.propDecidable _)
noncomputable def sizeB (s : ByteArray) : Bool := @decide (s.size ≤ 1000000) (Classical.propDecidable _)
theorem sizeB_iff {s : ByteArray} : sizeB s = true ↔ s.size ≤ 1000000 := @decide_eq_true_iff _ (Classical.propDecidable _)

theorem unF_all {H : Heap} {nn : List Bool} {m : M} (h : unF true true true H = some (nn, m)) (hn : allB nn = true) : roH [0, 1, 2, 1024, 1025, 4] H = hM m true true true := by
  unfold unF at h
  split at h
  · split at h
    · rename_i hr hb
      simp only [Option.some.injEq, Prod.mk.injEq] at h
      obtain ⟨rfl, rfl⟩ := h
      simp only [Bool.and_eq_true, Nat.beq_eq] at hb
      obtain ⟨rfl, rfl, rfl, rfl, rfl, rfl, rfl, rfl, rfl, rfl, rfl, rfl, rfl⟩ := hb
      simp only [allB, Bool.and_true, Bool.and_eq_true, Nat.beq_eq] at hn
      obtain ⟨rfl, rfl⟩ := hn
      simp at hr
      obtain ⟨rfl, rfl, rfl⟩ := hr
      rfl
    · cases h
  · cases h

noncomputable def g20 : List SV → Heap → Option R
  | [.str s, .ptr k0 r0 c0], H => match unF true true true H, Nat.beq k0 0 && (Nat.beq r0 0 && Nat.beq c0 0) with
    | some (nn, m), true => some (outM (goodB m :: sizeB s :: nn) (stepM s m))
    | _, _ => none
  | _, _ => none

theorem fn20 : Try.prog.funcs[20]? = some Try.f20 := by kernel_rfl
theorem b20 : Try.f20.body = some (bodyOf Try.f20) := by kernel_rfl
theorem n20 : (Try.f20.name == "runtime.NumGoroutine") = false := by kernel_rfl
theorem fn58 : Try.prog.funcs[58]? = some Try.f58 := by kernel_rfl
theorem b58 : Try.f58.body = some (bodyOf Try.f58) := by kernel_rfl
theorem n58 : (Try.f58.name == "runtime.NumGoroutine") = false := by kernel_rfl

theorem ofNat_toNat {x : Int} (h : 1 ≤ x) : ((x.toNat : Nat) : Int) = x := by omega

attribute [local irreducible] evalF Tr.retH Tr.leaf fetchLf fetchN exec

theorem step_gives {s : ByteArray} {m : M} (nn : List Bool) (hg : MG m) (hs : s.size ≤ 1000000) : ∃ E, CallsOk E Try.prog ∧ E.loop = noLoop ∧ GivesD (outM nn (stepM s m)) ((evalF E Try.prog 20 [.str s, .ptr 0 0 0] (hM m true true true) 1024).leaf) := by
  by_cases hk : m.kind = 0
  · have e1 : cm .neq m.kind 0 = false := by rw [hk]; rfl
    cases ho : outP s m.pc with
    | true =>
      refine ⟨EPN, epn_calls, epn_loop, gives_retH _ (r_N s m) ?_⟩
      have e2 : (bif cm .lss m.pc 4096 then true else allB [bif cm .geq m.pc 262144 then true else allB [bif cm .gtr (ar .add .i64 (ar .sub .i64 m.pc 4096) 4) (s.size : Int) then true else true]]) = true := by
        cases cm .lss m.pc 4096 <;> cases cm .geq m.pc 262144 <;> cases cm .gtr (ar .add .i64 (ar .sub .i64 m.pc 4096) 4) (s.size : Int) <;> rfl
      unfold fetchN stepM
      rw [e1, cond_false, e2, bx_true rfl, ho, cond_true, cond_false, cond_true]
      exact retK_gives rfl
    | false =>
      cases hd : decOk (wdM s m) with
      | true =>
        have hin := dOp_in hd
        have hm : stepM s m = exec (dOp (wdM s m)).toNat (dRd (wdM s m)) (dR1 (wdM s m)) (dR2 (wdM s m)) (dN (wdM s m)) m := by
          unfold stepM; rw [e1, ho, hd]; rfl
        rw [hm]
        have e := ofNat_toNat hin.1
        refine ⟨EP (dOp (wdM s m)).toNat (dRd (wdM s m)) (dR1 (wdM s m)) (dR2 (wdM s m)) (dN (wdM s m)), ep_calls _ _ _ _ _, ep_loop _ _ _ _ _, ?_⟩
        refine rg_all ⟨dRd_in _, dR1_in _, dR2_in _, hg.X, hg.mem, hg.nO⟩ nn _ (by omega) (by omega) ⟨hk, ho, hs, isIns_iff.2 ⟨hd, e.symm, rfl, rfl, rfl, rfl⟩⟩ fun hn => noRd_zero hd e.symm hn
      | false =>
        refine ⟨EPN, epn_calls, epn_loop, gives_retH _ (r_N s m) ?_⟩
        obtain ⟨p1, p2, p3, p4⟩ := outP_in ho hs
        have e2 : (bif cm .lss m.pc 4096 then true else allB [bif cm .geq m.pc 262144 then true else allB [bif cm .gtr (ar .add .i64 (ar .sub .i64 m.pc 4096) 4) (s.size : Int) then true else true]]) = true := by
          cases cm .lss m.pc 4096 <;> cases cm .geq m.pc 262144 <;> cases cm .gtr (ar .add .i64 (ar .sub .i64 m.pc 4096) 4) (s.size : Int) <;> rfl
        have a1 : ar .add .i64 (m.pc - 4096) 1 = m.pc - 4096 + 1 := by simp only [ar, IntKind.wrap_i64]; omega
        have a2 : ar .add .i64 (m.pc - 4096) 2 = m.pc - 4096 + 2 := by simp only [ar, IntKind.wrap_i64]; omega
        have a3 : ar .add .i64 (m.pc - 4096) 3 = m.pc - 4096 + 3 := by simp only [ar, IntKind.wrap_i64]; omega
        have hm : stepM s m = { m with kind := 5 } := by unfold stepM; rw [e1, ho, hd]; rfl
        rw [hm]
        unfold fetchN
        unfold wdM at hd
        rw [e1, cond_false, e2, bx_true rfl, ho, cond_false, bx_true (wordS_inU _ _), bx_true (noIns_iff.2 hd), p4, a1, a2, a3, atS_ok (by omega), atS_ok (by omega), atS_ok (by omega), atS_ok (by omega)]
        exact retK_gives rfl
  · have e1 : cm .neq m.kind 0 = true := by simp [cm, hk]
    refine ⟨EPN, epn_calls, epn_loop, gives_retH _ (r_N s m) ?_⟩
    unfold fetchN stepM
    rw [e1, cond_true, cond_true]
    exact retK_gives rfl

theorem spec20 : SpecOk Try.prog 20 (specOf g20) := spec_okU false mixed fn20 b20 n20 g20 fun a0 H0 r hg hn => by
  unfold g20 at hg
  split at hg
  · rename_i s k0 r0 c0
    split at hg
    · rename_i nn m hm hk
      simp only [Bool.and_eq_true, Nat.beq_eq] at hk
      obtain ⟨rfl, rfl, rfl⟩ := hk
      simp only [Option.some.injEq] at hg
      subst hg
      simp only [outM, allB, Bool.and_eq_true, goodB_iff, sizeB_iff] at hn
      obtain ⟨h1, h2, hnn⟩ := hn
      obtain ⟨E, he, hl, hgv⟩ := step_gives (goodB m :: sizeB s :: nn) h1 h2
      refine ⟨E, [.str s, .ptr 0 0 0], [0, 1, 2, 1024, 1025, 4], he, loops_noLoop hl _ _, fun h => h, fun σ => rfl, subN rfl, ?_⟩
      rw [unF_all hm hnn]
      exact hgv
    · cases hg
  · cases hg

noncomputable def g58 : List SV → Heap → Option R
  | [.ptr k0 r0 c0, .agg [.int _ .i64 op, .int _ .i64 rd, .int _ .i64 r1, .int _ .i64 r2, .int _ .i64 n]], H => match unF true true true H, Nat.beq k0 0 && (Nat.beq r0 0 && Nat.beq c0 0) with
    | some (nn, m), true => some (outM (goodB m :: insB op rd r1 r2 :: nn) (exec op.toNat rd r1 r2 n m))
    | _, _ => none
  | _, _ => none
where
  insB (op rd r1 r2 : Int) : Bool := @decide ((1 ≤ op ∧ op ≤ 63) ∧ (0 ≤ rd ∧ rd < 32) ∧ (0 ≤ r1 ∧ r1 < 32) ∧ 0 ≤ r2 ∧ r2 < 32) (Classical.propDecidable _)
theorem insB_iff {op rd r1 r2 : Int} : g58.insB op rd r1 r2 = true ↔ (1 ≤ op ∧ op ≤ 63) ∧ (0 ≤ rd ∧ rd < 32) ∧ (0 ≤ r1 ∧ r1 < 32) ∧ 0 ≤ r2 ∧ r2 < 32 := @decide_eq_true_iff _ (Classical.propDecidable _)

theorem spec58 : SpecOk Try.prog 58 (specOf g58) := spec_okU false mixed fn58 b58 n58 g58 fun a0 H0 r hg hn => by
  unfold g58 at hg
  split at hg
  · rename_i k0 r0 c0 _ op _ rd _ r1 _ r2 _ n
    split at hg
    · rename_i nn m hm hk
      simp only [Bool.and_eq_true, Nat.beq_eq] at hk
      obtain ⟨rfl, rfl, rfl⟩ := hk
      simp only [Option.some.injEq] at hg
      subst hg
      simp only [outM, allB, Bool.and_eq_true, goodB_iff, insB_iff] at hn
      obtain ⟨h1, ⟨h2, h3, h4, h5⟩, hnn⟩ := hn
      have e := ofNat_toNat h2.1
      refine ⟨ED, argD op rd r1 r2 n, [0, 1, 2, 1024, 1025, 4], ed_calls, loops_noLoop ed_loop _ _, fun h => by simpa [argD, SV.alL, SV.al] using h, fun σ => by simp only [argD, denL, den], subN rfl, ?_⟩
      rw [unF_all hm hnn]
      have := dg_all (m := m) ⟨h3, h4, h5, h1.X, h1.mem, h1.nO⟩ (goodB m :: g58.insB op rd r1 r2 :: nn) n op.toNat (by omega) (by omega)
      rw [e] at this
      exact this
    · cases hg
  · cases hg

end Go.Rv
end

section
set_option linter.unusedVariables false
open Go Go.Ev Go.Proofs
namespace Go.Rv

theorem conv_in (x : Int) : inR (conv .i64 x) := by simp only [inR, conv, IntKind.wrap_i64]; omega
theorem ar_in {op : BinOp} (h : op ∈ [BinOp.add, .sub, .mul, .and, .or, .xor, .andNot, .quo, .shl]) (x y : Int) : inR (ar op .i64 x y) := by
  have hw : ∀ z, inR (IntKind.i64.wrap z) := fun z => by simp only [inR, IntKind.wrap_i64]; omega
  simp only [List.mem_cons, List.not_mem_nil, or_false] at h
  rcases h with rfl | rfl | rfl | rfl | rfl | rfl | rfl | rfl | rfl <;> exact hw _
theorem shr_in {a : Int} (h : inR a) (s : Int) : inR (ar .shr .i64 a s) := by
  unfold inR at h ⊢
  simp only [ar]
  have hp := pow_pos' (min s.toNat IntKind.i64.bits)
  generalize (2 : Int) ^ min s.toNat IntKind.i64.bits = p at hp
  rw [Int.fdiv_eq_ediv_of_nonneg _ (by omega)]
  constructor
  · refine Int.le_ediv_of_mul_le (by omega) ?_
    have : (-9223372036854775808 : Int) * p ≤ -9223372036854775808 * 1 := Int.mul_le_mul_of_nonpos_left (by decide) hp
    omega
  · refine Int.ediv_lt_of_lt_mul (by omega) ?_
    have : (9223372036854775808 : Int) * 1 ≤ 9223372036854775808 * p := Int.mul_le_mul_of_nonneg_left hp (by decide)
    omega
theorem rem_in {a : Int} (h : inR a) (b : Int) : inR (ar .rem .i64 a b) := by
  unfold inR at h ⊢
  simp only [ar]
  have h1 : (a.tmod b).natAbs ≤ a.natAbs := by rw [Int.natAbs_tmod]; exact Nat.mod_le _ _
  have h2 : a.tmod b = 0 ∨ (0 ≤ a → 0 ≤ a.tmod b) := .inr fun h => Int.tmod_nonneg _ h
  by_cases h0 : 0 ≤ a
  · have := Int.tmod_nonneg b h0
    omega
  · have h3 := Int.tmod_nonneg b (show 0 ≤ -a by omega)
    rw [Int.neg_tmod] at h3
    omega
theorem cond_in {b : Bool} {x y : Int} (h1 : inR x) (h2 : inR y) : inR (bif b then x else y) := by cases b <;> assumption
theorem lit_in (k : Int) (h : decide (-9223372036854775808 ≤ k ∧ k < 9223372036854775808) = true) : inR k := by unfold inR; exact of_decide_eq_true h

theorem exV_in (K : Nat) {a b : Int} (n pc : Int) (ha : inR a) (hb : inR b) : inR (exV K a b n pc) := by
  unfold exV
  split
  all_goals first
    | exact conv_in _
    | exact ar_in (by decide) _ _
    | exact shr_in ha _
    | exact cond_in (lit_in _ (by decide)) (lit_in _ (by decide))
    | exact cond_in (conv_in _) (conv_in _)
    | exact cond_in (cond_in (conv_in _) (conv_in _)) (cond_in (conv_in _) (conv_in _))
    | exact cond_in (cond_in (conv_in _) (conv_in _)) (conv_in _)
    | exact cond_in (lit_in _ (by decide)) (cond_in ha (ar_in (by decide) _ _))
    | exact cond_in (lit_in _ (by decide)) (conv_in _)
    | exact cond_in ha (cond_in (lit_in _ (by decide)) (rem_in ha _))
    | exact cond_in ha (conv_in _)
    | exact lit_in _ (by decide)
    | skip

theorem ldR_in (K : Nat) (x : Int) : inR (ldR K x) := by
  unfold ldR
  split
  all_goals first
    | exact conv_in _
    | exact lit_in _ (by decide)

/-- as MG, without what goes out -/
structure MX (m : M) : Prop where
  X : ∀ r, inR (m.X r)
  mem : ∀ r, 0 ≤ m.mem r ∧ m.mem r < 256
  inp : ∀ i, inR (m.inp i)

theorem upd_in {X : Nat → Int} (h : ∀ r, inR (X r)) (k : Nat) {v : Int} (hv : inR v) : ∀ r, inR (upd X k v r) := by
  intro r
  unfold upd
  exact cond_in hv (h r)

theorem setM_mx {rd v : Int} {m : M} (h : MX m) (hv : inR v) : MX (setM rd v m) := by
  unfold setM
  cases cm .neq rd 0 with
  | true => exact ⟨upd_in h.X _ hv, h.mem, h.inp⟩
  | false => exact h

theorem storeX_in {mem : Nat → Int} (h : ∀ r, 0 ≤ mem r ∧ mem r < 256) (a v : Int) : ∀ n r, 0 ≤ storeX mem a v n r ∧ storeX mem a v n r < 256
  | 0, r => h r
  | n + 1, r => by
    show 0 ≤ upd (storeX mem a v n) (ixX a n) _ r ∧ upd (storeX mem a v n) (ixX a n) _ r < 256
    unfold upd
    cases Nat.beq r (ixX a n) with
    | true => simp only [cond_true, conv, IntKind.wrap_u8]; omega
    | false => exact storeX_in h a v n r
theorem storeA_in {mem : Nat → Int} (h : ∀ r, 0 ≤ mem r ∧ mem r < 256) (a v : Int) (n : Nat) : ∀ r, 0 ≤ storeA mem a v n r ∧ storeA mem a v n r < 256 := by
  unfold storeA
  cases decide (accX a n = 0) with
  | true => exact storeX_in h a v n
  | false => exact h

theorem from_in {f : Nat → Int} (h : ∀ i, inR (f i)) (k : Nat) : ∀ i, inR (from_ k f i) := fun i => h (k + i)

theorem exec_mx {m : M} (h : MX m) (K : Nat) (rd r1 r2 n : Int) : MX (exec K rd r1 r2 n m) := by
  have hv : inR (exV K (m.X r1.toNat) (m.X r2.toNat) n m.pc) := exV_in K n m.pc (h.X _) (h.X _)
  unfold exec
  cases Nat.ble K 4 with
  | true => exact setM_mx ⟨h.X, h.mem, h.inp⟩ hv
  | false => cases Nat.ble K 10 with
    | true => exact ⟨h.X, h.mem, h.inp⟩
    | false => cases Nat.ble K 17 with
      | true =>
        simp only [cond_true, cond_false]
        unfold loadM
        cases decide (accX (aX m (m.X r1.toNat) n) (szX K) = 0) with
        | true => exact setM_mx ⟨h.X, h.mem, h.inp⟩ (ldR_in _ _)
        | false => exact ⟨h.X, h.mem, h.inp⟩
      | false => cases Nat.ble K 21 with
        | true =>
          simp only [cond_true, cond_false]
          unfold storeM
          cases decide (accX (aX m (m.X r1.toNat) n) (szX K) = 0) with
          | true => exact ⟨h.X, storeA_in h.mem _ _ _, h.inp⟩
          | false => exact ⟨h.X, storeA_in h.mem _ _ _, h.inp⟩
        | false => cases Nat.ble K 62 with
          | true => exact setM_mx ⟨h.X, h.mem, h.inp⟩ hv
          | false =>
            simp only [cond_false]
            unfold callM
            cases cm .eql (m.X 17) 1 with
            | true => exact ⟨h.X, h.mem, h.inp⟩
            | false => cases cm .eql (m.X 17) 2 with
              | true => cases cm .eql (m.nI : Int) 0 with
                | true => exact ⟨upd_in h.X _ (lit_in 0 (by decide)), h.mem, h.inp⟩
                | false => exact ⟨upd_in h.X _ (h.inp 0), h.mem, from_in h.inp 1⟩
              | false => cases cm .eql (m.X 17) 3 with
                | true => exact ⟨h.X, h.mem, h.inp⟩
                | false => exact ⟨h.X, h.mem, h.inp⟩

theorem stepM_mx {s : ByteArray} {m : M} (h : MX m) : MX (stepM s m) := by
  unfold stepM
  cases cm .neq m.kind 0 with
  | true => exact h
  | false => cases outP s m.pc with
    | true => exact ⟨h.X, h.mem, h.inp⟩
    | false => cases decOk (wdM s m) with
      | true => exact exec_mx h _ _ _ _ _
      | false => exact ⟨h.X, h.mem, h.inp⟩

theorem setM_nO (rd v : Int) (m : M) : (setM rd v m).nO = m.nO := by unfold setM; cases cm .neq rd 0 <;> rfl
theorem exec_nO (K : Nat) (rd r1 r2 n : Int) (m : M) : (exec K rd r1 r2 n m).nO ≤ m.nO + 1 := by
  unfold exec
  cases Nat.ble K 4 with
  | true => simp only [cond_true, setM_nO]; omega
  | false => cases Nat.ble K 10 with
    | true => exact Nat.le_succ _
    | false => cases Nat.ble K 17 with
      | true =>
        simp only [cond_true, cond_false]
        unfold loadM
        cases decide (accX (aX m (m.X r1.toNat) n) (szX K) = 0) with
        | true => simp only [Bool.not_true, cond_false, setM_nO]; omega
        | false => exact Nat.le_succ _
      | false => cases Nat.ble K 21 with
        | true =>
          simp only [cond_true, cond_false]
          unfold storeM
          cases decide (accX (aX m (m.X r1.toNat) n) (szX K) = 0) <;> exact Nat.le_succ _
        | false => cases Nat.ble K 62 with
          | true => simp only [cond_true, cond_false, setM_nO]; omega
          | false =>
            simp only [cond_false]
            unfold callM
            cases cm .eql (m.X 17) 1 with
            | true => exact Nat.le_refl _
            | false => cases cm .eql (m.X 17) 2 with
              | true => cases cm .eql (m.nI : Int) 0 <;> exact Nat.le_succ _
              | false => cases cm .eql (m.X 17) 3 <;> exact Nat.le_succ _
theorem stepM_nO (s : ByteArray) (m : M) : (stepM s m).nO ≤ m.nO + 1 := by
  unfold stepM
  cases cm .neq m.kind 0 with
  | true => exact Nat.le_succ _
  | false => cases outP s m.pc with
    | true => exact Nat.le_succ _
    | false => cases decOk (wdM s m) with
      | true => exact exec_nO _ _ _ _ _ _
      | false => exact Nat.le_succ _

end Go.Rv
end

section
set_option linter.unusedVariables false
open Go Go.Ev Go.Proofs
namespace Go.Rv

def gCl (k : IntKind) : List SV → Heap → Option R
  | [.sl j n], [(i, .tab m [.ints k' g] _)] => match Nat.beq j 0 && (Nat.beq i 0 && decide (k = k')) with
    | true => some ⟨[Nat.beq m n, Nat.ble n 100000000], .sl 1024 n, [(1024, .tab n [.ints k g] true)]⟩
    | false => none
  | [.val (.slice none 0 0)], [] => some ⟨[], .sl 1024 0, [(1024, .tab 0 [.ints k fun _ => 0] true)]⟩
  | _, _ => none

theorem t55s (n : Nat) (g : Nat → Int) (b : Bool) : (evalF EN Try.prog 55 [.sl 0 n] [(0, .tab n [.ints .i64 g] false)] 1024).leaf =
    bif Nat.blt 0 n then bif Nat.ble n n then bif Nat.ble n n then bif Nat.ble ((0 + n) * 8) 1099511627776 then
      .ret (.sl 1104 (0 + n)) [(0, .tab n [.ints .i64 g] false), (1072, .dead), (1104, .tab (0 + n) [.ints .i64 (cat 0 (fun _ => 0) g)] true)] else .bad else .bad else .bad else .bad := by kernel_rfl
theorem t55n (c m : Nat) (g : Nat → Int) : (evalF EN Try.prog 55 [.val (.slice none 0 c)] [(0, .tab m [.ints .i64 g] false)] 1024).leaf =
    .ret (.val (.slice none 0 0)) [(0, .tab m [.ints .i64 g] false)] := by kernel_rfl
theorem t55N : (evalF EN Try.prog 55 [.val (.slice none 0 0)] [] 1024).leaf = .ret (.val (.slice none 0 0)) [] := by kernel_rfl
theorem t55z (a : Addr) (c m : Nat) (g : Nat → Int) : (evalF EN Try.prog 55 [.val (.slice (some a) 0 c)] [(0, .tab m [.ints .i64 g] false)] 1024).leaf =
    .ret (.sl 1104 0) [(0, .tab m [.ints .i64 g] false), (1072, .dead), (1104, .tab 0 [.ints .i64 (cat 0 (fun _ => 0) (fun _ => 0))] true)] := by kernel_rfl
theorem t56s (n : Nat) (g : Nat → Int) (b : Bool) : (evalF EN Try.prog 56 [.sl 0 n] [(0, .tab n [.ints .u8 g] false)] 1024).leaf =
    bif Nat.blt 0 n then bif Nat.ble n n then bif Nat.ble n n then bif Nat.ble ((0 + n) * 1) 1099511627776 then
      .ret (.sl 1104 (0 + n)) [(0, .tab n [.ints .u8 g] false), (1072, .dead), (1104, .tab (0 + n) [.ints .u8 (cat 0 (fun _ => 0) g)] true)] else .bad else .bad else .bad else .bad := by kernel_rfl
theorem t56n (c m : Nat) (g : Nat → Int) : (evalF EN Try.prog 56 [.val (.slice none 0 c)] [(0, .tab m [.ints .u8 g] false)] 1024).leaf =
    .ret (.val (.slice none 0 0)) [(0, .tab m [.ints .u8 g] false)] := by kernel_rfl
theorem t56N : (evalF EN Try.prog 56 [.val (.slice none 0 0)] [] 1024).leaf = .ret (.val (.slice none 0 0)) [] := by kernel_rfl
theorem t56z (a : Addr) (c m : Nat) (g : Nat → Int) : (evalF EN Try.prog 56 [.val (.slice (some a) 0 c)] [(0, .tab m [.ints .u8 g] false)] 1024).leaf =
    .ret (.sl 1104 0) [(0, .tab m [.ints .u8 g] false), (1072, .dead), (1104, .tab 0 [.ints .u8 (cat 0 (fun _ => 0) (fun _ => 0))] true)] := by kernel_rfl

theorem cat_zero (f g : Nat → Int) : cat 0 f g = g := by
  funext i
  simp only [cat]
  have : Nat.blt i 0 = false := by cases h : Nat.blt i 0 with | false => rfl | true => rw [Nat.blt_eq] at h; omega
  rw [this, cond_false, Nat.sub_zero]

attribute [local irreducible] evalF in
theorem clone_ok {f : Nat} {fn : Func} {k : IntKind} (hf : Try.prog.funcs[f]? = some fn) (hb : fn.body = some (bodyOf fn)) (hname : (fn.name == "runtime.NumGoroutine") = false)
    {z : Nat} (hz : z ≤ 8)
    (ts : ∀ (n : Nat) (g : Nat → Int), (evalF EN Try.prog f [.sl 0 n] [(0, .tab n [.ints k g] false)] 1024).leaf =
      bif Nat.blt 0 n then bif Nat.ble n n then bif Nat.ble n n then bif Nat.ble ((0 + n) * z) 1099511627776 then
      .ret (.sl 1104 (0 + n)) [(0, .tab n [.ints k g] false), (1072, .dead), (1104, .tab (0 + n) [.ints k (cat 0 (fun _ => 0) g)] true)] else .bad else .bad else .bad else .bad)
    (tn : ∀ (c m : Nat) (g : Nat → Int), (evalF EN Try.prog f [.val (.slice none 0 c)] [(0, .tab m [.ints k g] false)] 1024).leaf = .ret (.val (.slice none 0 0)) [(0, .tab m [.ints k g] false)])
    (tN : (evalF EN Try.prog f [.val (.slice none 0 0)] [] 1024).leaf = .ret (.val (.slice none 0 0)) [])
    (tz : ∀ (a : Addr) (c m : Nat) (g : Nat → Int), (evalF EN Try.prog f [.val (.slice (some a) 0 c)] [(0, .tab m [.ints k g] false)] 1024).leaf =
      .ret (.sl 1104 0) [(0, .tab m [.ints k g] false), (1072, .dead), (1104, .tab 0 [.ints k (cat 0 (fun _ => 0) (fun _ => 0))] true)]) :
    SpecOk Try.prog f (specOf (gCl k)) := spec_okS false mixed hf hb hname (gCl k) fun a0 H0 r hg hn σ w hs => by
  unfold gCl at hg
  split at hg
  · rename_i j n i m k' g rw_
    split at hg
    · rename_i hk
      simp only [Bool.and_eq_true, Nat.beq_eq, decide_eq_true_eq] at hk
      obtain ⟨rfl, rfl, rfl⟩ := hk
      simp only [Option.some.injEq] at hg
      subst hg
      simp only [allB, Bool.and_true, Bool.and_eq_true, Nat.beq_eq, Nat.ble_eq] at hn
      obtain ⟨rfl, hn⟩ := hn
      have hb0 := hs.sat 0 _ rfl
      obtain ⟨_, _, hnil, _, _⟩ := hb0
      have hr : roH [1024] [(0, .tab m [.ints k g] rw_)] = [(0, .tab m [.ints k g] false)] := rfl
      by_cases h0 : m = 0
      · subst h0
        cases hq : (σ 0).nil with
        | true =>
          refine ⟨EN, [.val (.slice none 0 (σ 0).cap)], [1024], en_calls, loops_noLoop en_loop _ _, fun _ => rfl, by simp [denL, den, hq], fun _ h => h, ?_⟩
          simp only [hr]
          rw [show base = 1024 from rfl, tn]
          refine ⟨[(1024, .nil 1)], rfl, fun σ => by simp [den, rn, rmap, rlook], ?_, rfl⟩
          simp [wkH, rmap, rlook, wkN]
        | false =>
          refine ⟨EN, [.val (.slice (some ⟨(σ 0).blk, (σ 0).off, none⟩) 0 (σ 0).cap)], [1024], en_calls, loops_noLoop en_loop _ _, fun _ => rfl, by simp [denL, den, hq], fun _ h => h, ?_⟩
          simp only [hr]
          rw [show base = 1024 from rfl, tz]
          refine ⟨[(1024, .old 1104)], rfl, sim_den _ _ ⟨rfl, rfl⟩, ?_, rfl⟩
          simp [wkH, rmap, rlook, Ev.look, wkB, wkCs, wkC]
      · refine ⟨EN, [.sl 0 m], [1024], en_calls, loops_noLoop en_loop _ _, fun h => h, rfl, fun _ h => h, ?_⟩
        simp only [hr]
        have e1 : Nat.blt 0 m = true := by rw [Nat.blt_eq]; omega
        have e2 : Nat.ble m m = true := by rw [Nat.ble_eq]; omega
        have e3 : Nat.ble ((0 + m) * z) 1099511627776 = true := by
          rw [Nat.ble_eq, Nat.zero_add]
          have := Nat.mul_le_mul hn hz
          omega
        rw [show base = 1024 from rfl, ts, e1, e2, e3, cond_true, cond_true, cond_true, cond_true, Nat.zero_add, cat_zero]
        refine ⟨[(1024, .old 1104)], rfl, sim_den _ _ ⟨rfl, rfl⟩, ?_, rfl⟩
        simp [wkH, rmap, rlook, Ev.look, wkB, wkCs, wkC]
    · cases hg
  · simp only [Option.some.injEq] at hg
    subst hg
    refine ⟨EN, [.val (.slice none 0 0)], [1024], en_calls, loops_noLoop en_loop _ _, fun _ => rfl, rfl, fun _ h => h, ?_⟩
    show GivesD _ (evalF EN Try.prog f [.val (.slice none 0 0)] [] 1024).leaf
    rw [tN]
    refine ⟨[(1024, .nil 1)], rfl, fun σ => by simp [den, rn, rmap, rlook], ?_, rfl⟩
    simp [wkH, rmap, rlook, wkN]
  · cases hg

theorem fn55 : Try.prog.funcs[55]? = some Try.f55 := by kernel_rfl
theorem b55 : Try.f55.body = some (bodyOf Try.f55) := by kernel_rfl
theorem n55 : (Try.f55.name == "runtime.NumGoroutine") = false := by kernel_rfl
theorem fn56 : Try.prog.funcs[56]? = some Try.f56 := by kernel_rfl
theorem b56 : Try.f56.body = some (bodyOf Try.f56) := by kernel_rfl
theorem n56 : (Try.f56.name == "runtime.NumGoroutine") = false := by kernel_rfl
theorem spec55 : SpecOk Try.prog 55 (specOf (gCl .i64)) := clone_ok fn55 b55 n55 (z := 8) (by decide) (fun n g => t55s n g true) t55n t55N t55z
theorem spec56 : SpecOk Try.prog 56 (specOf (gCl .u8)) := clone_ok fn56 b56 n56 (z := 1) (by decide) (fun n g => t56s n g true) t56n t56N t56z

end Go.Rv
end

section
set_option linter.unusedVariables false
open Go Go.Ev Go.Proofs
namespace Go.Rv

/-- a machine that may be -/
structure MV (m : M) : Prop where
  mx : MX m
  x0 : m.X 0 = 0
  f1 : m.zf = false
  f2 : m.sf = false
  f3 : m.cf = false
  f4 : m.of_ = false
  kd : m.kind = 0 ∨ m.kind = 1 ∨ m.kind = 4 ∨ m.kind = 5

theorem accX_kd (a : Int) (n : Nat) : accX a n = 0 ∨ accX a n = 1 ∨ accX a n = 4 ∨ accX a n = 5 := by
  unfold accX
  cases anyB (overX a) n <;> cases anyB (badX a) n <;> simp
theorem kindA_kd {k : Int} (h : k = 0 ∨ k = 1 ∨ k = 4 ∨ k = 5) (a : Int) (n : Nat) : kindA k a n = 0 ∨ kindA k a n = 1 ∨ kindA k a n = 4 ∨ kindA k a n = 5 := by
  have h2 := accX_kd a n
  unfold kindA
  cases decide (accX a n = 0) <;> assumption

/-- the first register, the flags, the end -/
structure MF (m : M) : Prop where
  x0 : m.X 0 = 0
  f1 : m.zf = false
  f2 : m.sf = false
  f3 : m.cf = false
  f4 : m.of_ = false
  kd : m.kind = 0 ∨ m.kind = 1 ∨ m.kind = 4 ∨ m.kind = 5

theorem upd_zero {X : Nat → Int} (h : X 0 = 0) {k : Nat} (hk : k ≠ 0) (v : Int) : upd X k v 0 = 0 := by
  unfold upd
  have : Nat.beq 0 k = false := by cases hb : Nat.beq 0 k with | false => rfl | true => exact absurd (Nat.eq_of_beq_eq_true hb).symm hk
  rw [this]; exact h

theorem setM_mf {rd v : Int} {m : M} (hr : 0 ≤ rd) (h : MF m) : MF (setM rd v m) := by
  unfold setM
  cases hc : cm .neq rd 0 with
  | true =>
    have : rd ≠ 0 := by simpa [cm] using hc
    exact ⟨upd_zero h.x0 (by omega) v, h.f1, h.f2, h.f3, h.f4, h.kd⟩
  | false => exact h

theorem exec_mf {m : M} (h : MF m) (K : Nat) {rd : Int} (hr : 0 ≤ rd) (r1 r2 n : Int) : MF (exec K rd r1 r2 n m) := by
  unfold exec
  cases Nat.ble K 4 with
  | true => exact setM_mf hr ⟨h.x0, h.f1, h.f2, h.f3, h.f4, h.kd⟩
  | false => cases Nat.ble K 10 with
    | true => exact ⟨h.x0, h.f1, h.f2, h.f3, h.f4, h.kd⟩
    | false => cases Nat.ble K 17 with
      | true =>
        simp only [cond_true, cond_false]
        unfold loadM
        cases decide (accX (aX m (m.X r1.toNat) n) (szX K) = 0) with
        | true => exact setM_mf hr ⟨h.x0, h.f1, h.f2, h.f3, h.f4, kindA_kd h.kd _ _⟩
        | false => exact ⟨h.x0, h.f1, h.f2, h.f3, h.f4, kindA_kd h.kd _ _⟩
      | false => cases Nat.ble K 21 with
        | true =>
          simp only [cond_true, cond_false]
          unfold storeM
          cases decide (accX (aX m (m.X r1.toNat) n) (szX K) = 0) with
          | true => exact ⟨h.x0, h.f1, h.f2, h.f3, h.f4, kindA_kd h.kd _ _⟩
          | false => exact ⟨h.x0, h.f1, h.f2, h.f3, h.f4, kindA_kd h.kd _ _⟩
        | false => cases Nat.ble K 62 with
          | true => exact setM_mf hr ⟨h.x0, h.f1, h.f2, h.f3, h.f4, h.kd⟩
          | false =>
            simp only [cond_false]
            unfold callM
            cases cm .eql (m.X 17) 1 with
            | true => exact ⟨h.x0, h.f1, h.f2, h.f3, h.f4, h.kd⟩
            | false => cases cm .eql (m.X 17) 2 with
              | true => cases cm .eql (m.nI : Int) 0 with
                | true => exact ⟨upd_zero (k := 10) h.x0 (by decide) 0, h.f1, h.f2, h.f3, h.f4, h.kd⟩
                | false => exact ⟨upd_zero (k := 10) h.x0 (by decide) (m.inp 0), h.f1, h.f2, h.f3, h.f4, h.kd⟩
              | false => cases cm .eql (m.X 17) 3 with
                | true => exact ⟨h.x0, h.f1, h.f2, h.f3, h.f4, .inr (.inl rfl)⟩
                | false => exact ⟨h.x0, h.f1, h.f2, h.f3, h.f4, .inr (.inr (.inr rfl))⟩

theorem stepM_mf {s : ByteArray} {m : M} (h : MF m) : MF (stepM s m) := by
  unfold stepM
  cases cm .neq m.kind 0 with
  | true => exact h
  | false => cases outP s m.pc with
    | true => exact ⟨h.x0, h.f1, h.f2, h.f3, h.f4, .inr (.inr (.inr rfl))⟩
    | false => cases decOk (wdM s m) with
      | true => exact exec_mf h _ (dRd_in _).1 _ _ _
      | false => exact ⟨h.x0, h.f1, h.f2, h.f3, h.f4, .inr (.inr (.inr rfl))⟩

theorem stepM_mv {s : ByteArray} {m : M} (h : MV m) : MV (stepM s m) := by
  have h2 := stepM_mf (s := s) (m := m) ⟨h.x0, h.f1, h.f2, h.f3, h.f4, h.kd⟩
  exact ⟨stepM_mx h.mx, h2.x0, h2.f1, h2.f2, h2.f3, h2.f4, h2.kd⟩

theorem setM_nI (rd v : Int) (m : M) : (setM rd v m).nI = m.nI := by unfold setM; cases cm .neq rd 0 <;> rfl
theorem exec_nI (K : Nat) (rd r1 r2 n : Int) (m : M) : (exec K rd r1 r2 n m).nI ≤ m.nI := by
  unfold exec
  cases Nat.ble K 4 with
  | true => simp only [cond_true, setM_nI]; omega
  | false => cases Nat.ble K 10 with
    | true => exact Nat.le_refl _
    | false => cases Nat.ble K 17 with
      | true =>
        simp only [cond_true, cond_false]
        unfold loadM
        cases decide (accX (aX m (m.X r1.toNat) n) (szX K) = 0) with
        | true => simp only [Bool.not_true, cond_false, setM_nI]; omega
        | false => exact Nat.le_refl _
      | false => cases Nat.ble K 21 with
        | true =>
          simp only [cond_true, cond_false]
          unfold storeM
          cases decide (accX (aX m (m.X r1.toNat) n) (szX K) = 0) <;> exact Nat.le_refl _
        | false => cases Nat.ble K 62 with
          | true => simp only [cond_true, cond_false, setM_nI]; omega
          | false =>
            simp only [cond_false]
            unfold callM
            cases cm .eql (m.X 17) 1 with
            | true => exact Nat.le_refl _
            | false => cases cm .eql (m.X 17) 2 with
              | true => cases cm .eql (m.nI : Int) 0 with
                | true => exact Nat.le_refl _
                | false => exact Nat.sub_le _ _
              | false => cases cm .eql (m.X 17) 3 <;> exact Nat.le_refl _
theorem stepM_nI (s : ByteArray) (m : M) : (stepM s m).nI ≤ m.nI := by
  unfold stepM
  cases cm .neq m.kind 0 with
  | true => exact Nat.le_refl _
  | false => cases outP s m.pc with
    | true => exact Nat.le_refl _
    | false => cases decOk (wdM s m) with
      | true => exact exec_nI _ _ _ _ _ _
      | false => exact Nat.le_refl _

theorem stepM_end {s : ByteArray} {m : M} (h : m.kind ≠ 0) : stepM s m = m := by
  have : cm .neq m.kind 0 = true := by simp [cm, h]
  unfold stepM; rw [this]; rfl

/-- so many steps; none behind the end -/
def runM (s : ByteArray) : Nat → M → M
  | 0, m => m
  | n + 1, m => stepM s (runM s n m)
/-- how many were taken -/
def stepsM (s : ByteArray) : Nat → M → Nat
  | 0, _ => 0
  | n + 1, m => bif cm .eql (runM s n m).kind 0 then stepsM s n m + 1 else stepsM s n m

theorem runM_mv {s : ByteArray} {m : M} (h : MV m) : ∀ n, MV (runM s n m)
  | 0 => h
  | n + 1 => stepM_mv (runM_mv h n)
theorem runM_nO (s : ByteArray) (m : M) : ∀ n, (runM s n m).nO ≤ m.nO + n
  | 0 => Nat.le_refl _
  | n + 1 => by have := stepM_nO s (runM s n m); have := runM_nO s m n; simp only [runM]; omega
theorem runM_nI (s : ByteArray) (m : M) : ∀ n, (runM s n m).nI ≤ m.nI
  | 0 => Nat.le_refl _
  | n + 1 => Nat.le_trans (stepM_nI s (runM s n m)) (runM_nI s m n)

end Go.Rv
end

section
set_option linter.unusedVariables false
open Go Go.Ev Go.Proofs
namespace Go.Rv

/-- rv.Decode of a word that is an instruction; of one that is none -/
noncomputable def okU (w : Int) : Bool := @decide (decOk w = true) (Classical.propDecidable _)
theorem okU_iff {w : Int} : okU w = true ↔ decOk w = true := @decide_eq_true_iff _ (Classical.propDecidable _)
noncomputable def g64o : List SV → Heap → Option R
  | [.int _ .u32 w], [] => some ⟨[inU w, okU w], .tup [.agg [.int false .i64 (dOp w), .int false .i64 (dRd w), .int false .i64 (dR1 w), .int false .i64 (dR2 w), .int false .i64 (dN w)], .int true .i64 0], []⟩
  | _, _ => none
noncomputable def g64n : List SV → Heap → Option R
  | [.int _ .u32 w], [] => some ⟨[inU w, noIns w], .tup [.agg [.int false .i64 (dOp w), .int false .i64 (dRd w), .int false .i64 (dR1 w), .int false .i64 (dR2 w), .int false .i64 (dN w)], .int true .i64 11], []⟩
  | _, _ => none
attribute [local irreducible] evalF in
theorem spec64o : SpecOk Try.prog 64 (specC true g64o) := spec_okA true e9_calls mixed fn9 b9 n9 loops9 g64o fun a0 H0 r hg hn => by
  unfold g64o at hg
  split at hg
  · rename_i _ w
    simp only [Option.some.injEq] at hg
    subst hg
    simp only [allB, Bool.and_true, Bool.and_eq_true, inU_iff, okU_iff] at hn
    obtain ⟨⟨h0, h1⟩, hf⟩ := hn
    refine ⟨[.int false .u32 w], fun _ => rfl, fun σ => by simp only [denL, den], ?_⟩
    have e1 : decide (0 ≤ w) = true := decide_eq_true h0
    have e2 : decide (w < 4294967296) = true := decide_eq_true h1
    have hd := dec9 h0 h1
    have hl := l9 w
    simp only [e1, e2, cond_true, hd] at hl
    show GivesD _ (evalF E9 Try.prog 64 [.int false .u32 w] [] 1024).leaf
    rw [hl]
    have hb : Nat.blt (decI w) 63 = true := hf
    rw [hb, cond_true]
    exact ⟨[], rfl, fun σ => by simp [den, denL, dOp, dRd, dR1, dR2, dN, decV, hf, decK], trivial, rfl⟩
  · cases hg
attribute [local irreducible] evalF in
theorem spec64n : SpecOk Try.prog 64 (specC true g64n) := spec_okA true e9_calls mixed fn9 b9 n9 loops9 g64n fun a0 H0 r hg hn => by
  unfold g64n at hg
  split at hg
  · rename_i _ w
    simp only [Option.some.injEq] at hg
    subst hg
    simp only [allB, Bool.and_true, Bool.and_eq_true, inU_iff, noIns_iff] at hn
    obtain ⟨⟨h0, h1⟩, hf⟩ := hn
    refine ⟨[.int false .u32 w], fun _ => rfl, fun σ => by simp only [denL, den], ?_⟩
    have e1 : decide (0 ≤ w) = true := decide_eq_true h0
    have e2 : decide (w < 4294967296) = true := decide_eq_true h1
    have hd := dec9 h0 h1
    have hl := l9 w
    simp only [e1, e2, cond_true, hd] at hl
    show GivesD _ (evalF E9 Try.prog 64 [.int false .u32 w] [] 1024).leaf
    rw [hl]
    have hb : Nat.blt (decI w) 63 = false := hf
    rw [hb, cond_false]
    exact ⟨[], rfl, fun σ => by simp [den, denL, dOp, dRd, dR1, dR2, dN, decV, hf, decK], trivial, rfl⟩
  · cases hg

noncomputable def ESo : Env := inlF Try.prog (envOf [(64, specC true g64o), (58, specOf g58)] noLoop) [] [] [57] 1
noncomputable def ESn : Env := inlF Try.prog (envOf [(64, specC true g64n), (58, specOf g58)] noLoop) [] [] [57] 1
theorem namedS : named Try.prog [57] = true := by kernel_rfl
theorem eso_calls : CallsOk ESo Try.prog := (inlF_calls ((SpecsOk.cons spec64o (SpecsOk.cons spec58 SpecsOk.nil)).calls noLoop) mixed rfl rfl namedS 1).1
theorem esn_calls : CallsOk ESn Try.prog := (inlF_calls ((SpecsOk.cons spec64n (SpecsOk.cons spec58 SpecsOk.nil)).calls noLoop) mixed rfl rfl namedS 1).1
theorem eso_loop : ESo.loop = noLoop := rfl
theorem esn_loop : ESn.loop = noLoop := rfl

/-- what was read -/
structure Ca where
  op : Nat → Int
  rd : Nat → Int
  r1 : Nat → Int
  r2 : Nat → Int
  im : Nat → Int
def Ca.cols (c : Ca) : List Col := [.ints .i64 c.op, .ints .i64 c.rd, .ints .i64 c.r1, .ints .i64 c.r2, .ints .i64 c.im]
def Ca.put (c : Ca) (k : Nat) (w : Int) : Ca := ⟨upd c.op k (dOp w), upd c.rd k (dRd w), upd c.r1 k (dR1 w), upd c.r2 k (dR2 w), upd c.im k (dN w)⟩
def hS (s : ByteArray) (n : Nat) (c : Ca) (m : M) : Heap := [(0, .cells [.str s, .sl 1 n]), (1, .tab n c.cols true), (2, .cells (cpuL m 3 4 5 6)), (3, .tab 32 [.ints .i64 m.X] true), (4, .tab 196608 [.ints .u8 m.mem] true), (5, .tab m.nI [.ints .i64 m.inp] false), (6, .tab m.nO [.ints .i64 m.out] true)]
def pk (m : M) : Int := ar .quo .i64 (ar .sub .i64 m.pc 4096) 4
def tlS (s : ByteArray) (m : M) : ByteArray := s.extract (ar .mul .i64 4 (pk m)).toNat s.size
def wE (t : ByteArray) : Int := ar .or .u32 (ar .or .u32 (ar .or .u32 (conv .u32 (chr t 0)) (ar .shl .u32 (conv .u32 (chr t 1)) 8)) (ar .shl .u32 (conv .u32 (chr t 2)) 16)) (ar .shl .u32 (conv .u32 (chr t 3)) 24)
def outC (n : Nat) (pc : Int) : Bool := bif cm .lss pc 4096 then true else bif cm .neq (ar .rem .i64 pc 4) 0 then true else cm .geq (ar .sub .i64 pc 4096) (ar .mul .i64 (n : Int) 4)
def ixN (i : Int) (n : Nat) (x : Lf) : Lf := bx (decide (0 ≤ i)) (bx (decide (i < (n : Int))) (bx (Nat.blt i.toNat n) (bx (Nat.blt i.toNat n) x)))
def ksS : List Nat := [0, 1, 2, 3, 4, 5, 6, 1280, 1281]
def retF (s : ByteArray) (n : Nat) (c : Ca) (m : M) : Lf := .ret (.tup []) [(0, .cells [.str s, .sl 1 n]), (1, .tab n c.cols true), (2, .cells [.int false .i64 m.pc, .sl 3 32, .bool false m.zf, .bool false m.sf, .bool false m.cf, .bool false m.of_, .sl 4 196608, .sl 5 m.nI, .sl 6 m.nO, .int true .i64 5, .int false .i64 m.code]), (3, .tab 32 [.ints .i64 m.X] true), (4, .tab 196608 [.ints .u8 m.mem] true), (5, .tab m.nI [.ints .i64 m.inp] false), (6, .tab m.nO [.ints .i64 m.out] true)]
def retX (s : ByteArray) (n : Nat) (c : Ca) (m0 m : M) : Lf := .ret (.tup []) [(0, .cells [.str s, .sl 1 n]), (1, .tab n c.cols true), (2, .cells (cpuL m 3 4 1280 1281)), (3, .tab 32 [.ints .i64 m.X] true), (4, .tab 196608 [.ints .u8 m.mem] true), (5, .dead), (6, .dead), (1280, .tab m.nI [.ints .i64 m.inp] false), (1281, .tab m.nO [.ints .i64 m.out] true)]
def exC (c : Ca) (k : Nat) (m : M) : M := exec (c.op k).toNat (c.rd k) (c.r1 k) (c.r2 k) (c.im k) m
noncomputable def runX (s : ByteArray) (n : Nat) (c : Ca) (m : M) : Lf :=
  bx (goodB m) (bx (g58.insB (c.op (pk m).toNat) (c.rd (pk m).toNat) (c.r1 (pk m).toNat) (c.r2 (pk m).toNat)) (bx (Nat.beq m.nI m.nI) (bx (Nat.beq m.nO m.nO) (retX s n c m (exC c (pk m).toNat m)))))

noncomputable def atE (s : ByteArray) (n : Nat) (m : M) (x : Lf) : Lf :=
  bx (decide (0 ≤ ar .mul .i64 4 (pk m))) (bx (Nat.ble (ar .mul .i64 4 (pk m)).toNat s.size) (bx (Nat.blt 0 (tlS s m).size) (bx (Nat.blt 1 (tlS s m).size) (bx (Nat.blt 2 (tlS s m).size) (bx (Nat.blt 3 (tlS s m).size)
    (bx (inU (wE (tlS s m))) x))))))

theorem r37o (s : ByteArray) (n : Nat) (c : Ca) (m : M) : (evalF ESo Try.prog 37 [.ptr 0 0 0, .ptr 2 0 0] (hS s n c m) 1024).retH ksS =
    bx (bif cm .lss m.pc 4096 then true else true) (bif outC n m.pc then retF s n c m else ixN (pk m) n (
      bif cm .eql (c.op (pk m).toNat) 0 then atE s n m (bx (okU (wE (tlS s m))) (ixN (pk m) n (ixN (pk m) n (runX s n (c.put (pk m).toNat (wE (tlS s m))) m))))
      else ixN (pk m) n (runX s n c m))) := by kernel_rfl
theorem r37n (s : ByteArray) (n : Nat) (c : Ca) (m : M) : (evalF ESn Try.prog 37 [.ptr 0 0 0, .ptr 2 0 0] (hS s n c m) 1024).retH ksS =
    bx (bif cm .lss m.pc 4096 then true else true) (bif outC n m.pc then retF s n c m else ixN (pk m) n (
      bif cm .eql (c.op (pk m).toNat) 0 then atE s n m (bx (noIns (wE (tlS s m))) (retF s n c m))
      else ixN (pk m) n (runX s n c m))) := by kernel_rfl

end Go.Rv
end

section
set_option linter.unusedVariables false
open Go Go.Ev Go.Proofs
namespace Go.Rv

theorem ar_range (op : BinOp) (h : op ∈ [BinOp.add, .sub, .mul, .and, .or, .xor, .andNot, .quo, .shl]) (x y : Int) : inR (ar op .i64 x y) := ar_in h x y

theorem setM_pc {rd v : Int} {m : M} : (setM rd v m).pc = m.pc := by unfold setM; cases cm .neq rd 0 <;> rfl
theorem exP_in (K : Nat) (a n pc : Int) : inR (exP K a n pc) := by
  unfold exP
  split
  · exact ar_range _ (by simp) _ _
  · exact ar_range _ (by simp) _ _
  · exact ar_range _ (by simp) _ _
theorem exec_pc {m : M} (h : inR m.pc) (K : Nat) (rd r1 r2 n : Int) : inR (exec K rd r1 r2 n m).pc := by
  unfold exec
  cases Nat.ble K 4 with
  | true => rw [cond_true, setM_pc]; exact exP_in _ _ _ _
  | false => cases Nat.ble K 10 with
    | true => exact ar_range .add (by simp) _ _
    | false => cases Nat.ble K 17 with
      | true =>
        simp only [cond_true, cond_false]
        unfold loadM
        cases decide (accX (aX m (m.X r1.toNat) n) (szX K) = 0) with
        | true => rw [Bool.not_true, cond_false, setM_pc]; exact ar_range .add (by simp) _ _
        | false => exact h
      | false => cases Nat.ble K 21 with
        | true =>
          simp only [cond_true, cond_false]
          unfold storeM
          cases decide (accX (aX m (m.X r1.toNat) n) (szX K) = 0) with
          | true => exact ar_range .add (by simp) _ _
          | false => exact h
        | false => cases Nat.ble K 62 with
          | true => rw [cond_true, cond_false, cond_false, cond_false, cond_false, setM_pc]; exact ar_range .add (by simp) _ _
          | false =>
            simp only [cond_false]
            unfold callM
            cases cm .eql (m.X 17) 1 with
            | true => exact ar_range .add (by simp) _ _
            | false => cases cm .eql (m.X 17) 2 with
              | true => cases cm .eql (m.nI : Int) 0 with
                | true => exact ar_range .add (by simp) _ _
                | false => exact ar_range .add (by simp) _ _
              | false => cases cm .eql (m.X 17) 3 with
                | true => exact h
                | false => exact h
theorem stepM_pc {s : ByteArray} {m : M} (h : inR m.pc) : inR (stepM s m).pc := by
  unfold stepM
  cases cm .neq m.kind 0 with
  | true => exact h
  | false => cases outP s m.pc with
    | true => exact h
    | false => cases decOk (wdM s m) with
      | true => exact exec_pc h _ _ _ _ _
      | false => exact h

/-! what was read is what stands there -/
def CaOk (s : ByteArray) (n : Nat) (c : Ca) : Prop := ∀ k, k < n → c.op k = 0 ∨ (decOk (wordS s (4 * (k : Int))) = true ∧ c.op k = dOp (wordS s (4 * (k : Int))) ∧ c.rd k = dRd (wordS s (4 * (k : Int))) ∧ c.r1 k = dR1 (wordS s (4 * (k : Int))) ∧ c.r2 k = dR2 (wordS s (4 * (k : Int))) ∧ c.im k = dN (wordS s (4 * (k : Int))))

structure StG (s : ByteArray) (n : Nat) (c : Ca) (m : M) : Prop where
  g : MG m
  pc : inR m.pc
  kind : m.kind = 0
  size : s.size ≤ 258048
  len : n = s.size / 4
  ca : CaOk s n c
noncomputable def stB (s : ByteArray) (n : Nat) (c : Ca) (m : M) : Bool := @decide (StG s n c m) (Classical.propDecidable _)
theorem stB_iff {s : ByteArray} {n : Nat} {c : Ca} {m : M} : stB s n c m = true ↔ StG s n c m := @decide_eq_true_iff _ (Classical.propDecidable _)

/-- what is read, behind a step -/
noncomputable def nextC (s : ByteArray) (n : Nat) (c : Ca) (m : M) : Ca :=
  @ite _ (outP s m.pc = false ∧ c.op (pk m).toNat = 0 ∧ decOk (wdM s m) = true) (Classical.propDecidable _) (c.put (pk m).toNat (wdM s m)) c

theorem out_eq {s : ByteArray} {n : Nat} {pc : Int} (h : inR pc) (hs : s.size ≤ 258048) (hn : n = s.size / 4) : outC n pc = outP s pc := by
  unfold outC outP
  cases h1 : cm .lss pc 4096 with
  | true => rfl
  | false =>
    simp only [cm, decide_eq_false_iff_not] at h1
    unfold inR at h
    simp only [cond_false]
    have e1 : ar .sub .i64 pc 4096 = pc - 4096 := by simp only [ar, IntKind.wrap_i64]; omega
    rw [e1]
    have e3 : ar .mul .i64 (n : Int) 4 = (n : Int) * 4 := by simp only [ar, IntKind.wrap_i64]; omega
    rw [e3]
    have e4 : ar .rem .i64 pc 4 = pc % 4 := by simp only [ar]; rw [Int.tmod_eq_emod_of_nonneg (by omega)]
    rw [e4]
    cases h2 : cm .neq (pc % 4) 0 with
    | true =>
      cases cm .geq pc 262144 <;> cases cm .gtr (ar .add .i64 (pc - 4096) 4) (s.size : Int) <;> rfl
    | false =>
      have h2' : pc % 4 = 0 := by simpa [cm] using h2
      simp only [cond_false]
      cases h3 : cm .geq pc 262144 with
      | true =>
        simp only [cm, decide_eq_true_eq] at h3 ⊢
        simp only [cond_true, decide_eq_true_eq]
        omega
      | false =>
        simp only [cm, decide_eq_false_iff_not] at h3
        have e2 : ar .add .i64 (pc - 4096) 4 = pc - 4096 + 4 := by simp only [ar, IntKind.wrap_i64]; omega
        rw [e2, cond_false]
        simp only [cm]
        by_cases hc : (s.size : Int) < pc - 4096 + 4
        · rw [decide_eq_true hc, cond_true]; exact decide_eq_true (by omega)
        · rw [decide_eq_false hc, cond_false]; exact decide_eq_false (by omega)

theorem chr_ext {s : ByteArray} {a j : Nat} (h : a + j < s.size) : chr (s.extract a s.size) j = chr s (a + j) := by
  have h' : a + j < s.data.size := h
  simp only [chr, ByteArray.data_extract]
  congr 2
  have h2 : j < (s.data.extract a s.size).size := by
    simp only [Array.size_extract]
    show j < min s.data.size s.data.size - a
    omega
  simp only [Array.getD, h', h2, dif_pos, Array.getInternal_eq_getElem, Array.getElem_extract]

structure InF (s : ByteArray) (n : Nat) (m : M) : Prop where
  lo : 0 ≤ pk m
  hi : pk m < (n : Int)
  pc : m.pc - 4096 = 4 * pk m
  sz : 4 * pk m + 4 ≤ s.size
  ml : ar .mul .i64 4 (pk m) = 4 * pk m

theorem inF_of {s : ByteArray} {n : Nat} {m : M} (h : outP s m.pc = false) (hr : inR m.pc) (hs : s.size ≤ 258048) (hn : n = s.size / 4) : InF s n m := by
  obtain ⟨p1, p2, p3, p4⟩ := outP_in h (by omega)
  have h4 : ar .rem .i64 m.pc 4 = 0 := by
    unfold outP at h
    have e1 : cm .lss m.pc 4096 = false := by simp [cm]; omega
    have e2 : cm .geq m.pc 262144 = false := by simp [cm]; omega
    have e3 : cm .gtr (ar .add .i64 (ar .sub .i64 m.pc 4096) 4) (s.size : Int) = false := by
      rw [p4]
      have : ar .add .i64 (m.pc - 4096) 4 = m.pc - 4096 + 4 := by simp only [ar, IntKind.wrap_i64]; omega
      rw [this]; simp [cm]; omega
    rw [e1, e2, e3] at h
    simpa [cm] using h
  have e4 : ar .rem .i64 m.pc 4 = m.pc % 4 := by simp only [ar]; rw [Int.tmod_eq_emod_of_nonneg (by omega)]
  rw [e4] at h4
  have e5 : pk m = (m.pc - 4096) / 4 := by
    unfold pk
    rw [p4]
    simp only [ar]
    rw [Int.tdiv_eq_ediv_of_nonneg (by omega), IntKind.wrap_i64]
    omega
  have hk : 0 ≤ pk m := by rw [e5]; omega
  refine ⟨hk, by rw [e5]; omega, by rw [e5]; omega, by rw [e5]; omega, ?_⟩
  simp only [ar, IntKind.wrap_i64]
  rw [e5]; omega

theorem addLit {x j : Int} (h : 0 ≤ x ∧ x < 1000000) (hj : 0 ≤ j ∧ j < 1000) : ar .add .i64 x j = x + j := by simp only [ar, IntKind.wrap_i64]; omega
theorem wE_eq {s : ByteArray} {n : Nat} {m : M} (h : InF s n m) (hs : s.size ≤ 258048) : wE (tlS s m) = wdM s m ∧ wdM s m = wordS s (4 * pk m) := by
  obtain ⟨h1, h2, h3, h4, h5⟩ := h
  have e0 : ar .sub .i64 m.pc 4096 = 4 * pk m := by simp only [ar, IntKind.wrap_i64]; omega
  have e1 : wdM s m = wordS s (4 * pk m) := by unfold wdM; rw [e0]
  refine ⟨?_, e1⟩
  rw [e1]
  unfold wE tlS wordS
  rw [h5]
  obtain ⟨k, hk⟩ : ∃ k : Nat, pk m = (k : Int) := ⟨(pk m).toNat, by omega⟩
  rw [hk] at h4 ⊢
  have t0 : (4 * (k : Int)).toNat = 4 * k := by omega
  have t1 : (ar .add .i64 (4 * (k : Int)) 1).toNat = 4 * k + 1 := by rw [addLit (by omega) (by omega)]; omega
  have t2 : (ar .add .i64 (4 * (k : Int)) 2).toNat = 4 * k + 2 := by rw [addLit (by omega) (by omega)]; omega
  have t3 : (ar .add .i64 (4 * (k : Int)) 3).toNat = 4 * k + 3 := by rw [addLit (by omega) (by omega)]; omega
  rw [t0, t1, t2, t3, chr_ext (by omega), chr_ext (by omega), chr_ext (by omega), chr_ext (by omega), Nat.add_zero]

theorem ixN_ok {i : Int} {n : Nat} (h : 0 ≤ i ∧ i < (n : Int)) (x : Lf) : ixN i n x = x := by
  have e : Nat.blt i.toNat n = true := by rw [Nat.blt_eq]; omega
  simp only [ixN, bx, decide_eq_true h.1, decide_eq_true h.2, e, cond_true]

theorem blt_ok {a x : Nat} (h : a < x) : Nat.blt a x = true := by rw [Nat.blt_eq]; exact h
theorem ble_ok {a x : Nat} (h : a ≤ x) : Nat.ble a x = true := by rw [Nat.ble_eq]; exact h
theorem atE_ok {s : ByteArray} {n : Nat} {m : M} (h : InF s n m) (hs : s.size ≤ 258048) (x : Lf) : atE s n m x = x := by
  have hw := wE_eq h hs
  obtain ⟨h1, h2, h3, h4, h5⟩ := h
  have hsz : (tlS s m).size = s.size - (4 * pk m).toNat := by
    unfold tlS
    rw [h5, ByteArray.size_extract]
    omega
  have h4' : 4 ≤ (tlS s m).size := by rw [hsz]; omega
  have b0 : decide (0 ≤ ar .mul .i64 4 (pk m)) = true := decide_eq_true (by rw [h5]; omega)
  have b1 : (ar .mul .i64 4 (pk m)).toNat ≤ s.size := by rw [h5]; omega
  have hU : inU (wE (tlS s m)) = true := by rw [hw.1, hw.2]; exact wordS_inU _ _
  unfold atE
  rw [bx_true b0, bx_true (ble_ok b1), bx_true (blt_ok (show 0 < (tlS s m).size by omega)), bx_true (blt_ok (show 1 < (tlS s m).size by omega)), bx_true (blt_ok (show 2 < (tlS s m).size by omega)), bx_true (blt_ok (show 3 < (tlS s m).size by omega)), bx_true hU]

/-! the answer -/
def outS (nn : List Bool) (s : ByteArray) (n : Nat) (c : Ca) (m : M) : R := ⟨nn, .tup [], [(0, .cells [.str s, .sl 1 n]), (1, .tab n c.cols true), (2, .cells (cpuL m 3 4 1024 1025)), (3, .tab 32 [.ints .i64 m.X] true), (4, .tab 196608 [.ints .u8 m.mem] true), (1024, .tab m.nI [.ints .i64 m.inp] false), (1025, .tab m.nO [.ints .i64 m.out] true), (6, .dead), (5, .dead)]⟩

theorem retF_gives {nn : List Bool} {s : ByteArray} {n : Nat} {c c' : Ca} {m m' : M} (hc : c' = c) (h : m' = { m with kind := 5 }) : GivesD (outS nn s n c' m') (retF s n c m) := by
  subst hc; subst h
  refine ⟨[(1024, .old 5), (1025, .old 6)], rfl, fun σ => by simp only [outS, den, denL], ?_, rfl⟩
  simp [outS, retF, Ca.cols, wkH, cpuL, rmap, rlook, Ev.look, wkB, simL, sim, wkCs, wkC]
theorem retX_gives {nn : List Bool} {s : ByteArray} {n : Nat} {c c' : Ca} {m0 m m' : M} (hc : c' = c) (h : m' = m) : GivesD (outS nn s n c' m') (retX s n c m0 m) := by
  subst hc; subst h
  refine ⟨[(1024, .old 1280), (1025, .old 1281)], rfl, fun σ => by simp only [outS, den, denL], ?_, rfl⟩
  simp [outS, retX, Ca.cols, wkH, cpuL, rmap, rlook, Ev.look, wkB, simL, sim, wkCs, wkC]

theorem beq_self (n : Nat) : Nat.beq n n = true := by rw [Nat.beq_eq]
theorem runX_gives {nn : List Bool} {s : ByteArray} {n : Nat} {c c' : Ca} {m m' : M} (hg : MG m) (hi : g58.insB (c.op (pk m).toNat) (c.rd (pk m).toNat) (c.r1 (pk m).toNat) (c.r2 (pk m).toNat) = true) (hc : c' = c) (h : m' = exC c (pk m).toNat m) : GivesD (outS nn s n c' m') (runX s n c m) := by
  unfold runX
  rw [bx_true (goodB_iff.2 hg), bx_true hi, bx_true (beq_self _), bx_true (beq_self _)]
  exact retX_gives hc h

theorem ins_of {w : Int} (h : decOk w = true) : g58.insB (dOp w) (dRd w) (dR1 w) (dR2 w) = true := insB_iff.2 ⟨dOp_in h, dRd_in w, dR1_in w, dR2_in w⟩

theorem upd_at {α : Type} (g : Nat → α) (k : Nat) (v : α) : upd g k v k = v := by
  unfold upd
  rw [show Nat.beq k k = true from beq_self k, cond_true]
theorem upd_ne {α : Type} (g : Nat → α) {j k : Nat} (h : j ≠ k) (v : α) : upd g k v j = g j := by
  unfold upd
  have : Nat.beq j k = false := by cases hb : Nat.beq j k with | false => rfl | true => exact absurd (Nat.eq_of_beq_eq_true hb) h
  rw [this, cond_false]

attribute [local irreducible] evalF Tr.retH Tr.leaf in
theorem step37 {s : ByteArray} {n : Nat} {c : Ca} {m : M} (h : StG s n c m) (nn : List Bool) : ∃ E, CallsOk E Try.prog ∧ E.loop = noLoop ∧ GivesD (outS nn s n (nextC s n c m) (stepM s m)) (evalF E Try.prog 37 [.ptr 0 0 0, .ptr 2 0 0] (hS s n c m) 1024).leaf := by
  obtain ⟨hg, hpc, hk, hs, hn, hca⟩ := h
  have e1 : cm .neq m.kind 0 = false := by rw [hk]; rfl
  have e2 : (bif cm .lss m.pc 4096 then true else true) = true := by cases cm .lss m.pc 4096 <;> rfl
  have ho := out_eq hpc hs hn
  cases hp : outP s m.pc with
  | true =>
    refine ⟨ESo, eso_calls, eso_loop, gives_retH _ (r37o s n c m) ?_⟩
    rw [bx_true e2, ho, hp, cond_true]
    refine retF_gives ?_ ?_
    · unfold nextC; rw [if_neg (by rw [hp]; simp)]
    · unfold stepM; rw [e1, hp]; rfl
  | false =>
    have hf := inF_of hp hpc hs hn
    have hw := wE_eq hf hs
    have hix : 0 ≤ pk m ∧ pk m < (n : Int) := ⟨hf.lo, hf.hi⟩
    cases hq : cm .eql (c.op (pk m).toNat) 0 with
    | true =>
      have hq0 : c.op (pk m).toNat = 0 := by simpa [cm] using hq
      cases hd : decOk (wdM s m) with
      | true =>
        refine ⟨ESo, eso_calls, eso_loop, gives_retH _ (r37o s n c m) ?_⟩
        rw [bx_true e2, ho, hp, cond_false, ixN_ok hix, hq, cond_true, atE_ok hf hs, hw.1, bx_true (okU_iff.2 hd), ixN_ok hix, ixN_ok hix]
        refine runX_gives hg ?_ ?_ ?_
        · simp only [Ca.put, upd_at]
          exact ins_of hd
        · unfold nextC; rw [if_pos ⟨hp, hq0, hd⟩]
        · unfold stepM exC; rw [e1, hp, hd]
          simp only [Ca.put, upd_at, cond_true, cond_false]
      | false =>
        refine ⟨ESn, esn_calls, esn_loop, gives_retH _ (r37n s n c m) ?_⟩
        rw [bx_true e2, ho, hp, cond_false, ixN_ok hix, hq, cond_true, atE_ok hf hs, hw.1, bx_true (noIns_iff.2 hd)]
        refine retF_gives ?_ ?_
        · unfold nextC; rw [if_neg (by rw [hd]; simp)]
        · unfold stepM; rw [e1, hp, hd]; rfl
    | false =>
      have hq0 : c.op (pk m).toNat ≠ 0 := by simpa [cm] using hq
      refine ⟨ESo, eso_calls, eso_loop, gives_retH _ (r37o s n c m) ?_⟩
      rw [bx_true e2, ho, hp, cond_false, ixN_ok hix, hq, cond_false, ixN_ok hix]
      have hkk : (((pk m).toNat : Nat) : Int) = pk m := Int.toNat_of_nonneg hf.lo
      have := hca (pk m).toNat (by have := hf.hi; have := hf.lo; omega)
      rw [hkk, ← hw.2] at this
      rcases this with h0 | ⟨hd, q1, q2, q3, q4, q5⟩
      · exact absurd h0 hq0
      · refine runX_gives hg ?_ ?_ ?_
        · rw [q1, q2, q3, q4]; exact ins_of hd
        · unfold nextC; rw [if_neg (fun h => hq0 h.2.1)]
        · unfold stepM exC; rw [e1, hp, hd, q1, q2, q3, q4, q5]
          rfl

theorem nextC_ok {s : ByteArray} {n : Nat} {c : Ca} {m : M} (h : StG s n c m) : CaOk s n (nextC s n c m) := by
  obtain ⟨hg, hpc, hk, hs, hn, hca⟩ := h
  unfold nextC
  split
  · rename_i hc
    obtain ⟨hp, hq, hd⟩ := hc
    have hf := inF_of hp hpc hs hn
    have hw := wE_eq hf hs
    have hkk : (((pk m).toNat : Nat) : Int) = pk m := Int.toNat_of_nonneg hf.lo
    intro k hk
    by_cases he : k = (pk m).toNat
    · subst he
      right
      simp only [Ca.put, upd_at]
      rw [hkk, ← hw.2]
      exact ⟨hd, rfl, rfl, rfl, rfl, rfl⟩
    · simp only [Ca.put, upd_ne _ he]
      exact hca k hk
  · exact hca

/-- told from a heap -/
def unS : Heap → Option (List Bool × ByteArray × Nat × Ca × M)
  | [(j0, .cells [.str s, .sl kl n]), (j1, .tab t0 [.ints .i64 op, .ints .i64 rd, .ints .i64 r1, .ints .i64 r2, .ints .i64 im] true), (j2, .cells [.int false .i64 pc, .sl k1 n1, .bool false zf, .bool false sf, .bool false cf, .bool false of_, .sl k2 n2, .sl k3 n3, .sl k4 n4, .int false .i64 kind, .int false .i64 code]), (j3, .tab t1 [.ints .i64 X] true), (j4, .tab t2 [.ints .u8 mem] true), (j5, .tab t3 [.ints .i64 inp] rw3), (j6, .tab t4 [.ints .i64 out] true)] =>
    match Nat.beq j0 0 && (Nat.beq j1 1 && (Nat.beq j2 2 && (Nat.beq j3 3 && (Nat.beq j4 4 && (Nat.beq j5 5 && (Nat.beq j6 6 && (Nat.beq kl 1 && (Nat.beq k1 3 && (Nat.beq k2 4 && (Nat.beq k3 5 && (Nat.beq k4 6 && (Nat.beq n1 32 && (Nat.beq n2 196608 && (Nat.beq t1 32 && Nat.beq t2 196608)))))))))))))) with
    | true => some ([Nat.beq t0 n, Nat.beq t3 n3, Nat.beq t4 n4], s, n, ⟨op, rd, r1, r2, im⟩, ⟨pc, zf, sf, cf, of_, kind, code, X, mem, n3, inp, n4, out⟩)
    | false => none
  | _ => none

noncomputable def g37 : List SV → Heap → Option R
  | [.ptr p0 p1 p2, .ptr c0 c1 c2], H => match unS H, Nat.beq p0 0 && (Nat.beq p1 0 && (Nat.beq p2 0 && (Nat.beq c0 2 && (Nat.beq c1 0 && Nat.beq c2 0)))) with
    | some (nn, s, n, c, m), true => some (outS (stB s n c m :: nn) s n (nextC s n c m) (stepM s m))
    | _, _ => none
  | _, _ => none

theorem unS_all {H : Heap} {nn : List Bool} {s : ByteArray} {n : Nat} {c : Ca} {m : M} (h : unS H = some (nn, s, n, c, m)) (hn : allB nn = true) : roH [0, 1, 2, 3, 4, 1024, 1025, 6] H = hS s n c m := by
  unfold unS at h
  split at h
  · split at h
    · rename_i hb
      simp only [Option.some.injEq, Prod.mk.injEq] at h
      obtain ⟨rfl, rfl, rfl, rfl, rfl⟩ := h
      simp only [Bool.and_eq_true, Nat.beq_eq] at hb
      obtain ⟨rfl, rfl, rfl, rfl, rfl, rfl, rfl, rfl, rfl, rfl, rfl, rfl, rfl, rfl, rfl, rfl⟩ := hb
      simp only [allB, Bool.and_true, Bool.and_eq_true, Nat.beq_eq] at hn
      obtain ⟨rfl, rfl, rfl⟩ := hn
      rfl
    · cases h
  · cases h

theorem fn37 : Try.prog.funcs[37]? = some Try.f37 := by kernel_rfl
theorem b37 : Try.f37.body = some (bodyOf Try.f37) := by kernel_rfl
theorem n37 : (Try.f37.name == "runtime.NumGoroutine") = false := by kernel_rfl
attribute [local irreducible] evalF Tr.retH Tr.leaf in
theorem spec37 : SpecOk Try.prog 37 (specOf g37) := spec_okU false mixed fn37 b37 n37 g37 fun a0 H0 r hg hn => by
  unfold g37 at hg
  split at hg
  · rename_i p0 p1 p2 c0 c1 c2
    split at hg
    · rename_i nn s n c m hm hk
      simp only [Bool.and_eq_true, Nat.beq_eq] at hk
      obtain ⟨rfl, rfl, rfl, rfl, rfl, rfl⟩ := hk
      simp only [Option.some.injEq] at hg
      subst hg
      simp only [outS, allB, Bool.and_eq_true, stB_iff] at hn
      obtain ⟨h1, hnn⟩ := hn
      obtain ⟨E, he, hl, hgv⟩ := step37 h1 (stB s n c m :: nn)
      refine ⟨E, [.ptr 0 0 0, .ptr 2 0 0], [0, 1, 2, 3, 4, 1024, 1025, 6], he, loops_noLoop hl _ _, fun h => h, fun σ => rfl, subN rfl, ?_⟩
      rw [unS_all hm hnn]
      exact hgv
    · cases hg
  · cases hg

end Go.Rv
end

section
set_option linter.unusedVariables false
open Go Go.Ev Go.Proofs
namespace Go.Rv

/-- rows that are the same -/
noncomputable def eqA (n : Nat) (g h : Nat → Int) : Bool := @decide (∀ i, i < n → g i = h i) (Classical.propDecidable _)
theorem eqA_iff {n : Nat} {g h : Nat → Int} : eqA n g h = true ↔ ∀ i, i < n → g i = h i := @decide_eq_true_iff _ (Classical.propDecidable _)

/-! EqLongs -/
def h47 (n : Nat) (g h : Nat → Int) : Heap := [(0, .tab n [.ints .i64 g] false), (1, .tab n [.ints .i64 h] false)]
def v47 (n : Nat) (i : Int) : List SV := [.sl 0 n, .sl 1 n, .int false .i64 i]
def lk47 : Lp := ⟨26, [0, 1, 5], 1136, fun _ _ => none⟩
noncomputable def get47 : List SV → Heap → Option Tr
  | [.sl ka n, .sl kb m, .int _ .i64 i], [(ja, .tab n' [.ints .i64 g] _), (jb, .tab m' [.ints .i64 h] _)] =>
    some (Tr.needs [Nat.beq ka 0, Nat.beq kb 1, Nat.beq ja 0, Nat.beq jb 1, Nat.beq n m, Nat.beq n n', Nat.beq n m', decide (i = 0), eqA n g h, Nat.ble n 100000000] (exitT lk47 0 [.any, .any, .any] (h47 n g h)))
  | _, _ => none
noncomputable def lp47 : Lp := { lk47 with get := get47 }
noncomputable def E47 : Env := ⟨EN.call, loopEnv [(0, lp47)]⟩
/-! CopyLongs -/
def h33 (n i : Nat) (g h : Nat → Int) : Heap := [(0, .tab n [.ints .i64 g] false), (1024, .tab i [.ints .i64 h] true)]
def v33 (n i : Nat) (j : Int) : List SV := [.sl 0 n, .sl 1024 i, .int false .i64 j]
def lk33 : Lp := ⟨19, [0, 3, 4], 1072, fun _ _ => none⟩
def get33 : List SV → Heap → Option Tr
  | [.sl ka n, .val (.slice none 0 0), .int _ .i64 i], [(ja, .tab n' [.ints .i64 g] _)] =>
    some (Tr.needs [Nat.beq ka 0, Nat.beq ja 0, Nat.beq n n', decide (i = 0), Nat.ble n 100000000] (exitT lk33 0 [.any, .sl 1024 n, .any] (h33 n n g g)))
  | _, _ => none
def lp33 : Lp := { lk33 with get := get33 }
noncomputable def E33 : Env := ⟨EN.call, loopEnv [(0, lp33)]⟩

theorem r47 (n : Nat) (g : Nat → Int) (h : Nat → Int) (i : Int) : (evalB EN Try.prog Try.f47.results.toList (loopOf Try.f47 0) 1 lp47 (v47 n i) (h47 n g h)).view [0, 1, 5] =
    (bif (cm BinOp.lss i (↑n : Int)) then
      bif (decide (0 ≤ i)) then
        bif (decide (i < (↑n : Int))) then
          bif (Nat.blt (i.toNat) (n)) then
            bif (Nat.blt (i.toNat) (n)) then
              bif (decide (0 ≤ i)) then
                bif (decide (i < (↑n : Int))) then
                  bif (Nat.blt (i.toNat) (n)) then
                    bif (Nat.blt (i.toNat) (n)) then
                      bif (cm BinOp.neq (g i.toNat) (h i.toNat)) then
                        .ret (.bool true false) [(0, .tab (n) [.ints IntKind.i64 (g)] false), (1, .tab (n) [.ints IntKind.i64 (h)] false)]
                      else
                        .norm 26 [(.sl 0 (n)), (.sl 1 (n)), (.int false IntKind.i64 (ar BinOp.add IntKind.i64 i 1))] [(0, .tab (n) [.ints IntKind.i64 (g)] false), (1, .tab (n) [.ints IntKind.i64 (h)] false)]
                    else .bad
                  else .bad
                else .bad
              else .bad
            else .bad
          else .bad
        else .bad
      else .bad
    else
      .exit 0 26 [(.sl 0 (n)), (.sl 1 (n)), (.int false IntKind.i64 (i))] [(0, .tab (n) [.ints IntKind.i64 (g)] false), (1, .tab (n) [.ints IntKind.i64 (h)] false)]) := by kernel_rfl

theorem t47 (n : Nat) (g : Nat → Int) (h : Nat → Int) : (evalF E47 Try.prog 47 [SV.sl 0 n, SV.sl 1 n] (h47 n g h) 1024).bare =
    (bif (cm BinOp.neq (↑n : Int) (↑n : Int)) then
      .ret (.bool true false) []
    else
      bif (Nat.beq (n) (n)) then
        bif (Nat.beq (n) (n)) then
          bif (Nat.beq (n) (n)) then
            bif (eqA n g h) then
              bif (Nat.ble (n) (100000000)) then
                .ret (.bool true true) []
              else .bad
            else .bad
          else .bad
        else .bad
      else .bad) := by kernel_rfl

theorem r33 (n : Nat) (i : Nat) (j : Int) (g : Nat → Int) (h : Nat → Int) : (evalB EN Try.prog Try.f33.results.toList (loopOf Try.f33 0) 1 lp33 (v33 n i j) (h33 n i g h)).view [0, 3, 4] =
    (bif (cm BinOp.lss j (↑n : Int)) then
      bif (decide (0 ≤ j)) then
        bif (decide (j < (↑n : Int))) then
          bif (Nat.blt (j.toNat) (n)) then
            bif (Nat.blt (j.toNat) (n)) then
              bif (Nat.ble (i) (i)) then
                bif (Nat.ble ((i + 1) * 8) (1099511627776)) then
                  .norm 19 [(.sl 0 (n)), (.sl 1232 (i + 1)), (.int false IntKind.i64 (ar BinOp.add IntKind.i64 j 1))] [(0, .tab (n) [.ints IntKind.i64 (g)] false), (1024, .dead), (1216, .tab 1 [.ints IntKind.i64 (nth [g j.toNat] 0)] true), (1232, .tab (i + 1) [.ints IntKind.i64 (cat i h (nth [g j.toNat] 0))] true)]
                else .bad
              else .bad
            else .bad
          else .bad
        else .bad
      else .bad
    else
      .exit 0 19 [(.sl 0 (n)), (.sl 1024 (i)), (.int false IntKind.i64 (j))] [(0, .tab (n) [.ints IntKind.i64 (g)] false), (1024, .tab (i) [.ints IntKind.i64 (h)] true)]) := by kernel_rfl

theorem t33 (n : Nat) (g : Nat → Int) : (evalF E33 Try.prog 33 [SV.sl 0 n] [(0, Blk.tab n [Col.ints IntKind.i64 g] false)] 1024).leaf =
    (bif (Nat.beq (n) (n)) then
      bif (Nat.ble (n) (100000000)) then
        .ret (.sl 1024 (n)) [(0, .tab (n) [.ints IntKind.i64 (g)] false), (1024, .tab (n) [.ints IntKind.i64 (g)] true)]
      else .bad
    else .bad) := by kernel_rfl

end Go.Rv
end

section
set_option linter.unusedVariables false
open Go Go.Ev Go.Proofs
namespace Go.Rv

theorem e47_calls : CallsOk E47 Try.prog := fun f args H nm r h hn => en_calls f args H nm r h hn
theorem e33_calls : CallsOk E33 Try.prog := fun f args H nm r h hn => en_calls f args H nm r h hn
theorem dec_true {p : Prop} [Decidable p] (h : p) : decide p = true := decide_eq_true h
theorem blt_t {a x : Nat} (h : a < x) : Nat.blt a x = true := by rw [Nat.blt_eq]; exact h
theorem ble_t {a x : Nat} (h : a ≤ x) : Nat.ble a x = true := by rw [Nat.ble_eq]; exact h
theorem beq_t (n : Nat) : Nat.beq n n = true := by rw [Nat.beq_eq]

structure X47 where
  n : Nat
  g : Nat → Int
  h : Nat → Int
  i : Nat
def ok47 (x : X47) : Prop := x.i ≤ x.n ∧ x.n ≤ 100000000 ∧ ∀ i, i < x.n → x.g i = x.h i
def vs47 (x : X47) : List SV := v47 x.n x.i
def hp47 (x : X47) : Heap := h47 x.n x.g x.h
def out47 (x : X47) : Vw := .exit 0 26 [.any, .any, .any] (hp47 x)

theorem entry47 (l : List SV) (H : Heap) (T : Tr) (h : lp47.get l H = some T) (hb : T.leaf ≠ .bad) : ∃ x r, ok47 x ∧ WkV r lp47.nm l H (vs47 x) (hp47 x) ∧ T.leaf = toLf lp47 (out47 x) := by
  replace h : get47 l H = some T := h
  unfold get47 at h
  split at h
  · rename_i ka n kb m _ i ja n' g _ jb m' hh _
    simp only [Option.some.injEq] at h
    subst h
    obtain ⟨hn, he⟩ := needs_ne hb
    rw [he]
    simp only [allB, Bool.and_eq_true, Bool.and_true, decide_eq_true_eq, Nat.beq_eq, eqA_iff, Nat.ble_eq] at hn
    obtain ⟨rfl, rfl, rfl, rfl, rfl, rfl, rfl, rfl, heq, hl⟩ := hn
    refine ⟨⟨n, g, hh, 0⟩, [], ⟨Nat.zero_le _, hl, heq⟩, ?_, ?_⟩
    · simp [WkV, vs47, hp47, v47, h47, wkF, wkS, sim, simL, wkH, wkB, wkCs, wkC, rmap, rlook, Ev.look, oldsOf, uniqN, mem, SV.al, SV.alL, Ev.hal, Blk.al, lt, rok, lp47, lk47]
    · simp only [exitT_leaf, out47, hp47]
      rfl
  · cases h

attribute [local irreducible] evalB Tr.view in
theorem round47 (x : X47) (hx : ok47 x) : Round lp47 ok47 (fun x => x.n - x.i) vs47 hp47 out47 x ((evalB EN Try.prog Try.f47.results.toList (loopOf Try.f47 0) (0 + 1) lp47 (vs47 x) (hp47 x)).view lp47.ks) := by
  obtain ⟨n, g, h, i⟩ := x
  obtain ⟨h0, h1, h2⟩ := hx
  simp only at h0 h1 h2
  have hr := r47 n g h i
  rw [show evalB EN Try.prog Try.f47.results.toList (loopOf Try.f47 0) (0 + 1) lp47 (vs47 ⟨n, g, h, i⟩) (hp47 ⟨n, g, h, i⟩) = evalB EN Try.prog Try.f47.results.toList (loopOf Try.f47 0) 1 lp47 (v47 n i) (h47 n g h) from rfl, show lp47.ks = [0, 1, 5] from rfl, hr]
  by_cases hi : i < n
  · have e1 : cm .lss (i : Int) (n : Int) = true := by rw [cm_lss']; exact decide_eq_true (by omega)
    have e2 : decide (0 ≤ (i : Int)) = true := decide_eq_true (by omega)
    have e3 : decide ((i : Int) < (n : Int)) = true := decide_eq_true (by omega)
    have e4 : Nat.blt i n = true := blt_t hi
    have e5 : cm .neq (g i) (h i) = false := by rw [h2 i hi]; simp [cm]
    simp only [e1, e2, e3, e4, e5, cond_true, cond_false, Int.toNat_natCast, addOne (show i < 9223372036854775807 by omega)]
    refine ⟨rfl, ⟨n, g, h, i + 1⟩, [], ⟨hi, h1, h2⟩, by show n - (i + 1) < n - i; omega, rfl, ?_⟩
    simp [WkV, vs47, hp47, v47, h47, wkF, wkS, sim, simL, wkH, wkB, wkCs, wkC, rmap, rlook, Ev.look, oldsOf, uniqN, mem, SV.al, SV.alL, Ev.hal, Blk.al, lt, rok, lp47, lk47]
  · obtain rfl : i = n := by omega
    have e1 : cm .lss (i : Int) (i : Int) = false := by simp [cm]
    simp only [e1, cond_false]
    refine ⟨rfl, [.any, .any, .any], _, [], rfl, ?_⟩
    simp [WkV, hp47, h47, wkF, wkS, sim, simL, wkH, wkB, wkCs, wkC, rmap, rlook, Ev.look, oldsOf, uniqN, mem, SV.al, SV.alL, Ev.hal, Blk.al, lt, rok, lp47, lk47]

attribute [local irreducible] evalB Tr.view in
theorem loop47 : LoopOk E47 Try.prog Try.f47 0 (loopOf Try.f47 0) :=
  loop_okE mixed (fun S => rfl) (by decide) ok47 (fun x => x.n - x.i) vs47 hp47 out47 entry47 fun x hx => ⟨EN, en_calls, loops_noLoop en_loop _ _, round47 x hx⟩
theorem fn47 : Try.prog.funcs[47]? = some Try.f47 := by kernel_rfl
theorem b47 : Try.f47.body = some (bodyOf Try.f47) := by kernel_rfl
theorem n47 : (Try.f47.name == "runtime.NumGoroutine") = false := by kernel_rfl
theorem nl47 : Code.loops (bodyOf Try.f47) = 1 := by kernel_rfl
theorem nth47 : nthLoop (bodyOf Try.f47) 0 = some (loopOf Try.f47 0) := by kernel_rfl
theorem loops47 : LoopsOk E47 Try.prog Try.f47 (bodyOf Try.f47) 0 := loops1 nl47 fun a ha => by
  rw [nth47] at ha
  simp only [Option.some.injEq] at ha
  subst ha
  exact loop47

/-- what is the same, is -/
noncomputable def g47 : List SV → Heap → Option R
  | [.sl ka n, .sl kb m], [(ja, .tab n' [.ints .i64 g] _), (jb, .tab m' [.ints .i64 h] _)] => match Nat.beq ka 0 && (Nat.beq kb 1 && (Nat.beq ja 0 && Nat.beq jb 1)) with
    | true => some ⟨[Nat.beq n m, Nat.beq n n', Nat.beq n m', eqA n g h, Nat.ble n 100000000], .bool true true, []⟩
    | false => none
  | _, _ => none
attribute [local irreducible] evalF in
theorem spec47 : SpecOk Try.prog 47 (specOf g47) := spec_okA false e47_calls mixed fn47 b47 n47 loops47 g47 fun a0 H0 r hg hn => by
  unfold g47 at hg
  split at hg
  · rename_i ka n kb m ja n' g _ jb m' h _
    split at hg
    · rename_i hk
      simp only [Bool.and_eq_true, Nat.beq_eq] at hk
      obtain ⟨rfl, rfl, rfl, rfl⟩ := hk
      simp only [Option.some.injEq] at hg
      subst hg
      simp only [allB, Bool.and_true, Bool.and_eq_true, Nat.beq_eq, eqA_iff, Nat.ble_eq] at hn
      obtain ⟨rfl, rfl, rfl, heq, hl⟩ := hn
      refine ⟨[.sl 0 n, .sl 1 n], fun h => h, fun σ => rfl, ?_⟩
      refine gives_giv (gives_tree (t47 n g h) ?_)
      have e1 : cm .neq (n : Int) (n : Int) = false := by simp [cm]
      rw [e1, cond_false, beq_t, cond_true, cond_true, cond_true, eqA_iff.2 heq, cond_true, ble_t hl, cond_true]
      exact gives_ret fun σ σ' => by simp only [den]
    · cases hg
  · cases hg

/-! CopyLongs -/
structure X33 where
  n : Nat
  g : Nat → Int
  i : Nat
def ok33 (x : X33) : Prop := x.i ≤ x.n ∧ x.n ≤ 100000000
def vs33 (x : X33) : List SV := v33 x.n x.i x.i
def hp33 (x : X33) : Heap := h33 x.n x.i x.g x.g
def out33 (x : X33) : Vw := .exit 0 19 [.any, .sl 1024 x.n, .any] (h33 x.n x.n x.g x.g)

theorem entry33 (l : List SV) (H : Heap) (T : Tr) (h : lp33.get l H = some T) (hb : T.leaf ≠ .bad) : ∃ x r, ok33 x ∧ WkV r lp33.nm l H (vs33 x) (hp33 x) ∧ T.leaf = toLf lp33 (out33 x) := by
  replace h : get33 l H = some T := h
  unfold get33 at h
  split at h
  · rename_i ka n _ i ja n' g _
    simp only [Option.some.injEq] at h
    subst h
    obtain ⟨hn, he⟩ := needs_ne hb
    rw [he]
    simp only [allB, Bool.and_eq_true, Bool.and_true, decide_eq_true_eq, Nat.beq_eq, Nat.ble_eq] at hn
    obtain ⟨rfl, rfl, rfl, rfl, hl⟩ := hn
    refine ⟨⟨n, g, 0⟩, [(1024, .nil 1)], ⟨Nat.zero_le _, hl⟩, ?_, ?_⟩
    · simp [WkV, vs33, hp33, v33, h33, wkF, wkS, sim, simL, wkH, wkB, wkN, wkCs, wkC, rmap, rlook, Ev.look, oldsOf, uniqN, mem, SV.al, SV.alL, Ev.hal, Blk.al, lt, rok, lp33, lk33, isNilV, base]
    · simp only [exitT_leaf, out33]
      rfl
  · cases h

theorem cat_grow {i r : Nat} {g : Nat → Int} (h : r < i + 1) : cat i g (nth [g i] 0) r = g r := by
  simp only [cat]
  by_cases hr : r < i
  · rw [blt_t hr, cond_true]
  · have e : Nat.blt r i = false := by cases hb : Nat.blt r i with | false => rfl | true => rw [Nat.blt_eq] at hb; omega
    have : r = i := by omega
    subst this
    rw [e, cond_false, Nat.sub_self]
    rfl

attribute [local irreducible] evalB Tr.view in
theorem round33 (x : X33) (hx : ok33 x) : Round lp33 ok33 (fun x => x.n - x.i) vs33 hp33 out33 x ((evalB EN Try.prog Try.f33.results.toList (loopOf Try.f33 0) (0 + 1) lp33 (vs33 x) (hp33 x)).view lp33.ks) := by
  obtain ⟨n, g, i⟩ := x
  obtain ⟨h0, h1⟩ := hx
  simp only at h0 h1
  have hr := r33 n i i g g
  rw [show evalB EN Try.prog Try.f33.results.toList (loopOf Try.f33 0) (0 + 1) lp33 (vs33 ⟨n, g, i⟩) (hp33 ⟨n, g, i⟩) = evalB EN Try.prog Try.f33.results.toList (loopOf Try.f33 0) 1 lp33 (v33 n i i) (h33 n i g g) from rfl, show lp33.ks = [0, 3, 4] from rfl, hr]
  by_cases hi : i < n
  · have e1 : cm .lss (i : Int) (n : Int) = true := by rw [cm_lss']; exact decide_eq_true (by omega)
    have e2 : decide (0 ≤ (i : Int)) = true := decide_eq_true (by omega)
    have e3 : decide ((i : Int) < (n : Int)) = true := decide_eq_true (by omega)
    have e4 : Nat.blt i n = true := blt_t hi
    have e5 : Nat.ble i i = true := ble_t (Nat.le_refl _)
    have e6 : Nat.ble ((i + 1) * 8) 1099511627776 = true := ble_t (by omega)
    simp only [e1, e2, e3, e4, e5, e6, cond_true, cond_false, Int.toNat_natCast, addOne (show i < 9223372036854775807 by omega)]
    refine ⟨rfl, ⟨n, g, i + 1⟩, [(1024, .old 1232)], ⟨hi, h1⟩, by show n - (i + 1) < n - i; omega, rfl, ?_⟩
    have hc : ∀ r, r < i + 1 → cat i g (nth [g i] 0) r = g r := fun r hr => cat_grow hr
    simp [WkV, vs33, hp33, v33, h33, wkF, wkS, sim, simL, wkH, wkB, wkCs, wkC, rmap, rlook, Ev.look, oldsOf, uniqN, mem, SV.al, SV.alL, Ev.hal, Blk.al, lt, rok, lp33, lk33, base]
    exact hc
  · obtain rfl : i = n := by omega
    have e1 : cm .lss (i : Int) (i : Int) = false := by simp [cm]
    simp only [e1, cond_false]
    refine ⟨rfl, [.any, .sl 1024 i, .any], _, [], rfl, ?_⟩
    simp [WkV, hp33, h33, wkF, wkS, sim, simL, wkH, wkB, wkCs, wkC, rmap, rlook, Ev.look, oldsOf, uniqN, mem, SV.al, SV.alL, Ev.hal, Blk.al, lt, rok, lp33, lk33]

attribute [local irreducible] evalB Tr.view in
theorem loop33 : LoopOk E33 Try.prog Try.f33 0 (loopOf Try.f33 0) :=
  loop_okE mixed (fun S => rfl) (by decide) ok33 (fun x => x.n - x.i) vs33 hp33 out33 entry33 fun x hx => ⟨EN, en_calls, loops_noLoop en_loop _ _, round33 x hx⟩
theorem fn33 : Try.prog.funcs[33]? = some Try.f33 := by kernel_rfl
theorem b33 : Try.f33.body = some (bodyOf Try.f33) := by kernel_rfl
theorem n33 : (Try.f33.name == "runtime.NumGoroutine") = false := by kernel_rfl
theorem nl33 : Code.loops (bodyOf Try.f33) = 1 := by kernel_rfl
theorem nth33 : nthLoop (bodyOf Try.f33) 0 = some (loopOf Try.f33 0) := by kernel_rfl
theorem loops33 : LoopsOk E33 Try.prog Try.f33 (bodyOf Try.f33) 0 := loops1 nl33 fun a ha => by
  rw [nth33] at ha
  simp only [Option.some.injEq] at ha
  subst ha
  exact loop33

def g33 : List SV → Heap → Option R
  | [.sl ka n], [(ja, .tab n' [.ints .i64 g] _)] => match Nat.beq ka 0 && Nat.beq ja 0 with
    | true => some ⟨[Nat.beq n n', Nat.ble n 100000000], .sl 1024 n, [(1024, .tab n [.ints .i64 g] true)]⟩
    | false => none
  | _, _ => none
attribute [local irreducible] evalF in
theorem spec33 : SpecOk Try.prog 33 (specOf g33) := spec_okA false e33_calls mixed fn33 b33 n33 loops33 g33 fun a0 H0 r hg hn => by
  unfold g33 at hg
  split at hg
  · rename_i ka n ja n' g _
    split at hg
    · rename_i hk
      simp only [Bool.and_eq_true, Nat.beq_eq] at hk
      obtain ⟨rfl, rfl⟩ := hk
      simp only [Option.some.injEq] at hg
      subst hg
      simp only [allB, Bool.and_true, Bool.and_eq_true, Nat.beq_eq, Nat.ble_eq] at hn
      obtain ⟨rfl, hl⟩ := hn
      refine ⟨[.sl 0 n], fun h => h, fun σ => rfl, ?_⟩
      show GivesD _ (evalF E33 Try.prog 33 [.sl 0 n] [(0, .tab n [.ints .i64 g] false)] 1024).leaf
      rw [t33, beq_t, cond_true, ble_t hl, cond_true]
      refine ⟨[], rfl, fun σ => rfl, ?_, rfl⟩
      simp [wkH, rmap, rlook, Ev.look, wkB, wkCs, wkC]
    · cases hg
  · cases hg

end Go.Rv
end

section
set_option linter.unusedVariables false
open Go Go.Ev Go.Proofs
namespace Go.Rv

/-- a machine that is told by value -/
def hF (m : M) (b : Bool) : Heap := [(0, .tab 32 [.ints .i64 m.X] true), (1, .tab 196608 [.ints .u8 m.mem] true), (2, .tab m.nI [.ints .i64 m.inp] b), (3, .tab m.nO [.ints .i64 m.out] true)]
noncomputable def ET : Env := inlF Try.prog (envOf [(55, specOf (gCl .i64)), (56, specOf (gCl .u8)), (37, specOf g37)] noLoop) [] [35, 36] [34, 54] 2
theorem named35 : named Try.prog [35, 36] = true := by kernel_rfl
theorem named34 : named Try.prog [34, 54] = true := by kernel_rfl
theorem et_calls : CallsOk ET Try.prog := (inlF_calls ((SpecsOk.cons spec55 (SpecsOk.cons spec56 (SpecsOk.cons spec37 SpecsOk.nil))).calls noLoop) mixed rfl named35 named34 2).1
theorem et_loop : ET.loop = noLoop := rfl
def isB (m : M) : Bool := bif bif true then bif true then bif cm .eql m.kind 0 then true else bif cm .geq m.kind 1 then bif cm .leq m.kind 5 then cm .neq m.kind 3 else false else false else false else false then true else true
def mayB (s : ByteArray) (m : M) : Bool := bif bif true then bif true then bif cm .eql m.kind 0 then true else bif cm .geq m.kind 1 then bif cm .leq m.kind 5 then cm .neq m.kind 3 else false else false else false else false then bif cm .eql (m.X 0) 0 then bif !m.zf then bif !m.sf then bif !m.cf then bif !m.of_ then cm .leq (s.size : Int) 258048 else false else false else false else false else false else false
def nWd (s : ByteArray) : Nat := (ar .quo .i64 (s.size : Int) 4).toNat
def noC : Ca := ⟨fun _ => 0, fun _ => 0, fun _ => 0, fun _ => 0, fun _ => 0⟩
def zeroV : List SV := [.int true .i64 0, .val (.slice none 0 0), .bool true false, .bool true false, .bool true false, .bool true false, .val (.slice none 0 0), .val (.slice none 0 0), .val (.slice none 0 0), .int true .i64 0, .int true .i64 0]
def ksT : List Nat := [0, 1, 2, 3, 1152, 1153, 1154, 1155, 1280, 1281]
def retT0 (m : M) (b : Bool) : Lf := .ret (.tup [.agg zeroV, .int true .i64 1]) (hF m b)
def retT1 (m : M) (b : Bool) : Lf := .ret (.tup [.agg (cpuL m 1152 1153 1154 1155), .int true .i64 0]) (hF m b ++ [(1152, .tab 32 [.ints .i64 m.X] true), (1153, .tab 196608 [.ints .u8 m.mem] true), (1154, .tab m.nI [.ints .i64 m.inp] true), (1155, .tab m.nO [.ints .i64 m.out] true)])
def retT2 (m0 m : M) (b : Bool) : Lf := .ret (.tup [.agg (cpuL m 1152 1153 1280 1281), .int true .i64 0]) (hF m0 b ++ [(1152, .tab 32 [.ints .i64 m.X] true), (1153, .tab 196608 [.ints .u8 m.mem] true), (1154, .dead), (1155, .dead), (1280, .tab m.nI [.ints .i64 m.inp] false), (1281, .tab m.nO [.ints .i64 m.out] true)])
noncomputable def stepLf (s : ByteArray) (m : M) (b : Bool) : Lf :=
  bx (isB m) (bif !mayB s m then retT0 m b else
    bx (Nat.beq m.nI m.nI) (bx (Nat.ble m.nI 100000000) (bx (Nat.beq m.nO m.nO) (bx (Nat.ble m.nO 100000000) (bif cm .eql m.kind 0 then
      bx (decide (0 ≤ ar .quo .i64 (s.size : Int) 4)) (bx (decide (ar .quo .i64 (s.size : Int) 4 ≤ ar .quo .i64 (s.size : Int) 4)) (bx (Nat.ble (nWd s * 40) 140737488355328) (bx (Nat.ble (nWd s) 140737488355328)
        (bx (stB s (nWd s) noC m) (bx (Nat.beq (nWd s) (nWd s)) (bx (Nat.beq m.nI m.nI) (bx (Nat.beq m.nO m.nO) (retT2 m (stepM s m) b))))))))
      else retT1 m b)))))
theorem l19t (s : ByteArray) (m : M) : (evalF ET Try.prog 19 [.str s, .agg (cpuL m 0 1 2 3)] (hF m true) 1024).retH ksT = stepLf s m true := by kernel_rfl
theorem l19f (s : ByteArray) (m : M) : (evalF ET Try.prog 19 [.str s, .agg (cpuL m 0 1 2 3)] (hF m false) 1024).retH ksT = stepLf s m false := by kernel_rfl

/-- a machine that may be, and is small -/
structure MS (m : M) : Prop where
  mv : MV m
  pc : inR m.pc
  nO : m.nO < 1000000
  nI : m.nI ≤ 100000000
noncomputable def msB (m : M) : Bool := @decide (MS m) (Classical.propDecidable _)
theorem msB_iff {m : M} : msB m = true ↔ MS m := @decide_eq_true_iff _ (Classical.propDecidable _)
noncomputable def codeB (s : ByteArray) : Bool := @decide (s.size ≤ 258048) (Classical.propDecidable _)
theorem codeB_iff {s : ByteArray} : codeB s = true ↔ s.size ≤ 258048 := @decide_eq_true_iff _ (Classical.propDecidable _)

theorem isB_t (m : M) : isB m = true := by unfold isB; generalize (bif true then bif true then bif cm .eql m.kind 0 then true else bif cm .geq m.kind 1 then bif cm .leq m.kind 5 then cm .neq m.kind 3 else false else false else false else false) = b; cases b <;> rfl
theorem mayB_t {s : ByteArray} {m : M} (h : MV m) (hs : s.size ≤ 258048) : mayB s m = true := by
  unfold mayB
  have e : (bif true then bif true then bif cm .eql m.kind 0 then true else bif cm .geq m.kind 1 then bif cm .leq m.kind 5 then cm .neq m.kind 3 else false else false else false else false) = true := by
    rcases h.kd with hk | hk | hk | hk <;> rw [hk] <;> rfl
  have e2 : cm .leq (s.size : Int) 258048 = true := by simp only [cm]; exact decide_eq_true (by omega)
  rw [e, h.x0, h.f1, h.f2, h.f3, h.f4, e2]
  rfl

def outT (nn : List Bool) (b : Bool) (m0 m : M) : R := ⟨nn, .tup [.agg (cpuL m 1024 1025 1026 1027), .int false .i64 0], hF m0 b ++ [(1024, .tab 32 [.ints .i64 m.X] true), (1025, .tab 196608 [.ints .u8 m.mem] true), (1026, .tab m.nI [.ints .i64 m.inp] false), (1027, .tab m.nO [.ints .i64 m.out] true)]⟩

theorem nWd_eq {s : ByteArray} (hs : s.size ≤ 258048) : ar .quo .i64 (s.size : Int) 4 = ((s.size / 4 : Nat) : Int) := by
  simp only [ar]
  rw [Int.tdiv_eq_ediv_of_nonneg (by omega), IntKind.wrap_i64]
  omega

theorem noC_ok (s : ByteArray) (n : Nat) : CaOk s n noC := fun k _ => .inl rfl

theorem stG_of {s : ByteArray} {m : M} (h : MS m) (hs : s.size ≤ 258048) (hk : m.kind = 0) {n : Nat} (hn : n = s.size / 4) {c : Ca} (hc : CaOk s n c) : StG s n c m :=
  ⟨⟨h.mv.mx.X, h.mv.mx.mem, h.nO⟩, h.pc, hk, hs, hn, hc⟩

attribute [local irreducible] evalF Tr.retH Tr.leaf in
theorem step19 {s : ByteArray} {m : M} (h : MS m) (hs : s.size ≤ 258048) (nn : List Bool) (b : Bool) : GivesD (outT nn b m (stepM s m)) (stepLf s m b) := by
  unfold stepLf
  rw [bx_true (isB_t m), mayB_t h.mv hs, Bool.not_true, cond_false, bx_true (beq_t _), bx_true (ble_t h.nI), bx_true (beq_t _), bx_true (ble_t (show m.nO ≤ 100000000 by have := h.nO; omega))]
  by_cases hk : m.kind = 0
  · have e1 : cm .eql m.kind 0 = true := by rw [hk]; rfl
    have e2 := nWd_eq hs
    have e3 : nWd s = s.size / 4 := by unfold nWd; rw [e2]; omega
    rw [e1, cond_true, e2, bx_true (dec_true (by omega)), bx_true (dec_true (by omega)), e3, bx_true (ble_t (by omega)), bx_true (ble_t (by omega)), bx_true (stB_iff.2 (stG_of h hs hk rfl (noC_ok s _))), bx_true (beq_t _), bx_true (beq_t _), bx_true (beq_t _)]
    refine ⟨[(1024, .old 1152), (1025, .old 1153), (1026, .old 1280), (1027, .old 1281)], rfl, sim_den _ _ ?_, ?_, ?_⟩
    · simp [outT, cpuL, sim, simL, rmap, rlook]
    · simp [outT, hF, wkH, cpuL, rmap, rlook, Ev.look, wkB, simL, sim, wkCs, wkC]
    · rfl
  · have e1 : cm .eql m.kind 0 = false := by simp [cm, hk]
    rw [e1, cond_false, stepM_end hk]
    refine ⟨[(1024, .old 1152), (1025, .old 1153), (1026, .old 1154), (1027, .old 1155)], rfl, sim_den _ _ ?_, ?_, ?_⟩
    · simp [outT, cpuL, sim, simL, rmap, rlook]
    · simp [outT, hF, wkH, cpuL, rmap, rlook, Ev.look, wkB, simL, sim, wkCs, wkC]
    · rfl

/-- told by value -/
def unV : List SV → Heap → Option (List Bool × M × Bool)
  | [.int false .i64 pc, .sl k1 n1, .bool false zf, .bool false sf, .bool false cf, .bool false of_, .sl k2 n2, .sl k3 n3, .sl k4 n4, .int false .i64 kind, .int false .i64 code], [(j0, .tab t1 [.ints .i64 X] true), (j1, .tab t2 [.ints .u8 mem] true), (j2, .tab t3 [.ints .i64 inp] b), (j3, .tab t4 [.ints .i64 out] true)] =>
    match Nat.beq j0 0 && (Nat.beq j1 1 && (Nat.beq j2 2 && (Nat.beq j3 3 && (Nat.beq k1 0 && (Nat.beq k2 1 && (Nat.beq k3 2 && (Nat.beq k4 3 && (Nat.beq n1 32 && (Nat.beq n2 196608 && (Nat.beq t1 32 && Nat.beq t2 196608)))))))))) with
    | true => some ([Nat.beq t3 n3, Nat.beq t4 n4], ⟨pc, zf, sf, cf, of_, kind, code, X, mem, n3, inp, n4, out⟩, b)
    | false => none
  | _, _ => none
theorem unV_all {l : List SV} {H : Heap} {nn : List Bool} {m : M} {b : Bool} (h : unV l H = some (nn, m, b)) (hn : allB nn = true) : l = cpuL m 0 1 2 3 ∧ H = hF m b := by
  unfold unV at h
  split at h
  · split at h
    · rename_i hb
      simp only [Option.some.injEq, Prod.mk.injEq] at h
      obtain ⟨rfl, rfl, rfl⟩ := h
      simp only [Bool.and_eq_true, Nat.beq_eq] at hb
      obtain ⟨rfl, rfl, rfl, rfl, rfl, rfl, rfl, rfl, rfl, rfl, rfl, rfl⟩ := hb
      simp only [allB, Bool.and_true, Bool.and_eq_true, Nat.beq_eq] at hn
      obtain ⟨rfl, rfl⟩ := hn
      exact ⟨rfl, rfl⟩
    · cases h
  · cases h

theorem roH_hF (m : M) (b : Bool) : roH [0, 1, 2, 3] (hF m b) = hF m b := rfl

noncomputable def g19 : List SV → Heap → Option R
  | [.str s, .agg l], H => match unV l H with
    | some (nn, m, b) => some (outT (msB m :: codeB s :: nn) b m (stepM s m))
    | none => none
  | _, _ => none
theorem fn19 : Try.prog.funcs[19]? = some Try.f19 := by kernel_rfl
theorem b19 : Try.f19.body = some (bodyOf Try.f19) := by kernel_rfl
theorem n19 : (Try.f19.name == "runtime.NumGoroutine") = false := by kernel_rfl
attribute [local irreducible] evalF Tr.retH Tr.leaf in
theorem spec19 : SpecOk Try.prog 19 (specOf g19) := spec_okU false mixed fn19 b19 n19 g19 fun a0 H0 r hg hn => by
  unfold g19 at hg
  split at hg
  · rename_i s l
    split at hg
    · rename_i nn m b hm
      simp only [Option.some.injEq] at hg
      subst hg
      simp only [outT, allB, Bool.and_eq_true, msB_iff, codeB_iff] at hn
      obtain ⟨h1, h2, hnn⟩ := hn
      obtain ⟨rfl, rfl⟩ := unV_all hm hnn
      refine ⟨ET, [.str s, .agg (cpuL m 0 1 2 3)], [0, 1, 2, 3], et_calls, loops_noLoop et_loop _ _, fun h => h, fun σ => rfl, subN rfl, ?_⟩
      rw [roH_hF]
      cases b with
      | true => exact gives_retH _ (l19t s m) (step19 h1 h2 _ _)
      | false => exact gives_retH _ (l19f s m) (step19 h1 h2 _ _)
    · cases hg
  · cases hg

end Go.Rv
end

section
set_option linter.unusedVariables false
open Go Go.Ev Go.Proofs
namespace Go.Rv

def hX25 (m m0 : M) (b : Bool) : Heap := hF m0 b ++ [(1040, .cells (cpuL m 1296 1297 1298 1299)), (1296, .tab 32 [.ints .i64 m.X] true), (1297, .tab 196608 [.ints .u8 m.mem] true), (1298, .tab m.nI [.ints .i64 m.inp] false), (1299, .tab m.nO [.ints .i64 m.out] true)]
def h25 (s : ByteArray) (n : Nat) (c : Ca) (m m0 : M) (b : Bool) : Heap := hX25 m m0 b ++ [(1344, .cells [.str s, .sl 1345 n]), (1345, .tab n c.cols true)]
def v25 (fuel j : Int) : List SV := [.int false .i64 fuel, .ptr 1040 0 0, .int false .i64 j, .ptr 1344 0 0]
def lk25 : Lp := ⟨41, [2, 6, 7, 9], 2000, fun _ _ => none⟩
def unH25 (H : Heap) : Option (List Bool × ByteArray × Nat × Ca × M × M × Bool) :=
  match Ev.look H 1344, Ev.look H 1345, Ev.look H 1040, Ev.look H 1296, Ev.look H 1297, Ev.look H 1298, Ev.look H 1299, Ev.look H 0, Ev.look H 1, Ev.look H 2, Ev.look H 3 with
  | some (.cells [.str s, .sl kp n]), some (.tab n' [.ints .i64 op, .ints .i64 rd, .ints .i64 r1, .ints .i64 r2, .ints .i64 im] true),
    some (.cells [.int _ .i64 pc, .sl k1 n1, .bool _ zf, .bool _ sf, .bool _ cf, .bool _ of_, .sl k2 n2, .sl k3 n3, .sl k4 n4, .int _ .i64 kind, .int _ .i64 code]),
    some (.tab t1 [.ints .i64 X] true), some (.tab t2 [.ints .u8 mem] true), some (.tab t3 [.ints .i64 inp] _), some (.tab t4 [.ints .i64 out] true),
    some (.tab u1 [.ints .i64 X'] true), some (.tab u2 [.ints .u8 mem'] true), some (.tab u3 [.ints .i64 inp'] b), some (.tab u4 [.ints .i64 out'] true) =>
    some ([Nat.beq kp 1345, Nat.beq n n', Nat.beq k1 1296, Nat.beq k2 1297, Nat.beq k3 1298, Nat.beq k4 1299, Nat.beq n1 32, Nat.beq n2 196608, Nat.beq t1 32, Nat.beq t2 196608, Nat.beq t3 n3, Nat.beq t4 n4, Nat.beq u1 32, Nat.beq u2 196608],
      s, n, ⟨op, rd, r1, r2, im⟩, ⟨pc, zf, sf, cf, of_, kind, code, X, mem, n3, inp, n4, out⟩, ⟨0, false, false, false, false, 0, 0, X', mem', u3, inp', u4, out'⟩, b)
  | _, _, _, _, _, _, _, _, _, _, _ => none
/-- a run that may be -/
structure RunG (s : ByteArray) (n : Nat) (c : Ca) (m : M) (fuel : Int) : Prop where
  ms : MS m
  size : s.size ≤ 258048
  len : n = s.size / 4
  ca : CaOk s n c
  lo : 0 ≤ fuel
  hi : fuel ≤ 2000000
  nO : (m.nO : Int) + fuel < 1000000
noncomputable def runB (s : ByteArray) (n : Nat) (c : Ca) (m : M) (fuel : Int) : Bool := @decide (RunG s n c m fuel) (Classical.propDecidable _)
theorem runB_iff {s : ByteArray} {n : Nat} {c : Ca} {m : M} {fuel : Int} : runB s n c m fuel = true ↔ RunG s n c m fuel := @decide_eq_true_iff _ (Classical.propDecidable _)
noncomputable def get25 : List SV → Heap → Option Tr
  | [.int _ .i64 fuel, .ptr kx rx cx, .int _ .i64 j, .ptr kp rp cp], H => match unH25 H with
    | some (nn, s, n, c, m, m0, b) => some (Tr.needs ([Nat.beq kx 1040, Nat.beq rx 0, Nat.beq cx 0, Nat.beq kp 1344, Nat.beq rp 0, Nat.beq cp 0, decide (j = 0), runB s n c m fuel] ++ nn)
      (exitT lk25 0 [.any, .ptr 1040 0 0, .int false .i64 (stepsM s fuel.toNat m), .any] (hX25 (runM s fuel.toNat m) m0 b)))
    | none => none
  | _, _ => none
noncomputable def lp25 : Lp := { lk25 with get := get25 }
noncomputable def E25 : Env := ⟨ET.call, loopEnv [(0, lp25)]⟩

/-! the page's -/
noncomputable def E20s : Env := envOf [(20, specOf g20)] noLoop
def v27 (s : ByteArray) (fuel j : Int) : List SV := [.str s, .ptr 0 0 0, .int false .i64 fuel, .int false .i64 j]
/-- the page's machine: what comes in and goes out bears names that may be new -/
def h27 (m : M) : Heap := [(0, .cells (cpuL m 1 2 1998 1999)), (1, .tab 32 [.ints .i64 m.X] true), (2, .tab 196608 [.ints .u8 m.mem] true), (1998, .tab m.nI [.ints .i64 m.inp] false), (1999, .tab m.nO [.ints .i64 m.out] true), (3, .dead), (4, .dead)]
def lk27 : Lp := ⟨24, [0, 1, 2, 7], 2000, fun _ _ => none⟩
noncomputable def run2B (s : ByteArray) (m : M) (fuel : Int) : Bool := runB s (s.size / 4) noC m fuel
noncomputable def get27 : List SV → Heap → Option Tr
  | [.str s, .ptr kx rx cx, .int _ .i64 fuel, .int _ .i64 j], H => match unM true true true H with
    | some (nn, m) => some (Tr.needs ([Nat.beq kx 0, Nat.beq rx 0, Nat.beq cx 0, decide (j = 0), run2B s m fuel] ++ nn)
      (exitT lk27 0 [.any, .any, .any, .int false .i64 (stepsM s fuel.toNat m)] (h27 (runM s fuel.toNat m))))
    | none => none
  | _, _ => none
noncomputable def lp27 : Lp := { lk27 with get := get27 }
noncomputable def E27 : Env := ⟨E20s.call, loopEnv [(0, lp27)]⟩

def hN25 (s : ByteArray) (n : Nat) (c : Ca) (m m0 : M) (b : Bool) : Heap := hF m0 b ++ [(1040, .cells (cpuL m 1296 1297 2144 2145)), (1296, .tab 32 [.ints .i64 m.X] true), (1297, .tab 196608 [.ints .u8 m.mem] true), (1298, .dead), (1299, .dead), (1344, .cells [.str s, .sl 1345 n]), (1345, .tab n c.cols true), (2144, .tab m.nI [.ints .i64 m.inp] false), (2145, .tab m.nO [.ints .i64 m.out] true)]
theorem r25 (s : ByteArray) (n : Nat) (c : Ca) (m m0 : M) (b : Bool) (fuel j : Int) : (evalB ET Try.prog Try.f25.results.toList (loopOf Try.f25 0) 1 lp25 (v25 fuel j) (h25 s n c m m0 b)).view [2, 6, 7, 9] =
    bif (bif cm .lss j fuel then cm .eql m.kind 0 else false) then
      bif stB s n c m then bif Nat.beq n n then bif Nat.beq m.nI m.nI then bif Nat.beq m.nO m.nO then
        .norm 41 (v25 fuel (ar .add .i64 j 1)) (hN25 s n (nextC s n c m) (stepM s m) m0 b) else .bad else .bad else .bad else .bad
    else .exit 0 41 (v25 fuel j) (h25 s n c m m0 b) := by kernel_rfl
def hN27 (m : M) : Heap := [(0, .cells (cpuL m 1 2 2192 2193)), (1, .tab 32 [.ints .i64 m.X] true), (2, .tab 196608 [.ints .u8 m.mem] true), (1998, .dead), (1999, .dead), (3, .dead), (4, .dead), (2192, .tab m.nI [.ints .i64 m.inp] false), (2193, .tab m.nO [.ints .i64 m.out] true)]
theorem r27 (s : ByteArray) (m : M) (fuel j : Int) : (evalB E20s Try.prog Try.f27.results.toList (loopOf Try.f27 0) 1 lp27 (v27 s fuel j) (h27 m)).view [0, 1, 2, 7] =
    bif (bif cm .lss j fuel then cm .eql m.kind 0 else false) then
      bif goodB m then bif sizeB s then bif Nat.beq m.nI m.nI then bif Nat.beq m.nO m.nO then
        .norm 24 (v27 s fuel (ar .add .i64 j 1)) (hN27 (stepM s m)) else .bad else .bad else .bad else .bad
    else .exit 0 24 (v27 s fuel j) (h27 m) := by kernel_rfl

end Go.Rv
end
