/-
  xm: the page's memory (a load, a store), by op.
-/
import Derived.Test.YtihfbhoodofhoaaGreatC10
import Derived.Test.YtihfbhoodofhoaaGreatB11
import Derived.Test.YtihfbhoodofhoaaGreatC6
set_option linter.unusedSimpArgs false
set_option linter.unusedVariables false
section
set_option linter.unusedVariables false
open Go Go.Ev Go.Proofs
namespace Go.Rv

noncomputable def EQ0 : Env := inlF Tryz.prog (envOf [(70, specOf g41), (69, specOf g43)] noLoop) [] [] [] 0
theorem eq0_calls : CallsOk EQ0 Tryz.prog := (inlF_calls ((SpecsOk.cons spec41 (SpecsOk.cons spec43 SpecsOk.nil)).calls noLoop) mixed rfl rfl rfl 0).1
theorem eq0_loop : EQ0.loop = noLoop := rfl
noncomputable def EQ : Env := ⟨EQ0.call, fun n S => match n with | 0 => some (unr EQ0 Tryz.prog Tryz.f45.results.toList (loopOf Tryz.f45 0) 0 6 S) | _ => none⟩
theorem eq_calls : CallsOk EQ Tryz.prog := fun f args H nm r h hn => eq0_calls f args H nm r h hn
theorem fn45 : Tryz.prog.funcs[45]? = some Tryz.f45 := by kernel_rfl
theorem b45 : Tryz.f45.body = some (bodyOf Tryz.f45) := by kernel_rfl
theorem n45 : (Tryz.f45.name == "runtime.NumGoroutine") = false := by kernel_rfl
theorem nl45 : Code.loops (bodyOf Tryz.f45) = 1 := by kernel_rfl
theorem nth45 : nthLoop (bodyOf Tryz.f45) 0 = some (loopOf Tryz.f45 0) := by kernel_rfl
theorem loops45 : LoopsOk EQ Tryz.prog Tryz.f45 (bodyOf Tryz.f45) 0 := loops1 nl45 fun a ha => by
  rw [nth45] at ha
  simp only [Option.some.injEq] at ha
  subst ha
  exact unr_ok eq0_calls mixed 6 (fun S => rfl) (loops_noLoop eq0_loop _ _)

/-- how many bytes -/
def szM (K : Nat) : Nat := nth [8, 4, 4, 2, 1, 2, 1, 8, 4, 2, 1] 0 (K - 26)
def ldM (K : Nat) (x : Int) : Int := match K with
  | 28 => conv .i64 (conv .i32 x)
  | 29 => conv .i64 (conv .i16 x)
  | 30 => conv .i64 (conv .i8 x)
  | _ => conv .i64 x
def bx (b : Bool) (x : Lf) : Lf := bif b then x else .bad
/-- a register's place -/
def ix (r : Int) (x : Lf) : Lf := bx (decide (0 ≤ r)) (bx (decide (r < 16)) (bx (Nat.blt r.toNat 16) (bx (Nat.blt r.toNat 16) x)))
def hX (m : M) : Heap := [(0, .cells (cpuL m 1 2 3 4)), (1, .tab 16 [.ints .i64 m.X] true), (2, .tab 196608 [.ints .u8 m.mem] false)]
def hE (m : M) : Heap := [(0, .cells (cpuL m 1 2 3 4)), (1, .tab 16 [.ints .i64 m.X] false), (2, .tab 196608 [.ints .u8 m.mem] true)]
def xX (m : M) (A : Int) (s : Nat) : Int := bif decide (accX A s = 0) then loadX m.mem A s else 0
noncomputable def ldL (K : Nat) (rd at_ : Int) (m : M) : Lf :=
  bx (Nat.beq m.nI m.nI) (bx (Nat.beq m.nO m.nO) (bx (byteB m.mem) (bif !decide (accX (conv .u64 at_) (szM K) = 0) then .ret (.bool true false) (hX { m with kind := kindA m.kind (conv .u64 at_) (szM K) })
    else ix rd (.ret (.bool true true) (hX { m with kind := kindA m.kind (conv .u64 at_) (szM K), X := upd m.X rd.toNat (ldM K (xX m (conv .u64 at_) (szM K))) })))))
def stL (K : Nat) (a at_ : Int) (m : M) : Lf :=
  bx (Nat.beq m.nI m.nI) (bx (Nat.beq m.nO m.nO) (.ret (.bool false (decide (accX (conv .u64 at_) (szM K) = 0))) (hE { m with kind := kindA m.kind (conv .u64 at_) (szM K), mem := storeA m.mem (conv .u64 at_) (conv .u64 a) (szM K) })))
def ldP (K : Nat) : Prop := ∀ (m : M) (w rd rs n a at_ : Int), (evalF EQ Tryz.prog 45 [.ptr 0 0 0, .agg [.int true .i64 K, .int false .i64 w, .int false .i64 rd, .int false .i64 rs, .int false .i64 n], .int false .i64 a, .int false .i64 at_] (hM m true false false) 1024).retH [0, 1, 2] = ldL K rd at_ m
def stP (K : Nat) : Prop := ∀ (m : M) (w rd rs n a at_ : Int), (evalF EQ Tryz.prog 45 [.ptr 0 0 0, .agg [.int true .i64 K, .int false .i64 w, .int false .i64 rd, .int false .i64 rs, .int false .i64 n], .int false .i64 a, .int false .i64 at_] (hM m false true false) 1024).retH [0, 1, 2] = stL K a at_ m
theorem ld26 : ldP 26 := fun m w rd rs n a at_ => by kernel_rfl
theorem ld27 : ldP 27 := fun m w rd rs n a at_ => by kernel_rfl
theorem ld28 : ldP 28 := fun m w rd rs n a at_ => by kernel_rfl
theorem ld29 : ldP 29 := fun m w rd rs n a at_ => by kernel_rfl
theorem ld30 : ldP 30 := fun m w rd rs n a at_ => by kernel_rfl
theorem ld31 : ldP 31 := fun m w rd rs n a at_ => by kernel_rfl
theorem ld32 : ldP 32 := fun m w rd rs n a at_ => by kernel_rfl
theorem st33 : stP 33 := fun m w rd rs n a at_ => by kernel_rfl
theorem st34 : stP 34 := fun m w rd rs n a at_ => by kernel_rfl
theorem st35 : stP 35 := fun m w rd rs n a at_ => by kernel_rfl
theorem st36 : stP 36 := fun m w rd rs n a at_ => by kernel_rfl
theorem ld_all {K : Nat} (h1 : 26 ≤ K) (h2 : K ≤ 32) : ldP K := by
  have : K = 26 ∨ K = 27 ∨ K = 28 ∨ K = 29 ∨ K = 30 ∨ K = 31 ∨ K = 32 := by omega
  rcases this with rfl | rfl | rfl | rfl | rfl | rfl | rfl
  · exact ld26
  · exact ld27
  · exact ld28
  · exact ld29
  · exact ld30
  · exact ld31
  · exact ld32
theorem st_all {K : Nat} (h1 : 33 ≤ K) (h2 : K ≤ 36) : stP K := by
  have : K = 33 ∨ K = 34 ∨ K = 35 ∨ K = 36 := by omega
  rcases this with rfl | rfl | rfl | rfl
  · exact st33
  · exact st34
  · exact st35
  · exact st36

theorem unF_load2 {H : Heap} {nn : List Bool} {m : M} (h : unF true false false H = some (nn, m)) (hn : allB nn = true) : roH [0, 1] H = hM m true false false := by
  unfold unF at h
  split at h
  · split at h
    · rename_i hr hb
      simp only [Option.some.injEq, Prod.mk.injEq] at h
      obtain ⟨rfl, rfl⟩ := h
      simp only [Bool.and_eq_true, Nat.beq_eq] at hb
      obtain ⟨rfl, rfl, rfl, rfl, rfl, rfl, rfl, rfl, rfl, rfl, rfl, rfl, rfl⟩ := hb
      simp only [allB, Bool.and_true, Bool.and_eq_true, Nat.beq_eq] at hn
      obtain ⟨rfl, rfl⟩ := hn
      simp at hr
      subst hr
      rfl
    · cases h
  · cases h

/-- what a load makes of the registers -/
def ldX (K : Nat) (rd A : Int) (m : M) : Nat → Int := bif decide (accX A (szM K) = 0) then upd m.X rd.toNat (ldM K (loadX m.mem A (szM K))) else m.X
noncomputable def g45 (K : Nat) : List SV → Heap → Option R
  | [.ptr k0 r0 c0, .agg [.int _ .i64 op, .int _ .i64 w, .int _ .i64 rd, .int _ .i64 rs, .int _ .i64 n], .int _ .i64 a, .int _ .i64 at_], H => match Nat.beq k0 0 && (Nat.beq r0 0 && Nat.beq c0 0) with
    | true => match Nat.ble K 32 with
      | true => match unF true false false H with
        | some (nn, m) => some ⟨decide (op = K) :: Nat.ble 26 K :: decide (0 ≤ rd) :: decide (rd < 16) :: byteB m.mem :: nn, .bool false (decide (accX (conv .u64 at_) (szM K) = 0)),
            [(0, .cells (cpuL { m with kind := kindA m.kind (conv .u64 at_) (szM K) } 1 2 3 4)), (1, .tab 16 [.ints .i64 (ldX K rd (conv .u64 at_) m)] true)]⟩
        | none => none
      | false => match unF false true false H with
        | some (nn, m) => some (storeR m (conv .u64 at_) (conv .u64 a) (szM K) (decide (op = K) :: Nat.ble K 36 :: nn))
        | none => none
    | false => none
  | _, _ => none

theorem blt16 {r : Int} (h0 : 0 ≤ r) (h1 : r < 16) : Nat.blt r.toNat 16 = true := by rw [Nat.blt_eq]; omega
theorem ix_eq {r : Int} (h0 : 0 ≤ r) (h1 : r < 16) (x : Lf) : ix r x = x := by
  unfold ix bx
  rw [decide_eq_true h0, decide_eq_true h1, blt16 h0 h1]
  rfl

theorem ldL_gives {K : Nat} {rd at_ : Int} {m : M} {nn : List Bool} (h0 : 0 ≤ rd) (h1 : rd < 16) (hb : byteB m.mem = true) :
    GivesD ⟨nn, .bool false (decide (accX (conv .u64 at_) (szM K) = 0)), [(0, .cells (cpuL { m with kind := kindA m.kind (conv .u64 at_) (szM K) } 1 2 3 4)), (1, .tab 16 [.ints .i64 (ldX K rd (conv .u64 at_) m)] true)]⟩ (ldL K rd at_ m) := by
  unfold ldL bx
  rw [Nat.beq_refl, Nat.beq_refl, hb, ix_eq h0 h1]
  simp only [cond_true]
  by_cases ha : accX (conv .u64 at_) (szM K) = 0
  · rw [decide_eq_true ha]
    refine ⟨[], rfl, fun σ => rfl, ?_, rfl⟩
    simp [rmap, rlook, Ev.look, cpuL, wkH, wkB, simL, sim, hX, wkCs, wkC, ldX, ha, xX]
  · rw [decide_eq_false ha]
    refine ⟨[], rfl, fun σ => rfl, ?_, rfl⟩
    simp [rmap, rlook, Ev.look, cpuL, wkH, wkB, simL, sim, hX, wkCs, wkC, ldX, ha]
theorem stL_gives {K : Nat} {a at_ : Int} {m : M} {nn : List Bool} : GivesD (storeR m (conv .u64 at_) (conv .u64 a) (szM K) nn) (stL K a at_ m) := by
  unfold stL bx
  rw [Nat.beq_refl, Nat.beq_refl]
  simp only [cond_true]
  exact store_gives (X := m.X) rfl rfl rfl _

attribute [local irreducible] evalF in
theorem spec45 (K : Nat) : SpecOk Tryz.prog 45 (specC true (g45 K)) := spec_okA true eq_calls mixed fn45 b45 n45 loops45 (g45 K) fun a0 H0 r hg hn => by
  unfold g45 at hg
  split at hg
  · rename_i k0 r0 c0 _ op _ w _ rd _ rs _ n _ a _ at_
    split at hg
    · rename_i hk
      simp only [Bool.and_eq_true, Nat.beq_eq] at hk
      obtain ⟨rfl, rfl, rfl⟩ := hk
      split at hg
      · rename_i hK
        rw [Nat.ble_eq] at hK
        split at hg
        · rename_i nn m hm
          simp only [Option.some.injEq] at hg
          subst hg
          simp only [allB, Bool.and_eq_true, decide_eq_true_eq, Nat.ble_eq] at hn
          obtain ⟨rfl, hK0, h0, h1, hb, hnn⟩ := hn
          refine ⟨[.ptr 0 0 0, .agg [.int true .i64 K, .int false .i64 w, .int false .i64 rd, .int false .i64 rs, .int false .i64 n], .int false .i64 a, .int false .i64 at_], fun _ => by simp [SV.alL, SV.al, lt, base], fun σ => by simp only [denL, den], ?_⟩
          refine gives_retH [0, 1, 2] (l := ldL K rd at_ m) ?_ (ldL_gives h0 h1 hb)
          rw [show namesH (⟨(decide ((K : Int) = K) :: Nat.ble 26 K :: decide (0 ≤ rd) :: decide (rd < 16) :: byteB m.mem :: nn : List Bool), .bool false (decide (accX (conv .u64 at_) (szM K) = 0)),
            [(0, .cells (cpuL { m with kind := kindA m.kind (conv .u64 at_) (szM K) } 1 2 3 4)), (1, .tab 16 [.ints .i64 (ldX K rd (conv .u64 at_) m)] true)]⟩ : R).upd = [0, 1] from rfl, unF_load2 hm hnn]
          exact ld_all hK0 hK m w rd rs n a at_
        · cases hg
      · rename_i hK
        split at hg
        · rename_i nn m hm
          simp only [Option.some.injEq] at hg
          subst hg
          simp only [storeR, allB, Bool.and_eq_true, decide_eq_true_eq, Nat.ble_eq] at hn
          obtain ⟨rfl, hK2, hnn⟩ := hn
          have hK0 : 33 ≤ K := by
            rcases Nat.lt_or_ge 32 K with h | h
            · exact h
            · have hc : Nat.ble K 32 = true := by rw [Nat.ble_eq]; exact h
              rw [hK] at hc; cases hc
          refine ⟨[.ptr 0 0 0, .agg [.int true .i64 K, .int false .i64 w, .int false .i64 rd, .int false .i64 rs, .int false .i64 n], .int false .i64 a, .int false .i64 at_], fun _ => by simp [SV.alL, SV.al, lt, base], fun σ => by simp only [denL, den], ?_⟩
          refine gives_retH [0, 1, 2] (l := stL K a at_ m) ?_ stL_gives
          rw [show namesH (storeR m (conv .u64 at_) (conv .u64 a) (szM K) (decide ((K : Int) = K) :: Nat.ble K 36 :: nn)).upd = [0, 2] from rfl, unF_store hm hnn]
          exact st_all hK0 hK2 m w rd rs n a at_
        · cases hg
    · cases hg
  · cases hg

end Go.Rv
end

section
set_option linter.unusedVariables false
open Go Go.Ev Go.Proofs
namespace Go.X

def kindR : List Int := [114, 110, 98, 114, 114, 114, 114, 114, 114, 113, 110, 110, 110, 110, 110, 110, 110, 120, 110, 115, 113, 113, 113, 113, 113, 109, 109, 109, 109, 109, 109, 109, 109, 109, 109, 109, 109, 98, 98, 112, 112, 112, 112, 99, 99, 112]
def bytesR : List ByteArray := [⟨#[137]⟩, ⟨#[199]⟩, ⟨#[184]⟩, ⟨#[1]⟩, ⟨#[41]⟩, ⟨#[33]⟩, ⟨#[9]⟩, ⟨#[49]⟩, ⟨#[57]⟩, ⟨#[15, 175]⟩, ⟨#[247]⟩, ⟨#[247]⟩, ⟨#[247]⟩, ⟨#[247]⟩, ⟨#[211]⟩, ⟨#[211]⟩, ⟨#[211]⟩, ⟨#[]⟩, ⟨#[129]⟩, ⟨#[]⟩, ⟨#[15, 182]⟩, ⟨#[15, 183]⟩, ⟨#[15, 190]⟩, ⟨#[15, 191]⟩, ⟨#[99]⟩, ⟨#[139]⟩, ⟨#[139]⟩, ⟨#[99]⟩, ⟨#[15, 191]⟩, ⟨#[15, 190]⟩, ⟨#[15, 183]⟩, ⟨#[15, 182]⟩, ⟨#[137]⟩, ⟨#[137]⟩, ⟨#[137]⟩, ⟨#[136]⟩, ⟨#[141]⟩, ⟨#[80]⟩, ⟨#[88]⟩, ⟨#[232]⟩, ⟨#[195]⟩, ⟨#[233]⟩, ⟨#[235]⟩, ⟨#[15, 128]⟩, ⟨#[112]⟩, ⟨#[15, 5]⟩]
def midR : List Int := [0, 0, 0, 0, 0, 0, 0, 0, 0, 0, 3, 2, 7, 6, 4, 5, 7, 0, 0, 0, 0, 0, 0, 0, 0, 0, 0, 0, 0, 0, 0, 0, 0, 0, 0, 0, 0, 0, 0, 0, 0, 0, 0, 0, 0, 0]
def wR : List Int := [0, 8, 8, 0, 0, 0, 0, 0, 0, 0, 0, 0, 0, 0, 0, 0, 0, 0, 8, 4, 8, 8, 8, 8, 8, 8, 4, 8, 8, 8, 8, 8, 8, 4, 4, 4, 8, 4, 4, 4, 4, 4, 4, 4, 4, 4]
def immR : List Int := [0, 4, 8, 0, 0, 0, 0, 0, 0, 0, 0, 0, 0, 0, 0, 0, 0, 0, 4, 0, 0, 0, 0, 0, 0, 4, 4, 4, 4, 4, 4, 4, 4, 4, 4, 4, 4, 0, 0, 4, 0, 4, 1, 4, 1, 0]
def preR : List Bool := [false, false, false, false, false, false, false, false, false, false, false, false, false, false, false, false, false, false, false, false, false, false, false, false, false, false, false, false, false, false, false, false, false, false, true, false, false, false, false, false, false, false, false, false, false, false]

def formR (op : Int) : SV := .agg [.int false .u8 (nth kindR 0 (op - 1).toNat), .str (nth bytesR .empty (op - 1).toNat), .int false .i64 (nth midR 0 (op - 1).toNat), .int false .i64 (nth wR 0 (op - 1).toNat), .int false .i64 (nth immR 0 (op - 1).toNat), .bool false (nth preR false (op - 1).toNat)]
def g19 : List SV → Heap → Option R
  | [.int false .i64 op], [] => some ⟨[decide (1 ≤ op), decide (op ≤ 46)], formR op, []⟩
  | _, _ => none
noncomputable def E19 : Env := inlA Tryz.prog (envOf [] noLoop) [71] [] 2
theorem named40 : named Tryz.prog [71] = true := by kernel_rfl
theorem e19_calls : CallsOk E19 Tryz.prog := (inlA_calls (SpecsOk.nil.calls noLoop) mixed named40 namedNil 2).1
theorem e19_loop : E19.loop = noLoop := rfl
theorem fn19 : Tryz.prog.funcs[53]? = some Tryz.f53 := by kernel_rfl
theorem b19 : Tryz.f53.body = some (bodyOf Tryz.f53) := by kernel_rfl
theorem n19 : (Tryz.f53.name == "runtime.NumGoroutine") = false := by kernel_rfl

def rowL (op : Int) : List SV := [.int true .u8 (nth kindR 0 (op - 1).toNat), .str (nth bytesR .empty (op - 1).toNat), .int true .i64 (nth midR 0 (op - 1).toNat), .int true .i64 (nth wR 0 (op - 1).toNat), .int true .i64 (nth immR 0 (op - 1).toNat), .bool true (nth preR false (op - 1).toNat)]
def rowR (op : Int) : SV := .agg (rowL op)
/-- the same, for an op that is told by number -/
def g19c : List SV → Heap → Option R
  | [.int _ .i64 op], [] => some ⟨[decide (1 ≤ op), decide (op ≤ 46)], rowR op, []⟩
  | _, _ => none

def fyP (k : Int) : Prop := (evalF E19 Tryz.prog 53 [.int true .i64 k] [] 1024).bare = .ret (rowR k) []
theorem fy0 : fyP (Int.ofNat (0 + 1)) := by show _ = _; kernel_rfl
theorem fy1 : fyP (Int.ofNat (1 + 1)) := by show _ = _; kernel_rfl
theorem fy2 : fyP (Int.ofNat (2 + 1)) := by show _ = _; kernel_rfl
theorem fy3 : fyP (Int.ofNat (3 + 1)) := by show _ = _; kernel_rfl
theorem fy4 : fyP (Int.ofNat (4 + 1)) := by show _ = _; kernel_rfl
theorem fy5 : fyP (Int.ofNat (5 + 1)) := by show _ = _; kernel_rfl
theorem fy6 : fyP (Int.ofNat (6 + 1)) := by show _ = _; kernel_rfl
theorem fy7 : fyP (Int.ofNat (7 + 1)) := by show _ = _; kernel_rfl
theorem fy8 : fyP (Int.ofNat (8 + 1)) := by show _ = _; kernel_rfl
theorem fy9 : fyP (Int.ofNat (9 + 1)) := by show _ = _; kernel_rfl
theorem fy10 : fyP (Int.ofNat (10 + 1)) := by show _ = _; kernel_rfl
theorem fy11 : fyP (Int.ofNat (11 + 1)) := by show _ = _; kernel_rfl
theorem fy12 : fyP (Int.ofNat (12 + 1)) := by show _ = _; kernel_rfl
theorem fy13 : fyP (Int.ofNat (13 + 1)) := by show _ = _; kernel_rfl
theorem fy14 : fyP (Int.ofNat (14 + 1)) := by show _ = _; kernel_rfl
theorem fy15 : fyP (Int.ofNat (15 + 1)) := by show _ = _; kernel_rfl
theorem fy16 : fyP (Int.ofNat (16 + 1)) := by show _ = _; kernel_rfl
theorem fy17 : fyP (Int.ofNat (17 + 1)) := by show _ = _; kernel_rfl
theorem fy18 : fyP (Int.ofNat (18 + 1)) := by show _ = _; kernel_rfl
theorem fy19 : fyP (Int.ofNat (19 + 1)) := by show _ = _; kernel_rfl
theorem fy20 : fyP (Int.ofNat (20 + 1)) := by show _ = _; kernel_rfl
theorem fy21 : fyP (Int.ofNat (21 + 1)) := by show _ = _; kernel_rfl
theorem fy22 : fyP (Int.ofNat (22 + 1)) := by show _ = _; kernel_rfl
theorem fy23 : fyP (Int.ofNat (23 + 1)) := by show _ = _; kernel_rfl
theorem fy24 : fyP (Int.ofNat (24 + 1)) := by show _ = _; kernel_rfl
theorem fy25 : fyP (Int.ofNat (25 + 1)) := by show _ = _; kernel_rfl
theorem fy26 : fyP (Int.ofNat (26 + 1)) := by show _ = _; kernel_rfl
theorem fy27 : fyP (Int.ofNat (27 + 1)) := by show _ = _; kernel_rfl
theorem fy28 : fyP (Int.ofNat (28 + 1)) := by show _ = _; kernel_rfl
theorem fy29 : fyP (Int.ofNat (29 + 1)) := by show _ = _; kernel_rfl
theorem fy30 : fyP (Int.ofNat (30 + 1)) := by show _ = _; kernel_rfl
theorem fy31 : fyP (Int.ofNat (31 + 1)) := by show _ = _; kernel_rfl
theorem fy32 : fyP (Int.ofNat (32 + 1)) := by show _ = _; kernel_rfl
theorem fy33 : fyP (Int.ofNat (33 + 1)) := by show _ = _; kernel_rfl
theorem fy34 : fyP (Int.ofNat (34 + 1)) := by show _ = _; kernel_rfl
theorem fy35 : fyP (Int.ofNat (35 + 1)) := by show _ = _; kernel_rfl
theorem fy36 : fyP (Int.ofNat (36 + 1)) := by show _ = _; kernel_rfl
theorem fy37 : fyP (Int.ofNat (37 + 1)) := by show _ = _; kernel_rfl
theorem fy38 : fyP (Int.ofNat (38 + 1)) := by show _ = _; kernel_rfl
theorem fy39 : fyP (Int.ofNat (39 + 1)) := by show _ = _; kernel_rfl
theorem fy40 : fyP (Int.ofNat (40 + 1)) := by show _ = _; kernel_rfl
theorem fy41 : fyP (Int.ofNat (41 + 1)) := by show _ = _; kernel_rfl
theorem fy42 : fyP (Int.ofNat (42 + 1)) := by show _ = _; kernel_rfl
theorem fy43 : fyP (Int.ofNat (43 + 1)) := by show _ = _; kernel_rfl
theorem fy44 : fyP (Int.ofNat (44 + 1)) := by show _ = _; kernel_rfl
theorem fy45 : fyP (Int.ofNat (45 + 1)) := by show _ = _; kernel_rfl
theorem fy_all : ∀ i : Nat, i < 46 → fyP (Int.ofNat (i + 1))
  | 0, _ => fy0
  | 1, _ => fy1
  | 2, _ => fy2
  | 3, _ => fy3
  | 4, _ => fy4
  | 5, _ => fy5
  | 6, _ => fy6
  | 7, _ => fy7
  | 8, _ => fy8
  | 9, _ => fy9
  | 10, _ => fy10
  | 11, _ => fy11
  | 12, _ => fy12
  | 13, _ => fy13
  | 14, _ => fy14
  | 15, _ => fy15
  | 16, _ => fy16
  | 17, _ => fy17
  | 18, _ => fy18
  | 19, _ => fy19
  | 20, _ => fy20
  | 21, _ => fy21
  | 22, _ => fy22
  | 23, _ => fy23
  | 24, _ => fy24
  | 25, _ => fy25
  | 26, _ => fy26
  | 27, _ => fy27
  | 28, _ => fy28
  | 29, _ => fy29
  | 30, _ => fy30
  | 31, _ => fy31
  | 32, _ => fy32
  | 33, _ => fy33
  | 34, _ => fy34
  | 35, _ => fy35
  | 36, _ => fy36
  | 37, _ => fy37
  | 38, _ => fy38
  | 39, _ => fy39
  | 40, _ => fy40
  | 41, _ => fy41
  | 42, _ => fy42
  | 43, _ => fy43
  | 44, _ => fy44
  | 45, _ => fy45
  | m + 46, h => absurd h (by omega)
theorem row_den (op : Int) (σ : Sg) : den σ (rowR op) = den σ (formR op) := by simp only [rowR, rowL, formR, den, denL]
theorem row_gives (k : Int) : (Lf.ret (rowR k) []).gives (rowR k) := fun σ σ' => rfl
theorem row_form (k : Int) : (Lf.ret (rowR k) []).gives (formR k) := fun σ σ' => row_den k _
attribute [local irreducible] evalF Lf.gives in
theorem form19 (k : Int) (h1 : 1 ≤ k) (h2 : k ≤ 46) : (evalF E19 Tryz.prog 53 [.int true .i64 k] [] 1024).leaf.gives (rowR k) :=
  gives_tree (ops46 (P := fyP) fy_all h1 h2) (row_gives k)

attribute [local irreducible] evalF Lf.gives in
theorem spec19 : SpecOk Tryz.prog 53 (specOf g19) := spec_okA false e19_calls mixed fn19 b19 n19 (loops_noLoop e19_loop _ _) g19 fun a0 H0 r hg hn => by
  unfold g19 at hg
  split at hg
  · rename_i op
    simp only [Option.some.injEq] at hg
    subst hg
    simp only [allB, Bool.and_true, Bool.and_eq_true, decide_eq_true_eq] at hn
    refine ⟨[.int true .i64 op], id, fun σ => ?_, gives_giv (gives_tree (ops46 (P := fyP) fy_all hn.1 hn.2) (row_form op))⟩
    simp only [denL, den]
  · cases hg
attribute [local irreducible] evalF Lf.gives in
theorem spec19c : SpecOk Tryz.prog 53 (specC true g19c) := spec_okA true e19_calls mixed fn19 b19 n19 (loops_noLoop e19_loop _ _) g19c fun a0 H0 r hg hn => by
  unfold g19c at hg
  split at hg
  · rename_i _ op
    simp only [Option.some.injEq] at hg
    subst hg
    simp only [allB, Bool.and_true, Bool.and_eq_true, decide_eq_true_eq] at hn
    refine ⟨[.int true .i64 op], fun _ => by simp [SV.alL, SV.al], fun σ => ?_, gives_giv (form19 op hn.1 hn.2)⟩
    simp only [denL, den]
  · cases hg

end Go.X
end

section
set_option linter.unusedVariables false
open Go Go.Ev Go.Proofs
namespace Go.X

theorem rem8 {x : Int} (h : 0 ≤ x) : ar .rem .i64 x 8 = x % 8 := by simp only [ar]; exact Int.tmod_eq_emod_of_nonneg h
theorem S_append (a b : List Int) : S a ++ S b = S (a ++ b) := by
  apply ByteArray.ext
  simp [S, ByteArray.data_append]
theorem strOf_one (x : Int) : strOf (nth [x] 0) 1 = S [x] := rfl
def modR (mode m l : Int) : Int := conv .u8 (ar .add .i64 (ar .add .i64 mode (ar .mul .i64 8 (ar .rem .i64 m 8))) (ar .rem .i64 l 8))
theorem modR_all : ((List.range 16).all fun i => (List.range 16).all fun j => [(192 : Int), 128].all fun w => modR w (Int.ofNat i) (Int.ofNat j) == modI w (Int.ofNat i) (Int.ofNat j)) = true := by kernel_rfl
theorem modR_eq {w m l : Int} (hw : w = 192 ∨ w = 128) (hm : small m) (hl : small l) : modR w m l = modI w m l := by
  obtain ⟨i, hi, rfl⟩ := small_nat hm
  obtain ⟨j, hj, rfl⟩ := small_nat hl
  have := List.all_eq_true.1 (List.all_eq_true.1 (List.all_eq_true.1 modR_all i (List.mem_range.2 hi)) j (List.mem_range.2 hj)) w (by rcases hw with rfl | rfl <;> simp)
  simpa using this
theorem addReg8_all : ((List.range 16).all fun i => [(184 : Int), 80, 88].all fun c => ar .add .u8 c (conv .u8 (ar .rem .i64 (Int.ofNat i) 8)) == c + (Int.ofNat i) % 8) = true := by kernel_rfl
theorem addReg8 {c x : Int} (hc : c ∈ [(184 : Int), 80, 88]) (hx : small x) : ar .add .u8 c (conv .u8 (ar .rem .i64 x 8)) = c + x % 8 := by
  obtain ⟨i, hi, rfl⟩ := small_nat hx
  simpa using List.all_eq_true.1 (List.all_eq_true.1 addReg8_all i (List.mem_range.2 hi)) c hc
theorem add144_all : ((List.range 16).all fun i => conv .u8 (ar .add .i64 144 (Int.ofNat i)) == 144 + (Int.ofNat i)) = true := by kernel_rfl
theorem add144 {x : Int} (hx : small x) : conv .u8 (ar .add .i64 144 x) = 144 + x := by
  obtain ⟨i, hi, rfl⟩ := small_nat hx
  simpa using List.all_eq_true.1 add144_all i (List.mem_range.2 hi)
theorem batR_eq (n : Int) {t : Nat} (h : t < 8) : batR n t = bat n t := by
  have e : ar .mul .i64 8 (t : Int) = ((8 * t : Nat) : Int) := mul8 (by omega)
  simp only [batR, bat, e]
  have : t = 0 ∨ t = 1 ∨ t = 2 ∨ t = 3 ∨ t = 4 ∨ t = 5 ∨ t = 6 ∨ t = 7 := by omega
  rcases this with rfl | rfl | rfl | rfl | rfl | rfl | rfl | rfl <;> (simp [ar, conv, IntKind.wrap, IntKind.signed, IntKind.bits, Int.fdiv_eq_ediv_of_nonneg]; try omega)


def regR (x : Int) : Bool := bif cm .geq x 0 then cm .leq x 15 else false
def aR (sh : Int) (im : Bool) (rd rs n : Int) : Bool :=
  let nn := if sh = 2 ∨ sh = 3 ∨ 7 ≤ sh ∨ (sh = 1 ∧ im = true) then false else cm .neq n 0
  let s := if sh = 0 ∨ sh = 2 then nn else bif cm .neq rs 0 then true else nn
  let d := if sh = 5 ∨ sh = 6 ∨ sh = 8 ∨ sh = 9 then bif cm .neq rd 0 then true else s else s
  bif !regR rd then true else bif !regR rs then true else d
def wnR (v w : Int) (r : Bool) : Bool := if v = 0 then r else bif cm .neq v w then true else r
def c2B (sh rd rs n : Int) : Bool := if sh = 2 then bif cm .eql (ar .rem .i64 rs 8) 4 then true else false else if sh = 7 then !condT n else if sh = 10 ∨ sh = 11 then bif !condT rd then true else false else false
def c2T (sh rd rs n : Int) (x : Lf) : Lf := if sh = 2 ∨ sh = 7 ∨ sh = 10 ∨ sh = 11 then bif c2B sh rd rs n then retE ⟨#[]⟩ 1 else x else x
def fitR (L : Nat) (n : Int) (x : Lf) : Lf :=
  if L = 4 then bif (bif cm .lss n (-2147483648) then true else bif cm .geq n 2147483648 then true else false) then retE ⟨#[]⟩ 10 else x
  else if L = 1 then bif (bif cm .lss n (-128) then true else cm .gtr n 127) then retE ⟨#[]⟩ 10 else x
  else x
def strR (op w rd rs n : Int) : ByteArray :=
  let c := nth codes .empty (op - 1).toNat
  let t := strOf (batR n) (longX (shX op) (imX op))
  let l := chr c (c.size - 1)
  if shX op = 0 then (bif nth turns false (op - 1).toNat then S [rexI w rd rs] ++ c ++ S [modR 192 rd rs] else S [rexI w rs rd] ++ c ++ S [modR 192 rs rd])
  else if shX op = 1 then S [rexI w 0 rd] ++ c ++ S [modR 192 (nth mids 0 (op - 1).toNat) rd] ++ t
  else if shX op = 2 then (bif nth aheads false (op - 1).toNat then S [102] ++ (S [rexI w rd rs] ++ c ++ S [modR 128 rd rs] ++ t) else S [rexI w rd rs] ++ c ++ S [modR 128 rd rs] ++ t)
  else if shX op = 3 ∨ shX op = 4 then S [rexI w 0 rd] ++ S [ar .add .u8 l (conv .u8 (ar .rem .i64 rd 8))] ++ t
  else if shX op = 7 then S [rexI w 0 rd] ++ S [15] ++ S [conv .u8 (ar .add .i64 144 n)] ++ S [modR 192 0 rd]
  else if shX op = 10 ∨ shX op = 11 then c.extract 0 (c.size - 1) ++ S [ar .add .u8 l (conv .u8 rd)] ++ t
  else c ++ t
def endR (op w rd rs n : Int) : Lf := if shX op = 6 then bif cm .eql w 8 then retE ⟨#[72, 153]⟩ 0 else retE ⟨#[64, 153]⟩ 0 else retE (strR op w rd rs n) 0
def tU (op w rd rs n : Int) : Lf :=
  bif w48T w (wnR (wX op) w (aR (shX op) (imX op) rd rs n)) then retE ⟨#[]⟩ 1 else c2T (shX op) rd rs n (fitR (longX (shX op) (imX op)) n (endR op w rd rs n))

theorem regR_eq (x : Int) : regR x = regX x := by
  simp only [regR, regX, cm_geq', cm_leq', bif_and]
  by_cases h : x ≤ 15
  · rw [decide_eq_true h, decide_eq_true (show x < 16 by omega)]
  · rw [decide_eq_false h, decide_eq_false (show ¬ x < 16 by omega)]
theorem namR {sh : Int} (h0 : 0 ≤ sh) (h1 : sh ≤ 11) (im : Bool) (rd rs n : Int) : (aR sh im rd rs n || c2B sh rd rs n) = !namedX sh im rd rs n := by
  have hsh : sh = 0 ∨ sh = 1 ∨ sh = 2 ∨ sh = 3 ∨ sh = 4 ∨ sh = 5 ∨ sh = 6 ∨ sh = 7 ∨ sh = 8 ∨ sh = 9 ∨ sh = 10 ∨ sh = 11 := by omega
  simp only [aR, c2B, namedX, regR_eq, condT_eq, cm_neq', cm_eql']
  by_cases h2 : sh = 2
  · subst h2
    by_cases hr : 0 ≤ rs
    · rw [rem8 hr]
      cases regX rd <;> cases regX rs <;> cases h : decide (rs % 8 = 4) <;> simp [h]
    · have hf : regX rs = false := by simp [regX]; omega
      cases regX rd <;> simp [hf]
  rcases hsh with rfl | rfl | rfl | rfl | rfl | rfl | rfl | rfl | rfl | rfl | rfl | rfl
  all_goals first | exact absurd rfl h2 | skip
  all_goals
    rw [Bool.eq_iff_iff]
    cases im <;> simp [regX, condX] <;> omega
theorem wnR_eq (v w : Int) (r : Bool) : wnR v w r = wnT v w r := by
  have : decide (v = w) = decide (w = v) := by
    by_cases h : v = w
    · rw [decide_eq_true h, decide_eq_true h.symm]
    · rw [decide_eq_false h, decide_eq_false fun e => h e.symm]
  simp only [wnR, wnT, cm_neq', this]
theorem c2T_eq (sh rd rs n : Int) (x : Lf) : c2T sh rd rs n x = bif c2B sh rd rs n then retE ⟨#[]⟩ 1 else x := by
  unfold c2T
  split
  · rfl
  · rename_i h
    unfold c2B
    rw [if_neg (by omega), if_neg (by omega), if_neg (by omega)]
    rfl
theorem fitR_eq (L : Nat) (n : Int) (x : Lf) : fitR L n x = bif fitsX L n then x else retE ⟨#[]⟩ 10 := by
  unfold fitR fitsX
  split
  · simp only [cm_lss', cm_geq']
    by_cases a : n < -2147483648
    · rw [decide_eq_true a, decide_eq_false (show ¬ -2147483648 ≤ n by omega)]; rfl
    · rw [decide_eq_false a, decide_eq_true (show -2147483648 ≤ n by omega)]
      by_cases b : 2147483648 ≤ n
      · rw [decide_eq_true b, decide_eq_false (show ¬ n ≤ 2147483647 by omega)]; rfl
      · rw [decide_eq_false b, decide_eq_true (show n ≤ 2147483647 by omega)]; rfl
  split
  · simp only [cm_lss', cm_gtr']
    by_cases a : n < -128
    · rw [decide_eq_true a, decide_eq_false (show ¬ -128 ≤ n by omega)]; rfl
    · rw [decide_eq_false a, decide_eq_true (show -128 ≤ n by omega)]
      by_cases b : 127 < n
      · rw [decide_eq_true b, decide_eq_false (show ¬ n ≤ 127 by omega)]; rfl
      · rw [decide_eq_false b, decide_eq_true (show n ≤ 127 by omega)]; rfl
  rfl

theorem tailR_eq (n : Int) {T : Nat} (h : T = 0 ∨ T = 1 ∨ T = 4 ∨ T = 8) : strOf (batR n) T = S (tailL n T) := by
  rw [strOf_S, tailL]
  congr 1
  apply List.map_congr_left
  intro i hi
  exact batR_eq n (by have := List.mem_range.1 hi; omega)
theorem code_S_chk : ((List.range 46).all fun i => decide (nth codes .empty i = S (codeL (Int.ofNat (i + 1))))) = true := by kernel_rfl
theorem code_S {k : Int} (h1 : 1 ≤ k) (h2 : k ≤ 46) : nth codes .empty (k - 1).toNat = S (codeL k) := by
  have := of_decide_eq_true (List.all_eq_true.1 code_S_chk (k - 1).toNat (List.mem_range.2 (by omega)))
  rwa [show Int.ofNat ((k - 1).toNat + 1) = k by simp only [Int.ofNat_eq_natCast]; omega] at this

theorem strR_eq {op w rd rs n : Int} (h : errX op w rd rs n = 0) (h6 : shX op ≠ 6) : strR op w rd rs n = S (encL op w rd rs n) := by
  obtain ⟨h1, h2⟩ := err_op h
  obtain ⟨hw, _, hn, _⟩ := err_ok h
  obtain ⟨⟨s0, s1⟩, ⟨m0, m1⟩, t34, t7, t10, t11, _⟩ := tabs h1 h2
  have hc := code_S h1 h2
  unfold strR encL
  rw [hc, tailR_eq n (long_is _ _)]
  unfold namedX at hn
  by_cases k0 : shX op = 0
  · simp only [if_pos k0, Bool.and_eq_true] at hn ⊢
    have hd := reg_small hn.1
    have hs := reg_small hn.2.1
    have hT : tailL n (longX (shX op) (imX op)) = [] ∨ longX (shX op) (imX op) ≠ 0 := by
      by_cases ht : longX (shX op) (imX op) = 0
      · rw [ht]; exact .inl rfl
      · exact .inr ht
    have hT : tailL n (longX (shX op) (imX op)) = [] := hT.resolve_right (by
      have : (!decide (shX op = 0) || decide (longX (shX op) (imX op) = 0)) = true := each46 (p := fun op => !decide (shX op = 0) || decide (longX (shX op) (imX op) = 0)) (by kernel_rfl) h1 h2
      rw [k0] at this ⊢
      simpa using this)
    rw [modR_eq (.inl rfl) hd hs, modR_eq (.inl rfl) hs hd, hT]
    cases nth turns false (op - 1).toNat <;> simp only [cond_true, cond_false, S_append, List.cons_append, List.nil_append, List.append_assoc]
  by_cases k1 : shX op = 1
  · simp only [if_neg k0, if_pos k1, Bool.and_eq_true] at hn ⊢
    have hd := reg_small hn.1
    have hm : small (nth mids 0 (op - 1).toNat) := ⟨m0, by omega⟩
    rw [modR_eq (.inl rfl) hm hd]
    simp only [S_append, List.cons_append, List.nil_append, List.append_assoc]
  by_cases k2 : shX op = 2
  · simp only [if_neg k0, if_neg k1, if_pos k2, Bool.and_eq_true] at hn ⊢
    have hd := reg_small hn.1
    have hs := reg_small hn.2.1
    rw [modR_eq (.inr rfl) hd hs]
    cases nth aheads false (op - 1).toNat <;> simp only [cond_true, cond_false, S_append, List.cons_append, List.nil_append, List.append_assoc]
  by_cases k34 : shX op = 3 ∨ shX op = 4
  · obtain ⟨c, hm, e⟩ := t34 k34
    have hd : small rd := by
      rcases k34 with k | k <;> simp [k] at hn <;> exact reg_small hn.1
    simp only [if_neg k0, if_neg k1, if_neg k2, if_pos k34, e, lastL]
    have hl : chr (S [c]) ((S [c]).size - 1) = c := by
      simp only [List.mem_cons, List.not_mem_nil, or_false] at hm
      rcases hm with rfl | rfl | rfl <;> kernel_rfl
    rw [hl, addReg8 hm hd]
    simp only [S_append, List.cons_append, List.nil_append, List.append_assoc]
  have k3 : shX op ≠ 3 := fun k => k34 (.inl k)
  have k4 : shX op ≠ 4 := fun k => k34 (.inr k)
  by_cases k7 : shX op = 7
  · simp only [if_neg k0, if_neg k1, if_neg k2, if_neg k34, if_neg k3, if_neg k4, if_neg h6, if_pos k7, Bool.and_eq_true, t7 k7, lastL] at hn ⊢
    have hd := reg_small hn.1
    have hT : tailL n (longX (shX op) (imX op)) = [] := by
      have : (!decide (shX op = 7) || decide (longX (shX op) (imX op) = 0)) = true := each46 (p := fun op => !decide (shX op = 7) || decide (longX (shX op) (imX op) = 0)) (by kernel_rfl) h1 h2
      rw [decide_eq_true k7] at this
      rw [of_decide_eq_true (by simpa using this : decide (longX (shX op) (imX op) = 0) = true)]
      rfl
    rw [modR_eq (.inl rfl) small0 hd, add144 (cond_small hn.2.2)]
    simp only [S_append, List.cons_append, List.nil_append, List.append_assoc, hT]
  by_cases kc : shX op = 10 ∨ shX op = 11
  · have k8 : ¬ (shX op = 8 ∨ shX op = 9) := by omega
    simp only [if_neg k0, if_neg k1, if_neg k2, if_neg k34, if_neg k3, if_neg k4, if_neg h6, if_neg k7, if_neg k8, if_pos kc, Bool.and_eq_true] at hn ⊢
    have hd := cond_small hn.1
    rcases kc with k | k
    · have e1 : chr (S [15, 128]) ((S [15, 128]).size - 1) = 128 := by kernel_rfl
      have e2 : (S [15, 128]).extract 0 ((S [15, 128]).size - 1) = S [15] := by kernel_rfl
      rw [t10 k, e1, e2]; simp only [lastL]; rw [addCond (by decide) hd]
      simp only [S_append, List.cons_append, List.nil_append, List.append_assoc]
    · have e1 : chr (S [112]) ((S [112]).size - 1) = 112 := by kernel_rfl
      have e2 : (S [112]).extract 0 ((S [112]).size - 1) = S [] := by kernel_rfl
      rw [t11 k, e1, e2]; simp only [lastL]; rw [addCond (by decide) hd]
      simp only [S_append, List.cons_append, List.nil_append, List.append_assoc]
  · simp only [if_neg k0, if_neg k1, if_neg k2, if_neg k34, if_neg h6, if_neg k7, if_neg kc, S_append]

theorem tU_gives {op w rd rs n : Int} (h1 : 1 ≤ op) (h2 : op ≤ 46) : (tU op w rd rs n).gives (.tup [.str (strX op w rd rs n), .int false .i64 (errX op w rd rs n)]) := by
  have hE := err_eq h1 h2 w rd rs n
  obtain ⟨⟨s0, s1⟩, _⟩ := tabs h1 h2
  have hN := namR s0 s1 (imX op) rd rs n
  have h7 : shX op = 7 → fitsX (longX (shX op) (imX op)) n = true := by
    have : (!decide (shX op = 7) || decide (longX (shX op) (imX op) = 0)) = true := each46 (p := fun op => !decide (shX op = 7) || decide (longX (shX op) (imX op) = 0)) (by kernel_rfl) h1 h2
    simp only [Bool.or_eq_true, Bool.not_eq_true', decide_eq_false_iff_not, decide_eq_true_eq] at this
    intro h
    rw [this.resolve_left (fun g => g h)]
    rfl
  unfold tU
  have e1 : aR (shX op) (imX op) rd rs n = !!aR (shX op) (imX op) rd rs n := (Bool.not_not _).symm
  rw [wnR_eq, e1, w48_eq, c2T_eq, fitR_eq]
  generalize hw48 : (decide (w = 4) || decide (w = 8)) = W at hE ⊢
  generalize (decide (wX op = 0) || decide (w = wX op)) = V at hE ⊢
  generalize namedX (shX op) (imX op) rd rs n = N at hE hN
  generalize aR (shX op) (imX op) rd rs n = A at hN ⊢
  generalize c2B (shX op) rd rs n = C at hN ⊢
  have bad : errX op w rd rs n = 1 → (retE ⟨#[]⟩ 1).gives (.tup [.str (strX op w rd rs n), .int false .i64 (errX op w rd rs n)]) := fun he => givesE (strX_bad he (by decide)) he.symm
  cases hWVN : (W && (V && N)) with
  | false =>
    rw [hWVN] at hE
    have := bad hE
    revert hWVN hN
    cases W <;> cases V <;> cases A <;> cases C <;> cases N <;> simp <;> exact this
  | true =>
    simp only [Bool.and_eq_true] at hWVN
    obtain ⟨rfl, rfl, rfl⟩ := hWVN
    simp only [Bool.not_true, Bool.or_eq_false_iff] at hN
    obtain ⟨rfl, rfl⟩ := hN
    simp only [Bool.not_false, Bool.and_self, Bool.not_true, cond_false]
    cases hF : fitsX (longX (shX op) (imX op)) n with
    | false =>
      have : ¬ shX op = 7 := fun k => by rw [h7 k] at hF; cases hF
      have he : errX op w rd rs n = 10 := by rw [hE, hF, decide_eq_false this]; rfl
      exact givesE (strX_bad he (by decide)) he.symm
    | true =>
      have he : errX op w rd rs n = 0 := by rw [hE, hF]; rfl
      unfold endR
      split
      · rename_i k6
        have hw : w = 4 ∨ w = 8 := by simpa using hw48
        have hk : op = 18 := by
          have : (!decide (shX op = 6) || decide (op = 18)) = true := each46 (p := fun op => !decide (shX op = 6) || decide (op = 18)) (by kernel_rfl) h1 h2
          rw [decide_eq_true k6] at this
          simpa using this
        subst hk
        rcases hw with rfl | rfl
        · exact givesE (by rw [strX_ok he]; kernel_rfl) he.symm
        · exact givesE (by rw [strX_ok he]; kernel_rfl) he.symm
      · rename_i k6
        exact givesE (by rw [strX_ok he, strR_eq he k6]) he.symm

noncomputable def E8s : Env := inlA Tryz.prog (envOf [(57, specOf g23), (58, specOf g24), (53, specOf g19)] noLoop) [52, 54, 55, 56, 59, 71] [] 3
noncomputable abbrev T8 (k w rd rs n : Int) : Tr := evalF E8s Tryz.prog 26 [.agg [.int false .i64 k, .int false .i64 w, .int false .i64 rd, .int false .i64 rs, .int false .i64 n]] [] 1024
theorem named8s : named Tryz.prog [52, 54, 55, 56, 59, 71] = true := by kernel_rfl
theorem e8s_calls : CallsOk E8s Tryz.prog := (inlA_calls ((SpecsOk.cons spec23 (SpecsOk.cons spec24 (SpecsOk.cons spec19 SpecsOk.nil))).calls noLoop) mixed named8s namedNil 3).1
theorem e8s_loop : E8s.loop = noLoop := rfl
def ref8P (k : Int) : Prop := ∀ (w rd rs n : Int), (T8 k w rd rs n).bare = tU k w rd rs n
theorem fn8 : Tryz.prog.funcs[26]? = some Tryz.f26 := by kernel_rfl
theorem b8 : Tryz.f26.body = some (bodyOf Tryz.f26) := by kernel_rfl
theorem n8 : (Tryz.f26.name == "runtime.NumGoroutine") = false := by kernel_rfl

abbrev kR (op : Int) : Int := nth kindR 0 (op - 1).toNat
abbrev bR (op : Int) : ByteArray := nth bytesR .empty (op - 1).toNat
abbrev iR (op : Int) : Int := nth immR 0 (op - 1).toNat
abbrev vR (op : Int) : Int := nth wR 0 (op - 1).toNat
abbrev mR (op : Int) : Int := nth midR 0 (op - 1).toNat
abbrev pR (op : Int) : Bool := nth preR false (op - 1).toNat
abbrev lR (op : Int) : Int := ar .sub .i64 ((bR op).size : Int) 1
abbrev mxR : Nat := 9223372036854775807
def S1 (x : Int) : ByteArray := strOf (nth [x] 0) 1
def tR (n op : Int) : ByteArray := strOf (batR n) (iR op).toNat
def dR (op : Int) : Bool := bif cm .eql (kR op) 114 then true else bif cm .eql (kR op) 113 then true else bif cm .eql (kR op) 109 then true else bif cm .eql (kR op) 110 then true else bif cm .eql (kR op) 98 then true else bif cm .eql (kR op) 115 then true else bif cm .eql (kR op) 99 then true else false
def sR (op : Int) : Bool := bif cm .eql (kR op) 114 then true else bif cm .eql (kR op) 113 then true else bif cm .eql (kR op) 109 then true else bif cm .eql (kR op) 110 then false else bif cm .eql (kR op) 98 then false else bif cm .eql (kR op) 115 then false else bif cm .eql (kR op) 99 then false else false
def nR (op : Int) : Bool := bif cm .eql (kR op) 114 then false else bif cm .eql (kR op) 113 then false else bif cm .eql (kR op) 109 then true else bif cm .eql (kR op) 110 then cm .gtr (iR op) 0 else bif cm .eql (kR op) 98 then cm .gtr (iR op) 0 else bif cm .eql (kR op) 115 then true else bif cm .eql (kR op) 99 then true else cm .gtr (iR op) 0
def yR (op n : Int) : Bool := bif !nR op then cm .neq n 0 else false
def xR (op rs n : Int) : Bool := bif !sR op then bif cm .neq rs 0 then true else yR op n else yR op n
def zR (op rd rs n : Int) : Bool := bif !bif cm .geq rd 0 then cm .leq rd 15 else false then true else bif !bif cm .geq rs 0 then cm .leq rs 15 else false then true else bif !dR op then bif cm .neq rd 0 then true else xR op rs n else xR op rs n

theorem t8 (op : Int) (w : Int) (rd : Int) (rs : Int) (n : Int) : (T8 op w rd rs n).bare =
    (bif (!bif cm .geq op 1 then cm .leq op 46 else false) then
 retE ⟨#[]⟩ 1
 else
 bif (decide (1 ≤ op)) then
 bif (decide (op ≤ 46)) then
 bif (bif cm .neq w 4 then bif cm .neq w 8 then true else bif cm .neq (vR op) 0 then bif cm .neq (vR op) w then true else zR op rd rs n else zR op rd rs n else bif cm .neq (vR op) 0 then bif cm .neq (vR op) w then true else zR op rd rs n else zR op rd rs n) then
 retE ⟨#[]⟩ 1
 else
 bif (bif cm .eql (kR op) 109 then allB [8 != 0] else allB []) then
 bif (bif cm .eql (kR op) 109 then bif cm .eql (ar .rem .i64 rs 8) 4 then true else bif cm .eql (kR op) 99 then bif !bif cm .geq rd 2 then bif cm .leq rd 7 then true else bif cm .geq rd 12 then cm .leq rd 15 else false else bif cm .geq rd 12 then cm .leq rd 15 else false then true else bif cm .eql (kR op) 115 then !bif cm .geq n 2 then bif cm .leq n 7 then true else bif cm .geq n 12 then cm .leq n 15 else false else bif cm .geq n 12 then cm .leq n 15 else false else false else bif cm .eql (kR op) 115 then !bif cm .geq n 2 then bif cm .leq n 7 then true else bif cm .geq n 12 then cm .leq n 15 else false else bif cm .geq n 12 then cm .leq n 15 else false else false else bif cm .eql (kR op) 99 then bif !bif cm .geq rd 2 then bif cm .leq rd 7 then true else bif cm .geq rd 12 then cm .leq rd 15 else false else bif cm .geq rd 12 then cm .leq rd 15 else false then true else bif cm .eql (kR op) 115 then !bif cm .geq n 2 then bif cm .leq n 7 then true else bif cm .geq n 12 then cm .leq n 15 else false else bif cm .geq n 12 then cm .leq n 15 else false else false else bif cm .eql (kR op) 115 then !bif cm .geq n 2 then bif cm .leq n 7 then true else bif cm .geq n 12 then cm .leq n 15 else false else bif cm .geq n 12 then cm .leq n 15 else false else false) then
 retE ⟨#[]⟩ 1
 else
 bif (bif cm .eql (iR op) 4 then bif cm .lss n (-2147483648) then true else bif cm .geq n 2147483648 then true else bif cm .eql (iR op) 1 then bif cm .lss n (-128) then true else cm .gtr n 127 else false else bif cm .eql (iR op) 1 then bif cm .lss n (-128) then true else cm .gtr n 127 else false) then
 retE ⟨#[]⟩ 10
 else
 bif (decide (0 ≤ iR op)) then
 bif (decide (iR op ≤ 8)) then
 bif (cm .eql (kR op) 114) then
 bif (Nat.ble ((S1 (rexI w rs rd)).size + (bR op).size) mxR) then
 bif (Nat.ble ((S1 (rexI w rs rd) ++ bR op).size + (S1 (modR 192 rs rd)).size) mxR) then
 retE (S1 (rexI w rs rd) ++ bR op ++ S1 (modR 192 rs rd)) 0
 else .bad
 else .bad
 else
 bif (cm .eql (kR op) 113) then
 bif (Nat.ble ((S1 (rexI w rd rs)).size + (bR op).size) mxR) then
 bif (Nat.ble ((S1 (rexI w rd rs) ++ bR op).size + (S1 (modR 192 rd rs)).size) mxR) then
 retE (S1 (rexI w rd rs) ++ bR op ++ S1 (modR 192 rd rs)) 0
 else .bad
 else .bad
 else
 bif (cm .eql (kR op) 110) then
 bif (Nat.ble ((S1 (rexI w 0 rd)).size + (bR op).size) mxR) then
 bif (Nat.ble ((S1 (rexI w 0 rd) ++ bR op).size + (S1 (modR 192 (mR op) rd)).size) mxR) then
 bif (Nat.ble ((S1 (rexI w 0 rd) ++ bR op ++ S1 (modR 192 (mR op) rd)).size + (tR n op).size) mxR) then
 retE (S1 (rexI w 0 rd) ++ bR op ++ S1 (modR 192 (mR op) rd) ++ tR n op) 0
 else .bad
 else .bad
 else .bad
 else
 bif (cm .eql (kR op) 115) then
 retE (S1 (rexI w 0 rd) ++ (ByteArray.mk #[15]) ++ strOf (nth [conv .u8 (ar .add .i64 144 n)] 0) 1 ++ S1 (modR 192 0 rd)) 0
 else
 bif (cm .eql (kR op) 109) then
 bif (Nat.ble ((S1 (rexI w rd rs)).size + (bR op).size) mxR) then
 bif (Nat.ble ((S1 (rexI w rd rs) ++ bR op).size + (S1 (modR 128 rd rs)).size) mxR) then
 bif (Nat.ble ((S1 (rexI w rd rs) ++ bR op ++ S1 (modR 128 rd rs)).size + (tR n op).size) mxR) then
 bif (pR op) then
 bif (Nat.ble ((ByteArray.mk #[102]).size + (S1 (rexI w rd rs) ++ bR op ++ S1 (modR 128 rd rs) ++ tR n op).size) mxR) then
 retE ((ByteArray.mk #[102]) ++ (S1 (rexI w rd rs) ++ bR op ++ S1 (modR 128 rd rs) ++ tR n op)) 0
 else .bad
 else
 retE (S1 (rexI w rd rs) ++ bR op ++ S1 (modR 128 rd rs) ++ tR n op) 0
 else .bad
 else .bad
 else .bad
 else
 bif (cm .eql (kR op) 98) then
 bif (Nat.blt (0) ((bR op).size)) then
 bif (Nat.ble ((S1 (rexI w 0 rd) ++ strOf (nth [ar .add .u8 (chr (bR op) (Int.toNat 0)) (conv .u8 (ar .rem .i64 rd 8))] 0) 1).size + (tR n op).size) mxR) then
 retE (S1 (rexI w 0 rd) ++ strOf (nth [ar .add .u8 (chr (bR op) (Int.toNat 0)) (conv .u8 (ar .rem .i64 rd 8))] 0) 1 ++ tR n op) 0
 else .bad
 else .bad
 else
 bif (cm .eql (kR op) 120) then
 bif (cm .eql w 8) then
 retE ⟨#[72, 153]⟩ 0
 else
 retE ⟨#[64, 153]⟩ 0
 else
 bif (cm .eql (kR op) 99) then
 bif (decide (0 ≤ lR op)) then
 bif (Nat.ble ((lR op).toNat) ((bR op).size)) then
 bif (decide (0 ≤ lR op)) then
 bif (Nat.blt ((lR op).toNat) ((bR op).size)) then
 bif (Nat.ble (((bR op).extract 0 (lR op).toNat).size + (strOf (nth [ar .add .u8 (chr (bR op) (lR op).toNat) (conv .u8 rd)] 0) 1).size) mxR) then
 bif (Nat.ble (((bR op).extract 0 (lR op).toNat ++ strOf (nth [ar .add .u8 (chr (bR op) (lR op).toNat) (conv .u8 rd)] 0) 1).size + (tR n op).size) mxR) then
 retE ((bR op).extract 0 (lR op).toNat ++ strOf (nth [ar .add .u8 (chr (bR op) (lR op).toNat) (conv .u8 rd)] 0) 1 ++ tR n op) 0
 else .bad
 else .bad
 else .bad
 else .bad
 else .bad
 else .bad
 else
 bif (Nat.ble ((bR op).size + (tR n op).size) mxR) then
 retE (bR op ++ tR n op) 0
 else .bad
 else .bad
 else .bad
 else .bad
 else .bad
 else .bad) := by kernel_rfl

end Go.X
end

section
set_option linter.unusedVariables false
open Go Go.Ev Go.Proofs
namespace Go.X

theorem u8_0 (i : Nat) (h1 : 0 ≤ i) (h2 : i < 12) : ref8P (Int.ofNat (i + 1)) := by
  have : i = 0 ∨ i = 1 ∨ i = 2 ∨ i = 3 ∨ i = 4 ∨ i = 5 ∨ i = 6 ∨ i = 7 ∨ i = 8 ∨ i = 9 ∨ i = 10 ∨ i = 11 := by omega
  rcases this with rfl | rfl | rfl | rfl | rfl | rfl | rfl | rfl | rfl | rfl | rfl | rfl <;> (exact fun w rd rs n => (t8 _ w rd rs n).trans (by kernel_rfl))
theorem u8_1 (i : Nat) (h1 : 12 ≤ i) (h2 : i < 24) : ref8P (Int.ofNat (i + 1)) := by
  have : i = 12 ∨ i = 13 ∨ i = 14 ∨ i = 15 ∨ i = 16 ∨ i = 17 ∨ i = 18 ∨ i = 19 ∨ i = 20 ∨ i = 21 ∨ i = 22 ∨ i = 23 := by omega
  rcases this with rfl | rfl | rfl | rfl | rfl | rfl | rfl | rfl | rfl | rfl | rfl | rfl <;> (exact fun w rd rs n => (t8 _ w rd rs n).trans (by kernel_rfl))
theorem u8_2 (i : Nat) (h1 : 24 ≤ i) (h2 : i < 36) : ref8P (Int.ofNat (i + 1)) := by
  have : i = 24 ∨ i = 25 ∨ i = 26 ∨ i = 27 ∨ i = 28 ∨ i = 29 ∨ i = 30 ∨ i = 31 ∨ i = 32 ∨ i = 33 ∨ i = 34 ∨ i = 35 := by omega
  rcases this with rfl | rfl | rfl | rfl | rfl | rfl | rfl | rfl | rfl | rfl | rfl | rfl <;> (exact fun w rd rs n => (t8 _ w rd rs n).trans (by kernel_rfl))
theorem u8_3 (i : Nat) (h1 : 36 ≤ i) (h2 : i < 46) : ref8P (Int.ofNat (i + 1)) := by
  have : i = 36 ∨ i = 37 ∨ i = 38 ∨ i = 39 ∨ i = 40 ∨ i = 41 ∨ i = 42 ∨ i = 43 ∨ i = 44 ∨ i = 45 := by omega
  rcases this with rfl | rfl | rfl | rfl | rfl | rfl | rfl | rfl | rfl | rfl <;> (exact fun w rd rs n => (t8 _ w rd rs n).trans (by kernel_rfl))
theorem u8_all {k : Int} (h1 : 1 ≤ k) (h2 : k ≤ 46) : ref8P k := ops46 (fun i hi => by
  by_cases a : i < 12
  · exact u8_0 i (by omega) a
  by_cases b : i < 24
  · exact u8_1 i (by omega) b
  by_cases c : i < 36
  · exact u8_2 i (by omega) c
  · exact u8_3 i (by omega) hi) h1 h2

attribute [local irreducible] evalF Lf.gives in
theorem ref8_0 (op w rd rs n : Int) (h : op < 1 ∨ 46 < op) : (evalF E8s Tryz.prog 26 [.agg [.int false .i64 op, .int false .i64 w, .int false .i64 rd, .int false .i64 rs, .int false .i64 n]] [] 1024).leaf.gives (.tup [.str (strX op w rd rs n), .int false .i64 (errX op w rd rs n)]) := by
  have he := err_bad h w rd rs n
  refine gives_tree (t8 op w rd rs n) ?_
  refine gives_cond (fun h1 => ?_) (fun h1 => ?_)
  · exact givesE (strX_bad he (by decide)) he.symm
  · exfalso
    simp [cm_geq', cm_leq'] at h1
    first | omega | ((repeat' split at h1) <;> omega)

attribute [local irreducible] evalF Lf.gives strX errX in
theorem spec8 : SpecOk Tryz.prog 26 (specOf g7) := spec_okA false e8s_calls mixed fn8 b8 n8 (loops_noLoop e8s_loop _ _) g7 fun a0 H0 r hg hn => by
  unfold g7 at hg
  split at hg
  · rename_i op w rd rs n
    simp only [Option.some.injEq] at hg
    subst hg
    by_cases h : op < 1 ∨ 46 < op
    · exact ⟨_, id, fun _ => rfl, gives_giv (ref8_0 op w rd rs n h)⟩
    · exact ⟨_, id, fun _ => rfl, gives_giv (gives_tree (u8_all (by omega) (by omega) w rd rs n) (tU_gives (by omega) (by omega)))⟩
  · cases hg

end Go.X
end

section
set_option linter.unusedVariables false
open Go Go.Ev Go.Proofs
namespace Go.X

noncomputable def E41 : Env := inlA Tryz.prog (envOf [] noLoop) [85, 112] [] 3
theorem named27 : named Tryz.prog [85, 112] = true := by kernel_rfl
theorem e41_calls : CallsOk E41 Tryz.prog := (inlA_calls (SpecsOk.nil.calls noLoop) mixed named27 namedNil 3).1
theorem e41_loop : E41.loop = noLoop := rfl
theorem fn41 : Tryz.prog.funcs[106]? = some Tryz.f106 := by kernel_rfl
theorem b41 : Tryz.f106.body = some (bodyOf Tryz.f106) := by kernel_rfl
theorem n41 : (Tryz.f106.name == "runtime.NumGoroutine") = false := by kernel_rfl

theorem t41 (sh m w : Int) (c s : ByteArray) (tu im : Bool) : (evalF E41 Tryz.prog 106 [.agg [.int false .i64 sh, .str c, .int false .i64 m, .bool false tu, .int false .i64 w, .bool false im, .bool true false], .str s] [] 1024).bare =
    (bif (cm .eql sh 8) then
      .ret (.tup [.int true .u8 0, .int true .i64 0, .bool true true]) []
    else
      bif (cm .eql sh 9) then
        .ret (.tup [.int true .u8 0, .int true .i64 0, .bool true true]) []
      else
        bif (cm .eql sh 10) then
          .ret (.tup [.int true .u8 0, .int true .i64 0, .bool true true]) []
        else
          bif (cm .eql sh 11) then
            .ret (.tup [.int true .u8 0, .int true .i64 0, .bool true true]) []
          else
            bif (cm .eql sh 5) then
              .ret (.tup [.int true .u8 0, .int true .i64 0, .bool true true]) []
            else
              bif (bif cm .geq 0 ↑s.size then allB [] else allB [decide ((0 : Int) ≤ 0), Nat.blt (Int.toNat 0) s.size]) then
                bif (bif cm .geq 0 ↑s.size then true else cm .neq (ar .and .u8 (chr s (Int.toNat 0)) 240) 64) then
                  .ret (.tup [.int true .u8 0, .int true .i64 0, .bool true false]) []
                else
                  bif (Nat.blt (0) (s.size)) then
                    .ret (.tup [.int false .u8 (chr s (Int.toNat 0)), .int true .i64 1, .bool true true]) []
                  else .bad
              else .bad) := by kernel_rfl

theorem t41a (sh m w : Int) (c s : ByteArray) (tu im : Bool) : (evalF E41 Tryz.prog 106 [.agg [.int false .i64 sh, .str c, .int false .i64 m, .bool false tu, .int false .i64 w, .bool false im, .bool true true], .str s] [] 1024).bare =
    (bif (cm .eql sh 8) then
      .ret (.tup [.int true .u8 0, .int true .i64 0, .bool true true]) []
    else
      bif (cm .eql sh 9) then
        .ret (.tup [.int true .u8 0, .int true .i64 0, .bool true true]) []
      else
        bif (cm .eql sh 10) then
          .ret (.tup [.int true .u8 0, .int true .i64 0, .bool true true]) []
        else
          bif (cm .eql sh 11) then
            .ret (.tup [.int true .u8 0, .int true .i64 0, .bool true true]) []
          else
            bif (cm .eql sh 5) then
              .ret (.tup [.int true .u8 0, .int true .i64 0, .bool true true]) []
            else
              bif (bif cm .geq ↑s.size ((1 : Nat) : Int) then allB [decide ((0 : Int) ≤ ((1 : Nat) : Int)), Nat.ble (((1 : Nat) : Int)).toNat s.size] else allB []) then
                bif (!bif cm .geq ↑s.size ((1 : Nat) : Int) then seq (s.extract 0 (((1 : Nat) : Int)).toNat) ⟨#[102]⟩ else false) then
                  .ret (.tup [.int true .u8 0, .int true .i64 0, .bool true false]) []
                else
                  bif (bif cm .geq 1 ↑s.size then allB [] else allB [decide ((0 : Int) ≤ 1), Nat.blt (Int.toNat 1) s.size]) then
                    bif (bif cm .geq 1 ↑s.size then true else cm .neq (ar .and .u8 (chr s (Int.toNat 1)) 240) 64) then
                      .ret (.tup [.int true .u8 0, .int true .i64 0, .bool true false]) []
                    else
                      bif (Nat.blt (1) (s.size)) then
                        .ret (.tup [.int false .u8 (chr s (Int.toNat 1)), .int true .i64 2, .bool true true]) []
                      else .bad
                  else .bad
              else .bad) := by kernel_rfl

def freeX (sh : Int) : Bool := decide (sh = 5) || decide (8 ≤ sh)
def rexAt (s : ByteArray) (i : Nat) : Bool := Nat.blt i s.size && decide (ar .and .u8 (chr s i) 240 = 64)
def preOk (ah : Bool) (s : ByteArray) : Bool := bif ah then (Nat.ble 1 s.size && seq (s.extract 0 1) ⟨#[102]⟩) && rexAt s 1 else rexAt s 0
def preV (p ah : Bool) (s : ByteArray) : SV := match p with
  | false => .tup [.int true .u8 0, .int true .i64 0, .bool true false]
  | true => match ah with
    | false => .tup [.int false .u8 (chr s 0), .int true .i64 1, .bool true true]
    | true => .tup [.int false .u8 (chr s 1), .int true .i64 2, .bool true true]
/-- prefix, when it finds (or does not find) what it wants -/
def g41 (p : Bool) : List SV → Heap → Option R
  | [.agg [.int _ .i64 sh, .str _, .int _ .i64 _, .bool _ _, .int _ .i64 _, .bool _ _, .bool _ ah], .str s], [] => match freeX sh with
    | true => some ⟨[decide (sh ≤ 11)], .tup [.int true .u8 0, .int true .i64 0, .bool true true], []⟩
    | false => some ⟨[preOk ah s == p, decide (0 ≤ sh)], preV p ah s, []⟩
  | _, _ => none

theorem allB_nil : allB [] = true := rfl
theorem allB_two (a b : Bool) : allB [a, b] = (a && b) := by simp [allB]

theorem bif_fst {α : Sort _} {b : Bool} {x y : α} (h : b = true) : (bif b then x else y) = x := by rw [h]; rfl

attribute [local irreducible] evalF in
theorem spec41 (p : Bool) : SpecOk Tryz.prog 106 (specC true (g41 p)) := spec_okA true e41_calls mixed fn41 b41 n41 (loops_noLoop e41_loop _ _) (g41 p) fun a0 H0 r hg hn => by
  unfold g41 at hg
  split at hg
  · rename_i _ sh c _ m _ tu _ w _ im _ ah s
    split at hg
    · rename_i hf
      simp only [Option.some.injEq] at hg
      subst hg
      have hf : sh = 5 ∨ 8 ≤ sh := by simpa [freeX] using hf
      have hn : sh ≤ 11 := by simpa [allB] using hn
      refine ⟨[.agg [.int false .i64 sh, .str c, .int false .i64 m, .bool false tu, .int false .i64 w, .bool false im, .bool true ah], .str s], fun _ => by simp [SV.alL, SV.al], fun σ => by simp only [denL, den], gives_giv ?_⟩
      have : sh = 5 ∨ sh = 8 ∨ sh = 9 ∨ sh = 10 ∨ sh = 11 := by omega
      cases ah with
      | false => exact gives_tree (t41 sh m w c s tu im) (by rcases this with rfl | rfl | rfl | rfl | rfl <;> exact fun σ σ' => rfl)
      | true => exact gives_tree (t41a sh m w c s tu im) (by rcases this with rfl | rfl | rfl | rfl | rfl <;> exact fun σ σ' => rfl)
    · rename_i hf
      simp only [Option.some.injEq] at hg
      subst hg
      have hf : sh ≠ 5 ∧ sh < 8 := by simpa [freeX] using hf
      simp only [allB, Bool.and_true, Bool.and_eq_true, beq_iff_eq, decide_eq_true_eq] at hn
      obtain ⟨rfl, h0⟩ := hn
      refine ⟨[.agg [.int false .i64 sh, .str c, .int false .i64 m, .bool false tu, .int false .i64 w, .bool false im, .bool true ah], .str s], fun _ => by simp [SV.alL, SV.al], fun σ => by simp only [denL, den], gives_giv ?_⟩
      have e5 : cm .eql sh 5 = false := by rw [cm_eql']; exact decide_eq_false (by omega)
      have e8 : cm .eql sh 8 = false := by rw [cm_eql']; exact decide_eq_false (by omega)
      have e9 : cm .eql sh 9 = false := by rw [cm_eql']; exact decide_eq_false (by omega)
      have e10 : cm .eql sh 10 = false := by rw [cm_eql']; exact decide_eq_false (by omega)
      have e11 : cm .eql sh 11 = false := by rw [cm_eql']; exact decide_eq_false (by omega)
      cases ah with
      | false =>
        refine gives_tree (t41 sh m w c s tu im) ?_
        simp only [e5, e8, e9, e10, e11, cond_false, allB_nil, preOk]
        by_cases hs : 0 < s.size
        · have h1 : cm .geq 0 (s.size : Int) = false := by rw [cm_geq']; exact decide_eq_false (by omega)
          have h2 : Nat.blt 0 s.size = true := by rw [Nat.blt_eq]; exact hs
          simp only [h1, h2, cond_false, allB_two, Int.toNat_zero, Bool.and_true, decide_true, cond_true, Int.le_refl, rexAt, Bool.true_and, cm_neq']
          cases decide (ar .and .u8 (chr s 0) 240 = 64) <;> exact fun σ σ' => rfl
        · have h1 : cm .geq 0 (s.size : Int) = true := by rw [cm_geq']; exact decide_eq_true (by omega)
          have h2 : Nat.blt 0 s.size = false := by
            cases h : Nat.blt 0 s.size with
            | false => rfl
            | true => rw [Nat.blt_eq] at h; omega
          simp only [h1, h2, cond_true, rexAt, Bool.false_and]
          exact fun σ σ' => rfl
      | true =>
        refine gives_tree (t41a sh m w c s tu im) ?_
        simp only [e5, e8, e9, e10, e11, cond_false, cond_true, allB_nil, allB_two, preOk]
        by_cases hs : 1 ≤ s.size
        · have h1 : cm .geq (s.size : Int) ((1 : Nat) : Int) = true := by rw [cm_geq']; exact decide_eq_true (by omega)
          have h2 : Nat.ble (((1 : Nat) : Int)).toNat s.size = true := by rw [Nat.ble_eq]; exact hs
          have h2' : Nat.ble 1 s.size = true := by rw [Nat.ble_eq]; exact hs
          have h3 : decide ((0 : Int) ≤ ((1 : Nat) : Int)) = true := rfl
          have h4 : (((1 : Nat) : Int)).toNat = 1 := rfl
          simp only [h1, h2, h2', h3, cond_true, Bool.and_self, h4, Bool.true_and]
          cases hq : seq (s.extract 0 1) ⟨#[102]⟩ with
          | false => exact fun σ σ' => rfl
          | true =>
            simp only [Bool.not_true, cond_false, Bool.true_and]
            by_cases hs : 1 < s.size
            · have h1 : cm .geq 1 (s.size : Int) = false := by rw [cm_geq']; exact decide_eq_false (by omega)
              have h2 : Nat.blt 1 s.size = true := by rw [Nat.blt_eq]; exact hs
              have h5 : decide ((0 : Int) ≤ 1) = true := rfl
              have h6 : Int.toNat 1 = 1 := rfl
              simp only [h1, h2, h5, h6, cond_false, allB_two, Bool.and_true, cond_true, rexAt, Bool.true_and, cm_neq']
              cases decide (ar .and .u8 (chr s 1) 240 = 64) <;> exact fun σ σ' => rfl
            · have h1 : cm .geq 1 (s.size : Int) = true := by rw [cm_geq']; exact decide_eq_true (by omega)
              have h2 : Nat.blt 1 s.size = false := by
                cases h : Nat.blt 1 s.size with
                | false => rfl
                | true => rw [Nat.blt_eq] at h; omega
              simp only [h1, h2, cond_true, rexAt, Bool.false_and]
              exact fun σ σ' => rfl
        · have h1 : cm .geq (s.size : Int) ((1 : Nat) : Int) = false := by rw [cm_geq']; exact decide_eq_false (by omega)
          have h2 : Nat.ble 1 s.size = false := by
            cases h : Nat.ble 1 s.size with
            | false => rfl
            | true => rw [Nat.ble_eq] at h; omega
          simp only [h1, h2, cond_false, cond_true, Bool.false_and, Bool.not_false]
          exact fun σ σ' => rfl
  · cases hg

noncomputable def E26 (p : Bool) : Env := inlA Tryz.prog (envOf [(108, specOf g42), (106, specC true (g41 p))] noLoop) [107] [] 2
theorem named15 : named Tryz.prog [107] = true := by kernel_rfl
theorem e26_calls (p : Bool) : CallsOk (E26 p) Tryz.prog := (inlA_calls ((SpecsOk.cons spec42 (SpecsOk.cons (spec41 p) SpecsOk.nil)).calls noLoop) mixed named15 namedNil 2).1
theorem e26_loop (p : Bool) : (E26 p).loop = noLoop := rfl

/-- nothing is found -/
abbrev zG : Lf := .ret (.tup [.agg [.int true .i64 0, .int true .i64 0, .int true .i64 0, .int true .i64 0, .int true .i64 0], .bool true false]) []

end Go.X
end

section
set_option linter.unusedVariables false
open Go Go.Ev Go.Proofs
namespace Go.X

def inI (n : Int) : Prop := -9223372036854775808 ≤ n ∧ n ≤ 9223372036854775807
def starts (s : ByteArray) (l : List Int) : Prop := l.length ≤ s.size ∧ ∀ j, j < l.length → chr s j = l.getD j 0
/-- s begins with this instruction's bytes -/
def DX (k : Int) (s : ByteArray) (w rd rs n : Int) : Prop := errX k w rd rs n = 0 ∧ inI n ∧ starts s (encL k w rd rs n)

theorem chr_range (s : ByteArray) (i : Nat) : 0 ≤ chr s i ∧ chr s i < 256 := by
  unfold chr
  have := (s.data.getD i 0).toNat_lt
  omega

theorem starts_tail {s : ByteArray} {p t : List Int} (h : starts s (p ++ t)) : starts s p ∧ p.length + t.length ≤ s.size ∧ ∀ j, j < t.length → chr s (p.length + j) = t.getD j 0 := by
  obtain ⟨h1, h2⟩ := h
  rw [List.length_append] at h1 h2
  refine ⟨⟨by omega, fun j hj => ?_⟩, h1, fun j hj => ?_⟩
  · rw [h2 j (by omega)]
    simp [List.getD, List.getElem?_append_left hj]
  · rw [h2 _ (by omega)]
    simp [List.getD, List.getElem?_append_right]

theorem tail_length (n : Int) (m : Nat) : (tailL n m).length = m := by simp [tailL]
theorem tail_get (n : Int) (m j : Nat) (h : j < m) : (tailL n m).getD j 0 = bat n j := by simp [tailL, List.getD, h]

/-! numbers of bytes -/
def valB (f : Nat → Int) : Nat → Int
  | 0 => 0
  | k + 1 => valB f k + f k * 256 ^ k

theorem or_low {a b : Nat} {i : Nat} (ha : a < 2 ^ i) (hab : a + b * 2 ^ i < 2 ^ 64) : ar .or .u64 (a : Int) ((b * 2 ^ i : Nat) : Int) = ((a + b * 2 ^ i : Nat) : Int) := by
  have h1 : (BitVec.ofInt 64 (a : Int) ||| BitVec.ofInt 64 ((b * 2 ^ i : Nat) : Int)).toNat = a + b * 2 ^ i := by
    rw [BitVec.ofInt_natCast, BitVec.ofInt_natCast, BitVec.toNat_or, BitVec.toNat_ofNat, BitVec.toNat_ofNat, Nat.mod_eq_of_lt (by omega), Nat.mod_eq_of_lt (by omega), ← Nat.shiftLeft_eq, Nat.or_comm, ← Nat.shiftLeft_add_eq_or_of_lt ha, Nat.add_comm]
  have h2 : ar .or .u64 (a : Int) ((b * 2 ^ i : Nat) : Int) = IntKind.u64.wrap (((BitVec.ofInt 64 (a : Int) ||| BitVec.ofInt 64 ((b * 2 ^ i : Nat) : Int)).toNat : Nat) : Int) := rfl
  rw [h2, h1, IntKind.wrap_u64]
  omega

theorem or_high {a b : Nat} {i : Nat} (ha : a < 2 ^ i) (hab : a + b * 2 ^ i < 2 ^ 64) : ar .or .u64 ((b * 2 ^ i : Nat) : Int) (a : Int) = ((a + b * 2 ^ i : Nat) : Int) := by
  have h1 : (BitVec.ofInt 64 ((b * 2 ^ i : Nat) : Int) ||| BitVec.ofInt 64 (a : Int)).toNat = a + b * 2 ^ i := by
    rw [BitVec.ofInt_natCast, BitVec.ofInt_natCast, BitVec.toNat_or, BitVec.toNat_ofNat, BitVec.toNat_ofNat, Nat.mod_eq_of_lt (by omega), Nat.mod_eq_of_lt (by omega), ← Nat.shiftLeft_eq, ← Nat.shiftLeft_add_eq_or_of_lt ha, Nat.add_comm]
  have h2 : ar .or .u64 ((b * 2 ^ i : Nat) : Int) (a : Int) = IntKind.u64.wrap (((BitVec.ofInt 64 ((b * 2 ^ i : Nat) : Int) ||| BitVec.ofInt 64 (a : Int)).toNat : Nat) : Int) := rfl
  rw [h2, h1, IntKind.wrap_u64]
  omega

theorem shl_u64 {a : Nat} {i : Nat} (hi : i ≤ 64) (h : a * 2 ^ i < 2 ^ 64) : ar .shl .u64 (a : Int) ((i : Nat) : Int) = ((a * 2 ^ i : Nat) : Int) := by
  have : ar .shl .u64 (a : Int) ((i : Nat) : Int) = IntKind.u64.wrap ((a : Int) * 2 ^ (min ((i : Nat) : Int).toNat 64)) := rfl
  rw [this, Int.toNat_natCast, Nat.min_eq_left hi, IntKind.wrap_u64]
  have e : (a : Int) * 2 ^ i = ((a * 2 ^ i : Nat) : Int) := by simp
  rw [e]
  omega

theorem conv_u64 {a : Int} (h : 0 ≤ a) (h2 : a < 256) : conv .u64 a = a := by
  simp only [conv, IntKind.wrap_u64]; omega

/-- a value of so many bytes -/
def natB (f : Nat → Int) : Nat → Nat
  | 0 => 0
  | k + 1 => natB f k + (f k).toNat * 2 ^ (8 * k)

theorem natB_lt {f : Nat → Int} (hf : ∀ j, 0 ≤ f j ∧ f j < 256) : ∀ k, natB f k < 2 ^ (8 * k)
  | 0 => by simp [natB]
  | k + 1 => by
    have ih := natB_lt hf k
    have h1 := hf k
    have e : 2 ^ (8 * (k + 1)) = 256 * 2 ^ (8 * k) := by rw [Nat.mul_add, Nat.pow_add]; omega
    have h2 : (f k).toNat ≤ 255 := by omega
    have h3 : (f k).toNat * 2 ^ (8 * k) ≤ 255 * 2 ^ (8 * k) := Nat.mul_le_mul_right _ h2
    simp only [natB]
    omega

theorem pow_le_64 {k : Nat} (h : k ≤ 8) : 2 ^ (8 * k) ≤ 2 ^ 64 := Nat.pow_le_pow_right (by decide) (by omega)

theorem accU_nat (s : ByteArray) : ∀ k, k ≤ 8 → accU s k = (natB (chr s) k : Int)
  | 0, _ => rfl
  | k + 1, h => by
    have ih := accU_nat s k (by omega)
    have hl := natB_lt (chr_range s) k
    have hl1 := natB_lt (chr_range s) (k + 1)
    have hp := pow_le_64 h
    obtain ⟨c0, c1⟩ := chr_range s k
    have hc : chr s k = ((chr s k).toNat : Int) := by omega
    simp only [natB] at hl1
    simp only [accU, ih, natB, mul8 (show k ≤ 1000 by omega), conv_u64 c0 c1]
    rw [hc, Int.toNat_natCast, shl_u64 (by omega) (by omega), or_low hl (by omega)]

theorem accD_nat (s : ByteArray) (hs : s.size ≤ 8) : ∀ k, k ≤ s.size → ∃ a : Nat, accD s k = (a : Int) ∧ a < 2 ^ (8 * k) ∧ natB (chr s) s.size = natB (chr s) (s.size - k) + a * 2 ^ (8 * (s.size - k))
  | 0, _ => ⟨0, rfl, by simp, by simp⟩
  | k + 1, h => by
    obtain ⟨a, h1, h2, h3⟩ := accD_nat s hs k (by omega)
    obtain ⟨c0, c1⟩ := chr_range s (s.size - 1 - k)
    have hc : chr s (s.size - 1 - k) = ((chr s (s.size - 1 - k)).toNat : Int) := by omega
    have hcl : (chr s (s.size - 1 - k)).toNat < 2 ^ 8 := by omega
    have e : 2 ^ (8 * (k + 1)) = 2 ^ (8 * k) * 256 := by rw [Nat.mul_add, Nat.pow_add]
    have hp := pow_le_64 (show k + 1 ≤ 8 by omega)
    have hlt : (chr s (s.size - 1 - k)).toNat + a * 2 ^ 8 < 2 ^ (8 * (k + 1)) := by omega
    refine ⟨(chr s (s.size - 1 - k)).toNat + a * 2 ^ 8, ?_, hlt, ?_⟩
    · simp only [accD, h1, conv_u64 c0 c1]
      have e8 : (8 : Int) = ((8 : Nat) : Int) := rfl
      rw [e8, shl_u64 (by omega) (by omega)]
      rw [hc, Int.toNat_natCast, or_high hcl (by omega)]
    · rw [h3]
      obtain ⟨m, hm⟩ : ∃ m, s.size - k = m + 1 := ⟨s.size - k - 1, by omega⟩
      have hm2 : s.size - (k + 1) = m := by omega
      have hm3 : s.size - 1 - k = m := by omega
      rw [hm, hm2, hm3]
      simp only [natB]
      have e2 : 2 ^ (8 * (m + 1)) = 2 ^ 8 * 2 ^ (8 * m) := by rw [Nat.mul_add, Nat.pow_add, Nat.mul_comm]
      rw [e2, Nat.add_mul, Nat.mul_assoc]
      omega

theorem numD_eq (s : ByteArray) (h : s.size ≤ 8) : numD s = numU s := by
  obtain ⟨a, h1, h2, h3⟩ := accD_nat s h s.size (Nat.le_refl _)
  have : accD s s.size = accU s s.size := by
    rw [h1, accU_nat s s.size h, h3]
    simp [natB]
  simp only [numD, numU, this]

theorem endN_range (u : Int) {k : Nat} (hk : k ≤ 8) : inI (endN u k) := by
  unfold endN
  generalize ar .sub .i64 64 (ar .mul .i64 8 (k : Int)) = by_
  have e : ar .shr .i64 (conv .i64 (ar .shl .u64 u by_)) by_ = (conv .i64 (ar .shl .u64 u by_)).fdiv (2 ^ min by_.toNat 64) := rfl
  rw [e]
  have hr : -9223372036854775808 ≤ conv .i64 (ar .shl .u64 u by_) ∧ conv .i64 (ar .shl .u64 u by_) ≤ 9223372036854775807 := by
    simp only [conv, IntKind.wrap_i64]; omega
  generalize conv .i64 (ar .shl .u64 u by_) = x at hr
  have hp : (0 : Int) < 2 ^ min by_.toNat 64 := Int.pow_pos (by decide)
  rw [Int.fdiv_eq_ediv_of_nonneg _ (Int.le_of_lt hp)]
  generalize (2 : Int) ^ min by_.toNat 64 = p at hp
  unfold inI
  by_cases hx : 0 ≤ x
  · have h1 := Int.ediv_nonneg hx (Int.le_of_lt hp)
    have h2 := Int.ediv_le_self p hx
    omega
  · have h1 : x / p < 0 := Int.ediv_neg_of_neg_of_pos (by omega) hp
    have h2 : x ≤ x / p := by
      rw [Int.le_ediv_iff_mul_le hp]
      have : x * p ≤ x * 1 := Int.mul_le_mul_of_nonpos_left (by omega) (by omega)
      omega
    omega

theorem numU_range (s : ByteArray) (h : s.size ≤ 8) : inI (numU s) := endN_range _ h

theorem bat_eq (n : Int) {t : Nat} (h : t < 8) : bat n t = (n / 2 ^ (8 * t)) % 256 := by
  have e : ar .mul .i64 8 (t : Int) = ((8 * t : Nat) : Int) := mul8 (by omega)
  unfold bat
  rw [e]
  have e2 : ar .shr .i64 n ((8 * t : Nat) : Int) = n.fdiv (2 ^ min (((8 * t : Nat) : Int)).toNat 64) := rfl
  rw [e2, Int.toNat_natCast, Nat.min_eq_left (by omega), Int.fdiv_eq_ediv_of_nonneg _ (Int.le_of_lt (Int.pow_pos (by decide)))]
  simp only [conv, IntKind.wrap_u8]

theorem bat_range (n : Int) (t : Nat) : 0 ≤ bat n t ∧ bat n t < 256 := by
  unfold bat
  simp only [conv, IntKind.wrap_u8]
  omega

theorem natB_congr {f g : Nat → Int} : ∀ k, (∀ j, j < k → f j = g j) → natB f k = natB g k
  | 0, _ => rfl
  | k + 1, h => by simp only [natB, natB_congr k fun j hj => h j (by omega), h k (by omega)]

theorem emod_step (n p : Int) (hp : 0 < p) : n % (p * 256) = n % p + (n / p % 256) * p := by
  have h1 := Int.mul_ediv_add_emod n p
  have h2 := Int.mul_ediv_add_emod (n / p) 256
  have h3 := Int.emod_nonneg n (Int.ne_of_gt hp)
  have h4 := Int.emod_lt_of_pos n hp
  have h5 := Int.emod_nonneg (n / p) (show (256 : Int) ≠ 0 by decide)
  have h6 := Int.emod_lt_of_pos (n / p) (show (0 : Int) < 256 by decide)
  generalize n / p = q at *
  generalize n % p = r at *
  generalize q % 256 = b at *
  generalize q / 256 = c at *
  subst h2
  subst h1
  have e : p * (256 * c + b) + r = (r + b * p) + p * 256 * c := by
    rw [Int.mul_add, ← Int.mul_assoc, Int.mul_comm p b]
    omega
  rw [e, Int.add_mul_emod_self_left]
  have hb : b * p ≤ 255 * p := Int.mul_le_mul_of_nonneg_right (by omega) (by omega)
  have hb0 : 0 ≤ b * p := Int.mul_nonneg h5 (by omega)
  exact Int.emod_eq_of_lt (by omega) (by omega)

theorem natB_bat (n : Int) : ∀ k, k ≤ 8 → (natB (bat n) k : Int) = n % 2 ^ (8 * k)
  | 0, _ => by simp [natB, Int.emod_one]
  | k + 1, h => by
    have ih := natB_bat n k (by omega)
    obtain ⟨b0, b1⟩ := bat_range n k
    have e : (2 : Int) ^ (8 * (k + 1)) = 2 ^ (8 * k) * 256 := by rw [Nat.mul_add, Int.pow_add]; rfl
    simp only [natB]
    rw [e, emod_step _ _ (Int.pow_pos (by decide)), ← bat_eq n (show k < 8 by omega), ← ih]
    have e2 : ((2 ^ (8 * k) : Nat) : Int) = 2 ^ (8 * k) := by simp
    rw [Int.natCast_add, Int.natCast_mul, e2, Int.toNat_of_nonneg b0]

/-- so many bytes of a number that fits are that number -/
theorem end_tail (n : Int) (k : Nat) (hk : k = 1 ∨ k = 4 ∨ k = 8) (hn : inI n) (hf : fitsX k n = true) : endN (natB (bat n) k) k = n := by
  obtain ⟨n0, n1⟩ := hn
  have e : ∀ (u : Nat) (b : Nat), b ≤ 64 → u * 2 ^ b < 2 ^ 64 → ar .shr .i64 (conv .i64 (ar .shl .u64 (u : Int) ((b : Nat) : Int))) ((b : Nat) : Int) = (IntKind.i64.wrap ((u * 2 ^ b : Nat) : Int)) / 2 ^ b := by
    intro u b hb hu
    rw [shl_u64 hb hu]
    have e2 : ∀ x : Int, ar .shr .i64 x ((b : Nat) : Int) = x.fdiv (2 ^ min (((b : Nat) : Int)).toNat 64) := fun _ => rfl
    rw [e2, Int.toNat_natCast, Nat.min_eq_left hb, Int.fdiv_eq_ediv_of_nonneg _ (Int.le_of_lt (Int.pow_pos (by decide)))]
    rfl
  have hl := natB_lt (bat_range n) k
  rcases hk with rfl | rfl | rfl
  · have hf : -128 ≤ n ∧ n ≤ 127 := by simpa [fitsX] using hf
    have e1 : ar .sub .i64 64 (ar .mul .i64 8 ((1 : Nat) : Int)) = ((56 : Nat) : Int) := by kernel_rfl
    unfold endN
    rw [e1, e _ _ (by omega) (by omega), IntKind.wrap_i64]
    have hv := natB_bat n 1 (by decide)
    generalize natB (bat n) 1 = v at hv hl
    omega
  · have hf : -2147483648 ≤ n ∧ n ≤ 2147483647 := by simpa [fitsX] using hf
    have e1 : ar .sub .i64 64 (ar .mul .i64 8 ((4 : Nat) : Int)) = ((32 : Nat) : Int) := by kernel_rfl
    unfold endN
    rw [e1, e _ _ (by omega) (by omega), IntKind.wrap_i64]
    have hv := natB_bat n 4 (by decide)
    generalize natB (bat n) 4 = v at hv hl
    omega
  · have e1 : ar .sub .i64 64 (ar .mul .i64 8 ((8 : Nat) : Int)) = ((0 : Nat) : Int) := by kernel_rfl
    unfold endN
    rw [e1, e _ _ (by omega) (by omega), IntKind.wrap_i64]
    have hv := natB_bat n 8 (by decide)
    generalize natB (bat n) 8 = v at hv hl
    omega

theorem chr_extract (s : ByteArray) (a b j : Nat) (hb : b ≤ s.size) (hj : j < b - a) : chr (s.extract a b) j = chr s (a + j) := by
  unfold chr
  simp [ByteArray.data_extract, Array.getD_eq_getD_getElem?, Array.getElem?_extract]
  have : s.data.size = s.size := rfl
  rw [if_pos (by omega)]

theorem num_tail {s : ByteArray} {n : Int} (a m : Nat) (hm : m = 1 ∨ m = 4 ∨ m = 8) (hs : a + m ≤ s.size) (h : ∀ j, j < m → chr s (a + j) = bat n j) (hn : inI n) (hf : fitsX m n = true) : numU (s.extract a (a + m)) = n := by
  have hsz : (s.extract a (a + m)).size = m := by simp [ByteArray.size_extract]; omega
  unfold numU
  rw [hsz, accU_nat _ _ (by omega)]
  rw [natB_congr (g := bat n) m fun j hj => by rw [chr_extract s a (a + m) j hs (by omega), h j hj]]
  exact end_tail n m hm hn hf

end Go.X
end

section
set_option linter.unusedVariables false
open Go Go.Ev Go.Proofs
namespace Go.X

def all16 (p : Int → Bool) : Bool := (List.range 16).all fun i => p (Int.ofNat i)
theorem all16_spec {p : Int → Bool} (h : all16 p = true) {x : Int} (hx : small x) : p x = true := by
  obtain ⟨i, hi, rfl⟩ := small_nat hx
  exact List.all_eq_true.1 h i (List.mem_range.2 hi)

theorem rex_chk : ([(4 : Int), 8].all fun w => all16 fun m => all16 fun l => (ar .and .u8 (rexI w m l) 240 == 64) && ((ar .and .u8 (rexI w m l) 8 == 2 * (w - 4)) && ((ar .and .u8 (rexI w m l) 1 == l / 8) && (ar .and .u8 (rexI w m l) 4 == 4 * (m / 8))))) = true := by kernel_rfl
theorem rex_facts {w m l : Int} (hw : w = 4 ∨ w = 8) (hm : small m) (hl : small l) : ar .and .u8 (rexI w m l) 240 = 64 ∧ ar .and .u8 (rexI w m l) 8 = 2 * (w - 4) ∧ ar .and .u8 (rexI w m l) 1 = l / 8 ∧ ar .and .u8 (rexI w m l) 4 = 4 * (m / 8) := by
  have := all16_spec (all16_spec (List.all_eq_true.1 rex_chk w (by rcases hw with rfl | rfl <;> simp)) hm) hl
  simpa using this
theorem mod_chk : ([(192 : Int), 128].all fun d => all16 fun m => all16 fun l => (ar .and .u8 (modI d m l) 7 == l % 8) && (ar .and .u8 (ar .shr .u8 (modI d m l) 3) 7 == m % 8)) = true := by kernel_rfl
theorem mod_facts {d m l : Int} (hd : d = 192 ∨ d = 128) (hm : small m) (hl : small l) : ar .and .u8 (modI d m l) 7 = l % 8 ∧ ar .and .u8 (ar .shr .u8 (modI d m l) 3) 7 = m % 8 := by
  have := all16_spec (all16_spec (List.all_eq_true.1 mod_chk d (by rcases hd with rfl | rfl <;> simp)) hm) hl
  simpa using this
theorem put_chk : (all16 fun m => (ar .or .i64 (conv .i64 (m % 8)) (ar .shl .i64 (conv .i64 (m / 8)) 3) == m) && (ar .or .i64 (conv .i64 (m % 8)) (ar .shl .i64 (conv .i64 (4 * (m / 8))) 1) == m)) = true := by kernel_rfl
theorem put_facts {m : Int} (hm : small m) : ar .or .i64 (conv .i64 (m % 8)) (ar .shl .i64 (conv .i64 (m / 8)) 3) = m ∧ ar .or .i64 (conv .i64 (m % 8)) (ar .shl .i64 (conv .i64 (4 * (m / 8))) 1) = m := by
  have := all16_spec put_chk hm
  simpa using this
theorem more_chk : ([(184 : Int), 80, 88].all fun c => all16 fun m => ar .or .i64 (ar .sub .i64 (conv .i64 (c + m % 8)) c) (ar .shl .i64 (conv .i64 (m / 8)) 3) == m) = true := by kernel_rfl
theorem more_reg {c m : Int} (hc : c ∈ [(184 : Int), 80, 88]) (hm : small m) : ar .or .i64 (ar .sub .i64 (conv .i64 (c + m % 8)) c) (ar .shl .i64 (conv .i64 (m / 8)) 3) = m := by
  have := all16_spec (List.all_eq_true.1 more_chk c hc) hm
  simpa using this
theorem cond_chk : ([(144 : Int), 128, 112].all fun c => all16 fun m => ar .sub .i64 (conv .i64 (c + m)) c == m) = true := by kernel_rfl
theorem more_cond {c m : Int} (hc : c ∈ [(144 : Int), 128, 112]) (hm : small m) : ar .sub .i64 (conv .i64 (c + m)) c = m := by
  have := all16_spec (List.all_eq_true.1 cond_chk c hc) hm
  simpa using this
theorem more_inI {c x : Int} (hx : 0 ≤ x ∧ x < 256) (hc : 0 ≤ c ∧ c < 256) : inI (ar .sub .i64 (conv .i64 x) c) := by
  simp only [inI, ar, conv, IntKind.wrap_i64]; omega
theorem inI0 : inI 0 := by simp [inI]

/-- what guess says -/
def Q (k : Int) (s : ByteArray) (o w rd rs n : Int) (ok : Bool) : Prop :=
  (ok = true → o = k ∧ inI n) ∧ ∀ w' rd' rs' n', DX k s w' rd' rs' n' → ok = true ∧ w = w' ∧ rd = rd' ∧ rs = rs' ∧ n = n'
def tupG (o w rd rs n : Int) (ok : Bool) : SV := .tup [.agg [.int false .i64 o, .int false .i64 w, .int false .i64 rd, .int false .i64 rs, .int false .i64 n], .bool false ok]
def GPl (k : Int) (s : ByteArray) (l : Lf) : Prop := ∃ o w rd rs n ok, Q k s o w rd rs n ok ∧ l.gives (tupG o w rd rs n ok)
theorem GPl_cond {k : Int} {s : ByteArray} {b : Bool} {x y : Lf} (h1 : b = true → GPl k s x) (h2 : b = false → GPl k s y) : GPl k s (bif b then x else y) := by
  cases b with
  | true => exact h1 rfl
  | false => exact h2 rfl
theorem GPl_no {k : Int} {s : ByteArray} {o w rd rs n : Int} {a b c d e f : Bool} {H : Heap} (h : ∀ w' rd' rs' n', ¬ DX k s w' rd' rs' n') : GPl k s (.ret (.tup [.agg [.int a .i64 o, .int b .i64 w, .int c .i64 rd, .int d .i64 rs, .int e .i64 n], .bool f false]) H) :=
  ⟨o, w, rd, rs, n, false, ⟨fun h => (by cases h), fun w' rd' rs' n' hd => (h _ _ _ _ hd).elim⟩, fun σ σ' => by simp only [tupG, den, denL]⟩
theorem GPl_yes {k : Int} {s : ByteArray} {w rd rs n : Int} {a b c d e f : Bool} {H : Heap} (hn : inI n) (h : ∀ w' rd' rs' n', DX k s w' rd' rs' n' → w = w' ∧ rd = rd' ∧ rs = rs' ∧ n = n') : GPl k s (.ret (.tup [.agg [.int a .i64 k, .int b .i64 w, .int c .i64 rd, .int d .i64 rs, .int e .i64 n], .bool f true]) H) :=
  ⟨k, w, rd, rs, n, true, ⟨fun _ => ⟨rfl, hn⟩, fun w' rd' rs' n' hd => ⟨rfl, h _ _ _ _ hd⟩⟩, fun σ σ' => by simp only [tupG, den, denL]⟩
def GP (k : Int) (f : SV) : Prop := ∀ s, ∃ p o w rd rs n ok, Q k s o w rd rs n ok ∧ (evalF (E26 p) Tryz.prog 83 [.int true .i64 k, f, .str s] [] 1024).leaf.gives (tupG o w rd rs n ok)

attribute [local irreducible] evalF Lf.gives in
theorem GP_of {k : Int} {s : ByteArray} {f : SV} {l : Lf} (p : Bool) (h : (evalF (E26 p) Tryz.prog 83 [.int true .i64 k, f, .str s] [] 1024).bare = l) (hl : GPl k s l) : ∃ p o w rd rs n ok, Q k s o w rd rs n ok ∧ (evalF (E26 p) Tryz.prog 83 [.int true .i64 k, f, .str s] [] 1024).leaf.gives (tupG o w rd rs n ok) := by
  obtain ⟨o, w, rd, rs, n, ok, hq, hg⟩ := hl
  exact ⟨p, o, w, rd, rs, n, ok, hq, gives_tree h hg⟩

theorem nblt (a b : Nat) : Nat.blt a b = decide (a < b) := by
  by_cases h : a < b
  · rw [decide_eq_true h, Nat.blt_eq]; exact h
  · rw [decide_eq_false h]
    cases hb : Nat.blt a b with
    | false => rfl
    | true => rw [Nat.blt_eq] at hb; exact absurd hb h
theorem nble (a b : Nat) : Nat.ble a b = decide (a ≤ b) := by
  by_cases h : a ≤ b
  · rw [decide_eq_true h, Nat.ble_eq]; exact h
  · rw [decide_eq_false h]
    cases hb : Nat.ble a b with
    | false => rfl
    | true => rw [Nat.ble_eq] at hb; exact absurd hb h
theorem pre0 {s : ByteArray} {w m l : Int} (hw : w = 4 ∨ w = 8) (hm : small m) (hl : small l) (hz : 0 < s.size) (h : chr s 0 = rexI w m l) : preOk false s = true := by
  simp [preOk, rexAt, nblt, hz, h, (rex_facts hw hm hl).1]
theorem seq_one {s : ByteArray} {b : UInt8} (hz : 1 ≤ s.size) (h : chr s 0 = (b.toNat : Int)) : seq (s.extract 0 1) ⟨#[b]⟩ = true := by
  have : s.extract 0 1 = ⟨#[b]⟩ := by
    apply ByteArray.ext
    have hs : s.data.size = s.size := rfl
    simp only [ByteArray.data_extract]
    apply Array.ext
    · simp; omega
    · intro i h1 h2
      simp at h1 h2
      obtain rfl : i = 0 := by omega
      simp
      have : s.data.getD 0 0 = s.data[0] := by
        rw [Array.getD_eq_getD_getElem?, Array.getElem?_eq_getElem (show 0 < s.data.size by omega)]
        rfl
      simp only [chr, this] at h
      exact UInt8.toNat_inj.1 (by omega)
  rw [this]
  simp [seq]
theorem pre1 {s : ByteArray} {w m l : Int} (hw : w = 4 ∨ w = 8) (hm : small m) (hl : small l) (hz : 1 < s.size) (h0 : chr s 0 = 102) (h : chr s 1 = rexI w m l) : preOk true s = true := by
  have := seq_one (b := 102) (show 1 ≤ s.size by omega) h0
  simp [preOk, rexAt, nblt, nble, hz, h, (rex_facts hw hm hl).1, this]
  omega

/-- how tests are read -/
theorem cmz : (∀ a b, cm .eql a b = decide (a = b)) ∧ (∀ a b, cm .neq a b = !decide (a = b)) ∧ (∀ a b, cm .lss a b = decide (a < b)) ∧ (∀ a b, cm .leq a b = decide (a ≤ b)) ∧ (∀ a b, cm .gtr a b = decide (b < a)) ∧ (∀ a b, cm .geq a b = decide (b ≤ a)) ∧
    (∀ a b, Nat.blt a b = decide (a < b)) ∧ (∀ a b, Nat.ble a b = decide (a ≤ b)) ∧ (∀ (p : Prop) [Decidable p], (decide p = true) = p) ∧ (∀ (p : Prop) [Decidable p], (decide p = false) ↔ ¬ p) ∧
    (∀ b : Bool, ((!b) = true) = (b = false)) ∧ (∀ b : Bool, ((!b) = false) = (b = true)) ∧ ∀ (s : ByteArray) (i j : Nat), (s.extract i j).size = min j s.size - i :=
  ⟨cm_eql', cm_neq', cm_lss', cm_leq', cm_gtr', cm_geq', nblt, nble, fun _ _ => decide_eq_true_eq, fun _ _ => decide_eq_false_iff_not, fun b => Bool.not_eq_true' b, fun b => Bool.not_eq_false' b, fun _ _ _ => ByteArray.size_extract⟩

end Go.X
end

section
set_option linter.unusedVariables false
open Go Go.Ev Go.Proofs
namespace Go.X

def ahX (k : Int) : Bool := nth aheads false (k - 1).toNat
def turnX (k : Int) : Bool := nth turns false (k - 1).toNat
def midX (k : Int) : Int := nth mids 0 (k - 1).toNat
def codeX (k : Int) : ByteArray := nth codes .empty (k - 1).toNat
def freeB (sh : Int) : Bool := decide (sh = 5 ∨ 8 ≤ sh)
/-- where the byte ahead of an op's lies; where the op's bytes end; how many bytes the number has -/
def atX (k : Int) : Nat := bif ahX k then 1 else 0
def endX (k : Int) : Nat := bif freeB (shX k) then (codeX k).size else atX k + 1 + (codeX k).size
def tlX (k : Int) : Nat := longX (shX k) (imX k)
def lastX (k : Int) : Int := chr (codeX k) ((codeX k).size - 1)

/-! bytes from a place on -/
def st (s : ByteArray) (o : Nat) (l : List Int) : Prop := o + l.length ≤ s.size ∧ ∀ j, j < l.length → chr s (o + j) = l.getD j 0
theorem st_cons {s : ByteArray} {o : Nat} {x : Int} {l : List Int} (h : st s o (x :: l)) : chr s o = x ∧ st s (o + 1) l := by
  obtain ⟨h1, h2⟩ := h
  rw [List.length_cons] at h1 h2
  refine ⟨h2 0 (by omega), by omega, fun j hj => ?_⟩
  have := h2 (j + 1) (by omega)
  rw [show o + 1 + j = o + (j + 1) by omega, this]
  rfl
theorem st_app {s : ByteArray} {o : Nat} {a b : List Int} (h : st s o (a ++ b)) : st s o a ∧ st s (o + a.length) b := by
  obtain ⟨h1, h2⟩ := h
  rw [List.length_append] at h1 h2
  refine ⟨⟨by omega, fun j hj => ?_⟩, by omega, fun j hj => ?_⟩
  · rw [h2 j (by omega)]
    simp [List.getD, List.getElem?_append_left hj]
  · rw [show o + a.length + j = o + (a.length + j) by omega, h2 _ (by omega)]
    simp [List.getD, List.getElem?_append_right]
theorem st_zero {s : ByteArray} {l : List Int} (h : starts s l) : st s 0 l := ⟨by simpa using h.1, fun j hj => by simpa using h.2 j hj⟩
theorem st_tail {s : ByteArray} {o : Nat} {n : Int} {m : Nat} (h : st s o (tailL n m)) : o + m ≤ s.size ∧ ∀ j, j < m → chr s (o + j) = bat n j := by
  obtain ⟨h1, h2⟩ := h
  rw [tail_length] at h1 h2
  exact ⟨h1, fun j hj => by rw [h2 j hj, tail_get n m j hj]⟩

def codeP (k : Int) : Bool := decide ((codeL k).length = (codeX k).size ∧ 1 ≤ (codeX k).size ∧ (codeX k).size ≤ 2) && (decide (codeL k = [] ∨ (codeL k).getLast? = some (lastX k)) &&
    (decide (shX k = 2 ∨ ahX k = false) && decide (tlX k = 0 ∨ tlX k = 1 ∨ tlX k = 4 ∨ tlX k = 8)))
theorem code_chk : ((List.range 46).all fun i => codeP (Int.ofNat (i + 1))) = true := by kernel_rfl
theorem code_is {k : Int} (h1 : 1 ≤ k) (h2 : k ≤ 46) : ((codeL k).length = (codeX k).size ∧ 1 ≤ (codeX k).size ∧ (codeX k).size ≤ 2) ∧ (shX k = 2 ∨ ahX k = false) := by
  have := each46 (p := codeP) code_chk h1 h2
  simp only [codeP, Bool.and_eq_true, decide_eq_true_eq] at this
  exact ⟨this.1, this.2.2.1⟩
def regP (k : Int) : Bool := (!decide (shX k = 3 ∨ shX k = 4) || (codeL k == [lastX k] && [184, 80, 88].any fun c => c == lastX k)) && ((!decide (shX k = 7) || lastX k == 144) && ((!decide (shX k = 10) || lastX k == 128) && (!decide (shX k = 11) || lastX k == 112)))
theorem reg_chk : ((List.range 46).all fun i => regP (Int.ofNat (i + 1))) = true := by kernel_rfl
theorem last_is {k : Int} (h1 : 1 ≤ k) (h2 : k ≤ 46) : (shX k = 3 ∨ shX k = 4 → codeL k = [lastX k] ∧ lastX k ∈ [(184 : Int), 80, 88]) ∧ (shX k = 7 → lastX k = 144) ∧ (shX k = 10 → lastX k = 128) ∧ (shX k = 11 → lastX k = 112) := by
  have := each46 (p := regP) reg_chk h1 h2
  simp only [regP, Bool.and_eq_true, decide_eq_true_eq, Bool.or_eq_true, Bool.not_eq_true', decide_eq_false_iff_not, List.any_eq_true, beq_iff_eq] at this
  obtain ⟨a, b, c, d⟩ := this
  refine ⟨fun h => ?_, fun h => b.resolve_left (fun g => g h), fun h => c.resolve_left (fun g => g h), fun h => d.resolve_left (fun g => g h)⟩
  obtain ⟨e, x, hx, rfl⟩ := a.resolve_left (fun g => g h)
  exact ⟨e, hx⟩

/-- shapes that have a byte for two registers: the bytes, and what the fields are -/
theorem dxM {k : Int} {s : ByteArray} {w rd rs n : Int} (h : DX k s w rd rs n) (hs : shX k = 0 ∨ shX k = 1 ∨ shX k = 2 ∨ shX k = 7) :
    ∃ m l d, (d = 192 ∨ d = 128) ∧ small m ∧ small l ∧ chr s (atX k) = rexI w m l ∧ chr s (endX k) = modI d m l ∧ (ahX k = true → chr s 0 = 102) ∧ endX k + 1 + tlX k ≤ s.size ∧
      (∀ j, j < tlX k → chr s (endX k + 1 + j) = bat n j) ∧
      ((shX k = 0 ∨ shX k = 2) ∧ (bif turnX k || decide (shX k = 2) then rd = m ∧ rs = l else rd = l ∧ rs = m) ∨ (shX k = 1 ∨ shX k = 7) ∧ rd = l ∧ rs = 0) ∧
      (shX k = 7 → small n ∧ chr s (endX k - 1) = 144 + n) ∧ (shX k ≠ 7 → tlX k = 0 → n = 0) := by
  obtain ⟨he, hi, hst⟩ := h
  obtain ⟨h1, h2⟩ := err_op he
  obtain ⟨hw, _, hn, hF⟩ := err_ok he
  obtain ⟨_, ⟨m0, m1⟩, _, t7, _⟩ := tabs h1 h2
  obtain ⟨⟨c0, c1, c2⟩, ha⟩ := code_is h1 h2
  have hst := st_zero hst
  have hfr : freeB (shX k) = false := by simp only [freeB]; exact decide_eq_false (by omega)
  have hE : endX k = atX k + 1 + (codeX k).size := by unfold endX; rw [hfr]; rfl
  unfold namedX at hn
  unfold encL at hst
  by_cases k0 : shX k = 0
  · have hA : ahX k = false := ha.resolve_left (by omega)
    have hat : atX k = 0 := by unfold atX; rw [hA]; rfl
    simp only [if_pos k0, Bool.and_eq_true, decide_eq_true_eq] at hn hst
    have hd := reg_small hn.1
    have hs := reg_small hn.2.1
    rw [hE, hat]
    change st s 0 (bif turnX k then _ else _) at hst
    cases hT : turnX k with
    | true =>
      rw [hT] at hst
      obtain ⟨e0, hst⟩ := st_cons hst
      obtain ⟨_, hst⟩ := st_app hst
      obtain ⟨e1, hst⟩ := st_cons hst
      rw [c0] at e1 hst
      obtain ⟨z, tl⟩ := st_tail hst
      exact ⟨rd, rs, 192, .inl rfl, hd, hs, e0, e1, fun h => (by rw [hA] at h; cases h), z, tl, .inl ⟨.inl k0, rfl, rfl⟩, fun h => by omega, fun _ _ => hn.2.2⟩
    | false =>
      rw [hT] at hst
      obtain ⟨e0, hst⟩ := st_cons hst
      obtain ⟨_, hst⟩ := st_app hst
      obtain ⟨e1, hst⟩ := st_cons hst
      rw [c0] at e1 hst
      obtain ⟨z, tl⟩ := st_tail hst
      refine ⟨rs, rd, 192, .inl rfl, hs, hd, e0, e1, fun h => (by rw [hA] at h; cases h), z, tl, .inl ⟨.inl k0, ?_⟩, fun h => by omega, fun _ _ => hn.2.2⟩
      rw [decide_eq_false (show ¬ shX k = 2 by omega)]
      exact ⟨rfl, rfl⟩
  by_cases k1 : shX k = 1
  · have hA : ahX k = false := ha.resolve_left (by omega)
    have hat : atX k = 0 := by unfold atX; rw [hA]; rfl
    simp only [if_neg k0, if_pos k1, Bool.and_eq_true, Bool.or_eq_true, decide_eq_true_eq] at hn hst
    have hd := reg_small hn.1
    rw [hE, hat]
    obtain ⟨e0, hst⟩ := st_cons hst
    obtain ⟨_, hst⟩ := st_app hst
    obtain ⟨e1, hst⟩ := st_cons hst
    rw [c0] at e1 hst
    obtain ⟨z, tl⟩ := st_tail hst
    refine ⟨_, rd, 192, .inl rfl, ⟨m0, by omega⟩, hd, e0.trans (rex_mid m1).symm, e1, fun h => (by rw [hA] at h; cases h), ?_, ?_, .inr ⟨.inl k1, rfl, hn.2.1⟩, fun h => by omega, fun _ ht => ?_⟩
    · exact z
    · exact tl
    · refine hn.2.2.resolve_left fun hi => ?_
      unfold tlX at ht
      rw [k1, hi] at ht
      cases ht
  by_cases k2 : shX k = 2
  · simp only [if_neg k0, if_neg k1, if_pos k2, Bool.and_eq_true, decide_eq_true_eq] at hn hst
    have hd := reg_small hn.1
    have hs := reg_small hn.2.1
    rw [hE]
    have hT : tlX k = 4 := by unfold tlX longX; simp [k2]
    rw [hT]
    have hl : longX (shX k) (imX k) = 4 := hT
    change st s 0 ((bif ahX k then [102] else []) ++ _) at hst
    have hfin : ∀ o, st s o (rexI w rd rs :: (codeL k ++ (modI 128 rd rs :: tailL n (longX (shX k) (imX k))))) → chr s o = rexI w rd rs ∧ chr s (o + 1 + (codeX k).size) = modI 128 rd rs ∧ o + 1 + (codeX k).size + 1 + 4 ≤ s.size ∧ ∀ j, j < 4 → chr s (o + 1 + (codeX k).size + 1 + j) = bat n j := by
      intro o hst
      obtain ⟨e0, hst⟩ := st_cons hst
      obtain ⟨_, hst⟩ := st_app hst
      obtain ⟨e1, hst⟩ := st_cons hst
      rw [c0] at e1 hst
      obtain ⟨z, tl⟩ := st_tail hst
      rw [hl] at z tl
      exact ⟨e0, e1, z, tl⟩
    unfold atX
    cases hA : ahX k with
    | false =>
      rw [hA] at hst
      obtain ⟨a, b, c, d⟩ := hfin 0 hst
      exact ⟨rd, rs, 128, .inr rfl, hd, hs, a, b, fun h => (by cases h), c, d, .inl ⟨.inr k2, by rw [decide_eq_true k2, Bool.or_true]; exact ⟨rfl, rfl⟩⟩, fun h => by omega, fun _ h => by omega⟩
    | true =>
      rw [hA] at hst
      obtain ⟨ea, hst⟩ := st_cons hst
      obtain ⟨a, b, c, d⟩ := hfin 1 hst
      exact ⟨rd, rs, 128, .inr rfl, hd, hs, a, b, fun _ => ea, c, d, .inl ⟨.inr k2, by rw [decide_eq_true k2, Bool.or_true]; exact ⟨rfl, rfl⟩⟩, fun h => by omega, fun _ h => by omega⟩
  have k7 : shX k = 7 := by omega
  have hA : ahX k = false := ha.resolve_left (by omega)
  have hat : atX k = 0 := by unfold atX; rw [hA]; rfl
  have c7 := t7 k7
  simp [k7, c7, lastL] at hn hst
  have hd := reg_small hn.1
  have h144 := cond_small hn.2.2
  rw [c7] at c0
  have hc : (codeX k).size = 2 := c0.symm
  rw [hE, hat, hc]
  obtain ⟨e0, hst⟩ := st_cons hst
  obtain ⟨_, hst⟩ := st_cons hst
  obtain ⟨e2, hst⟩ := st_cons hst
  obtain ⟨e3, hst⟩ := st_cons hst
  obtain ⟨z, tl⟩ := st_tail hst
  have hT : tlX k = longX 7 (imX k) := by unfold tlX; rw [k7]
  refine ⟨0, rd, 192, .inl rfl, small0, hd, e0, e3, fun h => (by rw [hA] at h; cases h), by rw [hT]; exact z, by rw [hT]; exact tl, .inr ⟨.inr k7, rfl, hn.2.1⟩, fun _ => ⟨h144, e2⟩, fun h => absurd k7 h⟩

/-- the other shapes -/
def FP (k : Int) (s : ByteArray) (w rd rs n : Int) : Prop :=
    (freeB (shX k) = false → ∃ l, small l ∧ chr s (atX k) = rexI w 0 l ∧ (shX k ≠ 6 → rd = l)) ∧ ahX k = false ∧ endX k + tlX k ≤ s.size ∧ (∀ j, j < tlX k → chr s (endX k + j) = bat n j) ∧ rs = 0 ∧
      (shX k = 3 ∨ shX k = 4 → small rd ∧ chr s (endX k - 1) = lastX k + rd % 8) ∧ (shX k = 10 ∨ shX k = 11 → small rd ∧ chr s (endX k - 1) = lastX k + rd) ∧ (shX k = 5 ∨ shX k = 6 ∨ shX k = 8 ∨ shX k = 9 → rd = 0) ∧ (tlX k = 0 → n = 0)
theorem g34 {x : Int} (h : x = 3 ∨ x = 4) : ¬ x = 0 ∧ ¬ x = 1 ∧ ¬ x = 2 ∧ ¬ x = 6 ∧ ¬ x = 7 ∧ ¬ (x = 10 ∨ x = 11) ∧ ¬ (x = 5 ∨ 8 ≤ x) ∧ ¬ (x = 5 ∨ x = 6 ∨ x = 8 ∨ x = 9) := by omega
theorem g1011 {x : Int} (h : x = 10 ∨ x = 11) : ¬ x = 0 ∧ ¬ x = 1 ∧ ¬ x = 2 ∧ ¬ x = 3 ∧ ¬ x = 4 ∧ ¬ x = 6 ∧ ¬ x = 7 ∧ ¬ (x = 8 ∨ x = 9) ∧ ¬ (x = 3 ∨ x = 4) ∧ (x = 5 ∨ 8 ≤ x) ∧ ¬ (x = 5 ∨ x = 6 ∨ x = 8 ∨ x = 9) := by omega
theorem g589 {x : Int} (h : x = 5 ∨ x = 8 ∨ x = 9) : ¬ x = 0 ∧ ¬ x = 1 ∧ ¬ x = 2 ∧ ¬ x = 3 ∧ ¬ x = 4 ∧ ¬ x = 6 ∧ ¬ x = 7 ∧ ¬ (x = 10 ∨ x = 11) ∧ ¬ (x = 3 ∨ x = 4) ∧ (x = 5 ∨ 8 ≤ x) := by omega
theorem at_zero {k : Int} (h : ahX k = false) : atX k = 0 := by unfold atX; rw [h]; rfl
theorem end_rex {k : Int} (h : ¬ (shX k = 5 ∨ 8 ≤ shX k)) : endX k = atX k + 1 + (codeX k).size := by
  unfold endX freeB
  rw [decide_eq_false h]
  rfl
theorem end_free {k : Int} (h : shX k = 5 ∨ 8 ≤ shX k) : freeB (shX k) = true ∧ endX k = (codeX k).size := by
  unfold endX freeB
  rw [decide_eq_true h]
  exact ⟨rfl, rfl⟩

theorem dxF34 {k : Int} {s : ByteArray} {w rd rs n : Int} (h : DX k s w rd rs n) (k34 : shX k = 3 ∨ shX k = 4) : FP k s w rd rs n := by
  obtain ⟨n0, n1, n2, n6, n7, nc, nf, nd⟩ := g34 k34
  obtain ⟨he, hi, hst⟩ := h
  obtain ⟨h1, h2⟩ := err_op he
  obtain ⟨hw, _, hn, hF⟩ := err_ok he
  obtain ⟨⟨c0, _⟩, ha⟩ := code_is h1 h2
  obtain ⟨l34, _⟩ := last_is h1 h2
  have hst := st_zero hst
  have hA : ahX k = false := ha.resolve_left n2
  have hat := at_zero hA
  unfold encL at hst
  obtain ⟨e, hm⟩ := l34 k34
  have hE : endX k = 2 := by rw [end_rex nf, hat, ← c0, e]; rfl
  have hd : small rd ∧ rs = 0 ∧ (tlX k = 0 → n = 0) := by
    unfold namedX at hn
    rcases k34 with q | q <;> simp [q] at hn
    · exact ⟨reg_small hn.1, hn.2, fun h => by simp [tlX, q, longX] at h⟩
    · exact ⟨reg_small hn.1, hn.2.1, fun _ => hn.2.2⟩
  simp only [if_neg n0, if_neg n1, if_neg n2, if_pos k34, e, lastL] at hst
  obtain ⟨e0, hst⟩ := st_cons hst
  obtain ⟨e1, hst⟩ := st_cons hst
  obtain ⟨z, tl⟩ := st_tail hst
  unfold FP
  rw [hE, hat]
  exact ⟨fun _ => ⟨rd, hd.1, e0, fun _ => rfl⟩, hA, z, tl, hd.2.1, fun _ => ⟨hd.1, e1⟩, fun h => absurd h nc, fun h => absurd h nd, hd.2.2⟩
theorem dxF6 {k : Int} {s : ByteArray} {w rd rs n : Int} (h : DX k s w rd rs n) (k6 : shX k = 6) : FP k s w rd rs n := by
  obtain ⟨he, hi, hst⟩ := h
  obtain ⟨h1, h2⟩ := err_op he
  obtain ⟨hw, _, hn, hF⟩ := err_ok he
  obtain ⟨⟨c0, _⟩, ha⟩ := code_is h1 h2
  have hst := st_zero hst
  have hA : ahX k = false := ha.resolve_left (by rw [k6]; decide)
  have hat := at_zero hA
  unfold namedX at hn
  unfold encL at hst
  simp [k6] at hn hst
  have hE : endX k = 1 + (codeX k).size := by rw [end_rex (by rw [k6]; decide), hat, Nat.zero_add]
  have hT : tlX k = longX 6 (imX k) := by unfold tlX; rw [k6]
  obtain ⟨e0, hst⟩ := st_cons hst
  obtain ⟨_, hst⟩ := st_app hst
  obtain ⟨z, tl⟩ := st_tail hst
  rw [c0, Nat.zero_add] at z tl
  unfold FP
  rw [hE, hat, hT, k6]
  exact ⟨fun _ => ⟨0, small0, e0, fun h => absurd rfl h⟩, hA, z, tl, hn.2.1, fun h => absurd h (by decide), fun h => absurd h (by decide), fun _ => hn.1, fun _ => hn.2.2⟩
theorem dxFc {k : Int} {s : ByteArray} {w rd rs n : Int} (h : DX k s w rd rs n) (kc : shX k = 10 ∨ shX k = 11) : FP k s w rd rs n := by
  obtain ⟨n0, n1, n2, n3, n4, n6, n7, n89, n34, nf, nd⟩ := g1011 kc
  obtain ⟨he, hi, hst⟩ := h
  obtain ⟨h1, h2⟩ := err_op he
  obtain ⟨hw, _, hn, hF⟩ := err_ok he
  obtain ⟨_, _, _, _, t10, t11, _⟩ := tabs h1 h2
  obtain ⟨⟨c0, _⟩, ha⟩ := code_is h1 h2
  obtain ⟨_, _, l10, l11⟩ := last_is h1 h2
  have hst := st_zero hst
  have hA : ahX k = false := ha.resolve_left n2
  obtain ⟨hfr, hE⟩ := end_free nf
  unfold namedX at hn
  unfold encL at hst
  simp only [if_neg n0, if_neg n1, if_neg n2, if_neg n3, if_neg n4, if_neg n7, if_neg n89, if_neg n34, if_neg n6, if_pos kc, Bool.and_eq_true, decide_eq_true_eq] at hn hst
  have hd := cond_small hn.1
  have hT : tlX k ≠ 0 := by rcases kc with q | q <;> simp [tlX, q, longX]
  obtain ⟨hc, hst⟩ := st_app hst
  obtain ⟨z, tl⟩ := st_tail hst
  have hlc : (lastL (codeL k) rd).length = (codeX k).size ∧ chr s ((codeX k).size - 1) = lastX k + rd := by
    rcases kc with q | q
    · have e := t10 q
      rw [e] at c0 hc ⊢
      have e2 : (codeX k).size = 2 := c0.symm
      rw [l10 q, e2]
      exact ⟨rfl, (st_cons (st_cons hc).2).1⟩
    · have e := t11 q
      rw [e] at c0 hc ⊢
      have e2 : (codeX k).size = 1 := c0.symm
      rw [l11 q, e2]
      exact ⟨rfl, (st_cons hc).1⟩
  rw [hlc.1, Nat.zero_add] at z tl
  unfold FP
  rw [hE, hfr]
  exact ⟨fun h => (by cases h), hA, z, tl, hn.2, fun h => absurd h n34, fun _ => ⟨hd, hlc.2⟩, fun h => absurd h nd, fun h => absurd h hT⟩
theorem dxFd {k : Int} {s : ByteArray} {w rd rs n : Int} (h : DX k s w rd rs n) (kd : shX k = 5 ∨ shX k = 8 ∨ shX k = 9) : FP k s w rd rs n := by
  obtain ⟨n0, n1, n2, n3, n4, n6, n7, nc, n34, nf⟩ := g589 kd
  obtain ⟨he, hi, hst⟩ := h
  obtain ⟨h1, h2⟩ := err_op he
  obtain ⟨hw, _, hn, hF⟩ := err_ok he
  obtain ⟨⟨c0, _⟩, ha⟩ := code_is h1 h2
  have hst := st_zero hst
  have hA : ahX k = false := ha.resolve_left n2
  obtain ⟨hfr, hE⟩ := end_free nf
  unfold namedX at hn
  unfold encL at hst
  simp only [if_neg n0, if_neg n1, if_neg n2, if_neg n3, if_neg n4, if_neg n7, if_neg n34, if_neg n6, if_neg nc] at hn hst
  obtain ⟨_, hst⟩ := st_app hst
  obtain ⟨z, tl⟩ := st_tail hst
  rw [c0, Nat.zero_add] at z tl
  have hd : rd = 0 ∧ rs = 0 ∧ (tlX k = 0 → n = 0) := by
    by_cases k8 : shX k = 8 ∨ shX k = 9
    · rw [if_pos k8] at hn
      simp only [Bool.and_eq_true, decide_eq_true_eq] at hn
      exact ⟨hn.1, hn.2, fun h => by rcases k8 with q | q <;> simp [tlX, q, longX] at h⟩
    · rw [if_neg k8] at hn
      simp only [Bool.and_eq_true, decide_eq_true_eq] at hn
      exact ⟨hn.1, hn.2.1, fun _ => hn.2.2⟩
  unfold FP
  rw [hE, hfr]
  exact ⟨fun h => (by cases h), hA, z, tl, hd.2.1, fun h => absurd h n34, fun h => absurd h nc, fun _ => hd.1, hd.2.2⟩
theorem dxF {k : Int} {s : ByteArray} {w rd rs n : Int} (h : DX k s w rd rs n) (hs : ¬ (shX k = 0 ∨ shX k = 1 ∨ shX k = 2 ∨ shX k = 7)) :
    (freeB (shX k) = false → ∃ l, small l ∧ chr s (atX k) = rexI w 0 l ∧ (shX k ≠ 6 → rd = l)) ∧ ahX k = false ∧ endX k + tlX k ≤ s.size ∧ (∀ j, j < tlX k → chr s (endX k + j) = bat n j) ∧ rs = 0 ∧
      (shX k = 3 ∨ shX k = 4 → small rd ∧ chr s (endX k - 1) = lastX k + rd % 8) ∧ (shX k = 10 ∨ shX k = 11 → small rd ∧ chr s (endX k - 1) = lastX k + rd) ∧ (shX k = 5 ∨ shX k = 6 ∨ shX k = 8 ∨ shX k = 9 → rd = 0) ∧ (tlX k = 0 → n = 0) := by
  obtain ⟨h1, h2⟩ := err_op h.1
  obtain ⟨⟨s0, s1⟩, _⟩ := tabs h1 h2
  have : shX k = 3 ∨ shX k = 4 ∨ shX k = 6 ∨ (shX k = 10 ∨ shX k = 11) ∨ (shX k = 5 ∨ shX k = 8 ∨ shX k = 9) := by omega
  rcases this with q | q | q | q | q
  · exact dxF34 h (.inl q)
  · exact dxF34 h (.inr q)
  · exact dxF6 h q
  · exact dxFc h q
  · exact dxFd h q

end Go.X
end

section
set_option linter.unusedVariables false
open Go Go.Ev Go.Proofs
namespace Go.X

def zI : SV := .int true .i64 0
def nI (n : Int) : SV := .int false .i64 n
def agT (k w : Int) (rd rs n : SV) (ok : Bool) : Lf := .ret (.tup [.agg [.int true .i64 k, .int true .i64 w, rd, rs, n], .bool true ok]) []
def lowT (s : ByteArray) (a e : Nat) : Int := ar .or .i64 (conv .i64 (ar .and .u8 (chr s e) 7)) (ar .shl .i64 (conv .i64 (ar .and .u8 (chr s a) 1)) 3)
def midT (s : ByteArray) (a e : Nat) : Int := ar .or .i64 (conv .i64 (ar .and .u8 (ar .shr .u8 (chr s e) 3) 7)) (ar .shl .i64 (conv .i64 (ar .and .u8 (chr s a) 4)) 1)
def moreT (s : ByteArray) (e : Nat) (c : Int) : Int := ar .sub .i64 (conv .i64 (chr s (e - 1))) c
def regQT (s : ByteArray) (a e : Nat) (c : Int) : Int := ar .or .i64 (moreT s e c) (ar .shl .i64 (conv .i64 (ar .and .u8 (chr s a) 1)) 3)
/-- the number behind -/
def numT (k w : Int) (rd rs : SV) (p T : Nat) (s : ByteArray) : Lf :=
  if T = 0 then agT k w rd rs zI true
  else bif cm .gtr ((p + T : Nat) : Int) (s.size : Int) then agT k w rd rs zI false
  else bif Nat.ble (p + T) s.size then bif Nat.ble (s.extract p (p + T)).size 8 then agT k w rd rs (nI (numU (s.extract p (p + T)))) true else .bad else .bad
def mrT (k w : Int) (n0 : SV) (e : Nat) (s : ByteArray) (y : Lf) : Lf :=
  bif cm .geq (e : Int) (s.size : Int) then agT k w zI zI n0 false else bif Nat.blt e s.size then bif Nat.blt e s.size then y else .bad else .bad
def shT (k w : Int) (s : ByteArray) : Lf :=
  let a := atX k
  let e := endX k
  let sh := shX k
  let T := tlX k
  bif Nat.blt (e - 1) s.size then
    if sh = 0 then mrT k w zI e s (bif turnX k then numT k w (nI (midT s a e)) (nI (lowT s a e)) (e + 1) T s else numT k w (nI (lowT s a e)) (nI (midT s a e)) (e + 1) T s)
    else if sh = 1 then mrT k w zI e s (numT k w (nI (lowT s a e)) zI (e + 1) T s)
    else if sh = 2 then mrT k w zI e s (numT k w (nI (midT s a e)) (nI (lowT s a e)) (e + 1) T s)
    else if sh = 7 then mrT k w (nI (moreT s e (lastX k))) e s (agT k w (nI (lowT s a e)) zI (nI (moreT s e (lastX k))) true)
    else if sh = 3 ∨ sh = 4 then numT k w (nI (regQT s a e (lastX k))) zI e T s
    else if sh = 10 ∨ sh = 11 then numT k w (nI (moreT s e (lastX k))) zI e T s
    else numT k w zI zI e T s
  else .bad
def gT (k : Int) (s : ByteArray) : Lf :=
  if freeB (shX k) = true then bif cm .gtr (endX k : Int) (s.size : Int) then zG else shT k 4 s
  else bif preOk (ahX k) s == true then bif cm .gtr (endX k : Int) (s.size : Int) then zG else bif cm .neq (ar .and .u8 (chr s (atX k)) 8) 0 then shT k 8 s else shT k 4 s else .bad
def gN (k : Int) (s : ByteArray) : Lf := if freeB (shX k) = true then gT k s else bif preOk (ahX k) s == false then zG else .bad

theorem lowT_eq {s : ByteArray} {a e : Nat} {w m l d : Int} (hw : w = 4 ∨ w = 8) (hd : d = 192 ∨ d = 128) (hm : small m) (hl : small l) (h1 : chr s a = rexI w m l) (h2 : chr s e = modI d m l) : lowT s a e = l ∧ midT s a e = m := by
  obtain ⟨x0, x1, x2, x3⟩ := rex_facts hw hm hl
  obtain ⟨y0, y1⟩ := mod_facts hd hm hl
  unfold lowT midT
  rw [h1, h2, x2, x3, y0, y1]
  exact ⟨(put_facts hl).1, (put_facts hm).2⟩

/-- what all ops have -/
theorem dx_len {k : Int} {s : ByteArray} {w rd rs n : Int} (h : DX k s w rd rs n) : (bif freeB (shX k) || decide (shX k = 3 ∨ shX k = 4 ∨ shX k = 6) then endX k + tlX k ≤ s.size else endX k + 1 + tlX k ≤ s.size) ∧ (w = 4 ∨ w = 8) ∧ (freeB (shX k) = true → w = 4) ∧ inI n ∧ (shX k ≠ 7 → fitsX (tlX k) n = true) := by
  obtain ⟨h1, h2⟩ := err_op h.1
  obtain ⟨hw, hv, _, hF⟩ := err_ok h.1
  obtain ⟨⟨s0, s1⟩, _⟩ := tabs h1 h2
  have hf4 : freeB (shX k) = true → wX k = 4 := by
    have : (!freeB (shX k) || decide (wX k = 4)) = true := each46 (p := fun k => !freeB (shX k) || decide (wX k = 4)) (by kernel_rfl) h1 h2
    intro hf
    rw [hf] at this
    simpa using this
  refine ⟨?_, hw, fun hf => ?_, h.2.1, fun h7 => hF.resolve_right h7⟩
  · by_cases hm : shX k = 0 ∨ shX k = 1 ∨ shX k = 2 ∨ shX k = 7
    · obtain ⟨_, _, _, _, _, _, _, _, _, hz, _⟩ := dxM h hm
      have : (freeB (shX k) || decide (shX k = 3 ∨ shX k = 4 ∨ shX k = 6)) = false := by
        unfold freeB
        rw [decide_eq_false (by omega), decide_eq_false (by omega)]
        rfl
      rw [this]
      exact hz
    · obtain ⟨_, _, hz, _⟩ := dxF h hm
      have : (freeB (shX k) || decide (shX k = 3 ∨ shX k = 4 ∨ shX k = 6)) = true := by
        unfold freeB
        rw [Bool.or_eq_true, decide_eq_true_eq, decide_eq_true_eq]
        omega
      rw [this]
      exact hz
  · have := hf4 hf
    omega

theorem dx_rex {k : Int} {s : ByteArray} {w rd rs n : Int} (h : DX k s w rd rs n) (hf : freeB (shX k) = false) : ∃ m l, small m ∧ small l ∧ chr s (atX k) = rexI w m l ∧ (ahX k = true → chr s 0 = 102) := by
  by_cases hm : shX k = 0 ∨ shX k = 1 ∨ shX k = 2 ∨ shX k = 7
  · obtain ⟨m, l, d, _, h1, h2, h3, _, h4, _⟩ := dxM h hm
    exact ⟨m, l, h1, h2, h3, h4⟩
  · obtain ⟨h1, hA, _⟩ := dxF h hm
    obtain ⟨l, h2, h3, _⟩ := h1 hf
    exact ⟨0, l, small0, h2, h3, fun h => (by rw [hA] at h; cases h)⟩

theorem GPl_num {k : Int} {s : ByteArray} {w : Int} {rd rs : Int} {a b : Bool} {p T : Nat} (hT : T = 0 ∨ T = 1 ∨ T = 4 ∨ T = 8)
    (h : ∀ w' rd' rs' n', DX k s w' rd' rs' n' → w = w' ∧ rd = rd' ∧ rs = rs' ∧ p + T ≤ s.size ∧ (∀ j, j < T → chr s (p + j) = bat n' j) ∧ (T = 0 → n' = 0) ∧ fitsX T n' = true) : GPl k s (numT k w (.int a .i64 rd) (.int b .i64 rs) p T s) := by
  unfold numT
  split
  · refine GPl_yes inI0 fun w' rd' rs' n' hd => ?_
    obtain ⟨a1, a2, a3, _, _, a6, _⟩ := h _ _ _ _ hd
    exact ⟨a1, a2, a3, (a6 (by assumption)).symm⟩
  · refine GPl_cond (fun hc => GPl_no fun w' rd' rs' n' hd => ?_) (fun hc => ?_)
    · have := (h _ _ _ _ hd).2.2.2.1
      simp only [cm_gtr', decide_eq_true_eq] at hc
      omega
    simp only [cm_gtr', decide_eq_false_iff_not] at hc
    have hz : (s.extract p (p + T)).size ≤ 8 := by rw [ByteArray.size_extract]; omega
    refine GPl_cond (fun _ => GPl_cond (fun _ => ?_) fun hb => ?_) fun hb => ?_
    · refine GPl_yes (numU_range _ hz) fun w' rd' rs' n' hd => ?_
      obtain ⟨a1, a2, a3, a4, a5, _, a7⟩ := h _ _ _ _ hd
      exact ⟨a1, a2, a3, num_tail p T (by omega) a4 a5 hd.2.1 a7⟩
    · rw [nble, decide_eq_false_iff_not] at hb; omega
    · rw [nble, decide_eq_false_iff_not] at hb; omega

theorem GPl_mr {k : Int} {s : ByteArray} {w : Int} {n0 : Int} {a : Bool} {e : Nat} {y : Lf} (hno : s.size ≤ e → ∀ w' rd' rs' n', ¬ DX k s w' rd' rs' n') (hy : GPl k s y) : GPl k s (mrT k w (.int a .i64 n0) e s y) := by
  unfold mrT
  refine GPl_cond (fun hc => GPl_no (hno ?_)) fun hc => GPl_cond (fun _ => GPl_cond (fun _ => hy) fun hb => ?_) fun hb => ?_
  · simp only [cm_geq', decide_eq_true_eq] at hc; omega
  all_goals
    simp only [cm_geq', decide_eq_false_iff_not] at hc
    rw [nblt, decide_eq_false_iff_not] at hb
    omega

/-- behind the first tests -/
theorem shT_ok {k : Int} (h1 : 1 ≤ k) (h2 : k ≤ 46) {s : ByteArray} {w : Int} (he : endX k ≤ s.size) (hw : ∀ w' rd' rs' n', DX k s w' rd' rs' n' → w = w') : GPl k s (shT k w s) := by
  obtain ⟨⟨s0, s1⟩, _⟩ := tabs h1 h2
  obtain ⟨⟨_, c1, _⟩, _⟩ := code_is h1 h2
  obtain ⟨l34, l7, l10, l11⟩ := last_is h1 h2
  have hend : 1 ≤ endX k := by unfold endX; cases freeB (shX k) <;> simp only [cond_true, cond_false] <;> omega
  have hT : tlX k = 0 ∨ tlX k = 1 ∨ tlX k = 4 ∨ tlX k = 8 := long_is _ _
  have hno : (shX k = 0 ∨ shX k = 1 ∨ shX k = 2 ∨ shX k = 7) → s.size ≤ endX k → ∀ w' rd' rs' n', ¬ DX k s w' rd' rs' n' := by
    intro hm hz w' rd' rs' n' hd
    obtain ⟨_, _, _, _, _, _, _, _, _, hz', _⟩ := dxM hd hm
    omega
  unfold shT
  refine GPl_cond (fun _ => ?_) fun hb => ?_
  case refine_2 => rw [nblt, decide_eq_false_iff_not] at hb; omega
  by_cases k0 : shX k = 0
  · rw [if_pos k0]
    refine GPl_mr (hno (.inl k0)) ?_
    have key : ∀ w' rd' rs' n', DX k s w' rd' rs' n' → w = w' ∧ (bif turnX k then midT s (atX k) (endX k) = rd' ∧ lowT s (atX k) (endX k) = rs' else lowT s (atX k) (endX k) = rd' ∧ midT s (atX k) (endX k) = rs') ∧
        endX k + 1 + tlX k ≤ s.size ∧ (∀ j, j < tlX k → chr s (endX k + 1 + j) = bat n' j) ∧ (tlX k = 0 → n' = 0) ∧ fitsX (tlX k) n' = true := by
      intro w' rd' rs' n' hd
      obtain ⟨_, hw', _, _, hf⟩ := dx_len hd
      obtain ⟨m, l, d, hd1, hm, hl, e0, e1, _, hz, ht, hf1, _, hn⟩ := dxM hd (.inl k0)
      obtain ⟨x1, x2⟩ := lowT_eq hw' hd1 hm hl e0 e1
      refine ⟨hw _ _ _ _ hd, ?_, hz, ht, hn (by omega), hf (by omega)⟩
      rw [x1, x2]
      rcases hf1 with ⟨_, h⟩ | ⟨h, _⟩
      · rw [decide_eq_false (show ¬ shX k = 2 by omega), Bool.or_false] at h
        revert h
        cases turnX k <;> exact fun h => ⟨h.1.symm, h.2.symm⟩
      · omega
    cases ht : turnX k with
    | true =>
      refine GPl_num hT fun w' rd' rs' n' hd => ?_
      obtain ⟨a, b, c⟩ := key _ _ _ _ hd
      rw [ht] at b
      exact ⟨a, b.1, b.2, c⟩
    | false =>
      refine GPl_num hT fun w' rd' rs' n' hd => ?_
      obtain ⟨a, b, c⟩ := key _ _ _ _ hd
      rw [ht] at b
      exact ⟨a, b.1, b.2, c⟩
  by_cases k1 : shX k = 1
  · rw [if_neg k0, if_pos k1]
    refine GPl_mr (hno (.inr (.inl k1))) (GPl_num hT fun w' rd' rs' n' hd => ?_)
    obtain ⟨_, hw', _, _, hf⟩ := dx_len hd
    obtain ⟨m, l, d, hd1, hm, hl, e0, e1, _, hz, ht, hf1, _, hn⟩ := dxM hd (.inr (.inl k1))
    obtain ⟨x1, x2⟩ := lowT_eq hw' hd1 hm hl e0 e1
    rcases hf1 with ⟨h, _⟩ | ⟨_, rfl, rfl⟩
    · omega
    · exact ⟨hw _ _ _ _ hd, x1, rfl, hz, ht, hn (by omega), hf (by omega)⟩
  by_cases k2 : shX k = 2
  · rw [if_neg k0, if_neg k1, if_pos k2]
    refine GPl_mr (hno (.inr (.inr (.inl k2)))) (GPl_num hT fun w' rd' rs' n' hd => ?_)
    obtain ⟨_, hw', _, _, hf⟩ := dx_len hd
    obtain ⟨m, l, d, hd1, hm, hl, e0, e1, _, hz, ht, hf1, _, hn⟩ := dxM hd (.inr (.inr (.inl k2)))
    obtain ⟨x1, x2⟩ := lowT_eq hw' hd1 hm hl e0 e1
    rcases hf1 with ⟨_, h⟩ | ⟨h, _⟩
    · rw [decide_eq_true k2, Bool.or_true] at h
      obtain ⟨rfl, rfl⟩ := h
      exact ⟨hw _ _ _ _ hd, x2, x1, hz, ht, hn (by omega), hf (by omega)⟩
    · omega
  by_cases k7 : shX k = 7
  · rw [if_neg k0, if_neg k1, if_neg k2, if_pos k7]
    refine GPl_mr (hno (.inr (.inr (.inr k7)))) (GPl_yes (by rw [moreT, l7 k7]; exact more_inI (chr_range _ _) (by decide)) fun w' rd' rs' n' hd => ?_)
    obtain ⟨_, hw', _, _, hf⟩ := dx_len hd
    obtain ⟨m, l, d, hd1, hm, hl, e0, e1, _, hz, ht, hf1, h7, hn⟩ := dxM hd (.inr (.inr (.inr k7)))
    obtain ⟨x1, x2⟩ := lowT_eq hw' hd1 hm hl e0 e1
    obtain ⟨y1, y2⟩ := h7 k7
    rcases hf1 with ⟨h, _⟩ | ⟨_, rfl, rfl⟩
    · omega
    · exact ⟨hw _ _ _ _ hd, x1, rfl, by rw [moreT, y2, l7 k7]; exact more_cond (by decide) y1⟩
  have hm : ¬ (shX k = 0 ∨ shX k = 1 ∨ shX k = 2 ∨ shX k = 7) := by omega
  rw [if_neg k0, if_neg k1, if_neg k2, if_neg k7]
  by_cases k34 : shX k = 3 ∨ shX k = 4
  · rw [if_pos k34]
    refine GPl_num hT fun w' rd' rs' n' hd => ?_
    obtain ⟨_, hw', _, _, hf⟩ := dx_len hd
    obtain ⟨hr, _, hz, ht, hs, hq, _, _, hn⟩ := dxF hd hm
    obtain ⟨l, hl, e0, e1⟩ := hr (by unfold freeB; exact decide_eq_false (by omega))
    obtain ⟨hrd, e2⟩ := hq k34
    obtain rfl := e1 (by omega)
    refine ⟨hw _ _ _ _ hd, ?_, hs.symm, hz, ht, hn, hf (by omega)⟩
    unfold regQT moreT
    rw [e2, e0, (rex_facts hw' small0 hl).2.2.1]
    exact more_reg (l34 k34).2 hrd
  rw [if_neg k34]
  by_cases kc : shX k = 10 ∨ shX k = 11
  · rw [if_pos kc]
    refine GPl_num hT fun w' rd' rs' n' hd => ?_
    obtain ⟨_, hw', _, _, hf⟩ := dx_len hd
    obtain ⟨hr, _, hz, ht, hs, _, hq, _, hn⟩ := dxF hd hm
    obtain ⟨hrd, e2⟩ := hq kc
    refine ⟨hw _ _ _ _ hd, ?_, hs.symm, hz, ht, hn, hf (by omega)⟩
    unfold moreT
    rw [e2]
    refine more_cond ?_ hrd
    rcases kc with q | q
    · rw [l10 q]; decide
    · rw [l11 q]; decide
  rw [if_neg kc]
  refine GPl_num hT fun w' rd' rs' n' hd => ?_
  obtain ⟨_, hw', _, _, hf⟩ := dx_len hd
  obtain ⟨hr, _, hz, ht, hs, _, _, hq, hn⟩ := dxF hd hm
  exact ⟨hw _ _ _ _ hd, (hq (by omega)).symm, hs.symm, hz, ht, hn, hf (by omega)⟩

def formC (op : Int) : SV := .agg [.int true .i64 (nth shapes 0 (op - 1).toNat), .str (nth codes .empty (op - 1).toNat), .int true .i64 (nth mids 0 (op - 1).toNat), .bool true (nth turns false (op - 1).toNat), .int true .i64 (nth ws 0 (op - 1).toNat), .bool true (nth imms false (op - 1).toNat), .bool true (nth aheads false (op - 1).toNat)]
def gyP (k : Int) : Prop := ∀ s, (evalF (E26 true) Tryz.prog 83 [.int true .i64 k, formC k, .str s] [] 1024).bare = gT k s ∧ (evalF (E26 false) Tryz.prog 83 [.int true .i64 k, formC k, .str s] [] 1024).bare = gN k s

attribute [local irreducible] evalF Lf.gives in
theorem guess_of {k : Int} (h1 : 1 ≤ k) (h2 : k ≤ 46) (h : gyP k) : GP k (formC k) := by
  intro s
  cases hf : freeB (shX k) with
  | true =>
    refine GP_of true (h s).1 ?_
    unfold gT
    rw [if_pos hf]
    refine GPl_cond (fun hc => GPl_no fun w rd rs n hd => ?_) fun hc => shT_ok h1 h2 ?_ fun w rd rs n hd => ((dx_len hd).2.2.1 hf).symm
    · have := (dx_len hd).1
      rw [hf] at this
      simp only [cm_gtr', decide_eq_true_eq, Bool.true_or, cond_true] at hc this
      omega
    · simp only [cm_gtr', decide_eq_false_iff_not] at hc
      omega
  | false =>
    have hl : ∀ w rd rs n, DX k s w rd rs n → endX k ≤ s.size := by
      intro w rd rs n hd
      have := (dx_len hd).1
      revert this
      cases (freeB (shX k) || decide (shX k = 3 ∨ shX k = 4 ∨ shX k = 6)) <;> simp only [cond_true, cond_false] <;> omega
    have hpre : ∀ w rd rs n, DX k s w rd rs n → preOk (ahX k) s = true := by
      intro w rd rs n hd
      obtain ⟨m, l, hm, hl', e0, ea⟩ := dx_rex hd hf
      obtain ⟨_, hw, _⟩ := dx_len hd
      have hz := hl _ _ _ _ hd
      unfold endX at hz
      rw [hf] at hz
      simp only [cond_false] at hz
      unfold atX at e0 hz
      cases ha : ahX k with
      | true => rw [ha] at e0 hz; simp only [cond_true] at e0 hz; exact pre1 hw hm hl' (by omega) (ea ha) e0
      | false => rw [ha] at e0 hz; simp only [cond_false] at e0 hz; exact pre0 hw hm hl' (by omega) e0
    cases hp : preOk (ahX k) s with
    | false =>
      refine GP_of false (h s).2 ?_
      unfold gN
      rw [if_neg (by rw [hf]; decide), hp]
      exact GPl_no fun w rd rs n hd => by
        have := hpre _ _ _ _ hd
        rw [hp] at this
        cases this
    | true =>
      refine GP_of true (h s).1 ?_
      unfold gT
      rw [if_neg (by rw [hf]; decide), hp]
      refine GPl_cond (fun _ => ?_) (fun hc => by cases hc)
      refine GPl_cond (fun hc => GPl_no fun w rd rs n hd => ?_) fun hc => ?_
      · have := hl _ _ _ _ hd
        simp only [cm_gtr', decide_eq_true_eq] at hc
        omega
      have he : endX k ≤ s.size := by simp only [cm_gtr', decide_eq_false_iff_not] at hc; omega
      have hbit : ∀ w rd rs n, DX k s w rd rs n → (w = 4 ∨ w = 8) ∧ ar .and .u8 (chr s (atX k)) 8 = 2 * (w - 4) := by
        intro w rd rs n hd
        obtain ⟨m, l, hm, hl', e0, ea⟩ := dx_rex hd hf
        obtain ⟨_, hw, _⟩ := dx_len hd
        rw [e0]
        exact ⟨hw, (rex_facts hw hm hl').2.1⟩
      refine GPl_cond (fun hc => ?_) fun hc => ?_
      · refine shT_ok h1 h2 he fun w rd rs n hd => ?_
        obtain ⟨hw, hb⟩ := hbit _ _ _ _ hd
        simp only [cm_neq', Bool.not_eq_true', decide_eq_false_iff_not] at hc
        omega
      · refine shT_ok h1 h2 he fun w rd rs n hd => ?_
        obtain ⟨hw, hb⟩ := hbit _ _ _ _ hd
        simp only [cm_neq', Bool.not_eq_false', decide_eq_true_eq] at hc
        omega

end Go.X
end

section
set_option linter.unusedVariables false
open Go Go.Ev Go.Proofs
namespace Go.X

theorem gy0 : gyP (Int.ofNat (0 + 1)) := fun s => ⟨by kernel_rfl, by kernel_rfl⟩
theorem gy1 : gyP (Int.ofNat (1 + 1)) := fun s => ⟨by kernel_rfl, by kernel_rfl⟩
theorem gy2 : gyP (Int.ofNat (2 + 1)) := fun s => ⟨by kernel_rfl, by kernel_rfl⟩
theorem gy3 : gyP (Int.ofNat (3 + 1)) := fun s => ⟨by kernel_rfl, by kernel_rfl⟩
theorem gy4 : gyP (Int.ofNat (4 + 1)) := fun s => ⟨by kernel_rfl, by kernel_rfl⟩
theorem gy5 : gyP (Int.ofNat (5 + 1)) := fun s => ⟨by kernel_rfl, by kernel_rfl⟩
theorem gy6 : gyP (Int.ofNat (6 + 1)) := fun s => ⟨by kernel_rfl, by kernel_rfl⟩
theorem gy7 : gyP (Int.ofNat (7 + 1)) := fun s => ⟨by kernel_rfl, by kernel_rfl⟩
theorem gy8 : gyP (Int.ofNat (8 + 1)) := fun s => ⟨by kernel_rfl, by kernel_rfl⟩
theorem gy9 : gyP (Int.ofNat (9 + 1)) := fun s => ⟨by kernel_rfl, by kernel_rfl⟩
theorem gy10 : gyP (Int.ofNat (10 + 1)) := fun s => ⟨by kernel_rfl, by kernel_rfl⟩
theorem gy11 : gyP (Int.ofNat (11 + 1)) := fun s => ⟨by kernel_rfl, by kernel_rfl⟩
theorem gy12 : gyP (Int.ofNat (12 + 1)) := fun s => ⟨by kernel_rfl, by kernel_rfl⟩
theorem gy13 : gyP (Int.ofNat (13 + 1)) := fun s => ⟨by kernel_rfl, by kernel_rfl⟩
theorem gy14 : gyP (Int.ofNat (14 + 1)) := fun s => ⟨by kernel_rfl, by kernel_rfl⟩
theorem gy15 : gyP (Int.ofNat (15 + 1)) := fun s => ⟨by kernel_rfl, by kernel_rfl⟩

end Go.X
end

section
set_option linter.unusedVariables false
open Go Go.Ev Go.Proofs
namespace Go.X

theorem gy16 : gyP (Int.ofNat (16 + 1)) := fun s => ⟨by kernel_rfl, by kernel_rfl⟩
theorem gy17 : gyP (Int.ofNat (17 + 1)) := fun s => ⟨by kernel_rfl, by kernel_rfl⟩
theorem gy18 : gyP (Int.ofNat (18 + 1)) := fun s => ⟨by kernel_rfl, by kernel_rfl⟩
theorem gy19 : gyP (Int.ofNat (19 + 1)) := fun s => ⟨by kernel_rfl, by kernel_rfl⟩
theorem gy20 : gyP (Int.ofNat (20 + 1)) := fun s => ⟨by kernel_rfl, by kernel_rfl⟩
theorem gy21 : gyP (Int.ofNat (21 + 1)) := fun s => ⟨by kernel_rfl, by kernel_rfl⟩
theorem gy22 : gyP (Int.ofNat (22 + 1)) := fun s => ⟨by kernel_rfl, by kernel_rfl⟩
theorem gy23 : gyP (Int.ofNat (23 + 1)) := fun s => ⟨by kernel_rfl, by kernel_rfl⟩
theorem gy24 : gyP (Int.ofNat (24 + 1)) := fun s => ⟨by kernel_rfl, by kernel_rfl⟩
theorem gy25 : gyP (Int.ofNat (25 + 1)) := fun s => ⟨by kernel_rfl, by kernel_rfl⟩
theorem gy26 : gyP (Int.ofNat (26 + 1)) := fun s => ⟨by kernel_rfl, by kernel_rfl⟩
theorem gy27 : gyP (Int.ofNat (27 + 1)) := fun s => ⟨by kernel_rfl, by kernel_rfl⟩
theorem gy28 : gyP (Int.ofNat (28 + 1)) := fun s => ⟨by kernel_rfl, by kernel_rfl⟩
theorem gy29 : gyP (Int.ofNat (29 + 1)) := fun s => ⟨by kernel_rfl, by kernel_rfl⟩
theorem gy30 : gyP (Int.ofNat (30 + 1)) := fun s => ⟨by kernel_rfl, by kernel_rfl⟩

end Go.X
end

section
set_option linter.unusedVariables false
open Go Go.Ev Go.Proofs
namespace Go.X

theorem gy31 : gyP (Int.ofNat (31 + 1)) := fun s => ⟨by kernel_rfl, by kernel_rfl⟩
theorem gy32 : gyP (Int.ofNat (32 + 1)) := fun s => ⟨by kernel_rfl, by kernel_rfl⟩
theorem gy33 : gyP (Int.ofNat (33 + 1)) := fun s => ⟨by kernel_rfl, by kernel_rfl⟩
theorem gy34 : gyP (Int.ofNat (34 + 1)) := fun s => ⟨by kernel_rfl, by kernel_rfl⟩
theorem gy35 : gyP (Int.ofNat (35 + 1)) := fun s => ⟨by kernel_rfl, by kernel_rfl⟩
theorem gy36 : gyP (Int.ofNat (36 + 1)) := fun s => ⟨by kernel_rfl, by kernel_rfl⟩
theorem gy37 : gyP (Int.ofNat (37 + 1)) := fun s => ⟨by kernel_rfl, by kernel_rfl⟩
theorem gy38 : gyP (Int.ofNat (38 + 1)) := fun s => ⟨by kernel_rfl, by kernel_rfl⟩
theorem gy39 : gyP (Int.ofNat (39 + 1)) := fun s => ⟨by kernel_rfl, by kernel_rfl⟩
theorem gy40 : gyP (Int.ofNat (40 + 1)) := fun s => ⟨by kernel_rfl, by kernel_rfl⟩
theorem gy41 : gyP (Int.ofNat (41 + 1)) := fun s => ⟨by kernel_rfl, by kernel_rfl⟩
theorem gy42 : gyP (Int.ofNat (42 + 1)) := fun s => ⟨by kernel_rfl, by kernel_rfl⟩
theorem gy43 : gyP (Int.ofNat (43 + 1)) := fun s => ⟨by kernel_rfl, by kernel_rfl⟩
theorem gy44 : gyP (Int.ofNat (44 + 1)) := fun s => ⟨by kernel_rfl, by kernel_rfl⟩
theorem gy45 : gyP (Int.ofNat (45 + 1)) := fun s => ⟨by kernel_rfl, by kernel_rfl⟩
theorem gy_all : ∀ i : Nat, i < 46 → gyP (Int.ofNat (i + 1))
  | 0, _ => gy0
  | 1, _ => gy1
  | 2, _ => gy2
  | 3, _ => gy3
  | 4, _ => gy4
  | 5, _ => gy5
  | 6, _ => gy6
  | 7, _ => gy7
  | 8, _ => gy8
  | 9, _ => gy9
  | 10, _ => gy10
  | 11, _ => gy11
  | 12, _ => gy12
  | 13, _ => gy13
  | 14, _ => gy14
  | 15, _ => gy15
  | 16, _ => gy16
  | 17, _ => gy17
  | 18, _ => gy18
  | 19, _ => gy19
  | 20, _ => gy20
  | 21, _ => gy21
  | 22, _ => gy22
  | 23, _ => gy23
  | 24, _ => gy24
  | 25, _ => gy25
  | 26, _ => gy26
  | 27, _ => gy27
  | 28, _ => gy28
  | 29, _ => gy29
  | 30, _ => gy30
  | 31, _ => gy31
  | 32, _ => gy32
  | 33, _ => gy33
  | 34, _ => gy34
  | 35, _ => gy35
  | 36, _ => gy36
  | 37, _ => gy37
  | 38, _ => gy38
  | 39, _ => gy39
  | 40, _ => gy40
  | 41, _ => gy41
  | 42, _ => gy42
  | 43, _ => gy43
  | 44, _ => gy44
  | 45, _ => gy45
  | m + 46, h => absurd h (by omega)
attribute [local irreducible] evalF Lf.gives in
theorem guess_all (k : Int) (h1 : 1 ≤ k) (h2 : k ≤ 46) : GP k (formC k) := guess_of h1 h2 (ops46 (P := gyP) gy_all h1 h2)

structure GV where
  o : Int
  w : Int
  rd : Int
  rs : Int
  n : Int
  ok : Bool
def GVok (k : Int) (s : ByteArray) (v : GV) : Prop := Q k s v.o v.w v.rd v.rs v.n v.ok ∧ ∃ p, (evalF (E26 p) Tryz.prog 83 [.int true .i64 k, formC k, .str s] [] 1024).leaf.gives (tupG v.o v.w v.rd v.rs v.n v.ok)
attribute [local irreducible] evalF Lf.gives in
theorem gv_ex (k : Int) (s : ByteArray) (h1 : 1 ≤ k) (h2 : k ≤ 46) : ∃ v, GVok k s v := by
  obtain ⟨p, o, w, rd, rs, n, ok, hq, hg⟩ := guess_all k h1 h2 s
  exact ⟨⟨o, w, rd, rs, n, ok⟩, hq, p, hg⟩
open Classical in
noncomputable def gv (k : Int) (s : ByteArray) : GV := if h : 1 ≤ k ∧ k ≤ 46 then Classical.choose (gv_ex k s h.1 h.2) else ⟨0, 0, 0, 0, 0, false⟩
theorem gv_ok (k : Int) (s : ByteArray) (h1 : 1 ≤ k) (h2 : k ≤ 46) : GVok k s (gv k s) := by
  unfold gv
  rw [dif_pos ⟨h1, h2⟩]
  exact Classical.choose_spec (gv_ex k s h1 h2)

noncomputable def gvT (k : Int) (s : ByteArray) : SV := .tup [.agg [.int false .i64 (gv k s).o, .int false .i64 (gv k s).w, .int false .i64 (gv k s).rd, .int false .i64 (gv k s).rs, .int false .i64 (gv k s).n], .bool false (gv k s).ok]
noncomputable def g26 : List SV → Heap → Option R
  | [.int _ .i64 op, .agg [.int _ .i64 sh, .str c, .int _ .i64 m, .bool _ tu, .int _ .i64 w, .bool _ im, .bool _ ah], .str s], [] =>
    some ⟨[decide (1 ≤ op), decide (op ≤ 46), decide (sh = nth shapes 0 (op - 1).toNat), decide (c = nth codes .empty (op - 1).toNat), decide (m = nth mids 0 (op - 1).toNat), decide (tu = nth turns false (op - 1).toNat),
      decide (w = nth ws 0 (op - 1).toNat), decide (im = nth imms false (op - 1).toNat), decide (ah = nth aheads false (op - 1).toNat)], gvT op s, []⟩
  | _, _ => none

theorem fn26 : Tryz.prog.funcs[83]? = some Tryz.f83 := by kernel_rfl
theorem b26 : Tryz.f83.body = some (bodyOf Tryz.f83) := by kernel_rfl
theorem n26 : (Tryz.f83.name == "runtime.NumGoroutine") = false := by kernel_rfl

attribute [local irreducible] evalF Lf.gives gv in
theorem spec26 : SpecOk Tryz.prog 83 (specOf g26) := spec_okB false mixed fn26 b26 n26 g26 fun a0 H0 r hg hn => by
  unfold g26 at hg
  split at hg
  · rename_i _ op _ sh c _ m _ tu _ w _ im _ ah s
    simp only [Option.some.injEq] at hg
    subst hg
    simp only [allB, Bool.and_true, Bool.and_eq_true, decide_eq_true_eq] at hn
    obtain ⟨h1, h2, rfl, rfl, rfl, rfl, rfl, rfl, rfl⟩ := hn
    obtain ⟨hq, p, hg⟩ := gv_ok op s h1 h2
    refine ⟨E26 p, [.int true .i64 op, formC op, .str s], e26_calls p, loops_noLoop (e26_loop p) _ _, fun _ => by simp [formC, SV.alL, SV.al], fun σ => by simp only [denL, den, formC], gives_giv hg⟩
  · cases hg

end Go.X
end

section
set_option linter.unusedVariables false
open Go Go.Ev Go.Proofs
namespace Go.X

theorem toList_loop (bs : ByteArray) (n : Nat) : ∀ i r, bs.size - i = n → ByteArray.toList.loop bs i r = r.reverse ++ bs.data.toList.drop i := by
  induction n with
  | zero =>
    intro i r h
    rw [ByteArray.toList.loop, if_neg (by omega)]
    rw [List.drop_eq_nil_of_le (by simp; have : bs.data.size = bs.size := rfl; omega), List.append_nil]
  | succ n ih =>
    intro i r h
    rw [ByteArray.toList.loop, if_pos (by omega), ih (i + 1) _ (by omega)]
    have hi : i < bs.data.toList.length := by simp; have : bs.data.size = bs.size := rfl; omega
    rw [List.drop_eq_getElem_cons hi]
    have e : bs.get! i = bs.data.toList[i] := by
      have hs : i < bs.data.size := by simpa using hi
      rw [Array.getElem_toList]
      exact getElem!_pos bs.data i hs
    rw [e]
    simp

theorem toList_data (s : ByteArray) : s.toList = s.data.toList := by
  unfold ByteArray.toList
  rw [toList_loop s s.size 0 [] (by omega)]
  simp

theorem seq_iff (s t : ByteArray) : seq s t = true ↔ s = t := by
  unfold seq
  rw [toList_data, toList_data, beq_iff_eq]
  constructor
  · intro h
    exact ByteArray.ext (Array.toList_inj.1 h)
  · rintro rfl
    rfl
theorem seq_eq (s t : ByteArray) : seq s t = decide (s = t) := by
  by_cases h : s = t
  · rw [decide_eq_true h]; exact (seq_iff s t).2 h
  · rw [decide_eq_false h]
    cases hb : seq s t with
    | false => rfl
    | true => exact absurd ((seq_iff s t).1 hb) h

theorem S_size (l : List Int) : (S l).size = l.length := by simp [S, ByteArray.size]
def bytesOk (l : List Int) : Prop := ∀ b, b ∈ l → 0 ≤ b ∧ b < 256
theorem S_chr {l : List Int} (h : bytesOk l) (j : Nat) (hj : j < l.length) : chr (S l) j = l.getD j 0 := by
  unfold chr S
  have hb := h l[j] (List.getElem_mem hj)
  simp [Array.getD_eq_getD_getElem?, List.getD, hj]
  omega

theorem ba_ext {s t : ByteArray} (hs : s.size = t.size) (h : ∀ j, j < s.size → chr s j = chr t j) : s = t := by
  apply ByteArray.ext
  apply Array.ext
  · exact hs
  · intro i h1 h2
    have := h i h1
    unfold chr at this
    rw [Array.getD_eq_getD_getElem?, Array.getElem?_eq_getElem h1, Array.getD_eq_getD_getElem?, Array.getElem?_eq_getElem h2] at this
    simp only [Option.getD_some] at this
    exact UInt8.toNat_inj.1 (by omega)

/-- to begin with some bytes -/
theorem starts_iff {s : ByteArray} {l : List Int} (h : bytesOk l) : starts s l ↔ (S l).size ≤ s.size ∧ s.extract 0 (S l).size = S l := by
  constructor
  · rintro ⟨h1, h2⟩
    rw [S_size]
    refine ⟨h1, ba_ext ?_ fun j hj => ?_⟩
    · rw [S_size, ByteArray.size_extract]; omega
    · rw [ByteArray.size_extract] at hj
      rw [chr_extract s 0 l.length j h1 (by omega), Nat.zero_add, h2 j (by omega), S_chr h j (by omega)]
  · rintro ⟨h1, h2⟩
    rw [S_size] at h1 h2
    refine ⟨h1, fun j hj => ?_⟩
    rw [← S_chr h j hj, ← h2, chr_extract s 0 l.length j h1 (by omega), Nat.zero_add]

theorem rexI_rng {w m l : Int} (hw : w = 4 ∨ w = 8) : 0 ≤ rexI w m l ∧ rexI w m l < 256 := by
  unfold rexI
  cases cm .eql w 8 <;> cases cm .geq m 8 <;> cases cm .geq l 8 <;> simp
theorem modI_rng {d m l : Int} (hd : d = 192 ∨ d = 128) : 0 ≤ modI d m l ∧ modI d m l < 256 := by
  unfold modI
  rcases hd with rfl | rfl <;> omega
theorem tail_rng {n : Int} {m : Nat} {b : Int} (h : b ∈ tailL n m) : 0 ≤ b ∧ b < 256 := by
  simp only [tailL, List.mem_map] at h
  obtain ⟨j, _, rfl⟩ := h
  exact bat_range n j

theorem bok_cons {x : Int} {l : List Int} (h : 0 ≤ x ∧ x < 256) (hl : bytesOk l) : bytesOk (x :: l) := by
  intro b hb
  rcases List.mem_cons.1 hb with rfl | hb
  · exact h
  · exact hl b hb
theorem bok_app {l m : List Int} (hl : bytesOk l) (hm : bytesOk m) : bytesOk (l ++ m) := by
  intro b hb
  rcases List.mem_append.1 hb with hb | hb
  · exact hl b hb
  · exact hm b hb
theorem bok_nil : bytesOk [] := fun b hb => by cases hb
theorem bok_tail (n : Int) (m : Nat) : bytesOk (tailL n m) := fun b hb => tail_rng hb
theorem bok_code (k : Int) : bytesOk (codeL k) := by
  intro b hb
  simp only [codeL, List.mem_map] at hb
  obtain ⟨x, _, rfl⟩ := hb
  have := x.toNat_lt
  omega

theorem enc_rng {k w rd rs n : Int} (he : errX k w rd rs n = 0) : bytesOk (encL k w rd rs n) := by
  obtain ⟨h1, h2⟩ := err_op he
  obtain ⟨hw, _, hn, _⟩ := err_ok he
  obtain ⟨⟨s0, s1⟩, ⟨m0, m1⟩, t34, t7, t10, t11, _⟩ := tabs h1 h2
  have hr : ∀ m l, 0 ≤ rexI w m l ∧ rexI w m l < 256 := fun _ _ => rexI_rng hw
  have hm : ∀ d m l, d = 192 ∨ d = 128 → 0 ≤ modI d m l ∧ modI d m l < 256 := fun _ _ _ h => modI_rng h
  unfold encL
  unfold namedX at hn
  by_cases k0 : shX k = 0
  · simp only [if_pos k0]
    cases nth turns false (k - 1).toNat <;> exact bok_cons (hr _ _) (bok_app (bok_code k) (bok_cons (hm _ _ _ (.inl rfl)) (bok_tail _ _)))
  by_cases k1 : shX k = 1
  · simp only [if_neg k0, if_pos k1]
    exact bok_cons (hr _ _) (bok_app (bok_code k) (bok_cons (hm _ _ _ (.inl rfl)) (bok_tail _ _)))
  by_cases k2 : shX k = 2
  · simp only [if_neg k0, if_neg k1, if_pos k2]
    refine bok_app ?_ (bok_cons (hr _ _) (bok_app (bok_code k) (bok_cons (hm _ _ _ (.inr rfl)) (bok_tail _ _))))
    cases nth aheads false (k - 1).toNat
    · exact bok_nil
    · exact bok_cons (by decide) bok_nil
  by_cases k34 : shX k = 3 ∨ shX k = 4
  · obtain ⟨c, hc, e⟩ := t34 k34
    simp only [if_neg k0, if_neg k1, if_neg k2, if_pos k34, e, lastL]
    simp only [List.mem_cons, List.not_mem_nil, or_false] at hc
    exact bok_cons (hr _ _) (bok_app (bok_cons (by omega) bok_nil) (bok_tail _ _))
  by_cases k6 : shX k = 6
  · simp only [if_neg k0, if_neg k1, if_neg k2, if_neg k34, if_pos k6]
    exact bok_cons (hr _ _) (bok_app (bok_code k) (bok_tail _ _))
  by_cases k7 : shX k = 7
  · simp [k7, t7 k7, lastL] at hn ⊢
    have := cond_small hn.2.2
    simp only [small] at this
    exact bok_cons (hr _ _) (bok_cons (by decide) (bok_cons (by omega) (bok_cons (hm _ _ _ (.inl rfl)) (bok_tail _ _))))
  by_cases kc : shX k = 10 ∨ shX k = 11
  · simp only [if_neg k0, if_neg k1, if_neg k2, if_neg (show ¬ shX k = 3 by omega), if_neg (show ¬ shX k = 4 by omega), if_neg k6, if_neg k7, if_neg (show ¬ (shX k = 8 ∨ shX k = 9) by omega), if_neg k34, if_pos kc, Bool.and_eq_true] at hn ⊢
    have := cond_small hn.1
    simp only [small] at this
    refine bok_app ?_ (bok_tail _ _)
    rcases kc with q | q
    · rw [t10 q]; exact bok_cons (by decide) (bok_cons (by omega) bok_nil)
    · rw [t11 q]; exact bok_cons (by omega) bok_nil
  · simp only [if_neg k0, if_neg k1, if_neg k2, if_neg k34, if_neg k6, if_neg k7, if_neg kc]
    exact bok_app (bok_code k) (bok_tail _ _)

theorem hit_iff {k w rd rs n : Int} {s : ByteArray} (he : errX k w rd rs n = 0) (hn : inI n) : DX k s w rd rs n ↔ (strX k w rd rs n).size ≤ s.size ∧ s.extract 0 (strX k w rd rs n).size = strX k w rd rs n := by
  rw [strX_ok he, ← starts_iff (enc_rng he)]
  exact ⟨fun h => h.2.2, fun h => ⟨he, hn, h⟩⟩

/-- what both Decodes say: the first op that has an instruction whose bytes stand there -/
structure DV where
  o : Int
  w : Int
  rd : Int
  rs : Int
  n : Int
  len : Int
  ok : Bool
def hitX (k : Int) (s : ByteArray) : Prop := ∃ w rd rs n, DX k s w rd rs n
theorem dx_unique {k : Int} {s : ByteArray} (h1 : 1 ≤ k) (h2 : k ≤ 46) {w rd rs n w' rd' rs' n' : Int} (h : DX k s w rd rs n) (h' : DX k s w' rd' rs' n') : w = w' ∧ rd = rd' ∧ rs = rs' ∧ n = n' := by
  obtain ⟨⟨_, hq⟩, _⟩ := gv_ok k s h1 h2
  obtain ⟨_, a1, a2, a3, a4⟩ := hq _ _ _ _ h
  obtain ⟨_, b1, b2, b3, b4⟩ := hq _ _ _ _ h'
  exact ⟨a1 ▸ b1, a2 ▸ b2, a3 ▸ b3, a4 ▸ b4⟩
def isDec (s : ByteArray) (v : DV) : Prop := 1 ≤ v.o ∧ v.o ≤ 46 ∧ DX v.o s v.w v.rd v.rs v.n ∧ v.len = ((strX v.o v.w v.rd v.rs v.n).size : Int) ∧ v.ok = true ∧ ∀ j, 1 ≤ j → j < v.o → ¬ hitX j s
theorem isDec_unique {s : ByteArray} {v v' : DV} (h : isDec s v) (h' : isDec s v') : v = v' := by
  obtain ⟨a1, a2, a3, a4, a5, a6⟩ := h
  obtain ⟨b1, b2, b3, b4, b5, b6⟩ := h'
  have ho : v.o = v'.o := by
    by_cases hlt : v.o < v'.o
    · exact absurd ⟨_, _, _, _, a3⟩ (b6 v.o a1 hlt)
    · by_cases hgt : v'.o < v.o
      · exact absurd ⟨_, _, _, _, b3⟩ (a6 v'.o b1 hgt)
      · omega
  obtain ⟨o, w, rd, rs, n, len, ok⟩ := v
  obtain ⟨o', w', rd', rs', n', len', ok'⟩ := v'
  simp only at *
  subst ho
  obtain ⟨rfl, rfl, rfl, rfl⟩ := dx_unique a1 a2 a3 b3
  subst a4 b4 a5 b5
  rfl
open Classical in
noncomputable def decX (s : ByteArray) : DV := if h : ∃ v, isDec s v then Classical.choose h else ⟨0, 0, 0, 0, 0, 0, false⟩
theorem decX_is {s : ByteArray} {v : DV} (h : isDec s v) : decX s = v := by
  have hx : ∃ v, isDec s v := ⟨v, h⟩
  unfold decX
  rw [dif_pos hx]
  exact isDec_unique (Classical.choose_spec hx) h
theorem decX_none {s : ByteArray} (h : ∀ j, 1 ≤ j → j ≤ 46 → ¬ hitX j s) : decX s = ⟨0, 0, 0, 0, 0, 0, false⟩ := by
  unfold decX
  rw [dif_neg]
  rintro ⟨v, h1, h2, h3, _⟩
  exact h v.o h1 h2 ⟨_, _, _, _, h3⟩
/-- there is one, or there is none -/
theorem decX_cases (s : ByteArray) : isDec s (decX s) ∨ (decX s = ⟨0, 0, 0, 0, 0, 0, false⟩ ∧ ∀ j, 1 ≤ j → j ≤ 46 → ¬ hitX j s) := by
  by_cases h : ∃ v, isDec s v
  · obtain ⟨v, hv⟩ := h
    exact .inl (decX_is hv ▸ hv)
  · right
    have hn : ∀ j : Nat, ∀ i : Int, 1 ≤ i → i ≤ 46 → i ≤ j → ¬ hitX i s := by
      intro j
      induction j with
      | zero => intro i h1 _ h3; omega
      | succ j ih =>
        intro i h1 h2 h3 hh
        by_cases hi : i ≤ j
        · exact ih i h1 h2 hi hh
        · obtain ⟨w, rd, rs, n, hd⟩ := hh
          exact h ⟨⟨i, w, rd, rs, n, ((strX i w rd rs n).size : Int), true⟩, h1, h2, hd, rfl, rfl, fun q q1 (q2 : q < i) => ih q q1 (by omega) (by omega)⟩
    have hn' : ∀ j, 1 ≤ j → j ≤ 46 → ¬ hitX j s := fun j h1 h2 => hn 46 j h1 h2 h2
    exact ⟨decX_none hn', hn'⟩

end Go.X
end

section
set_option linter.unusedVariables false
open Go Go.Ev Go.Proofs
namespace Go.X

/-- two columns are the same -/
noncomputable def eqC {α : Type} (a b : Nat → α) : Bool := @decide (a = b) (Classical.propDecidable _)
theorem eqC_spec {α : Type} {a b : Nat → α} (h : eqC a b = true) : a = b := @of_decide_eq_true _ (Classical.propDecidable _) h
theorem eqC_self {α : Type} (a : Nat → α) : eqC a a = true := @decide_eq_true _ (Classical.propDecidable _) rfl

noncomputable def E10 : Env := inlA Tryz.prog (envOf [(83, specOf g26), (82, specOf g13), (84, specOf g7)] noLoop) [85, 112] [] 2
theorem e10_calls : CallsOk E10 Tryz.prog := (inlA_calls ((SpecsOk.cons spec26 (SpecsOk.cons ok13 (SpecsOk.cons spec7 SpecsOk.nil))).calls noLoop) mixed named27 namedNil 2).1
theorem e10_loop : E10.loop = noLoop := rfl
def v10 (s : ByteArray) (k : Int) : List SV := [.str s, .ptr 1024 0 0, .sl 1072 46, .int false .i64 46, .int false .i64 k]
def z5 : Blk := .cells [.int false .i64 0, .int false .i64 0, .int false .i64 0, .int false .i64 0, .int false .i64 0]
def h10 : Heap := [(1024, z5), (1072, .tab 46 cols true)]
def lk10 : Lp := ⟨45, [0, 2, 11, 12, 13], 2000, fun _ _ => none⟩
noncomputable def decT (s : ByteArray) : SV := .tup [.agg [.int false .i64 (decX s).o, .int false .i64 (decX s).w, .int false .i64 (decX s).rd, .int false .i64 (decX s).rs, .int false .i64 (decX s).n], .int false .i64 (decX s).len, .int false .i64 (bif (decX s).ok then 0 else 11)]
noncomputable def get10 : List SV → Heap → Option Tr
  | [.str s, .ptr k1 r1 p1, .sl k2 m2, .int _ .i64 N, .int _ .i64 k], [(j1, .cells [.int _ .i64 a0, .int _ .i64 a1, .int _ .i64 a2, .int _ .i64 a3, .int _ .i64 a4]), (j2, .tab n2 [.ints .i64 c0, .strs c1, .ints .i64 c2, .bools c3, .ints .i64 c4, .bools c5, .bools c6] rw)] =>
    match rw with
    | true => some (Tr.needs [Nat.beq k1 1024, Nat.beq r1 0, Nat.beq p1 0, Nat.beq k2 1072, Nat.beq m2 46, decide (N = 46), decide (k = 0), Nat.beq j1 1024, Nat.beq j2 1072, Nat.beq n2 46,
        decide (a0 = 0), decide (a1 = 0), decide (a2 = 0), decide (a3 = 0), decide (a4 = 0), eqC c0 (nth shapes 0), eqC c1 (nth codes .empty), eqC c2 (nth mids 0), eqC c3 (nth turns false), eqC c4 (nth ws 0), eqC c5 (nth imms false), eqC c6 (nth aheads false)]
        (.node (decX s).ok (.ret (decT s) []) (exitT lk10 0 [.any, .ptr 1024 0 0, .any, .any, .any] [(1024, z5)])))
    | false => none
  | _, _ => none
noncomputable def lp10 : Lp := { lk10 with get := get10 }
noncomputable def E10L : Env := ⟨E10.call, loopEnv [(0, lp10)]⟩

theorem r10 (s : ByteArray) (k : Int) : (evalB E10 Tryz.prog Tryz.f72.results.toList (loopOf Tryz.f72 0) 1 lp10 (v10 s k) h10).view [0, 2, 11, 12, 13] =
    (bif (cm .lss k 46) then
 bif (decide (0 ≤ k)) then
 bif (decide (k < 46)) then
 bif (Nat.blt (k.toNat) (46)) then
 bif (Nat.blt (k.toNat) (46)) then
 bif (decide (1 ≤ ar .add .i64 1 k)) then
 bif (decide (ar .add .i64 1 k ≤ 46)) then
 bif (decide (nth shapes 0 k.toNat = nth shapes 0 (ar .add .i64 1 k - 1).toNat)) then
 bif (decide (nth codes ByteArray.empty k.toNat = nth codes ByteArray.empty (ar .add .i64 1 k - 1).toNat)) then
 bif (decide (nth mids 0 k.toNat = nth mids 0 (ar .add .i64 1 k - 1).toNat)) then
 bif (decide (nth turns false k.toNat = nth turns false (ar .add .i64 1 k - 1).toNat)) then
 bif (decide (nth ws 0 k.toNat = nth ws 0 (ar .add .i64 1 k - 1).toNat)) then
 bif (decide (nth imms false k.toNat = nth imms false (ar .add .i64 1 k - 1).toNat)) then
 bif (decide (nth aheads false k.toNat = nth aheads false (ar .add .i64 1 k - 1).toNat)) then
 bif (!(gv (ar .add .i64 1 k) s).ok) then
 .norm 45 [.str (s), .ptr 1024 0 0, .sl 1072 46, .int false .i64 46, .int false .i64 (ar .add .i64 k 1)] [(1024, .cells [.int false .i64 0, .int false .i64 0, .int false .i64 0, .int false .i64 0, .int false .i64 0]), (1072, .tab 46 [.ints .i64 (nth shapes 0), .strs (nth codes ByteArray.empty), .ints .i64 (nth mids 0), .bools (nth turns false), .ints .i64 (nth ws 0), .bools (nth imms false), .bools (nth aheads false)] true), (2064, .cells [.int false .i64 (nth shapes 0 k.toNat), .str (nth codes ByteArray.empty k.toNat), .int false .i64 (nth mids 0 k.toNat), .bool false (nth turns false k.toNat), .int false .i64 (nth ws 0 k.toNat), .bool false (nth imms false k.toNat), .bool false (nth aheads false k.toNat)]), (2240, .cells [.int false .i64 ((gv (ar .add .i64 1 k) s).o), .int false .i64 ((gv (ar .add .i64 1 k) s).w), .int false .i64 ((gv (ar .add .i64 1 k) s).rd), .int false .i64 ((gv (ar .add .i64 1 k) s).rs), .int false .i64 ((gv (ar .add .i64 1 k) s).n)])]
 else
 bif (bif cm .eql (errX (gv (ar .add .i64 1 k) s).o (gv (ar .add .i64 1 k) s).w (gv (ar .add .i64 1 k) s).rd (gv (ar .add .i64 1 k) s).rs (gv (ar .add .i64 1 k) s).n) 0 then allB [bif cm .geq (↑s.size : Int) (↑(strX (gv (ar .add .i64 1 k) s).o (gv (ar .add .i64 1 k) s).w (gv (ar .add .i64 1 k) s).rd (gv (ar .add .i64 1 k) s).rs (gv (ar .add .i64 1 k) s).n).size : Int) then allB [decide (0 ≤ (↑(strX (gv (ar .add .i64 1 k) s).o (gv (ar .add .i64 1 k) s).w (gv (ar .add .i64 1 k) s).rd (gv (ar .add .i64 1 k) s).rs (gv (ar .add .i64 1 k) s).n).size : Int)), (↑(strX (gv (ar .add .i64 1 k) s).o (gv (ar .add .i64 1 k) s).w (gv (ar .add .i64 1 k) s).rd (gv (ar .add .i64 1 k) s).rs (gv (ar .add .i64 1 k) s).n).size : Int).toNat.ble s.size] else true] else true) then
 bif (bif cm .eql (errX (gv (ar .add .i64 1 k) s).o (gv (ar .add .i64 1 k) s).w (gv (ar .add .i64 1 k) s).rd (gv (ar .add .i64 1 k) s).rs (gv (ar .add .i64 1 k) s).n) 0 then bif cm .geq (↑s.size : Int) (↑(strX (gv (ar .add .i64 1 k) s).o (gv (ar .add .i64 1 k) s).w (gv (ar .add .i64 1 k) s).rd (gv (ar .add .i64 1 k) s).rs (gv (ar .add .i64 1 k) s).n).size : Int) then seq (s.extract 0 (↑(strX (gv (ar .add .i64 1 k) s).o (gv (ar .add .i64 1 k) s).w (gv (ar .add .i64 1 k) s).rd (gv (ar .add .i64 1 k) s).rs (gv (ar .add .i64 1 k) s).n).size : Int).toNat) (strX (gv (ar .add .i64 1 k) s).o (gv (ar .add .i64 1 k) s).w (gv (ar .add .i64 1 k) s).rd (gv (ar .add .i64 1 k) s).rs (gv (ar .add .i64 1 k) s).n) else false else false) then
 .ret (.tup [.agg [.int false .i64 ((gv (ar .add .i64 1 k) s).o), .int false .i64 ((gv (ar .add .i64 1 k) s).w), .int false .i64 ((gv (ar .add .i64 1 k) s).rd), .int false .i64 ((gv (ar .add .i64 1 k) s).rs), .int false .i64 ((gv (ar .add .i64 1 k) s).n)], (.int false .i64 ((↑(strX (gv (ar .add .i64 1 k) s).o (gv (ar .add .i64 1 k) s).w (gv (ar .add .i64 1 k) s).rd (gv (ar .add .i64 1 k) s).rs (gv (ar .add .i64 1 k) s).n).size : Int))), .int true .i64 0]) [(1024, .cells [.int false .i64 ((gv (ar .add .i64 1 k) s).o), .int false .i64 ((gv (ar .add .i64 1 k) s).w), .int false .i64 ((gv (ar .add .i64 1 k) s).rd), .int false .i64 ((gv (ar .add .i64 1 k) s).rs), .int false .i64 ((gv (ar .add .i64 1 k) s).n)]), (1072, .tab 46 [.ints .i64 (nth shapes 0), .strs (nth codes ByteArray.empty), .ints .i64 (nth mids 0), .bools (nth turns false), .ints .i64 (nth ws 0), .bools (nth imms false), .bools (nth aheads false)] true), (2064, .cells [.int false .i64 (nth shapes 0 k.toNat), .str (nth codes ByteArray.empty k.toNat), .int false .i64 (nth mids 0 k.toNat), .bool false (nth turns false k.toNat), .int false .i64 (nth ws 0 k.toNat), .bool false (nth imms false k.toNat), .bool false (nth aheads false k.toNat)]), (2240, .cells [.int false .i64 ((gv (ar .add .i64 1 k) s).o), .int false .i64 ((gv (ar .add .i64 1 k) s).w), .int false .i64 ((gv (ar .add .i64 1 k) s).rd), .int false .i64 ((gv (ar .add .i64 1 k) s).rs), .int false .i64 ((gv (ar .add .i64 1 k) s).n)])]
 else
 .norm 45 [.str (s), .ptr 1024 0 0, .sl 1072 46, .int false .i64 46, .int false .i64 (ar .add .i64 k 1)] [(1024, .cells [.int false .i64 0, .int false .i64 0, .int false .i64 0, .int false .i64 0, .int false .i64 0]), (1072, .tab 46 [.ints .i64 (nth shapes 0), .strs (nth codes ByteArray.empty), .ints .i64 (nth mids 0), .bools (nth turns false), .ints .i64 (nth ws 0), .bools (nth imms false), .bools (nth aheads false)] true), (2064, .cells [.int false .i64 (nth shapes 0 k.toNat), .str (nth codes ByteArray.empty k.toNat), .int false .i64 (nth mids 0 k.toNat), .bool false (nth turns false k.toNat), .int false .i64 (nth ws 0 k.toNat), .bool false (nth imms false k.toNat), .bool false (nth aheads false k.toNat)]), (2240, .cells [.int false .i64 ((gv (ar .add .i64 1 k) s).o), .int false .i64 ((gv (ar .add .i64 1 k) s).w), .int false .i64 ((gv (ar .add .i64 1 k) s).rd), .int false .i64 ((gv (ar .add .i64 1 k) s).rs), .int false .i64 ((gv (ar .add .i64 1 k) s).n)])]
 else .bad
 else .bad
 else .bad
 else .bad
 else .bad
 else .bad
 else .bad
 else .bad
 else .bad
 else .bad
 else .bad
 else .bad
 else .bad
 else .bad
 else
 .exit 0 45 [.str (s), .ptr 1024 0 0, .sl 1072 46, .int false .i64 46, .int false .i64 (k)] [(1024, .cells [.int false .i64 0, .int false .i64 0, .int false .i64 0, .int false .i64 0, .int false .i64 0]), (1072, .tab 46 [.ints .i64 (nth shapes 0), .strs (nth codes ByteArray.empty), .ints .i64 (nth mids 0), .bools (nth turns false), .ints .i64 (nth ws 0), .bools (nth imms false), .bools (nth aheads false)] true)]) := by kernel_rfl

theorem t10 (s : ByteArray) : (evalF E10L Tryz.prog 72 [.str s] [] 1024).bare =
    (bif (eqC (nth shapes 0) (nth shapes 0)) then
 bif (eqC (nth codes ByteArray.empty) (nth codes ByteArray.empty)) then
 bif (eqC (nth mids 0) (nth mids 0)) then
 bif (eqC (nth turns false) (nth turns false)) then
 bif (eqC (nth ws 0) (nth ws 0)) then
 bif (eqC (nth imms false) (nth imms false)) then
 bif (eqC (nth aheads false) (nth aheads false)) then
 bif ((decX s).ok) then
 .ret (.tup [.agg [.int false .i64 ((decX s).o), .int false .i64 ((decX s).w), .int false .i64 ((decX s).rd), .int false .i64 ((decX s).rs), .int false .i64 ((decX s).n)], .int false .i64 ((decX s).len), .int false .i64 (bif (decX s).ok then 0 else 11)]) []
 else
 .ret (.tup [.agg [.int true .i64 0, .int true .i64 0, .int true .i64 0, .int true .i64 0, .int true .i64 0], .int true .i64 0, .int true .i64 11]) []
 else .bad
 else .bad
 else .bad
 else .bad
 else .bad
 else .bad
 else .bad) := by kernel_rfl

end Go.X
end
