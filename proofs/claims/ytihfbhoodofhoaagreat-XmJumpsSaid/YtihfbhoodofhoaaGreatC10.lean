/-
  xm: whether a condition holds: both sides.
-/
import Derived.Test.YtihfbhoodofhoaaGreatC8
import Derived.Test.YtihfbhoodofhoaaGreatB9
set_option linter.unusedSimpArgs false
set_option linter.unusedVariables false
set_option linter.unusedVariables false
open Go Go.Ev Go.Proofs
namespace Go.Rv

/-- a machine that is read alone -/
def hR (m : M) : Heap := [(0, .ro (cpuL m 1 2 3 4)), (1, .tab 16 [.ints .i64 m.X] false), (2, .tab 196608 [.ints .u8 m.mem] false), (3, .tab m.nI [.ints .i64 m.inp] false), (4, .tab m.nO [.ints .i64 m.out] false)]
theorem unF_read {H : Heap} {nn : List Bool} {m : M} (h : unF false false false H = some (nn, m)) (hn : allB nn = true) : roH [] H = hR m := by
  unfold unF at h
  split at h
  · split at h
    · rename_i hr hb
      simp only [Option.some.injEq, Prod.mk.injEq] at h
      obtain ⟨rfl, rfl⟩ := h
      simp only [Bool.and_eq_true, Nat.beq_eq] at hb
      obtain ⟨rfl, rfl, rfl, rfl, rfl, rfl, rfl, rfl, rfl, rfl, rfl, rfl, rfl⟩ := hb
      simp only [allB, Bool.and_true, Bool.and_eq_true, Nat.beq_eq] at hn
      obtain ⟨rfl, rfl⟩ := hn
      rfl
    · cases h
  · cases h

/-- a condition, by its number -/
def holdB (m : M) (n : Int) : Bool :=
  bif cm .eql (ar .quo .i64 n 2) 1 then (m.cf == cm .eql (ar .rem .i64 n 2) 0)
  else bif cm .eql (ar .quo .i64 n 2) 2 then (m.zf == cm .eql (ar .rem .i64 n 2) 0)
  else bif cm .eql (ar .quo .i64 n 2) 3 then ((bif m.cf then true else m.zf) == cm .eql (ar .rem .i64 n 2) 0)
  else bif cm .eql (ar .quo .i64 n 2) 6 then ((!m.sf == m.of_) == cm .eql (ar .rem .i64 n 2) 0)
  else bif cm .eql (ar .quo .i64 n 2) 7 then ((bif m.zf then true else !m.sf == m.of_) == cm .eql (ar .rem .i64 n 2) 0)
  else (false == cm .eql (ar .rem .i64 n 2) 0)
def holdD (m : M) (n : Int) : Bool :=
  bif cm .eql (ar .andNot .i64 n 1) 2 then (!m.cf == cm .eql (ar .and .i64 n 1) 1)
  else bif cm .eql (ar .andNot .i64 n 1) 4 then (!m.zf == cm .eql (ar .and .i64 n 1) 1)
  else bif cm .eql (ar .andNot .i64 n 1) 6 then (!(bif m.cf then true else m.zf) == cm .eql (ar .and .i64 n 1) 1)
  else bif cm .eql (ar .andNot .i64 n 1) 12 then (!(!m.sf == m.of_) == cm .eql (ar .and .i64 n 1) 1)
  else bif cm .eql (ar .andNot .i64 n 1) 14 then (!(bif m.zf then true else !m.sf == m.of_) == cm .eql (ar .and .i64 n 1) 1)
  else (!false == cm .eql (ar .and .i64 n 1) 1)
def flagM (zf sf cf of_ : Bool) : M := ⟨0, zf, sf, cf, of_, 0, 0, fun _ => 0, fun _ => 0, 0, fun _ => 0, 0, fun _ => 0⟩
theorem hold_chk : ((List.range 16).all fun i => [true, false].all fun zf => [true, false].all fun sf => [true, false].all fun cf => [true, false].all fun o => holdD (flagM zf sf cf o) (Int.ofNat i) == holdB (flagM zf sf cf o) (Int.ofNat i)) = true := by kernel_rfl
theorem holdD_eq (m : M) {n : Int} (h0 : 0 ≤ n) (h1 : n ≤ 15) : holdD m n = holdB m n := by
  have hb : ∀ b : Bool, b ∈ [true, false] := by intro b; cases b <;> simp
  have := List.all_eq_true.1 (List.all_eq_true.1 (List.all_eq_true.1 (List.all_eq_true.1 (List.all_eq_true.1 hold_chk n.toNat (List.mem_range.2 (by omega))) m.zf (hb _)) m.sf (hb _)) m.cf (hb _)) m.of_ (hb _)
  rw [show Int.ofNat n.toNat = n by simp only [Int.ofNat_eq_natCast]; omega] at this
  exact (beq_iff_eq.1 this : holdD (flagM m.zf m.sf m.cf m.of_) n = holdB (flagM m.zf m.sf m.cf m.of_) n)

theorem fn88 : Tryz.prog.funcs[88]? = some Tryz.f88 := by kernel_rfl
theorem b88 : Tryz.f88.body = some (bodyOf Tryz.f88) := by kernel_rfl
theorem n88 : (Tryz.f88.name == "runtime.NumGoroutine") = false := by kernel_rfl
def bL (b : Bool) : Lf := .ret (.bool false b) []
theorem t88 (m : M) (n : Int) : (evalF EN Tryz.prog 88 [.ptr 0 0 0, .int false .i64 n] (hR m) 1024).bare =
    (bif cm .eql (ar .andNot .i64 n 1) 2 then bL (!m.cf == cm .eql (ar .and .i64 n 1) 1)
  else bif cm .eql (ar .andNot .i64 n 1) 4 then bL (!m.zf == cm .eql (ar .and .i64 n 1) 1)
  else bif cm .eql (ar .andNot .i64 n 1) 6 then bL (!(bif m.cf then true else m.zf) == cm .eql (ar .and .i64 n 1) 1)
  else bif cm .eql (ar .andNot .i64 n 1) 12 then bL (!(!m.sf == m.of_) == cm .eql (ar .and .i64 n 1) 1)
  else bif cm .eql (ar .andNot .i64 n 1) 14 then bL (!(bif m.zf then true else !m.sf == m.of_) == cm .eql (ar .and .i64 n 1) 1)
  else bL (!false == cm .eql (ar .and .i64 n 1) 1)) := by kernel_rfl
theorem fn33 : Tryz.prog.funcs[33]? = some Tryz.f33 := by kernel_rfl
theorem b33 : Tryz.f33.body = some (bodyOf Tryz.f33) := by kernel_rfl
theorem n33 : (Tryz.f33.name == "runtime.NumGoroutine") = false := by kernel_rfl
/-- handed over by value -/
def hV (m : M) : Heap := [(0, .tab 16 [.ints .i64 m.X] false), (1, .tab 196608 [.ints .u8 m.mem] false), (2, .tab m.nI [.ints .i64 m.inp] false), (3, .tab m.nO [.ints .i64 m.out] false)]
theorem t33 (m : M) (n : Int) : (evalF EN Tryz.prog 33 [.agg (cpuL m 0 1 2 3), .int false .i64 n] (hV m) 1024).bare =
    (bif cm .eql (ar .quo .i64 n 2) 1 then bL (m.cf == cm .eql (ar .rem .i64 n 2) 0)
  else bif cm .eql (ar .quo .i64 n 2) 2 then bL (m.zf == cm .eql (ar .rem .i64 n 2) 0)
  else bif cm .eql (ar .quo .i64 n 2) 3 then bL ((bif m.cf then true else m.zf) == cm .eql (ar .rem .i64 n 2) 0)
  else bif cm .eql (ar .quo .i64 n 2) 6 then bL ((!m.sf == m.of_) == cm .eql (ar .rem .i64 n 2) 0)
  else bif cm .eql (ar .quo .i64 n 2) 7 then bL ((bif m.zf then true else !m.sf == m.of_) == cm .eql (ar .rem .i64 n 2) 0)
  else bL (false == cm .eql (ar .rem .i64 n 2) 0)) := by kernel_rfl
theorem bL_cond (c a b : Bool) : (bif c then bL a else bL b) = bL (bif c then a else b) := by cases c <;> rfl
theorem bL_gives (b : Bool) : (bL b).gives (.bool false b) := fun σ σ' => rfl

def g88 : List SV → Heap → Option R
  | [.ptr k0 r0 c0, .int _ .i64 n], H => match unF false false false H, Nat.beq k0 0 && (Nat.beq r0 0 && Nat.beq c0 0) with
    | some (nn, m), true => some ⟨decide (0 ≤ n) :: decide (n ≤ 15) :: nn, .bool false (holdB m n), []⟩
    | _, _ => none
  | _, _ => none
attribute [local irreducible] evalF Lf.gives in
theorem spec88 : SpecOk Tryz.prog 88 (specOf g88) := spec_okA false en_calls mixed fn88 b88 n88 (loops_noLoop en_loop _ _) g88 fun a0 H0 r hg hn => by
  unfold g88 at hg
  split at hg
  · rename_i k0 r0 c0 _ n
    split at hg
    · rename_i nn m hm hk
      simp only [Bool.and_eq_true, Nat.beq_eq] at hk
      obtain ⟨rfl, rfl, rfl⟩ := hk
      simp only [Option.some.injEq] at hg
      subst hg
      simp only [allB, Bool.and_eq_true, decide_eq_true_eq] at hn
      obtain ⟨h0, h8, hnn⟩ := hn
      refine ⟨[.ptr 0 0 0, .int false .i64 n], fun _ => by simp [SV.alL, SV.al, lt, base], fun σ => by simp only [denL, den], ?_⟩
      rw [show namesH (⟨decide (0 ≤ n) :: decide (n ≤ 15) :: nn, .bool false (holdB m n), []⟩ : R).upd = [] from rfl, unF_read hm hnn]
      refine gives_giv (gives_tree (t88 m n) ?_)
      simp only [bL_cond]
      rw [← holdD_eq m h0 h8]
      exact bL_gives _
    · cases hg
  · cases hg

def unV : List SV → Heap → Option (List Bool × M)
  | [.int _ .i64 pc, .sl k1 n1, .bool _ zf, .bool _ sf, .bool _ cf, .bool _ of_, .sl k2 n2, .sl k3 n3, .sl k4 n4, .int _ .i64 kind, .int _ .i64 code], [(j1, .tab t1 [.ints .i64 X] _), (j2, .tab t2 [.ints .u8 mem] _), (j3, .tab t3 [.ints .i64 inp] _), (j4, .tab t4 [.ints .i64 out] _)] =>
    match Nat.beq j1 0 && (Nat.beq j2 1 && (Nat.beq j3 2 && (Nat.beq j4 3 && (Nat.beq k1 0 && (Nat.beq k2 1 && (Nat.beq k3 2 && (Nat.beq k4 3 && (Nat.beq n1 16 && (Nat.beq n2 196608 && (Nat.beq t1 16 && Nat.beq t2 196608)))))))))) with
    | true => some ([Nat.beq t3 n3, Nat.beq t4 n4], ⟨pc, zf, sf, cf, of_, kind, code, X, mem, n3, inp, n4, out⟩)
    | _ => none
  | _, _ => none
theorem unV_read {l : List SV} {H : Heap} {nn : List Bool} {m : M} (h : unV l H = some (nn, m)) (hn : allB nn = true) : roH [] H = hV m ∧ ∀ σ, denL σ (cpuL m 0 1 2 3) = denL σ l := by
  unfold unV at h
  split at h
  · split at h
    · rename_i hb
      simp only [Option.some.injEq, Prod.mk.injEq] at h
      obtain ⟨rfl, rfl⟩ := h
      simp only [Bool.and_eq_true, Nat.beq_eq] at hb
      obtain ⟨rfl, rfl, rfl, rfl, rfl, rfl, rfl, rfl, rfl, rfl, rfl, rfl⟩ := hb
      simp only [allB, Bool.and_true, Bool.and_eq_true, Nat.beq_eq] at hn
      obtain ⟨rfl, rfl⟩ := hn
      exact ⟨rfl, fun σ => by simp only [cpuL, denL, den]⟩
    · cases h
  · cases h
def g33 : List SV → Heap → Option R
  | [.agg l, .int _ .i64 n], H => match unV l H with
    | some (nn, m) => some ⟨nn, .bool false (holdB m n), []⟩
    | _ => none
  | _, _ => none
attribute [local irreducible] evalF Lf.gives in
theorem spec33 : SpecOk Tryz.prog 33 (specOf g33) := spec_okA false en_calls mixed fn33 b33 n33 (loops_noLoop en_loop _ _) g33 fun a0 H0 r hg hn => by
  unfold g33 at hg
  split at hg
  · rename_i l _ n
    split at hg
    · rename_i nn m hm
      simp only [Option.some.injEq] at hg
      subst hg
      obtain ⟨h1, h2⟩ := unV_read hm hn
      refine ⟨[.agg (cpuL m 0 1 2 3), .int false .i64 n], fun _ => by simp [SV.alL, SV.al, cpuL, lt, base], fun σ => by simp only [denL, den, h2], ?_⟩
      rw [show namesH (⟨nn, .bool false (holdB m n), []⟩ : R).upd = [] from rfl, h1]
      refine gives_giv (gives_tree (t33 m n) ?_)
      simp only [bL_cond]
      exact bL_gives _
    · cases hg
  · cases hg

end Go.Rv
