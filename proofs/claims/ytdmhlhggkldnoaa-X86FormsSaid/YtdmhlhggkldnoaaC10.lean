/-
  x86: the reference's number; what it asks of the first bytes.
-/
import Derived.Test.YtdmhlhggkldnoaaC9
set_option linter.unusedSimpArgs false
set_option linter.unusedVariables false
section
set_option linter.unusedVariables false
open Go Go.Ev Go.Proofs
namespace Go.X

attribute [local irreducible] evalF Lf.gives numD numU in
theorem spec44u : SpecOk Try.prog 44 (specOf g42) := spec_okA false e44_calls mixed fn44 b44 n44 loops44 g42 fun a0 H0 r hg hn => by
  unfold g42 at hg
  split at hg
  · rename_i s
    simp only [Option.some.injEq] at hg
    subst hg
    simp only [allB, Bool.and_true, Nat.ble_eq] at hn
    refine ⟨_, id, fun _ => rfl, gives_giv (gives_tree (t44 s) ?_)⟩
    have e2 : Nat.ble s.size 8 = true := by rw [Nat.ble_eq]; exact hn
    simp only [decide_true, e2, low8 hn, cond_true, numD_eq s hn]
    exact gives_int
  · cases hg

/-- begins -/
def bgX (at_ : Nat) (s b : ByteArray) (kd : Int) : Bool :=
  bif decide (kd = 114) || (decide (kd = 113) || (decide (kd = 110) || decide (kd = 109))) then decide (at_ + b.size < s.size) && decide (s.extract (at_ + 1) (at_ + 1 + b.size) = b)
  else bif decide (kd = 115) then decide (1 < s.size) && decide (chr s 1 = 15)
  else bif decide (kd = 98) then decide (1 < s.size) && decide (ar .and .u8 (chr s 1) 248 = chr b 0)
  else bif decide (kd = 120) then decide (1 < s.size) && decide (chr s 1 = 153)
  else bif decide (kd = 99) then decide (b.size ≤ s.size) && decide (ar .and .u8 (chr s (b.size - 1)) 240 = chr b (b.size - 1))
  else decide (b.size ≤ s.size) && decide (s.extract 0 b.size = b)

noncomputable def E28 : Env := inlA Try.prog (envOf [] noLoop) [] [] 1
theorem e28_calls : CallsOk E28 Try.prog := (inlA_calls (SpecsOk.nil.calls noLoop) mixed namedNil namedNil 1).1
theorem e28_loop : E28.loop = noLoop := rfl
theorem fn28 : Try.prog.funcs[28]? = some Try.f28 := by kernel_rfl
theorem b28 : Try.f28.body = some (bodyOf Try.f28) := by kernel_rfl
theorem n28 : (Try.f28.name == "runtime.NumGoroutine") = false := by kernel_rfl

theorem t28 (s : ByteArray) (b : ByteArray) (kd : Int) (m : Int) (w : Int) (im : Int) : (evalF E28 Try.prog 28 [SV.str s, SV.agg [SV.int false IntKind.u8 kd, SV.str b, SV.int false IntKind.i64 m, SV.int false IntKind.i64 w, SV.int false IntKind.i64 im, SV.bool true false]] [] 1024).bare =
    (bif (cm BinOp.eql kd 114) then
      bif (bif cm BinOp.gtr (↑s.size : Int) (ar BinOp.add IntKind.i64 0 (↑b.size : Int)) then allB [true, decide (0 ≤ ar BinOp.add IntKind.i64 1 (↑b.size : Int)), Nat.ble 1 (ar BinOp.add IntKind.i64 1 (↑b.size : Int)).toNat, (ar BinOp.add IntKind.i64 1 (↑b.size : Int)).toNat.ble s.size] else true) then
        .ret (.bool false (bif cm BinOp.gtr (↑s.size : Int) (ar BinOp.add IntKind.i64 0 (↑b.size : Int)) then seq (s.extract 1 (ar BinOp.add IntKind.i64 1 (↑b.size : Int)).toNat) b else false)) []
      else .bad
    else
      bif (cm BinOp.eql kd 113) then
        bif (bif cm BinOp.gtr (↑s.size : Int) (ar BinOp.add IntKind.i64 0 (↑b.size : Int)) then allB [true, decide (0 ≤ ar BinOp.add IntKind.i64 1 (↑b.size : Int)), Nat.ble 1 (ar BinOp.add IntKind.i64 1 (↑b.size : Int)).toNat, (ar BinOp.add IntKind.i64 1 (↑b.size : Int)).toNat.ble s.size] else true) then
          .ret (.bool false (bif cm BinOp.gtr (↑s.size : Int) (ar BinOp.add IntKind.i64 0 (↑b.size : Int)) then seq (s.extract 1 (ar BinOp.add IntKind.i64 1 (↑b.size : Int)).toNat) b else false)) []
        else .bad
      else
        bif (cm BinOp.eql kd 110) then
          bif (bif cm BinOp.gtr (↑s.size : Int) (ar BinOp.add IntKind.i64 0 (↑b.size : Int)) then allB [true, decide (0 ≤ ar BinOp.add IntKind.i64 1 (↑b.size : Int)), Nat.ble 1 (ar BinOp.add IntKind.i64 1 (↑b.size : Int)).toNat, (ar BinOp.add IntKind.i64 1 (↑b.size : Int)).toNat.ble s.size] else true) then
            .ret (.bool false (bif cm BinOp.gtr (↑s.size : Int) (ar BinOp.add IntKind.i64 0 (↑b.size : Int)) then seq (s.extract 1 (ar BinOp.add IntKind.i64 1 (↑b.size : Int)).toNat) b else false)) []
          else .bad
        else
          bif (cm BinOp.eql kd 109) then
            bif (bif cm BinOp.gtr (↑s.size : Int) (ar BinOp.add IntKind.i64 0 (↑b.size : Int)) then allB [true, decide (0 ≤ ar BinOp.add IntKind.i64 1 (↑b.size : Int)), Nat.ble 1 (ar BinOp.add IntKind.i64 1 (↑b.size : Int)).toNat, (ar BinOp.add IntKind.i64 1 (↑b.size : Int)).toNat.ble s.size] else true) then
              .ret (.bool false (bif cm BinOp.gtr (↑s.size : Int) (ar BinOp.add IntKind.i64 0 (↑b.size : Int)) then seq (s.extract 1 (ar BinOp.add IntKind.i64 1 (↑b.size : Int)).toNat) b else false)) []
            else .bad
          else
            bif (cm BinOp.eql kd 115) then
              bif (bif cm BinOp.gtr (↑s.size : Int) 1 then allB [true, Nat.blt 1 s.size] else true) then
                .ret (.bool false (bif cm BinOp.gtr (↑s.size : Int) 1 then cm BinOp.eql (chr s 1) 15 else false)) []
              else .bad
            else
              bif (cm BinOp.eql kd 98) then
                bif (bif cm BinOp.gtr (↑s.size : Int) 1 then allB [true, Nat.blt 1 s.size, true, Nat.blt 0 b.size] else true) then
                  .ret (.bool false (bif cm BinOp.gtr (↑s.size : Int) 1 then cm BinOp.eql (ar BinOp.and IntKind.u8 (chr s 1) 248) (chr b 0) else false)) []
                else .bad
              else
                bif (cm BinOp.eql kd 120) then
                  bif (bif cm BinOp.gtr (↑s.size : Int) 1 then allB [true, Nat.blt 1 s.size] else true) then
                    .ret (.bool false (bif cm BinOp.gtr (↑s.size : Int) 1 then cm BinOp.eql (chr s 1) 153 else false)) []
                  else .bad
                else
                  bif (cm BinOp.eql kd 99) then
                    bif (bif cm BinOp.geq (↑s.size : Int) (↑b.size : Int) then allB [decide (0 ≤ ar BinOp.sub IntKind.i64 (↑b.size : Int) 1), (ar BinOp.sub IntKind.i64 (↑b.size : Int) 1).toNat.blt s.size, decide (0 ≤ ar BinOp.sub IntKind.i64 (↑b.size : Int) 1), (ar BinOp.sub IntKind.i64 (↑b.size : Int) 1).toNat.blt b.size] else true) then
                      .ret (.bool false (bif cm BinOp.geq (↑s.size : Int) (↑b.size : Int) then cm BinOp.eql (ar BinOp.and IntKind.u8 (chr s (ar BinOp.sub IntKind.i64 (↑b.size : Int) 1).toNat) 240) (chr b (ar BinOp.sub IntKind.i64 (↑b.size : Int) 1).toNat) else false)) []
                    else .bad
                  else
                    bif (bif cm BinOp.geq (↑s.size : Int) (↑b.size : Int) then allB [decide (0 ≤ (↑b.size : Int)), (↑b.size : Int).toNat.ble s.size] else true) then
                      .ret (.bool false (bif cm BinOp.geq (↑s.size : Int) (↑b.size : Int) then seq (s.extract 0 (↑b.size : Int).toNat) b else false)) []
                    else .bad) := by kernel_rfl

theorem t28a (s : ByteArray) (b : ByteArray) (kd : Int) (m : Int) (w : Int) (im : Int) : (evalF E28 Try.prog 28 [SV.str s, SV.agg [SV.int false IntKind.u8 kd, SV.str b, SV.int false IntKind.i64 m, SV.int false IntKind.i64 w, SV.int false IntKind.i64 im, SV.bool true true]] [] 1024).bare =
    (bif (cm BinOp.eql kd 114) then
      bif (bif cm BinOp.gtr (↑s.size : Int) (ar BinOp.add IntKind.i64 1 (↑b.size : Int)) then allB [true, decide (0 ≤ ar BinOp.add IntKind.i64 2 (↑b.size : Int)), Nat.ble 2 (ar BinOp.add IntKind.i64 2 (↑b.size : Int)).toNat, (ar BinOp.add IntKind.i64 2 (↑b.size : Int)).toNat.ble s.size] else true) then
        .ret (.bool false (bif cm BinOp.gtr (↑s.size : Int) (ar BinOp.add IntKind.i64 1 (↑b.size : Int)) then seq (s.extract 2 (ar BinOp.add IntKind.i64 2 (↑b.size : Int)).toNat) b else false)) []
      else .bad
    else
      bif (cm BinOp.eql kd 113) then
        bif (bif cm BinOp.gtr (↑s.size : Int) (ar BinOp.add IntKind.i64 1 (↑b.size : Int)) then allB [true, decide (0 ≤ ar BinOp.add IntKind.i64 2 (↑b.size : Int)), Nat.ble 2 (ar BinOp.add IntKind.i64 2 (↑b.size : Int)).toNat, (ar BinOp.add IntKind.i64 2 (↑b.size : Int)).toNat.ble s.size] else true) then
          .ret (.bool false (bif cm BinOp.gtr (↑s.size : Int) (ar BinOp.add IntKind.i64 1 (↑b.size : Int)) then seq (s.extract 2 (ar BinOp.add IntKind.i64 2 (↑b.size : Int)).toNat) b else false)) []
        else .bad
      else
        bif (cm BinOp.eql kd 110) then
          bif (bif cm BinOp.gtr (↑s.size : Int) (ar BinOp.add IntKind.i64 1 (↑b.size : Int)) then allB [true, decide (0 ≤ ar BinOp.add IntKind.i64 2 (↑b.size : Int)), Nat.ble 2 (ar BinOp.add IntKind.i64 2 (↑b.size : Int)).toNat, (ar BinOp.add IntKind.i64 2 (↑b.size : Int)).toNat.ble s.size] else true) then
            .ret (.bool false (bif cm BinOp.gtr (↑s.size : Int) (ar BinOp.add IntKind.i64 1 (↑b.size : Int)) then seq (s.extract 2 (ar BinOp.add IntKind.i64 2 (↑b.size : Int)).toNat) b else false)) []
          else .bad
        else
          bif (cm BinOp.eql kd 109) then
            bif (bif cm BinOp.gtr (↑s.size : Int) (ar BinOp.add IntKind.i64 1 (↑b.size : Int)) then allB [true, decide (0 ≤ ar BinOp.add IntKind.i64 2 (↑b.size : Int)), Nat.ble 2 (ar BinOp.add IntKind.i64 2 (↑b.size : Int)).toNat, (ar BinOp.add IntKind.i64 2 (↑b.size : Int)).toNat.ble s.size] else true) then
              .ret (.bool false (bif cm BinOp.gtr (↑s.size : Int) (ar BinOp.add IntKind.i64 1 (↑b.size : Int)) then seq (s.extract 2 (ar BinOp.add IntKind.i64 2 (↑b.size : Int)).toNat) b else false)) []
            else .bad
          else
            bif (cm BinOp.eql kd 115) then
              bif (bif cm BinOp.gtr (↑s.size : Int) 1 then allB [true, Nat.blt 1 s.size] else true) then
                .ret (.bool false (bif cm BinOp.gtr (↑s.size : Int) 1 then cm BinOp.eql (chr s 1) 15 else false)) []
              else .bad
            else
              bif (cm BinOp.eql kd 98) then
                bif (bif cm BinOp.gtr (↑s.size : Int) 1 then allB [true, Nat.blt 1 s.size, true, Nat.blt 0 b.size] else true) then
                  .ret (.bool false (bif cm BinOp.gtr (↑s.size : Int) 1 then cm BinOp.eql (ar BinOp.and IntKind.u8 (chr s 1) 248) (chr b 0) else false)) []
                else .bad
              else
                bif (cm BinOp.eql kd 120) then
                  bif (bif cm BinOp.gtr (↑s.size : Int) 1 then allB [true, Nat.blt 1 s.size] else true) then
                    .ret (.bool false (bif cm BinOp.gtr (↑s.size : Int) 1 then cm BinOp.eql (chr s 1) 153 else false)) []
                  else .bad
                else
                  bif (cm BinOp.eql kd 99) then
                    bif (bif cm BinOp.geq (↑s.size : Int) (↑b.size : Int) then allB [decide (0 ≤ ar BinOp.sub IntKind.i64 (↑b.size : Int) 1), (ar BinOp.sub IntKind.i64 (↑b.size : Int) 1).toNat.blt s.size, decide (0 ≤ ar BinOp.sub IntKind.i64 (↑b.size : Int) 1), (ar BinOp.sub IntKind.i64 (↑b.size : Int) 1).toNat.blt b.size] else true) then
                      .ret (.bool false (bif cm BinOp.geq (↑s.size : Int) (↑b.size : Int) then cm BinOp.eql (ar BinOp.and IntKind.u8 (chr s (ar BinOp.sub IntKind.i64 (↑b.size : Int) 1).toNat) 240) (chr b (ar BinOp.sub IntKind.i64 (↑b.size : Int) 1).toNat) else false)) []
                    else .bad
                  else
                    bif (bif cm BinOp.geq (↑s.size : Int) (↑b.size : Int) then allB [decide (0 ≤ (↑b.size : Int)), (↑b.size : Int).toNat.ble s.size] else true) then
                      .ret (.bool false (bif cm BinOp.geq (↑s.size : Int) (↑b.size : Int) then seq (s.extract 0 (↑b.size : Int).toNat) b else false)) []
                    else .bad) := by kernel_rfl

def g28 : List SV → Heap → Option R
  | [.str s, .agg [.int _ .u8 kd, .str b, .int _ .i64 m, .int _ .i64 w, .int _ .i64 im, .bool _ pre]], [] =>
    some ⟨[Nat.ble b.size 100, decide (1 ≤ b.size) || (!decide (kd = 98) && !decide (kd = 99))], .bool false (bgX (bif pre then 1 else 0) s b kd), []⟩
  | _, _ => none

theorem gives_bool {l b c : Bool} {H : Heap} (h : b = c) : (Lf.ret (.bool l b) H).gives (.bool false c) := by subst h; exact fun σ σ' => rfl
theorem add0 {n : Nat} (h : n ≤ 100) : ar .add .i64 0 (n : Int) = (n : Int) := by simp only [ar, IntKind.wrap_i64]; omega
theorem add1 {n : Nat} (h : n ≤ 100) : ar .add .i64 1 (n : Int) = ((1 + n : Nat) : Int) := by simp only [ar, IntKind.wrap_i64]; omega
theorem add2 {n : Nat} (h : n ≤ 100) : ar .add .i64 2 (n : Int) = ((2 + n : Nat) : Int) := by simp only [ar, IntKind.wrap_i64]; omega
theorem sub1 {n : Nat} (h : n ≤ 100) : ar .sub .i64 (n : Int) 1 = (n : Int) - 1 := by simp only [ar, IntKind.wrap_i64]; omega

/-- a test, and what it needs -/
theorem gives_need {c p : Bool} {need : Bool} {x : Bool} (h : c = true → need = true) (hx : (bif c then p else false) = x) : (bif (bif c then need else true) then Lf.ret (.bool false (bif c then p else false)) [] else .bad).gives (.bool false x) := by
  cases c with
  | true => rw [cond_true, h rfl, cond_true]; exact gives_bool hx
  | false => rw [cond_false, cond_true]; exact gives_bool hx

attribute [local irreducible] evalF Lf.gives in
theorem spec28 : SpecOk Try.prog 28 (specOf g28) := spec_okA false e28_calls mixed fn28 b28 n28 (loops_noLoop e28_loop _ _) g28 fun a0 H0 r hg hn => by
  unfold g28 at hg
  split at hg
  · rename_i s _ kd b _ m _ w _ im _ pre
    simp only [Option.some.injEq] at hg
    subst hg
    simp only [allB, Bool.and_true, Bool.and_eq_true, Nat.ble_eq, Bool.or_eq_true, decide_eq_true_eq, Bool.not_eq_true', decide_eq_false_iff_not] at hn
    obtain ⟨hb, hb1⟩ := hn
    have z1 : ((1 : Int) < (s.size : Int)) = (1 < s.size) := propext (by omega)
    have z2 : ((b.size : Int) + 1 < (s.size : Int)) = (b.size + 1 < s.size) := propext (by omega)
    refine ⟨[.str s, .agg [.int false .u8 kd, .str b, .int false .i64 m, .int false .i64 w, .int false .i64 im, .bool true pre]], fun _ => by simp [SV.alL, SV.al], fun σ => by simp only [denL, den], gives_giv ?_⟩
    cases pre with
    | false =>
      refine gives_tree (t28 s b kd m w im) ?_
      simp only [cm_eql', add0 hb, add1 hb, sub1 hb, cm_gtr', cm_geq', Int.toNat_natCast, seq_eq, nble, nblt]
      by_cases k114 : kd = 114
      · subst k114
        exact gives_need (fun h => by simp [allB] at h hb1 ⊢; try omega) (by simp [bgX, Nat.add_comm, z1, z2])
      by_cases k113 : kd = 113
      · subst k113
        exact gives_need (fun h => by simp [allB] at h hb1 ⊢; try omega) (by simp [bgX, Nat.add_comm, z1, z2])
      by_cases k110 : kd = 110
      · subst k110
        exact gives_need (fun h => by simp [allB] at h hb1 ⊢; try omega) (by simp [bgX, Nat.add_comm, z1, z2])
      by_cases k109 : kd = 109
      · subst k109
        exact gives_need (fun h => by simp [allB] at h hb1 ⊢; try omega) (by simp [bgX, Nat.add_comm, z1, z2])
      by_cases k115 : kd = 115
      · subst k115
        exact gives_need (fun h => by simp [allB] at h hb1 ⊢; try omega) (by simp [bgX, Nat.add_comm, z1, z2])
      by_cases k98 : kd = 98
      · subst k98
        exact gives_need (fun h => by simp [allB] at h hb1 ⊢; try omega) (by simp [bgX, Nat.add_comm, z1, z2])
      by_cases k120 : kd = 120
      · subst k120
        exact gives_need (fun h => by simp [allB] at h hb1 ⊢; try omega) (by simp [bgX, Nat.add_comm, z1, z2])
      by_cases k99 : kd = 99
      · subst k99
        exact gives_need (fun h => by simp [allB] at h hb1 ⊢; try omega) (by simp [bgX, Nat.add_comm, z1, z2])
      simp only [decide_eq_false k114, decide_eq_false k113, decide_eq_false k110, decide_eq_false k109, decide_eq_false k115, decide_eq_false k98, decide_eq_false k120, decide_eq_false k99, cond_false]
      exact gives_need (fun h => by simp [allB] at h ⊢; try omega) (by simp [bgX, k114, k113, k110, k109, k115, k98, k120, k99]; try omega)
    | true =>
      refine gives_tree (t28a s b kd m w im) ?_
      simp only [cm_eql', add0 hb, add1 hb, add2 hb, sub1 hb, cm_gtr', cm_geq', Int.toNat_natCast, seq_eq, nble, nblt]
      by_cases k114 : kd = 114
      · subst k114
        exact gives_need (fun h => by simp [allB] at h hb1 ⊢; try omega) (by simp [bgX, Nat.add_comm, z1, z2])
      by_cases k113 : kd = 113
      · subst k113
        exact gives_need (fun h => by simp [allB] at h hb1 ⊢; try omega) (by simp [bgX, Nat.add_comm, z1, z2])
      by_cases k110 : kd = 110
      · subst k110
        exact gives_need (fun h => by simp [allB] at h hb1 ⊢; try omega) (by simp [bgX, Nat.add_comm, z1, z2])
      by_cases k109 : kd = 109
      · subst k109
        exact gives_need (fun h => by simp [allB] at h hb1 ⊢; try omega) (by simp [bgX, Nat.add_comm, z1, z2])
      by_cases k115 : kd = 115
      · subst k115
        exact gives_need (fun h => by simp [allB] at h hb1 ⊢; try omega) (by simp [bgX, Nat.add_comm, z1, z2])
      by_cases k98 : kd = 98
      · subst k98
        exact gives_need (fun h => by simp [allB] at h hb1 ⊢; try omega) (by simp [bgX, Nat.add_comm, z1, z2])
      by_cases k120 : kd = 120
      · subst k120
        exact gives_need (fun h => by simp [allB] at h hb1 ⊢; try omega) (by simp [bgX, Nat.add_comm, z1, z2])
      by_cases k99 : kd = 99
      · subst k99
        exact gives_need (fun h => by simp [allB] at h hb1 ⊢; try omega) (by simp [bgX, Nat.add_comm, z1, z2])
      simp only [decide_eq_false k114, decide_eq_false k113, decide_eq_false k110, decide_eq_false k109, decide_eq_false k115, decide_eq_false k98, decide_eq_false k120, decide_eq_false k99, cond_false]
      exact gives_need (fun h => by simp [allB] at h ⊢; try omega) (by simp [bgX, k114, k113, k110, k109, k115, k98, k120, k99]; try omega)
  · cases hg

end Go.X
end

section
set_option linter.unusedVariables false
open Go Go.Ev Go.Proofs
namespace Go.X

theorem rexQ_chk : ([(4 : Int), 8].all fun w => all16 fun m => all16 fun l => (ar .rem .i64 (conv .i64 (rexI w m l)) 2 == l / 8) && (ar .rem .i64 (ar .quo .i64 (conv .i64 (rexI w m l)) 4) 2 == m / 8)) = true := by kernel_rfl
theorem rexQ {w m l : Int} (hw : w = 4 ∨ w = 8) (hm : small m) (hl : small l) : ar .rem .i64 (conv .i64 (rexI w m l)) 2 = l / 8 ∧ ar .rem .i64 (ar .quo .i64 (conv .i64 (rexI w m l)) 4) 2 = m / 8 := by
  have := all16_spec (all16_spec (List.all_eq_true.1 rexQ_chk w (by rcases hw with rfl | rfl <;> simp)) hm) hl
  simpa using this
theorem modQ_chk : ([(192 : Int), 128].all fun d => all16 fun m => all16 fun l => (ar .rem .i64 (conv .i64 (modI d m l)) 8 == l % 8) && (ar .rem .i64 (ar .quo .i64 (conv .i64 (modI d m l)) 8) 8 == m % 8)) = true := by kernel_rfl
theorem modQ {d m l : Int} (hd : d = 192 ∨ d = 128) (hm : small m) (hl : small l) : ar .rem .i64 (conv .i64 (modI d m l)) 8 = l % 8 ∧ ar .rem .i64 (ar .quo .i64 (conv .i64 (modI d m l)) 8) 8 = m % 8 := by
  have := all16_spec (all16_spec (List.all_eq_true.1 modQ_chk d (by rcases hd with rfl | rfl <;> simp)) hm) hl
  simpa using this
theorem putQ_chk : (all16 fun m => ar .add .i64 (m % 8) (ar .mul .i64 8 (m / 8)) == m) = true := by kernel_rfl
theorem putQ {m : Int} (hm : small m) : ar .add .i64 (m % 8) (ar .mul .i64 8 (m / 8)) = m := by
  have := all16_spec putQ_chk hm
  simpa using this
theorem moreQ_chk : ([(184 : Int), 80, 88].all fun c => all16 fun m => ar .add .i64 (ar .rem .i64 (conv .i64 (c + m % 8)) 8) (ar .mul .i64 8 (m / 8)) == m) = true := by kernel_rfl
theorem moreQ {c m : Int} (hc : c ∈ [(184 : Int), 80, 88]) (hm : small m) : ar .add .i64 (ar .rem .i64 (conv .i64 (c + m % 8)) 8) (ar .mul .i64 8 (m / 8)) = m := by
  have := all16_spec (List.all_eq_true.1 moreQ_chk c hc) hm
  simpa using this
theorem condQ_chk : ([(128 : Int), 112].all fun c => all16 fun m => ar .rem .i64 (conv .i64 (c + m)) 16 == m) = true := by kernel_rfl
theorem condQ {c m : Int} (hc : c ∈ [(128 : Int), 112]) (hm : small m) : ar .rem .i64 (conv .i64 (c + m)) 16 = m := by
  have := all16_spec (List.all_eq_true.1 condQ_chk c hc) hm
  simpa using this

def cells5 (o w rd rs n : Int) : Blk := .cells [.int false .i64 o, .int false .i64 w, .int false .i64 rd, .int false .i64 rs, .int false .i64 n]
noncomputable def E29 : Env := inlA Try.prog (envOf [(44, specOf g42)] noLoop) [] [] 1
theorem e29_calls : CallsOk E29 Try.prog := (inlA_calls ((SpecsOk.cons spec44u SpecsOk.nil).calls noLoop) mixed namedNil namedNil 1).1
theorem e29_loop : E29.loop = noLoop := rfl

/-- what read says: how many bytes, and the fields -/
def Q29 (k : Int) (s : ByteArray) (w m rd rs n : Int) : Prop :=
  inI n ∧ 0 ≤ m ∧ m ≤ s.size ∧ ∀ rd' rs' n', DX k s w rd' rs' n' → m ≠ 0 ∧ m = ((strX k w rd' rs' n').size : Int) ∧ rd = rd' ∧ rs = rs' ∧ n = n'
def RPl (k : Int) (s : ByteArray) (w : Int) (l : Lf) : Prop := ∃ m rd rs n, Q29 k s w m rd rs n ∧ GivesD ⟨[], .int false .i64 m, [(0, cells5 k w rd rs n)]⟩ l
theorem RPl_cond {k : Int} {s : ByteArray} {w : Int} {b : Bool} {x y : Lf} (h1 : b = true → RPl k s w x) (h2 : b = false → RPl k s w y) : RPl k s w (bif b then x else y) := by
  cases b with
  | true => exact h1 rfl
  | false => exact h2 rfl
theorem RPl_ret {k : Int} {s : ByteArray} {w m rd rs n : Int} {a b c d e f : Bool} {H : Heap} (h : Q29 k s w m rd rs n) : RPl k s w (.ret (.int a .i64 m) ((0, .cells [.int b .i64 k, .int c .i64 w, .int d .i64 rd, .int e .i64 rs, .int f .i64 n]) :: H)) := by
  refine ⟨m, rd, rs, n, h, [], rfl, fun σ => by simp only [den], ⟨?_, trivial⟩, rfl⟩
  simp [rmap, rlook, Ev.look, cells5, wkB, simL, sim]
def RP (k : Int) (f : SV) : Prop := ∀ s w, RPl k s w (evalF E29 Try.prog 29 [.str s, f, .ptr 0 0 0] [(0, cells5 k w 0 0 0)] 1024).leaf
attribute [local irreducible] evalF in
theorem RP_of {k : Int} {s : ByteArray} {w : Int} {f : SV} {l : Lf} (h : (evalF E29 Try.prog 29 [.str s, f, .ptr 0 0 0] [(0, cells5 k w 0 0 0)] 1024).leaf = l) (hl : RPl k s w l) : RPl k s w (evalF E29 Try.prog 29 [.str s, f, .ptr 0 0 0] [(0, cells5 k w 0 0 0)] 1024).leaf := h ▸ hl

end Go.X
end

section
set_option linter.unusedVariables false
open Go Go.Ev Go.Proofs
namespace Go.X

theorem tr_1 (s : ByteArray) (w : Int) : (evalF E29 Try.prog 29 [.str s, .agg [.int true .u8 114, .str ⟨#[137]⟩, .int true .i64 0, .int true .i64 0, .int true .i64 0, .bool true false], .ptr 0 0 0] [(0, cells5 1 w 0 0 0)] 1024).leaf =
    (bif (cm .lss (↑s.size : Int) 3) then
 .ret (.int true .i64 0) [(0, .cells [.int false .i64 1, .int false .i64 (w), .int false .i64 0, .int false .i64 0, .int false .i64 0]), (1024, .cells [.int true .u8 114, .str ⟨#[137]⟩, .int true .i64 0, .int true .i64 0, .int true .i64 0, .bool true false])]
 else
 bif (Nat.blt (0) (s.size)) then
 bif (Nat.blt (2) (s.size)) then
 .ret (.int false .i64 3) [(0, .cells [.int false .i64 1, .int false .i64 (w), (.int false .i64 (ar .add .i64 (ar .rem .i64 (conv .i64 (chr s 2)) 8) (ar .mul .i64 8 (ar .rem .i64 (conv .i64 (chr s 0)) 2)))), (.int false .i64 (ar .add .i64 (ar .rem .i64 (ar .quo .i64 (conv .i64 (chr s 2)) 8) 8) (ar .mul .i64 8 (ar .rem .i64 (ar .quo .i64 (conv .i64 (chr s 0)) 4) 2)))), .int false .i64 0]), (1024, .cells [.int true .u8 114, .str ⟨#[137]⟩, .int true .i64 0, .int true .i64 0, .int true .i64 0, .bool true false])]
 else .bad
 else .bad) := by kernel_rfl

theorem tr_2 (s : ByteArray) (w : Int) : (evalF E29 Try.prog 29 [.str s, .agg [.int true .u8 110, .str ⟨#[199]⟩, .int true .i64 0, .int true .i64 8, .int true .i64 4, .bool true false], .ptr 0 0 0] [(0, cells5 2 w 0 0 0)] 1024).leaf =
    (bif (cm .lss (↑s.size : Int) 7) then
 .ret (.int true .i64 0) [(0, .cells [.int false .i64 2, .int false .i64 (w), .int false .i64 0, .int false .i64 0, .int false .i64 0]), (1024, .cells [.int true .u8 110, .str ⟨#[199]⟩, .int true .i64 0, .int true .i64 8, .int true .i64 4, .bool true false])]
 else
 bif (Nat.blt (0) (s.size)) then
 bif (Nat.blt (2) (s.size)) then
 bif (Nat.ble (7) (s.size)) then
 bif (Nat.ble ((s.extract 3 7).size) (8)) then
 .ret (.int false .i64 7) [(0, .cells [.int false .i64 2, .int false .i64 (w), (.int false .i64 (ar .add .i64 (ar .rem .i64 (conv .i64 (chr s 2)) 8) (ar .mul .i64 8 (ar .rem .i64 (conv .i64 (chr s 0)) 2)))), .int false .i64 0, .int false .i64 (numU (s.extract 3 7))]), (1024, .cells [.int true .u8 110, .str ⟨#[199]⟩, .int true .i64 0, .int true .i64 8, .int true .i64 4, .bool true false])]
 else .bad
 else .bad
 else .bad
 else .bad) := by kernel_rfl

theorem tr_3 (s : ByteArray) (w : Int) : (evalF E29 Try.prog 29 [.str s, .agg [.int true .u8 98, .str ⟨#[184]⟩, .int true .i64 0, .int true .i64 8, .int true .i64 8, .bool true false], .ptr 0 0 0] [(0, cells5 3 w 0 0 0)] 1024).leaf =
    (bif (cm .lss (↑s.size : Int) 10) then
 .ret (.int true .i64 0) [(0, .cells [.int false .i64 3, .int false .i64 (w), .int false .i64 0, .int false .i64 0, .int false .i64 0]), (1024, .cells [.int true .u8 98, .str ⟨#[184]⟩, .int true .i64 0, .int true .i64 8, .int true .i64 8, .bool true false])]
 else
 bif (Nat.blt (0) (s.size)) then
 bif (Nat.blt (1) (s.size)) then
 bif (Nat.blt (1) (s.size)) then
 bif (Nat.ble (10) (s.size)) then
 bif (Nat.ble ((s.extract 2 10).size) (8)) then
 .ret (.int true .i64 10) [(0, .cells [.int false .i64 3, .int false .i64 (w), (.int false .i64 (ar .add .i64 (ar .rem .i64 (conv .i64 (chr s 1)) 8) (ar .mul .i64 8 (ar .rem .i64 (conv .i64 (chr s 0)) 2)))), .int false .i64 0, .int false .i64 (numU (s.extract 2 10))]), (1024, .cells [.int true .u8 98, .str ⟨#[184]⟩, .int true .i64 0, .int true .i64 8, .int true .i64 8, .bool true false])]
 else .bad
 else .bad
 else .bad
 else .bad
 else .bad) := by kernel_rfl

theorem tr_4 (s : ByteArray) (w : Int) : (evalF E29 Try.prog 29 [.str s, .agg [.int true .u8 114, .str ⟨#[1]⟩, .int true .i64 0, .int true .i64 0, .int true .i64 0, .bool true false], .ptr 0 0 0] [(0, cells5 4 w 0 0 0)] 1024).leaf =
    (bif (cm .lss (↑s.size : Int) 3) then
 .ret (.int true .i64 0) [(0, .cells [.int false .i64 4, .int false .i64 (w), .int false .i64 0, .int false .i64 0, .int false .i64 0]), (1024, .cells [.int true .u8 114, .str ⟨#[1]⟩, .int true .i64 0, .int true .i64 0, .int true .i64 0, .bool true false])]
 else
 bif (Nat.blt (0) (s.size)) then
 bif (Nat.blt (2) (s.size)) then
 .ret (.int false .i64 3) [(0, .cells [.int false .i64 4, .int false .i64 (w), (.int false .i64 (ar .add .i64 (ar .rem .i64 (conv .i64 (chr s 2)) 8) (ar .mul .i64 8 (ar .rem .i64 (conv .i64 (chr s 0)) 2)))), (.int false .i64 (ar .add .i64 (ar .rem .i64 (ar .quo .i64 (conv .i64 (chr s 2)) 8) 8) (ar .mul .i64 8 (ar .rem .i64 (ar .quo .i64 (conv .i64 (chr s 0)) 4) 2)))), .int false .i64 0]), (1024, .cells [.int true .u8 114, .str ⟨#[1]⟩, .int true .i64 0, .int true .i64 0, .int true .i64 0, .bool true false])]
 else .bad
 else .bad) := by kernel_rfl

theorem tr_5 (s : ByteArray) (w : Int) : (evalF E29 Try.prog 29 [.str s, .agg [.int true .u8 114, .str ⟨#[41]⟩, .int true .i64 0, .int true .i64 0, .int true .i64 0, .bool true false], .ptr 0 0 0] [(0, cells5 5 w 0 0 0)] 1024).leaf =
    (bif (cm .lss (↑s.size : Int) 3) then
 .ret (.int true .i64 0) [(0, .cells [.int false .i64 5, .int false .i64 (w), .int false .i64 0, .int false .i64 0, .int false .i64 0]), (1024, .cells [.int true .u8 114, .str ⟨#[41]⟩, .int true .i64 0, .int true .i64 0, .int true .i64 0, .bool true false])]
 else
 bif (Nat.blt (0) (s.size)) then
 bif (Nat.blt (2) (s.size)) then
 .ret (.int false .i64 3) [(0, .cells [.int false .i64 5, .int false .i64 (w), (.int false .i64 (ar .add .i64 (ar .rem .i64 (conv .i64 (chr s 2)) 8) (ar .mul .i64 8 (ar .rem .i64 (conv .i64 (chr s 0)) 2)))), (.int false .i64 (ar .add .i64 (ar .rem .i64 (ar .quo .i64 (conv .i64 (chr s 2)) 8) 8) (ar .mul .i64 8 (ar .rem .i64 (ar .quo .i64 (conv .i64 (chr s 0)) 4) 2)))), .int false .i64 0]), (1024, .cells [.int true .u8 114, .str ⟨#[41]⟩, .int true .i64 0, .int true .i64 0, .int true .i64 0, .bool true false])]
 else .bad
 else .bad) := by kernel_rfl

theorem tr_6 (s : ByteArray) (w : Int) : (evalF E29 Try.prog 29 [.str s, .agg [.int true .u8 114, .str ⟨#[33]⟩, .int true .i64 0, .int true .i64 0, .int true .i64 0, .bool true false], .ptr 0 0 0] [(0, cells5 6 w 0 0 0)] 1024).leaf =
    (bif (cm .lss (↑s.size : Int) 3) then
 .ret (.int true .i64 0) [(0, .cells [.int false .i64 6, .int false .i64 (w), .int false .i64 0, .int false .i64 0, .int false .i64 0]), (1024, .cells [.int true .u8 114, .str ⟨#[33]⟩, .int true .i64 0, .int true .i64 0, .int true .i64 0, .bool true false])]
 else
 bif (Nat.blt (0) (s.size)) then
 bif (Nat.blt (2) (s.size)) then
 .ret (.int false .i64 3) [(0, .cells [.int false .i64 6, .int false .i64 (w), (.int false .i64 (ar .add .i64 (ar .rem .i64 (conv .i64 (chr s 2)) 8) (ar .mul .i64 8 (ar .rem .i64 (conv .i64 (chr s 0)) 2)))), (.int false .i64 (ar .add .i64 (ar .rem .i64 (ar .quo .i64 (conv .i64 (chr s 2)) 8) 8) (ar .mul .i64 8 (ar .rem .i64 (ar .quo .i64 (conv .i64 (chr s 0)) 4) 2)))), .int false .i64 0]), (1024, .cells [.int true .u8 114, .str ⟨#[33]⟩, .int true .i64 0, .int true .i64 0, .int true .i64 0, .bool true false])]
 else .bad
 else .bad) := by kernel_rfl

theorem tr_7 (s : ByteArray) (w : Int) : (evalF E29 Try.prog 29 [.str s, .agg [.int true .u8 114, .str ⟨#[9]⟩, .int true .i64 0, .int true .i64 0, .int true .i64 0, .bool true false], .ptr 0 0 0] [(0, cells5 7 w 0 0 0)] 1024).leaf =
    (bif (cm .lss (↑s.size : Int) 3) then
 .ret (.int true .i64 0) [(0, .cells [.int false .i64 7, .int false .i64 (w), .int false .i64 0, .int false .i64 0, .int false .i64 0]), (1024, .cells [.int true .u8 114, .str ⟨#[9]⟩, .int true .i64 0, .int true .i64 0, .int true .i64 0, .bool true false])]
 else
 bif (Nat.blt (0) (s.size)) then
 bif (Nat.blt (2) (s.size)) then
 .ret (.int false .i64 3) [(0, .cells [.int false .i64 7, .int false .i64 (w), (.int false .i64 (ar .add .i64 (ar .rem .i64 (conv .i64 (chr s 2)) 8) (ar .mul .i64 8 (ar .rem .i64 (conv .i64 (chr s 0)) 2)))), (.int false .i64 (ar .add .i64 (ar .rem .i64 (ar .quo .i64 (conv .i64 (chr s 2)) 8) 8) (ar .mul .i64 8 (ar .rem .i64 (ar .quo .i64 (conv .i64 (chr s 0)) 4) 2)))), .int false .i64 0]), (1024, .cells [.int true .u8 114, .str ⟨#[9]⟩, .int true .i64 0, .int true .i64 0, .int true .i64 0, .bool true false])]
 else .bad
 else .bad) := by kernel_rfl

theorem tr_8 (s : ByteArray) (w : Int) : (evalF E29 Try.prog 29 [.str s, .agg [.int true .u8 114, .str ⟨#[49]⟩, .int true .i64 0, .int true .i64 0, .int true .i64 0, .bool true false], .ptr 0 0 0] [(0, cells5 8 w 0 0 0)] 1024).leaf =
    (bif (cm .lss (↑s.size : Int) 3) then
 .ret (.int true .i64 0) [(0, .cells [.int false .i64 8, .int false .i64 (w), .int false .i64 0, .int false .i64 0, .int false .i64 0]), (1024, .cells [.int true .u8 114, .str ⟨#[49]⟩, .int true .i64 0, .int true .i64 0, .int true .i64 0, .bool true false])]
 else
 bif (Nat.blt (0) (s.size)) then
 bif (Nat.blt (2) (s.size)) then
 .ret (.int false .i64 3) [(0, .cells [.int false .i64 8, .int false .i64 (w), (.int false .i64 (ar .add .i64 (ar .rem .i64 (conv .i64 (chr s 2)) 8) (ar .mul .i64 8 (ar .rem .i64 (conv .i64 (chr s 0)) 2)))), (.int false .i64 (ar .add .i64 (ar .rem .i64 (ar .quo .i64 (conv .i64 (chr s 2)) 8) 8) (ar .mul .i64 8 (ar .rem .i64 (ar .quo .i64 (conv .i64 (chr s 0)) 4) 2)))), .int false .i64 0]), (1024, .cells [.int true .u8 114, .str ⟨#[49]⟩, .int true .i64 0, .int true .i64 0, .int true .i64 0, .bool true false])]
 else .bad
 else .bad) := by kernel_rfl

theorem tr_9 (s : ByteArray) (w : Int) : (evalF E29 Try.prog 29 [.str s, .agg [.int true .u8 114, .str ⟨#[57]⟩, .int true .i64 0, .int true .i64 0, .int true .i64 0, .bool true false], .ptr 0 0 0] [(0, cells5 9 w 0 0 0)] 1024).leaf =
    (bif (cm .lss (↑s.size : Int) 3) then
 .ret (.int true .i64 0) [(0, .cells [.int false .i64 9, .int false .i64 (w), .int false .i64 0, .int false .i64 0, .int false .i64 0]), (1024, .cells [.int true .u8 114, .str ⟨#[57]⟩, .int true .i64 0, .int true .i64 0, .int true .i64 0, .bool true false])]
 else
 bif (Nat.blt (0) (s.size)) then
 bif (Nat.blt (2) (s.size)) then
 .ret (.int false .i64 3) [(0, .cells [.int false .i64 9, .int false .i64 (w), (.int false .i64 (ar .add .i64 (ar .rem .i64 (conv .i64 (chr s 2)) 8) (ar .mul .i64 8 (ar .rem .i64 (conv .i64 (chr s 0)) 2)))), (.int false .i64 (ar .add .i64 (ar .rem .i64 (ar .quo .i64 (conv .i64 (chr s 2)) 8) 8) (ar .mul .i64 8 (ar .rem .i64 (ar .quo .i64 (conv .i64 (chr s 0)) 4) 2)))), .int false .i64 0]), (1024, .cells [.int true .u8 114, .str ⟨#[57]⟩, .int true .i64 0, .int true .i64 0, .int true .i64 0, .bool true false])]
 else .bad
 else .bad) := by kernel_rfl

theorem tr_10 (s : ByteArray) (w : Int) : (evalF E29 Try.prog 29 [.str s, .agg [.int true .u8 113, .str ⟨#[15, 175]⟩, .int true .i64 0, .int true .i64 0, .int true .i64 0, .bool true false], .ptr 0 0 0] [(0, cells5 10 w 0 0 0)] 1024).leaf =
    (bif (cm .lss (↑s.size : Int) 4) then
 .ret (.int true .i64 0) [(0, .cells [.int false .i64 10, .int false .i64 (w), .int false .i64 0, .int false .i64 0, .int false .i64 0]), (1024, .cells [.int true .u8 113, .str ⟨#[15, 175]⟩, .int true .i64 0, .int true .i64 0, .int true .i64 0, .bool true false])]
 else
 bif (Nat.blt (0) (s.size)) then
 bif (Nat.blt (3) (s.size)) then
 .ret (.int false .i64 4) [(0, .cells [.int false .i64 10, .int false .i64 (w), (.int false .i64 (ar .add .i64 (ar .rem .i64 (ar .quo .i64 (conv .i64 (chr s 3)) 8) 8) (ar .mul .i64 8 (ar .rem .i64 (ar .quo .i64 (conv .i64 (chr s 0)) 4) 2)))), (.int false .i64 (ar .add .i64 (ar .rem .i64 (conv .i64 (chr s 3)) 8) (ar .mul .i64 8 (ar .rem .i64 (conv .i64 (chr s 0)) 2)))), .int false .i64 0]), (1024, .cells [.int true .u8 113, .str ⟨#[15, 175]⟩, .int true .i64 0, .int true .i64 0, .int true .i64 0, .bool true false])]
 else .bad
 else .bad) := by kernel_rfl

theorem tr_11 (s : ByteArray) (w : Int) : (evalF E29 Try.prog 29 [.str s, .agg [.int true .u8 110, .str ⟨#[247]⟩, .int true .i64 3, .int true .i64 0, .int true .i64 0, .bool true false], .ptr 0 0 0] [(0, cells5 11 w 0 0 0)] 1024).leaf =
    (bif (cm .lss (↑s.size : Int) 3) then
 .ret (.int true .i64 0) [(0, .cells [.int false .i64 11, .int false .i64 (w), .int false .i64 0, .int false .i64 0, .int false .i64 0]), (1024, .cells [.int true .u8 110, .str ⟨#[247]⟩, .int true .i64 3, .int true .i64 0, .int true .i64 0, .bool true false])]
 else
 bif (Nat.blt (0) (s.size)) then
 bif (Nat.blt (2) (s.size)) then
 .ret (.int false .i64 3) [(0, .cells [.int false .i64 11, .int false .i64 (w), (.int false .i64 (ar .add .i64 (ar .rem .i64 (conv .i64 (chr s 2)) 8) (ar .mul .i64 8 (ar .rem .i64 (conv .i64 (chr s 0)) 2)))), .int false .i64 0, .int false .i64 0]), (1024, .cells [.int true .u8 110, .str ⟨#[247]⟩, .int true .i64 3, .int true .i64 0, .int true .i64 0, .bool true false])]
 else .bad
 else .bad) := by kernel_rfl

theorem tr_12 (s : ByteArray) (w : Int) : (evalF E29 Try.prog 29 [.str s, .agg [.int true .u8 110, .str ⟨#[247]⟩, .int true .i64 2, .int true .i64 0, .int true .i64 0, .bool true false], .ptr 0 0 0] [(0, cells5 12 w 0 0 0)] 1024).leaf =
    (bif (cm .lss (↑s.size : Int) 3) then
 .ret (.int true .i64 0) [(0, .cells [.int false .i64 12, .int false .i64 (w), .int false .i64 0, .int false .i64 0, .int false .i64 0]), (1024, .cells [.int true .u8 110, .str ⟨#[247]⟩, .int true .i64 2, .int true .i64 0, .int true .i64 0, .bool true false])]
 else
 bif (Nat.blt (0) (s.size)) then
 bif (Nat.blt (2) (s.size)) then
 .ret (.int false .i64 3) [(0, .cells [.int false .i64 12, .int false .i64 (w), (.int false .i64 (ar .add .i64 (ar .rem .i64 (conv .i64 (chr s 2)) 8) (ar .mul .i64 8 (ar .rem .i64 (conv .i64 (chr s 0)) 2)))), .int false .i64 0, .int false .i64 0]), (1024, .cells [.int true .u8 110, .str ⟨#[247]⟩, .int true .i64 2, .int true .i64 0, .int true .i64 0, .bool true false])]
 else .bad
 else .bad) := by kernel_rfl

theorem tr_13 (s : ByteArray) (w : Int) : (evalF E29 Try.prog 29 [.str s, .agg [.int true .u8 110, .str ⟨#[247]⟩, .int true .i64 7, .int true .i64 0, .int true .i64 0, .bool true false], .ptr 0 0 0] [(0, cells5 13 w 0 0 0)] 1024).leaf =
    (bif (cm .lss (↑s.size : Int) 3) then
 .ret (.int true .i64 0) [(0, .cells [.int false .i64 13, .int false .i64 (w), .int false .i64 0, .int false .i64 0, .int false .i64 0]), (1024, .cells [.int true .u8 110, .str ⟨#[247]⟩, .int true .i64 7, .int true .i64 0, .int true .i64 0, .bool true false])]
 else
 bif (Nat.blt (0) (s.size)) then
 bif (Nat.blt (2) (s.size)) then
 .ret (.int false .i64 3) [(0, .cells [.int false .i64 13, .int false .i64 (w), (.int false .i64 (ar .add .i64 (ar .rem .i64 (conv .i64 (chr s 2)) 8) (ar .mul .i64 8 (ar .rem .i64 (conv .i64 (chr s 0)) 2)))), .int false .i64 0, .int false .i64 0]), (1024, .cells [.int true .u8 110, .str ⟨#[247]⟩, .int true .i64 7, .int true .i64 0, .int true .i64 0, .bool true false])]
 else .bad
 else .bad) := by kernel_rfl

theorem tr_14 (s : ByteArray) (w : Int) : (evalF E29 Try.prog 29 [.str s, .agg [.int true .u8 110, .str ⟨#[247]⟩, .int true .i64 6, .int true .i64 0, .int true .i64 0, .bool true false], .ptr 0 0 0] [(0, cells5 14 w 0 0 0)] 1024).leaf =
    (bif (cm .lss (↑s.size : Int) 3) then
 .ret (.int true .i64 0) [(0, .cells [.int false .i64 14, .int false .i64 (w), .int false .i64 0, .int false .i64 0, .int false .i64 0]), (1024, .cells [.int true .u8 110, .str ⟨#[247]⟩, .int true .i64 6, .int true .i64 0, .int true .i64 0, .bool true false])]
 else
 bif (Nat.blt (0) (s.size)) then
 bif (Nat.blt (2) (s.size)) then
 .ret (.int false .i64 3) [(0, .cells [.int false .i64 14, .int false .i64 (w), (.int false .i64 (ar .add .i64 (ar .rem .i64 (conv .i64 (chr s 2)) 8) (ar .mul .i64 8 (ar .rem .i64 (conv .i64 (chr s 0)) 2)))), .int false .i64 0, .int false .i64 0]), (1024, .cells [.int true .u8 110, .str ⟨#[247]⟩, .int true .i64 6, .int true .i64 0, .int true .i64 0, .bool true false])]
 else .bad
 else .bad) := by kernel_rfl

theorem tr_15 (s : ByteArray) (w : Int) : (evalF E29 Try.prog 29 [.str s, .agg [.int true .u8 110, .str ⟨#[211]⟩, .int true .i64 4, .int true .i64 0, .int true .i64 0, .bool true false], .ptr 0 0 0] [(0, cells5 15 w 0 0 0)] 1024).leaf =
    (bif (cm .lss (↑s.size : Int) 3) then
 .ret (.int true .i64 0) [(0, .cells [.int false .i64 15, .int false .i64 (w), .int false .i64 0, .int false .i64 0, .int false .i64 0]), (1024, .cells [.int true .u8 110, .str ⟨#[211]⟩, .int true .i64 4, .int true .i64 0, .int true .i64 0, .bool true false])]
 else
 bif (Nat.blt (0) (s.size)) then
 bif (Nat.blt (2) (s.size)) then
 .ret (.int false .i64 3) [(0, .cells [.int false .i64 15, .int false .i64 (w), (.int false .i64 (ar .add .i64 (ar .rem .i64 (conv .i64 (chr s 2)) 8) (ar .mul .i64 8 (ar .rem .i64 (conv .i64 (chr s 0)) 2)))), .int false .i64 0, .int false .i64 0]), (1024, .cells [.int true .u8 110, .str ⟨#[211]⟩, .int true .i64 4, .int true .i64 0, .int true .i64 0, .bool true false])]
 else .bad
 else .bad) := by kernel_rfl

end Go.X
end

section
set_option linter.unusedVariables false
open Go Go.Ev Go.Proofs
namespace Go.X

theorem len_1 {w rd rs n : Int} (he : errX 1 w rd rs n = 0) : (strX 1 w rd rs n).size = 3 := by
  have hL : encL 1 w rd rs n = [rexI w rs rd, 137, modI 192 rs rd] ++ tailL n 0 := by kernel_rfl
  rw [strX_ok he, S_size, hL, List.length_append, tail_length]
  rfl

attribute [local irreducible] evalF in
theorem read_1 : RP 1 (.agg [.int true .u8 114, .str ⟨#[137]⟩, .int true .i64 0, .int true .i64 0, .int true .i64 0, .bool true false]) := by
  intro s w
  refine RP_of (tr_1 s w) ?_
  repeat' refine RPl_cond (fun _ => ?_) (fun _ => ?_)
  all_goals simp only [cmz] at *
  all_goals first
    | (exfalso; omega)
    | (refine RPl_ret ⟨inI0, by omega, by omega, fun rd rs n hd => ?_⟩; obtain ⟨hw, hrd, hrs, qn, hi, hf, hz, e0, e1, e2⟩ := fact_1 hd; omega)
    | (refine RPl_ret ⟨inI0, by omega, by omega, fun rd rs n hd => ?_⟩
       have hl := len_1 hd.1
       obtain ⟨hw, hrd, hrs, qn, hi, hf, hz, e0, e1, e2⟩ := fact_1 hd
       obtain ⟨x2, x3⟩ := rexQ hw hrs hrd
       rw [← e0] at x2 x3
       obtain ⟨y0, y1⟩ := modQ (.inl rfl) hrs hrd
       rw [← e2] at y0 y1
       exact ⟨by omega, by rw [hl]; rfl, by rw [y0, x2]; exact putQ hrd, by rw [y1, x3]; exact putQ hrs, qn.symm⟩)

theorem len_2 {w rd rs n : Int} (he : errX 2 w rd rs n = 0) : (strX 2 w rd rs n).size = 7 := by
  have hL : encL 2 w rd rs n = [rexI w 0 rd, 199, modI 192 0 rd] ++ tailL n 4 := by kernel_rfl
  rw [strX_ok he, S_size, hL, List.length_append, tail_length]
  rfl

attribute [local irreducible] evalF in
theorem read_2 : RP 2 (.agg [.int true .u8 110, .str ⟨#[199]⟩, .int true .i64 0, .int true .i64 8, .int true .i64 4, .bool true false]) := by
  intro s w
  refine RP_of (tr_2 s w) ?_
  repeat' refine RPl_cond (fun _ => ?_) (fun _ => ?_)
  all_goals simp only [cmz] at *
  all_goals first
    | (exfalso; omega)
    | (refine RPl_ret ⟨inI0, by omega, by omega, fun rd rs n hd => ?_⟩; obtain ⟨hw, qw, hrd, qs, hi, hf, hz, e0, e1, e2, ht⟩ := fact_2 hd; omega)
    | (refine RPl_ret ⟨numU_range _ (by simp only [ByteArray.size_extract]; omega), by omega, by omega, fun rd rs n hd => ?_⟩
       have hl := len_2 hd.1
       obtain ⟨hw, qw, hrd, qs, hi, hf, hz, e0, e1, e2, ht⟩ := fact_2 hd
       obtain ⟨x2, x3⟩ := rexQ hw (by decide : small 0) hrd
       rw [← e0] at x2 x3
       obtain ⟨y0, y1⟩ := modQ (.inl rfl) (by decide : small 0) hrd
       rw [← e2] at y0 y1
       exact ⟨by omega, by rw [hl]; rfl, by rw [y0, x2]; exact putQ hrd, qs.symm, num_tail 3 4 (by decide) hz ht hi hf⟩)

theorem len_3 {w rd rs n : Int} (he : errX 3 w rd rs n = 0) : (strX 3 w rd rs n).size = 10 := by
  have hL : encL 3 w rd rs n = [rexI w 0 rd, 184 + rd % 8] ++ tailL n 8 := by kernel_rfl
  rw [strX_ok he, S_size, hL, List.length_append, tail_length]
  rfl

attribute [local irreducible] evalF in
theorem read_3 : RP 3 (.agg [.int true .u8 98, .str ⟨#[184]⟩, .int true .i64 0, .int true .i64 8, .int true .i64 8, .bool true false]) := by
  intro s w
  refine RP_of (tr_3 s w) ?_
  repeat' refine RPl_cond (fun _ => ?_) (fun _ => ?_)
  all_goals simp only [cmz] at *
  all_goals first
    | (exfalso; omega)
    | (refine RPl_ret ⟨inI0, by omega, by omega, fun rd rs n hd => ?_⟩; obtain ⟨hw, qw, hrd, qs, hi, hf, hz, e0, e1, ht⟩ := fact_3 hd; omega)
    | (refine RPl_ret ⟨numU_range _ (by simp only [ByteArray.size_extract]; omega), by omega, by omega, fun rd rs n hd => ?_⟩
       have hl := len_3 hd.1
       obtain ⟨hw, qw, hrd, qs, hi, hf, hz, e0, e1, ht⟩ := fact_3 hd
       obtain ⟨x2, x3⟩ := rexQ hw (by decide : small 0) hrd
       rw [← e0] at x2 x3
       exact ⟨by omega, by rw [hl]; rfl, by rw [x2, e1]; exact moreQ (by decide) hrd, qs.symm, num_tail 2 8 (by decide) hz ht hi hf⟩)

theorem len_4 {w rd rs n : Int} (he : errX 4 w rd rs n = 0) : (strX 4 w rd rs n).size = 3 := by
  have hL : encL 4 w rd rs n = [rexI w rs rd, 1, modI 192 rs rd] ++ tailL n 0 := by kernel_rfl
  rw [strX_ok he, S_size, hL, List.length_append, tail_length]
  rfl

attribute [local irreducible] evalF in
theorem read_4 : RP 4 (.agg [.int true .u8 114, .str ⟨#[1]⟩, .int true .i64 0, .int true .i64 0, .int true .i64 0, .bool true false]) := by
  intro s w
  refine RP_of (tr_4 s w) ?_
  repeat' refine RPl_cond (fun _ => ?_) (fun _ => ?_)
  all_goals simp only [cmz] at *
  all_goals first
    | (exfalso; omega)
    | (refine RPl_ret ⟨inI0, by omega, by omega, fun rd rs n hd => ?_⟩; obtain ⟨hw, hrd, hrs, qn, hi, hf, hz, e0, e1, e2⟩ := fact_4 hd; omega)
    | (refine RPl_ret ⟨inI0, by omega, by omega, fun rd rs n hd => ?_⟩
       have hl := len_4 hd.1
       obtain ⟨hw, hrd, hrs, qn, hi, hf, hz, e0, e1, e2⟩ := fact_4 hd
       obtain ⟨x2, x3⟩ := rexQ hw hrs hrd
       rw [← e0] at x2 x3
       obtain ⟨y0, y1⟩ := modQ (.inl rfl) hrs hrd
       rw [← e2] at y0 y1
       exact ⟨by omega, by rw [hl]; rfl, by rw [y0, x2]; exact putQ hrd, by rw [y1, x3]; exact putQ hrs, qn.symm⟩)

theorem len_5 {w rd rs n : Int} (he : errX 5 w rd rs n = 0) : (strX 5 w rd rs n).size = 3 := by
  have hL : encL 5 w rd rs n = [rexI w rs rd, 41, modI 192 rs rd] ++ tailL n 0 := by kernel_rfl
  rw [strX_ok he, S_size, hL, List.length_append, tail_length]
  rfl

attribute [local irreducible] evalF in
theorem read_5 : RP 5 (.agg [.int true .u8 114, .str ⟨#[41]⟩, .int true .i64 0, .int true .i64 0, .int true .i64 0, .bool true false]) := by
  intro s w
  refine RP_of (tr_5 s w) ?_
  repeat' refine RPl_cond (fun _ => ?_) (fun _ => ?_)
  all_goals simp only [cmz] at *
  all_goals first
    | (exfalso; omega)
    | (refine RPl_ret ⟨inI0, by omega, by omega, fun rd rs n hd => ?_⟩; obtain ⟨hw, hrd, hrs, qn, hi, hf, hz, e0, e1, e2⟩ := fact_5 hd; omega)
    | (refine RPl_ret ⟨inI0, by omega, by omega, fun rd rs n hd => ?_⟩
       have hl := len_5 hd.1
       obtain ⟨hw, hrd, hrs, qn, hi, hf, hz, e0, e1, e2⟩ := fact_5 hd
       obtain ⟨x2, x3⟩ := rexQ hw hrs hrd
       rw [← e0] at x2 x3
       obtain ⟨y0, y1⟩ := modQ (.inl rfl) hrs hrd
       rw [← e2] at y0 y1
       exact ⟨by omega, by rw [hl]; rfl, by rw [y0, x2]; exact putQ hrd, by rw [y1, x3]; exact putQ hrs, qn.symm⟩)

theorem len_6 {w rd rs n : Int} (he : errX 6 w rd rs n = 0) : (strX 6 w rd rs n).size = 3 := by
  have hL : encL 6 w rd rs n = [rexI w rs rd, 33, modI 192 rs rd] ++ tailL n 0 := by kernel_rfl
  rw [strX_ok he, S_size, hL, List.length_append, tail_length]
  rfl

attribute [local irreducible] evalF in
theorem read_6 : RP 6 (.agg [.int true .u8 114, .str ⟨#[33]⟩, .int true .i64 0, .int true .i64 0, .int true .i64 0, .bool true false]) := by
  intro s w
  refine RP_of (tr_6 s w) ?_
  repeat' refine RPl_cond (fun _ => ?_) (fun _ => ?_)
  all_goals simp only [cmz] at *
  all_goals first
    | (exfalso; omega)
    | (refine RPl_ret ⟨inI0, by omega, by omega, fun rd rs n hd => ?_⟩; obtain ⟨hw, hrd, hrs, qn, hi, hf, hz, e0, e1, e2⟩ := fact_6 hd; omega)
    | (refine RPl_ret ⟨inI0, by omega, by omega, fun rd rs n hd => ?_⟩
       have hl := len_6 hd.1
       obtain ⟨hw, hrd, hrs, qn, hi, hf, hz, e0, e1, e2⟩ := fact_6 hd
       obtain ⟨x2, x3⟩ := rexQ hw hrs hrd
       rw [← e0] at x2 x3
       obtain ⟨y0, y1⟩ := modQ (.inl rfl) hrs hrd
       rw [← e2] at y0 y1
       exact ⟨by omega, by rw [hl]; rfl, by rw [y0, x2]; exact putQ hrd, by rw [y1, x3]; exact putQ hrs, qn.symm⟩)

theorem len_7 {w rd rs n : Int} (he : errX 7 w rd rs n = 0) : (strX 7 w rd rs n).size = 3 := by
  have hL : encL 7 w rd rs n = [rexI w rs rd, 9, modI 192 rs rd] ++ tailL n 0 := by kernel_rfl
  rw [strX_ok he, S_size, hL, List.length_append, tail_length]
  rfl

attribute [local irreducible] evalF in
theorem read_7 : RP 7 (.agg [.int true .u8 114, .str ⟨#[9]⟩, .int true .i64 0, .int true .i64 0, .int true .i64 0, .bool true false]) := by
  intro s w
  refine RP_of (tr_7 s w) ?_
  repeat' refine RPl_cond (fun _ => ?_) (fun _ => ?_)
  all_goals simp only [cmz] at *
  all_goals first
    | (exfalso; omega)
    | (refine RPl_ret ⟨inI0, by omega, by omega, fun rd rs n hd => ?_⟩; obtain ⟨hw, hrd, hrs, qn, hi, hf, hz, e0, e1, e2⟩ := fact_7 hd; omega)
    | (refine RPl_ret ⟨inI0, by omega, by omega, fun rd rs n hd => ?_⟩
       have hl := len_7 hd.1
       obtain ⟨hw, hrd, hrs, qn, hi, hf, hz, e0, e1, e2⟩ := fact_7 hd
       obtain ⟨x2, x3⟩ := rexQ hw hrs hrd
       rw [← e0] at x2 x3
       obtain ⟨y0, y1⟩ := modQ (.inl rfl) hrs hrd
       rw [← e2] at y0 y1
       exact ⟨by omega, by rw [hl]; rfl, by rw [y0, x2]; exact putQ hrd, by rw [y1, x3]; exact putQ hrs, qn.symm⟩)

theorem len_8 {w rd rs n : Int} (he : errX 8 w rd rs n = 0) : (strX 8 w rd rs n).size = 3 := by
  have hL : encL 8 w rd rs n = [rexI w rs rd, 49, modI 192 rs rd] ++ tailL n 0 := by kernel_rfl
  rw [strX_ok he, S_size, hL, List.length_append, tail_length]
  rfl

attribute [local irreducible] evalF in
theorem read_8 : RP 8 (.agg [.int true .u8 114, .str ⟨#[49]⟩, .int true .i64 0, .int true .i64 0, .int true .i64 0, .bool true false]) := by
  intro s w
  refine RP_of (tr_8 s w) ?_
  repeat' refine RPl_cond (fun _ => ?_) (fun _ => ?_)
  all_goals simp only [cmz] at *
  all_goals first
    | (exfalso; omega)
    | (refine RPl_ret ⟨inI0, by omega, by omega, fun rd rs n hd => ?_⟩; obtain ⟨hw, hrd, hrs, qn, hi, hf, hz, e0, e1, e2⟩ := fact_8 hd; omega)
    | (refine RPl_ret ⟨inI0, by omega, by omega, fun rd rs n hd => ?_⟩
       have hl := len_8 hd.1
       obtain ⟨hw, hrd, hrs, qn, hi, hf, hz, e0, e1, e2⟩ := fact_8 hd
       obtain ⟨x2, x3⟩ := rexQ hw hrs hrd
       rw [← e0] at x2 x3
       obtain ⟨y0, y1⟩ := modQ (.inl rfl) hrs hrd
       rw [← e2] at y0 y1
       exact ⟨by omega, by rw [hl]; rfl, by rw [y0, x2]; exact putQ hrd, by rw [y1, x3]; exact putQ hrs, qn.symm⟩)

theorem len_9 {w rd rs n : Int} (he : errX 9 w rd rs n = 0) : (strX 9 w rd rs n).size = 3 := by
  have hL : encL 9 w rd rs n = [rexI w rs rd, 57, modI 192 rs rd] ++ tailL n 0 := by kernel_rfl
  rw [strX_ok he, S_size, hL, List.length_append, tail_length]
  rfl

attribute [local irreducible] evalF in
theorem read_9 : RP 9 (.agg [.int true .u8 114, .str ⟨#[57]⟩, .int true .i64 0, .int true .i64 0, .int true .i64 0, .bool true false]) := by
  intro s w
  refine RP_of (tr_9 s w) ?_
  repeat' refine RPl_cond (fun _ => ?_) (fun _ => ?_)
  all_goals simp only [cmz] at *
  all_goals first
    | (exfalso; omega)
    | (refine RPl_ret ⟨inI0, by omega, by omega, fun rd rs n hd => ?_⟩; obtain ⟨hw, hrd, hrs, qn, hi, hf, hz, e0, e1, e2⟩ := fact_9 hd; omega)
    | (refine RPl_ret ⟨inI0, by omega, by omega, fun rd rs n hd => ?_⟩
       have hl := len_9 hd.1
       obtain ⟨hw, hrd, hrs, qn, hi, hf, hz, e0, e1, e2⟩ := fact_9 hd
       obtain ⟨x2, x3⟩ := rexQ hw hrs hrd
       rw [← e0] at x2 x3
       obtain ⟨y0, y1⟩ := modQ (.inl rfl) hrs hrd
       rw [← e2] at y0 y1
       exact ⟨by omega, by rw [hl]; rfl, by rw [y0, x2]; exact putQ hrd, by rw [y1, x3]; exact putQ hrs, qn.symm⟩)

theorem len_10 {w rd rs n : Int} (he : errX 10 w rd rs n = 0) : (strX 10 w rd rs n).size = 4 := by
  have hL : encL 10 w rd rs n = [rexI w rd rs, 15, 175, modI 192 rd rs] ++ tailL n 0 := by kernel_rfl
  rw [strX_ok he, S_size, hL, List.length_append, tail_length]
  rfl

attribute [local irreducible] evalF in
theorem read_10 : RP 10 (.agg [.int true .u8 113, .str ⟨#[15, 175]⟩, .int true .i64 0, .int true .i64 0, .int true .i64 0, .bool true false]) := by
  intro s w
  refine RP_of (tr_10 s w) ?_
  repeat' refine RPl_cond (fun _ => ?_) (fun _ => ?_)
  all_goals simp only [cmz] at *
  all_goals first
    | (exfalso; omega)
    | (refine RPl_ret ⟨inI0, by omega, by omega, fun rd rs n hd => ?_⟩; obtain ⟨hw, hrd, hrs, qn, hi, hf, hz, e0, e1, e2, e3⟩ := fact_10 hd; omega)
    | (refine RPl_ret ⟨inI0, by omega, by omega, fun rd rs n hd => ?_⟩
       have hl := len_10 hd.1
       obtain ⟨hw, hrd, hrs, qn, hi, hf, hz, e0, e1, e2, e3⟩ := fact_10 hd
       obtain ⟨x2, x3⟩ := rexQ hw hrd hrs
       rw [← e0] at x2 x3
       obtain ⟨y0, y1⟩ := modQ (.inl rfl) hrd hrs
       rw [← e3] at y0 y1
       exact ⟨by omega, by rw [hl]; rfl, by rw [y1, x3]; exact putQ hrd, by rw [y0, x2]; exact putQ hrs, qn.symm⟩)

theorem len_11 {w rd rs n : Int} (he : errX 11 w rd rs n = 0) : (strX 11 w rd rs n).size = 3 := by
  have hL : encL 11 w rd rs n = [rexI w 0 rd, 247, modI 192 3 rd] ++ tailL n 0 := by kernel_rfl
  rw [strX_ok he, S_size, hL, List.length_append, tail_length]
  rfl

attribute [local irreducible] evalF in
theorem read_11 : RP 11 (.agg [.int true .u8 110, .str ⟨#[247]⟩, .int true .i64 3, .int true .i64 0, .int true .i64 0, .bool true false]) := by
  intro s w
  refine RP_of (tr_11 s w) ?_
  repeat' refine RPl_cond (fun _ => ?_) (fun _ => ?_)
  all_goals simp only [cmz] at *
  all_goals first
    | (exfalso; omega)
    | (refine RPl_ret ⟨inI0, by omega, by omega, fun rd rs n hd => ?_⟩; obtain ⟨hw, hrd, qs, qn, hi, hf, hz, e0, e1, e2⟩ := fact_11 hd; omega)
    | (refine RPl_ret ⟨inI0, by omega, by omega, fun rd rs n hd => ?_⟩
       have hl := len_11 hd.1
       obtain ⟨hw, hrd, qs, qn, hi, hf, hz, e0, e1, e2⟩ := fact_11 hd
       obtain ⟨x2, x3⟩ := rexQ hw (by decide : small 0) hrd
       rw [← e0] at x2 x3
       obtain ⟨y0, y1⟩ := modQ (.inl rfl) (by decide : small 3) hrd
       rw [← e2] at y0 y1
       exact ⟨by omega, by rw [hl]; rfl, by rw [y0, x2]; exact putQ hrd, qs.symm, qn.symm⟩)

theorem len_12 {w rd rs n : Int} (he : errX 12 w rd rs n = 0) : (strX 12 w rd rs n).size = 3 := by
  have hL : encL 12 w rd rs n = [rexI w 0 rd, 247, modI 192 2 rd] ++ tailL n 0 := by kernel_rfl
  rw [strX_ok he, S_size, hL, List.length_append, tail_length]
  rfl

attribute [local irreducible] evalF in
theorem read_12 : RP 12 (.agg [.int true .u8 110, .str ⟨#[247]⟩, .int true .i64 2, .int true .i64 0, .int true .i64 0, .bool true false]) := by
  intro s w
  refine RP_of (tr_12 s w) ?_
  repeat' refine RPl_cond (fun _ => ?_) (fun _ => ?_)
  all_goals simp only [cmz] at *
  all_goals first
    | (exfalso; omega)
    | (refine RPl_ret ⟨inI0, by omega, by omega, fun rd rs n hd => ?_⟩; obtain ⟨hw, hrd, qs, qn, hi, hf, hz, e0, e1, e2⟩ := fact_12 hd; omega)
    | (refine RPl_ret ⟨inI0, by omega, by omega, fun rd rs n hd => ?_⟩
       have hl := len_12 hd.1
       obtain ⟨hw, hrd, qs, qn, hi, hf, hz, e0, e1, e2⟩ := fact_12 hd
       obtain ⟨x2, x3⟩ := rexQ hw (by decide : small 0) hrd
       rw [← e0] at x2 x3
       obtain ⟨y0, y1⟩ := modQ (.inl rfl) (by decide : small 2) hrd
       rw [← e2] at y0 y1
       exact ⟨by omega, by rw [hl]; rfl, by rw [y0, x2]; exact putQ hrd, qs.symm, qn.symm⟩)

theorem len_13 {w rd rs n : Int} (he : errX 13 w rd rs n = 0) : (strX 13 w rd rs n).size = 3 := by
  have hL : encL 13 w rd rs n = [rexI w 0 rd, 247, modI 192 7 rd] ++ tailL n 0 := by kernel_rfl
  rw [strX_ok he, S_size, hL, List.length_append, tail_length]
  rfl

attribute [local irreducible] evalF in
theorem read_13 : RP 13 (.agg [.int true .u8 110, .str ⟨#[247]⟩, .int true .i64 7, .int true .i64 0, .int true .i64 0, .bool true false]) := by
  intro s w
  refine RP_of (tr_13 s w) ?_
  repeat' refine RPl_cond (fun _ => ?_) (fun _ => ?_)
  all_goals simp only [cmz] at *
  all_goals first
    | (exfalso; omega)
    | (refine RPl_ret ⟨inI0, by omega, by omega, fun rd rs n hd => ?_⟩; obtain ⟨hw, hrd, qs, qn, hi, hf, hz, e0, e1, e2⟩ := fact_13 hd; omega)
    | (refine RPl_ret ⟨inI0, by omega, by omega, fun rd rs n hd => ?_⟩
       have hl := len_13 hd.1
       obtain ⟨hw, hrd, qs, qn, hi, hf, hz, e0, e1, e2⟩ := fact_13 hd
       obtain ⟨x2, x3⟩ := rexQ hw (by decide : small 0) hrd
       rw [← e0] at x2 x3
       obtain ⟨y0, y1⟩ := modQ (.inl rfl) (by decide : small 7) hrd
       rw [← e2] at y0 y1
       exact ⟨by omega, by rw [hl]; rfl, by rw [y0, x2]; exact putQ hrd, qs.symm, qn.symm⟩)

theorem len_14 {w rd rs n : Int} (he : errX 14 w rd rs n = 0) : (strX 14 w rd rs n).size = 3 := by
  have hL : encL 14 w rd rs n = [rexI w 0 rd, 247, modI 192 6 rd] ++ tailL n 0 := by kernel_rfl
  rw [strX_ok he, S_size, hL, List.length_append, tail_length]
  rfl

attribute [local irreducible] evalF in
theorem read_14 : RP 14 (.agg [.int true .u8 110, .str ⟨#[247]⟩, .int true .i64 6, .int true .i64 0, .int true .i64 0, .bool true false]) := by
  intro s w
  refine RP_of (tr_14 s w) ?_
  repeat' refine RPl_cond (fun _ => ?_) (fun _ => ?_)
  all_goals simp only [cmz] at *
  all_goals first
    | (exfalso; omega)
    | (refine RPl_ret ⟨inI0, by omega, by omega, fun rd rs n hd => ?_⟩; obtain ⟨hw, hrd, qs, qn, hi, hf, hz, e0, e1, e2⟩ := fact_14 hd; omega)
    | (refine RPl_ret ⟨inI0, by omega, by omega, fun rd rs n hd => ?_⟩
       have hl := len_14 hd.1
       obtain ⟨hw, hrd, qs, qn, hi, hf, hz, e0, e1, e2⟩ := fact_14 hd
       obtain ⟨x2, x3⟩ := rexQ hw (by decide : small 0) hrd
       rw [← e0] at x2 x3
       obtain ⟨y0, y1⟩ := modQ (.inl rfl) (by decide : small 6) hrd
       rw [← e2] at y0 y1
       exact ⟨by omega, by rw [hl]; rfl, by rw [y0, x2]; exact putQ hrd, qs.symm, qn.symm⟩)

theorem len_15 {w rd rs n : Int} (he : errX 15 w rd rs n = 0) : (strX 15 w rd rs n).size = 3 := by
  have hL : encL 15 w rd rs n = [rexI w 0 rd, 211, modI 192 4 rd] ++ tailL n 0 := by kernel_rfl
  rw [strX_ok he, S_size, hL, List.length_append, tail_length]
  rfl

attribute [local irreducible] evalF in
theorem read_15 : RP 15 (.agg [.int true .u8 110, .str ⟨#[211]⟩, .int true .i64 4, .int true .i64 0, .int true .i64 0, .bool true false]) := by
  intro s w
  refine RP_of (tr_15 s w) ?_
  repeat' refine RPl_cond (fun _ => ?_) (fun _ => ?_)
  all_goals simp only [cmz] at *
  all_goals first
    | (exfalso; omega)
    | (refine RPl_ret ⟨inI0, by omega, by omega, fun rd rs n hd => ?_⟩; obtain ⟨hw, hrd, qs, qn, hi, hf, hz, e0, e1, e2⟩ := fact_15 hd; omega)
    | (refine RPl_ret ⟨inI0, by omega, by omega, fun rd rs n hd => ?_⟩
       have hl := len_15 hd.1
       obtain ⟨hw, hrd, qs, qn, hi, hf, hz, e0, e1, e2⟩ := fact_15 hd
       obtain ⟨x2, x3⟩ := rexQ hw (by decide : small 0) hrd
       rw [← e0] at x2 x3
       obtain ⟨y0, y1⟩ := modQ (.inl rfl) (by decide : small 4) hrd
       rw [← e2] at y0 y1
       exact ⟨by omega, by rw [hl]; rfl, by rw [y0, x2]; exact putQ hrd, qs.symm, qn.symm⟩)

end Go.X
end

section
set_option linter.unusedVariables false
open Go Go.Ev Go.Proofs
namespace Go.X

theorem tr_16 (s : ByteArray) (w : Int) : (evalF E29 Try.prog 29 [.str s, .agg [.int true .u8 110, .str ⟨#[211]⟩, .int true .i64 5, .int true .i64 0, .int true .i64 0, .bool true false], .ptr 0 0 0] [(0, cells5 16 w 0 0 0)] 1024).leaf =
    (bif (cm .lss (↑s.size : Int) 3) then
 .ret (.int true .i64 0) [(0, .cells [.int false .i64 16, .int false .i64 (w), .int false .i64 0, .int false .i64 0, .int false .i64 0]), (1024, .cells [.int true .u8 110, .str ⟨#[211]⟩, .int true .i64 5, .int true .i64 0, .int true .i64 0, .bool true false])]
 else
 bif (Nat.blt (0) (s.size)) then
 bif (Nat.blt (2) (s.size)) then
 .ret (.int false .i64 3) [(0, .cells [.int false .i64 16, .int false .i64 (w), (.int false .i64 (ar .add .i64 (ar .rem .i64 (conv .i64 (chr s 2)) 8) (ar .mul .i64 8 (ar .rem .i64 (conv .i64 (chr s 0)) 2)))), .int false .i64 0, .int false .i64 0]), (1024, .cells [.int true .u8 110, .str ⟨#[211]⟩, .int true .i64 5, .int true .i64 0, .int true .i64 0, .bool true false])]
 else .bad
 else .bad) := by kernel_rfl

theorem tr_17 (s : ByteArray) (w : Int) : (evalF E29 Try.prog 29 [.str s, .agg [.int true .u8 110, .str ⟨#[211]⟩, .int true .i64 7, .int true .i64 0, .int true .i64 0, .bool true false], .ptr 0 0 0] [(0, cells5 17 w 0 0 0)] 1024).leaf =
    (bif (cm .lss (↑s.size : Int) 3) then
 .ret (.int true .i64 0) [(0, .cells [.int false .i64 17, .int false .i64 (w), .int false .i64 0, .int false .i64 0, .int false .i64 0]), (1024, .cells [.int true .u8 110, .str ⟨#[211]⟩, .int true .i64 7, .int true .i64 0, .int true .i64 0, .bool true false])]
 else
 bif (Nat.blt (0) (s.size)) then
 bif (Nat.blt (2) (s.size)) then
 .ret (.int false .i64 3) [(0, .cells [.int false .i64 17, .int false .i64 (w), (.int false .i64 (ar .add .i64 (ar .rem .i64 (conv .i64 (chr s 2)) 8) (ar .mul .i64 8 (ar .rem .i64 (conv .i64 (chr s 0)) 2)))), .int false .i64 0, .int false .i64 0]), (1024, .cells [.int true .u8 110, .str ⟨#[211]⟩, .int true .i64 7, .int true .i64 0, .int true .i64 0, .bool true false])]
 else .bad
 else .bad) := by kernel_rfl

theorem tr_18 (s : ByteArray) (w : Int) : (evalF E29 Try.prog 29 [.str s, .agg [.int true .u8 120, .str ⟨#[]⟩, .int true .i64 0, .int true .i64 0, .int true .i64 0, .bool true false], .ptr 0 0 0] [(0, cells5 18 w 0 0 0)] 1024).leaf =
    (bif (cm .lss (↑s.size : Int) 2) then
 .ret (.int true .i64 0) [(0, .cells [.int false .i64 18, .int false .i64 (w), .int false .i64 0, .int false .i64 0, .int false .i64 0]), (1024, .cells [.int true .u8 120, .str ⟨#[]⟩, .int true .i64 0, .int true .i64 0, .int true .i64 0, .bool true false])]
 else
 bif (Nat.blt (0) (s.size)) then
 bif (Nat.blt (1) (s.size)) then
 .ret (.int true .i64 2) [(0, .cells [.int false .i64 18, .int false .i64 (w), .int false .i64 0, .int false .i64 0, .int false .i64 0]), (1024, .cells [.int true .u8 120, .str ⟨#[]⟩, .int true .i64 0, .int true .i64 0, .int true .i64 0, .bool true false])]
 else .bad
 else .bad) := by kernel_rfl

theorem tr_19 (s : ByteArray) (w : Int) : (evalF E29 Try.prog 29 [.str s, .agg [.int true .u8 110, .str ⟨#[129]⟩, .int true .i64 0, .int true .i64 8, .int true .i64 4, .bool true false], .ptr 0 0 0] [(0, cells5 19 w 0 0 0)] 1024).leaf =
    (bif (cm .lss (↑s.size : Int) 7) then
 .ret (.int true .i64 0) [(0, .cells [.int false .i64 19, .int false .i64 (w), .int false .i64 0, .int false .i64 0, .int false .i64 0]), (1024, .cells [.int true .u8 110, .str ⟨#[129]⟩, .int true .i64 0, .int true .i64 8, .int true .i64 4, .bool true false])]
 else
 bif (Nat.blt (0) (s.size)) then
 bif (Nat.blt (2) (s.size)) then
 bif (Nat.ble (7) (s.size)) then
 bif (Nat.ble ((s.extract 3 7).size) (8)) then
 .ret (.int false .i64 7) [(0, .cells [.int false .i64 19, .int false .i64 (w), (.int false .i64 (ar .add .i64 (ar .rem .i64 (conv .i64 (chr s 2)) 8) (ar .mul .i64 8 (ar .rem .i64 (conv .i64 (chr s 0)) 2)))), .int false .i64 0, .int false .i64 (numU (s.extract 3 7))]), (1024, .cells [.int true .u8 110, .str ⟨#[129]⟩, .int true .i64 0, .int true .i64 8, .int true .i64 4, .bool true false])]
 else .bad
 else .bad
 else .bad
 else .bad) := by kernel_rfl

theorem tr_20 (s : ByteArray) (w : Int) : (evalF E29 Try.prog 29 [.str s, .agg [.int true .u8 115, .str ⟨#[]⟩, .int true .i64 0, .int true .i64 4, .int true .i64 0, .bool true false], .ptr 0 0 0] [(0, cells5 20 w 0 0 0)] 1024).leaf =
    (bif (cm .lss (↑s.size : Int) 4) then
 .ret (.int true .i64 0) [(0, .cells [.int false .i64 20, .int false .i64 (w), .int false .i64 0, .int false .i64 0, .int false .i64 0]), (1024, .cells [.int true .u8 115, .str ⟨#[]⟩, .int true .i64 0, .int true .i64 4, .int true .i64 0, .bool true false])]
 else
 bif (Nat.blt (0) (s.size)) then
 bif (Nat.blt (3) (s.size)) then
 bif (Nat.blt (2) (s.size)) then
 .ret (.int true .i64 4) [(0, .cells [.int false .i64 20, .int false .i64 (w), (.int false .i64 (ar .add .i64 (ar .rem .i64 (conv .i64 (chr s 3)) 8) (ar .mul .i64 8 (ar .rem .i64 (conv .i64 (chr s 0)) 2)))), .int false .i64 0, .int false .i64 (ar .sub .i64 (conv .i64 (chr s 2)) 144)]), (1024, .cells [.int true .u8 115, .str ⟨#[]⟩, .int true .i64 0, .int true .i64 4, .int true .i64 0, .bool true false])]
 else .bad
 else .bad
 else .bad) := by kernel_rfl

theorem tr_21 (s : ByteArray) (w : Int) : (evalF E29 Try.prog 29 [.str s, .agg [.int true .u8 113, .str ⟨#[15, 182]⟩, .int true .i64 0, .int true .i64 8, .int true .i64 0, .bool true false], .ptr 0 0 0] [(0, cells5 21 w 0 0 0)] 1024).leaf =
    (bif (cm .lss (↑s.size : Int) 4) then
 .ret (.int true .i64 0) [(0, .cells [.int false .i64 21, .int false .i64 (w), .int false .i64 0, .int false .i64 0, .int false .i64 0]), (1024, .cells [.int true .u8 113, .str ⟨#[15, 182]⟩, .int true .i64 0, .int true .i64 8, .int true .i64 0, .bool true false])]
 else
 bif (Nat.blt (0) (s.size)) then
 bif (Nat.blt (3) (s.size)) then
 .ret (.int false .i64 4) [(0, .cells [.int false .i64 21, .int false .i64 (w), (.int false .i64 (ar .add .i64 (ar .rem .i64 (ar .quo .i64 (conv .i64 (chr s 3)) 8) 8) (ar .mul .i64 8 (ar .rem .i64 (ar .quo .i64 (conv .i64 (chr s 0)) 4) 2)))), (.int false .i64 (ar .add .i64 (ar .rem .i64 (conv .i64 (chr s 3)) 8) (ar .mul .i64 8 (ar .rem .i64 (conv .i64 (chr s 0)) 2)))), .int false .i64 0]), (1024, .cells [.int true .u8 113, .str ⟨#[15, 182]⟩, .int true .i64 0, .int true .i64 8, .int true .i64 0, .bool true false])]
 else .bad
 else .bad) := by kernel_rfl

theorem tr_22 (s : ByteArray) (w : Int) : (evalF E29 Try.prog 29 [.str s, .agg [.int true .u8 113, .str ⟨#[15, 183]⟩, .int true .i64 0, .int true .i64 8, .int true .i64 0, .bool true false], .ptr 0 0 0] [(0, cells5 22 w 0 0 0)] 1024).leaf =
    (bif (cm .lss (↑s.size : Int) 4) then
 .ret (.int true .i64 0) [(0, .cells [.int false .i64 22, .int false .i64 (w), .int false .i64 0, .int false .i64 0, .int false .i64 0]), (1024, .cells [.int true .u8 113, .str ⟨#[15, 183]⟩, .int true .i64 0, .int true .i64 8, .int true .i64 0, .bool true false])]
 else
 bif (Nat.blt (0) (s.size)) then
 bif (Nat.blt (3) (s.size)) then
 .ret (.int false .i64 4) [(0, .cells [.int false .i64 22, .int false .i64 (w), (.int false .i64 (ar .add .i64 (ar .rem .i64 (ar .quo .i64 (conv .i64 (chr s 3)) 8) 8) (ar .mul .i64 8 (ar .rem .i64 (ar .quo .i64 (conv .i64 (chr s 0)) 4) 2)))), (.int false .i64 (ar .add .i64 (ar .rem .i64 (conv .i64 (chr s 3)) 8) (ar .mul .i64 8 (ar .rem .i64 (conv .i64 (chr s 0)) 2)))), .int false .i64 0]), (1024, .cells [.int true .u8 113, .str ⟨#[15, 183]⟩, .int true .i64 0, .int true .i64 8, .int true .i64 0, .bool true false])]
 else .bad
 else .bad) := by kernel_rfl

theorem tr_23 (s : ByteArray) (w : Int) : (evalF E29 Try.prog 29 [.str s, .agg [.int true .u8 113, .str ⟨#[15, 190]⟩, .int true .i64 0, .int true .i64 8, .int true .i64 0, .bool true false], .ptr 0 0 0] [(0, cells5 23 w 0 0 0)] 1024).leaf =
    (bif (cm .lss (↑s.size : Int) 4) then
 .ret (.int true .i64 0) [(0, .cells [.int false .i64 23, .int false .i64 (w), .int false .i64 0, .int false .i64 0, .int false .i64 0]), (1024, .cells [.int true .u8 113, .str ⟨#[15, 190]⟩, .int true .i64 0, .int true .i64 8, .int true .i64 0, .bool true false])]
 else
 bif (Nat.blt (0) (s.size)) then
 bif (Nat.blt (3) (s.size)) then
 .ret (.int false .i64 4) [(0, .cells [.int false .i64 23, .int false .i64 (w), (.int false .i64 (ar .add .i64 (ar .rem .i64 (ar .quo .i64 (conv .i64 (chr s 3)) 8) 8) (ar .mul .i64 8 (ar .rem .i64 (ar .quo .i64 (conv .i64 (chr s 0)) 4) 2)))), (.int false .i64 (ar .add .i64 (ar .rem .i64 (conv .i64 (chr s 3)) 8) (ar .mul .i64 8 (ar .rem .i64 (conv .i64 (chr s 0)) 2)))), .int false .i64 0]), (1024, .cells [.int true .u8 113, .str ⟨#[15, 190]⟩, .int true .i64 0, .int true .i64 8, .int true .i64 0, .bool true false])]
 else .bad
 else .bad) := by kernel_rfl

theorem tr_24 (s : ByteArray) (w : Int) : (evalF E29 Try.prog 29 [.str s, .agg [.int true .u8 113, .str ⟨#[15, 191]⟩, .int true .i64 0, .int true .i64 8, .int true .i64 0, .bool true false], .ptr 0 0 0] [(0, cells5 24 w 0 0 0)] 1024).leaf =
    (bif (cm .lss (↑s.size : Int) 4) then
 .ret (.int true .i64 0) [(0, .cells [.int false .i64 24, .int false .i64 (w), .int false .i64 0, .int false .i64 0, .int false .i64 0]), (1024, .cells [.int true .u8 113, .str ⟨#[15, 191]⟩, .int true .i64 0, .int true .i64 8, .int true .i64 0, .bool true false])]
 else
 bif (Nat.blt (0) (s.size)) then
 bif (Nat.blt (3) (s.size)) then
 .ret (.int false .i64 4) [(0, .cells [.int false .i64 24, .int false .i64 (w), (.int false .i64 (ar .add .i64 (ar .rem .i64 (ar .quo .i64 (conv .i64 (chr s 3)) 8) 8) (ar .mul .i64 8 (ar .rem .i64 (ar .quo .i64 (conv .i64 (chr s 0)) 4) 2)))), (.int false .i64 (ar .add .i64 (ar .rem .i64 (conv .i64 (chr s 3)) 8) (ar .mul .i64 8 (ar .rem .i64 (conv .i64 (chr s 0)) 2)))), .int false .i64 0]), (1024, .cells [.int true .u8 113, .str ⟨#[15, 191]⟩, .int true .i64 0, .int true .i64 8, .int true .i64 0, .bool true false])]
 else .bad
 else .bad) := by kernel_rfl

theorem tr_25 (s : ByteArray) (w : Int) : (evalF E29 Try.prog 29 [.str s, .agg [.int true .u8 113, .str ⟨#[99]⟩, .int true .i64 0, .int true .i64 8, .int true .i64 0, .bool true false], .ptr 0 0 0] [(0, cells5 25 w 0 0 0)] 1024).leaf =
    (bif (cm .lss (↑s.size : Int) 3) then
 .ret (.int true .i64 0) [(0, .cells [.int false .i64 25, .int false .i64 (w), .int false .i64 0, .int false .i64 0, .int false .i64 0]), (1024, .cells [.int true .u8 113, .str ⟨#[99]⟩, .int true .i64 0, .int true .i64 8, .int true .i64 0, .bool true false])]
 else
 bif (Nat.blt (0) (s.size)) then
 bif (Nat.blt (2) (s.size)) then
 .ret (.int false .i64 3) [(0, .cells [.int false .i64 25, .int false .i64 (w), (.int false .i64 (ar .add .i64 (ar .rem .i64 (ar .quo .i64 (conv .i64 (chr s 2)) 8) 8) (ar .mul .i64 8 (ar .rem .i64 (ar .quo .i64 (conv .i64 (chr s 0)) 4) 2)))), (.int false .i64 (ar .add .i64 (ar .rem .i64 (conv .i64 (chr s 2)) 8) (ar .mul .i64 8 (ar .rem .i64 (conv .i64 (chr s 0)) 2)))), .int false .i64 0]), (1024, .cells [.int true .u8 113, .str ⟨#[99]⟩, .int true .i64 0, .int true .i64 8, .int true .i64 0, .bool true false])]
 else .bad
 else .bad) := by kernel_rfl

theorem tr_26 (s : ByteArray) (w : Int) : (evalF E29 Try.prog 29 [.str s, .agg [.int true .u8 109, .str ⟨#[139]⟩, .int true .i64 0, .int true .i64 8, .int true .i64 4, .bool true false], .ptr 0 0 0] [(0, cells5 26 w 0 0 0)] 1024).leaf =
    (bif (cm .lss (↑s.size : Int) 7) then
 .ret (.int true .i64 0) [(0, .cells [.int false .i64 26, .int false .i64 (w), .int false .i64 0, .int false .i64 0, .int false .i64 0]), (1024, .cells [.int true .u8 109, .str ⟨#[139]⟩, .int true .i64 0, .int true .i64 8, .int true .i64 4, .bool true false])]
 else
 bif (Nat.blt (0) (s.size)) then
 bif (Nat.blt (2) (s.size)) then
 bif (Nat.ble (7) (s.size)) then
 bif (Nat.ble ((s.extract 3 7).size) (8)) then
 .ret (.int false .i64 7) [(0, .cells [.int false .i64 26, .int false .i64 (w), (.int false .i64 (ar .add .i64 (ar .rem .i64 (ar .quo .i64 (conv .i64 (chr s 2)) 8) 8) (ar .mul .i64 8 (ar .rem .i64 (ar .quo .i64 (conv .i64 (chr s 0)) 4) 2)))), (.int false .i64 (ar .add .i64 (ar .rem .i64 (conv .i64 (chr s 2)) 8) (ar .mul .i64 8 (ar .rem .i64 (conv .i64 (chr s 0)) 2)))), .int false .i64 (numU (s.extract 3 7))]), (1024, .cells [.int true .u8 109, .str ⟨#[139]⟩, .int true .i64 0, .int true .i64 8, .int true .i64 4, .bool true false])]
 else .bad
 else .bad
 else .bad
 else .bad) := by kernel_rfl

theorem tr_27 (s : ByteArray) (w : Int) : (evalF E29 Try.prog 29 [.str s, .agg [.int true .u8 109, .str ⟨#[139]⟩, .int true .i64 0, .int true .i64 4, .int true .i64 4, .bool true false], .ptr 0 0 0] [(0, cells5 27 w 0 0 0)] 1024).leaf =
    (bif (cm .lss (↑s.size : Int) 7) then
 .ret (.int true .i64 0) [(0, .cells [.int false .i64 27, .int false .i64 (w), .int false .i64 0, .int false .i64 0, .int false .i64 0]), (1024, .cells [.int true .u8 109, .str ⟨#[139]⟩, .int true .i64 0, .int true .i64 4, .int true .i64 4, .bool true false])]
 else
 bif (Nat.blt (0) (s.size)) then
 bif (Nat.blt (2) (s.size)) then
 bif (Nat.ble (7) (s.size)) then
 bif (Nat.ble ((s.extract 3 7).size) (8)) then
 .ret (.int false .i64 7) [(0, .cells [.int false .i64 27, .int false .i64 (w), (.int false .i64 (ar .add .i64 (ar .rem .i64 (ar .quo .i64 (conv .i64 (chr s 2)) 8) 8) (ar .mul .i64 8 (ar .rem .i64 (ar .quo .i64 (conv .i64 (chr s 0)) 4) 2)))), (.int false .i64 (ar .add .i64 (ar .rem .i64 (conv .i64 (chr s 2)) 8) (ar .mul .i64 8 (ar .rem .i64 (conv .i64 (chr s 0)) 2)))), .int false .i64 (numU (s.extract 3 7))]), (1024, .cells [.int true .u8 109, .str ⟨#[139]⟩, .int true .i64 0, .int true .i64 4, .int true .i64 4, .bool true false])]
 else .bad
 else .bad
 else .bad
 else .bad) := by kernel_rfl

theorem tr_28 (s : ByteArray) (w : Int) : (evalF E29 Try.prog 29 [.str s, .agg [.int true .u8 109, .str ⟨#[99]⟩, .int true .i64 0, .int true .i64 8, .int true .i64 4, .bool true false], .ptr 0 0 0] [(0, cells5 28 w 0 0 0)] 1024).leaf =
    (bif (cm .lss (↑s.size : Int) 7) then
 .ret (.int true .i64 0) [(0, .cells [.int false .i64 28, .int false .i64 (w), .int false .i64 0, .int false .i64 0, .int false .i64 0]), (1024, .cells [.int true .u8 109, .str ⟨#[99]⟩, .int true .i64 0, .int true .i64 8, .int true .i64 4, .bool true false])]
 else
 bif (Nat.blt (0) (s.size)) then
 bif (Nat.blt (2) (s.size)) then
 bif (Nat.ble (7) (s.size)) then
 bif (Nat.ble ((s.extract 3 7).size) (8)) then
 .ret (.int false .i64 7) [(0, .cells [.int false .i64 28, .int false .i64 (w), (.int false .i64 (ar .add .i64 (ar .rem .i64 (ar .quo .i64 (conv .i64 (chr s 2)) 8) 8) (ar .mul .i64 8 (ar .rem .i64 (ar .quo .i64 (conv .i64 (chr s 0)) 4) 2)))), (.int false .i64 (ar .add .i64 (ar .rem .i64 (conv .i64 (chr s 2)) 8) (ar .mul .i64 8 (ar .rem .i64 (conv .i64 (chr s 0)) 2)))), .int false .i64 (numU (s.extract 3 7))]), (1024, .cells [.int true .u8 109, .str ⟨#[99]⟩, .int true .i64 0, .int true .i64 8, .int true .i64 4, .bool true false])]
 else .bad
 else .bad
 else .bad
 else .bad) := by kernel_rfl

theorem tr_29 (s : ByteArray) (w : Int) : (evalF E29 Try.prog 29 [.str s, .agg [.int true .u8 109, .str ⟨#[15, 191]⟩, .int true .i64 0, .int true .i64 8, .int true .i64 4, .bool true false], .ptr 0 0 0] [(0, cells5 29 w 0 0 0)] 1024).leaf =
    (bif (cm .lss (↑s.size : Int) 8) then
 .ret (.int true .i64 0) [(0, .cells [.int false .i64 29, .int false .i64 (w), .int false .i64 0, .int false .i64 0, .int false .i64 0]), (1024, .cells [.int true .u8 109, .str ⟨#[15, 191]⟩, .int true .i64 0, .int true .i64 8, .int true .i64 4, .bool true false])]
 else
 bif (Nat.blt (0) (s.size)) then
 bif (Nat.blt (3) (s.size)) then
 bif (Nat.ble (8) (s.size)) then
 bif (Nat.ble ((s.extract 4 8).size) (8)) then
 .ret (.int false .i64 8) [(0, .cells [.int false .i64 29, .int false .i64 (w), (.int false .i64 (ar .add .i64 (ar .rem .i64 (ar .quo .i64 (conv .i64 (chr s 3)) 8) 8) (ar .mul .i64 8 (ar .rem .i64 (ar .quo .i64 (conv .i64 (chr s 0)) 4) 2)))), (.int false .i64 (ar .add .i64 (ar .rem .i64 (conv .i64 (chr s 3)) 8) (ar .mul .i64 8 (ar .rem .i64 (conv .i64 (chr s 0)) 2)))), .int false .i64 (numU (s.extract 4 8))]), (1024, .cells [.int true .u8 109, .str ⟨#[15, 191]⟩, .int true .i64 0, .int true .i64 8, .int true .i64 4, .bool true false])]
 else .bad
 else .bad
 else .bad
 else .bad) := by kernel_rfl

theorem tr_30 (s : ByteArray) (w : Int) : (evalF E29 Try.prog 29 [.str s, .agg [.int true .u8 109, .str ⟨#[15, 190]⟩, .int true .i64 0, .int true .i64 8, .int true .i64 4, .bool true false], .ptr 0 0 0] [(0, cells5 30 w 0 0 0)] 1024).leaf =
    (bif (cm .lss (↑s.size : Int) 8) then
 .ret (.int true .i64 0) [(0, .cells [.int false .i64 30, .int false .i64 (w), .int false .i64 0, .int false .i64 0, .int false .i64 0]), (1024, .cells [.int true .u8 109, .str ⟨#[15, 190]⟩, .int true .i64 0, .int true .i64 8, .int true .i64 4, .bool true false])]
 else
 bif (Nat.blt (0) (s.size)) then
 bif (Nat.blt (3) (s.size)) then
 bif (Nat.ble (8) (s.size)) then
 bif (Nat.ble ((s.extract 4 8).size) (8)) then
 .ret (.int false .i64 8) [(0, .cells [.int false .i64 30, .int false .i64 (w), (.int false .i64 (ar .add .i64 (ar .rem .i64 (ar .quo .i64 (conv .i64 (chr s 3)) 8) 8) (ar .mul .i64 8 (ar .rem .i64 (ar .quo .i64 (conv .i64 (chr s 0)) 4) 2)))), (.int false .i64 (ar .add .i64 (ar .rem .i64 (conv .i64 (chr s 3)) 8) (ar .mul .i64 8 (ar .rem .i64 (conv .i64 (chr s 0)) 2)))), .int false .i64 (numU (s.extract 4 8))]), (1024, .cells [.int true .u8 109, .str ⟨#[15, 190]⟩, .int true .i64 0, .int true .i64 8, .int true .i64 4, .bool true false])]
 else .bad
 else .bad
 else .bad
 else .bad) := by kernel_rfl

theorem tr_31 (s : ByteArray) (w : Int) : (evalF E29 Try.prog 29 [.str s, .agg [.int true .u8 109, .str ⟨#[15, 183]⟩, .int true .i64 0, .int true .i64 8, .int true .i64 4, .bool true false], .ptr 0 0 0] [(0, cells5 31 w 0 0 0)] 1024).leaf =
    (bif (cm .lss (↑s.size : Int) 8) then
 .ret (.int true .i64 0) [(0, .cells [.int false .i64 31, .int false .i64 (w), .int false .i64 0, .int false .i64 0, .int false .i64 0]), (1024, .cells [.int true .u8 109, .str ⟨#[15, 183]⟩, .int true .i64 0, .int true .i64 8, .int true .i64 4, .bool true false])]
 else
 bif (Nat.blt (0) (s.size)) then
 bif (Nat.blt (3) (s.size)) then
 bif (Nat.ble (8) (s.size)) then
 bif (Nat.ble ((s.extract 4 8).size) (8)) then
 .ret (.int false .i64 8) [(0, .cells [.int false .i64 31, .int false .i64 (w), (.int false .i64 (ar .add .i64 (ar .rem .i64 (ar .quo .i64 (conv .i64 (chr s 3)) 8) 8) (ar .mul .i64 8 (ar .rem .i64 (ar .quo .i64 (conv .i64 (chr s 0)) 4) 2)))), (.int false .i64 (ar .add .i64 (ar .rem .i64 (conv .i64 (chr s 3)) 8) (ar .mul .i64 8 (ar .rem .i64 (conv .i64 (chr s 0)) 2)))), .int false .i64 (numU (s.extract 4 8))]), (1024, .cells [.int true .u8 109, .str ⟨#[15, 183]⟩, .int true .i64 0, .int true .i64 8, .int true .i64 4, .bool true false])]
 else .bad
 else .bad
 else .bad
 else .bad) := by kernel_rfl

end Go.X
end

section
set_option linter.unusedVariables false
open Go Go.Ev Go.Proofs
namespace Go.X

theorem len_16 {w rd rs n : Int} (he : errX 16 w rd rs n = 0) : (strX 16 w rd rs n).size = 3 := by
  have hL : encL 16 w rd rs n = [rexI w 0 rd, 211, modI 192 5 rd] ++ tailL n 0 := by kernel_rfl
  rw [strX_ok he, S_size, hL, List.length_append, tail_length]
  rfl

attribute [local irreducible] evalF in
theorem read_16 : RP 16 (.agg [.int true .u8 110, .str ⟨#[211]⟩, .int true .i64 5, .int true .i64 0, .int true .i64 0, .bool true false]) := by
  intro s w
  refine RP_of (tr_16 s w) ?_
  repeat' refine RPl_cond (fun _ => ?_) (fun _ => ?_)
  all_goals simp only [cmz] at *
  all_goals first
    | (exfalso; omega)
    | (refine RPl_ret ⟨inI0, by omega, by omega, fun rd rs n hd => ?_⟩; obtain ⟨hw, hrd, qs, qn, hi, hf, hz, e0, e1, e2⟩ := fact_16 hd; omega)
    | (refine RPl_ret ⟨inI0, by omega, by omega, fun rd rs n hd => ?_⟩
       have hl := len_16 hd.1
       obtain ⟨hw, hrd, qs, qn, hi, hf, hz, e0, e1, e2⟩ := fact_16 hd
       obtain ⟨x2, x3⟩ := rexQ hw (by decide : small 0) hrd
       rw [← e0] at x2 x3
       obtain ⟨y0, y1⟩ := modQ (.inl rfl) (by decide : small 5) hrd
       rw [← e2] at y0 y1
       exact ⟨by omega, by rw [hl]; rfl, by rw [y0, x2]; exact putQ hrd, qs.symm, qn.symm⟩)

theorem len_17 {w rd rs n : Int} (he : errX 17 w rd rs n = 0) : (strX 17 w rd rs n).size = 3 := by
  have hL : encL 17 w rd rs n = [rexI w 0 rd, 211, modI 192 7 rd] ++ tailL n 0 := by kernel_rfl
  rw [strX_ok he, S_size, hL, List.length_append, tail_length]
  rfl

attribute [local irreducible] evalF in
theorem read_17 : RP 17 (.agg [.int true .u8 110, .str ⟨#[211]⟩, .int true .i64 7, .int true .i64 0, .int true .i64 0, .bool true false]) := by
  intro s w
  refine RP_of (tr_17 s w) ?_
  repeat' refine RPl_cond (fun _ => ?_) (fun _ => ?_)
  all_goals simp only [cmz] at *
  all_goals first
    | (exfalso; omega)
    | (refine RPl_ret ⟨inI0, by omega, by omega, fun rd rs n hd => ?_⟩; obtain ⟨hw, hrd, qs, qn, hi, hf, hz, e0, e1, e2⟩ := fact_17 hd; omega)
    | (refine RPl_ret ⟨inI0, by omega, by omega, fun rd rs n hd => ?_⟩
       have hl := len_17 hd.1
       obtain ⟨hw, hrd, qs, qn, hi, hf, hz, e0, e1, e2⟩ := fact_17 hd
       obtain ⟨x2, x3⟩ := rexQ hw (by decide : small 0) hrd
       rw [← e0] at x2 x3
       obtain ⟨y0, y1⟩ := modQ (.inl rfl) (by decide : small 7) hrd
       rw [← e2] at y0 y1
       exact ⟨by omega, by rw [hl]; rfl, by rw [y0, x2]; exact putQ hrd, qs.symm, qn.symm⟩)

theorem len_18 {w rd rs n : Int} (he : errX 18 w rd rs n = 0) : (strX 18 w rd rs n).size = 2 := by
  have hL : encL 18 w rd rs n = [rexI w 0 0, 153] ++ tailL n 0 := by kernel_rfl
  rw [strX_ok he, S_size, hL, List.length_append, tail_length]
  rfl

attribute [local irreducible] evalF in
theorem read_18 : RP 18 (.agg [.int true .u8 120, .str ⟨#[]⟩, .int true .i64 0, .int true .i64 0, .int true .i64 0, .bool true false]) := by
  intro s w
  refine RP_of (tr_18 s w) ?_
  repeat' refine RPl_cond (fun _ => ?_) (fun _ => ?_)
  all_goals simp only [cmz] at *
  all_goals first
    | (exfalso; omega)
    | (refine RPl_ret ⟨inI0, by omega, by omega, fun rd rs n hd => ?_⟩; obtain ⟨hw, qs, qd, qn, hi, hf, hz, e0, e1⟩ := fact_18 hd; omega)
    | (refine RPl_ret ⟨inI0, by omega, by omega, fun rd rs n hd => ?_⟩
       have hl := len_18 hd.1
       obtain ⟨hw, qs, qd, qn, hi, hf, hz, e0, e1⟩ := fact_18 hd
       obtain ⟨x2, x3⟩ := rexQ hw (by decide : small 0) (by decide : small 0)
       rw [← e0] at x2 x3
       exact ⟨by omega, by rw [hl]; rfl, qd.symm, qs.symm, qn.symm⟩)

theorem len_19 {w rd rs n : Int} (he : errX 19 w rd rs n = 0) : (strX 19 w rd rs n).size = 7 := by
  have hL : encL 19 w rd rs n = [rexI w 0 rd, 129, modI 192 0 rd] ++ tailL n 4 := by kernel_rfl
  rw [strX_ok he, S_size, hL, List.length_append, tail_length]
  rfl

attribute [local irreducible] evalF in
theorem read_19 : RP 19 (.agg [.int true .u8 110, .str ⟨#[129]⟩, .int true .i64 0, .int true .i64 8, .int true .i64 4, .bool true false]) := by
  intro s w
  refine RP_of (tr_19 s w) ?_
  repeat' refine RPl_cond (fun _ => ?_) (fun _ => ?_)
  all_goals simp only [cmz] at *
  all_goals first
    | (exfalso; omega)
    | (refine RPl_ret ⟨inI0, by omega, by omega, fun rd rs n hd => ?_⟩; obtain ⟨hw, qw, hrd, qs, hi, hf, hz, e0, e1, e2, ht⟩ := fact_19 hd; omega)
    | (refine RPl_ret ⟨numU_range _ (by simp only [ByteArray.size_extract]; omega), by omega, by omega, fun rd rs n hd => ?_⟩
       have hl := len_19 hd.1
       obtain ⟨hw, qw, hrd, qs, hi, hf, hz, e0, e1, e2, ht⟩ := fact_19 hd
       obtain ⟨x2, x3⟩ := rexQ hw (by decide : small 0) hrd
       rw [← e0] at x2 x3
       obtain ⟨y0, y1⟩ := modQ (.inl rfl) (by decide : small 0) hrd
       rw [← e2] at y0 y1
       exact ⟨by omega, by rw [hl]; rfl, by rw [y0, x2]; exact putQ hrd, qs.symm, num_tail 3 4 (by decide) hz ht hi hf⟩)

theorem len_20 {w rd rs n : Int} (he : errX 20 w rd rs n = 0) : (strX 20 w rd rs n).size = 4 := by
  have hL : encL 20 w rd rs n = [rexI w 0 rd, 15, 144 + n, modI 192 0 rd] ++ tailL n 0 := by kernel_rfl
  rw [strX_ok he, S_size, hL, List.length_append, tail_length]
  rfl

attribute [local irreducible] evalF in
theorem read_20 : RP 20 (.agg [.int true .u8 115, .str ⟨#[]⟩, .int true .i64 0, .int true .i64 4, .int true .i64 0, .bool true false]) := by
  intro s w
  refine RP_of (tr_20 s w) ?_
  repeat' refine RPl_cond (fun _ => ?_) (fun _ => ?_)
  all_goals simp only [cmz] at *
  all_goals first
    | (exfalso; omega)
    | (refine RPl_ret ⟨inI0, by omega, by omega, fun rd rs n hd => ?_⟩; obtain ⟨hw, qw, hrd, qs, hsn, hi, hf, hz, e0, e1, e2, e3⟩ := fact_20 hd; omega)
    | (refine RPl_ret ⟨more_inI (chr_range _ _) (by decide), by omega, by omega, fun rd rs n hd => ?_⟩
       have hl := len_20 hd.1
       obtain ⟨hw, qw, hrd, qs, hsn, hi, hf, hz, e0, e1, e2, e3⟩ := fact_20 hd
       obtain ⟨x2, x3⟩ := rexQ hw (by decide : small 0) hrd
       rw [← e0] at x2 x3
       obtain ⟨y0, y1⟩ := modQ (.inl rfl) (by decide : small 0) hrd
       rw [← e3] at y0 y1
       exact ⟨by omega, by rw [hl]; rfl, by rw [y0, x2]; exact putQ hrd, qs.symm, by rw [e2]; exact more_cond (by decide) hsn⟩)

theorem len_21 {w rd rs n : Int} (he : errX 21 w rd rs n = 0) : (strX 21 w rd rs n).size = 4 := by
  have hL : encL 21 w rd rs n = [rexI w rd rs, 15, 182, modI 192 rd rs] ++ tailL n 0 := by kernel_rfl
  rw [strX_ok he, S_size, hL, List.length_append, tail_length]
  rfl

attribute [local irreducible] evalF in
theorem read_21 : RP 21 (.agg [.int true .u8 113, .str ⟨#[15, 182]⟩, .int true .i64 0, .int true .i64 8, .int true .i64 0, .bool true false]) := by
  intro s w
  refine RP_of (tr_21 s w) ?_
  repeat' refine RPl_cond (fun _ => ?_) (fun _ => ?_)
  all_goals simp only [cmz] at *
  all_goals first
    | (exfalso; omega)
    | (refine RPl_ret ⟨inI0, by omega, by omega, fun rd rs n hd => ?_⟩; obtain ⟨hw, qw, hrd, hrs, qn, hi, hf, hz, e0, e1, e2, e3⟩ := fact_21 hd; omega)
    | (refine RPl_ret ⟨inI0, by omega, by omega, fun rd rs n hd => ?_⟩
       have hl := len_21 hd.1
       obtain ⟨hw, qw, hrd, hrs, qn, hi, hf, hz, e0, e1, e2, e3⟩ := fact_21 hd
       obtain ⟨x2, x3⟩ := rexQ hw hrd hrs
       rw [← e0] at x2 x3
       obtain ⟨y0, y1⟩ := modQ (.inl rfl) hrd hrs
       rw [← e3] at y0 y1
       exact ⟨by omega, by rw [hl]; rfl, by rw [y1, x3]; exact putQ hrd, by rw [y0, x2]; exact putQ hrs, qn.symm⟩)

theorem len_22 {w rd rs n : Int} (he : errX 22 w rd rs n = 0) : (strX 22 w rd rs n).size = 4 := by
  have hL : encL 22 w rd rs n = [rexI w rd rs, 15, 183, modI 192 rd rs] ++ tailL n 0 := by kernel_rfl
  rw [strX_ok he, S_size, hL, List.length_append, tail_length]
  rfl

attribute [local irreducible] evalF in
theorem read_22 : RP 22 (.agg [.int true .u8 113, .str ⟨#[15, 183]⟩, .int true .i64 0, .int true .i64 8, .int true .i64 0, .bool true false]) := by
  intro s w
  refine RP_of (tr_22 s w) ?_
  repeat' refine RPl_cond (fun _ => ?_) (fun _ => ?_)
  all_goals simp only [cmz] at *
  all_goals first
    | (exfalso; omega)
    | (refine RPl_ret ⟨inI0, by omega, by omega, fun rd rs n hd => ?_⟩; obtain ⟨hw, qw, hrd, hrs, qn, hi, hf, hz, e0, e1, e2, e3⟩ := fact_22 hd; omega)
    | (refine RPl_ret ⟨inI0, by omega, by omega, fun rd rs n hd => ?_⟩
       have hl := len_22 hd.1
       obtain ⟨hw, qw, hrd, hrs, qn, hi, hf, hz, e0, e1, e2, e3⟩ := fact_22 hd
       obtain ⟨x2, x3⟩ := rexQ hw hrd hrs
       rw [← e0] at x2 x3
       obtain ⟨y0, y1⟩ := modQ (.inl rfl) hrd hrs
       rw [← e3] at y0 y1
       exact ⟨by omega, by rw [hl]; rfl, by rw [y1, x3]; exact putQ hrd, by rw [y0, x2]; exact putQ hrs, qn.symm⟩)

theorem len_23 {w rd rs n : Int} (he : errX 23 w rd rs n = 0) : (strX 23 w rd rs n).size = 4 := by
  have hL : encL 23 w rd rs n = [rexI w rd rs, 15, 190, modI 192 rd rs] ++ tailL n 0 := by kernel_rfl
  rw [strX_ok he, S_size, hL, List.length_append, tail_length]
  rfl

attribute [local irreducible] evalF in
theorem read_23 : RP 23 (.agg [.int true .u8 113, .str ⟨#[15, 190]⟩, .int true .i64 0, .int true .i64 8, .int true .i64 0, .bool true false]) := by
  intro s w
  refine RP_of (tr_23 s w) ?_
  repeat' refine RPl_cond (fun _ => ?_) (fun _ => ?_)
  all_goals simp only [cmz] at *
  all_goals first
    | (exfalso; omega)
    | (refine RPl_ret ⟨inI0, by omega, by omega, fun rd rs n hd => ?_⟩; obtain ⟨hw, qw, hrd, hrs, qn, hi, hf, hz, e0, e1, e2, e3⟩ := fact_23 hd; omega)
    | (refine RPl_ret ⟨inI0, by omega, by omega, fun rd rs n hd => ?_⟩
       have hl := len_23 hd.1
       obtain ⟨hw, qw, hrd, hrs, qn, hi, hf, hz, e0, e1, e2, e3⟩ := fact_23 hd
       obtain ⟨x2, x3⟩ := rexQ hw hrd hrs
       rw [← e0] at x2 x3
       obtain ⟨y0, y1⟩ := modQ (.inl rfl) hrd hrs
       rw [← e3] at y0 y1
       exact ⟨by omega, by rw [hl]; rfl, by rw [y1, x3]; exact putQ hrd, by rw [y0, x2]; exact putQ hrs, qn.symm⟩)

theorem len_24 {w rd rs n : Int} (he : errX 24 w rd rs n = 0) : (strX 24 w rd rs n).size = 4 := by
  have hL : encL 24 w rd rs n = [rexI w rd rs, 15, 191, modI 192 rd rs] ++ tailL n 0 := by kernel_rfl
  rw [strX_ok he, S_size, hL, List.length_append, tail_length]
  rfl

attribute [local irreducible] evalF in
theorem read_24 : RP 24 (.agg [.int true .u8 113, .str ⟨#[15, 191]⟩, .int true .i64 0, .int true .i64 8, .int true .i64 0, .bool true false]) := by
  intro s w
  refine RP_of (tr_24 s w) ?_
  repeat' refine RPl_cond (fun _ => ?_) (fun _ => ?_)
  all_goals simp only [cmz] at *
  all_goals first
    | (exfalso; omega)
    | (refine RPl_ret ⟨inI0, by omega, by omega, fun rd rs n hd => ?_⟩; obtain ⟨hw, qw, hrd, hrs, qn, hi, hf, hz, e0, e1, e2, e3⟩ := fact_24 hd; omega)
    | (refine RPl_ret ⟨inI0, by omega, by omega, fun rd rs n hd => ?_⟩
       have hl := len_24 hd.1
       obtain ⟨hw, qw, hrd, hrs, qn, hi, hf, hz, e0, e1, e2, e3⟩ := fact_24 hd
       obtain ⟨x2, x3⟩ := rexQ hw hrd hrs
       rw [← e0] at x2 x3
       obtain ⟨y0, y1⟩ := modQ (.inl rfl) hrd hrs
       rw [← e3] at y0 y1
       exact ⟨by omega, by rw [hl]; rfl, by rw [y1, x3]; exact putQ hrd, by rw [y0, x2]; exact putQ hrs, qn.symm⟩)

theorem len_25 {w rd rs n : Int} (he : errX 25 w rd rs n = 0) : (strX 25 w rd rs n).size = 3 := by
  have hL : encL 25 w rd rs n = [rexI w rd rs, 99, modI 192 rd rs] ++ tailL n 0 := by kernel_rfl
  rw [strX_ok he, S_size, hL, List.length_append, tail_length]
  rfl

attribute [local irreducible] evalF in
theorem read_25 : RP 25 (.agg [.int true .u8 113, .str ⟨#[99]⟩, .int true .i64 0, .int true .i64 8, .int true .i64 0, .bool true false]) := by
  intro s w
  refine RP_of (tr_25 s w) ?_
  repeat' refine RPl_cond (fun _ => ?_) (fun _ => ?_)
  all_goals simp only [cmz] at *
  all_goals first
    | (exfalso; omega)
    | (refine RPl_ret ⟨inI0, by omega, by omega, fun rd rs n hd => ?_⟩; obtain ⟨hw, qw, hrd, hrs, qn, hi, hf, hz, e0, e1, e2⟩ := fact_25 hd; omega)
    | (refine RPl_ret ⟨inI0, by omega, by omega, fun rd rs n hd => ?_⟩
       have hl := len_25 hd.1
       obtain ⟨hw, qw, hrd, hrs, qn, hi, hf, hz, e0, e1, e2⟩ := fact_25 hd
       obtain ⟨x2, x3⟩ := rexQ hw hrd hrs
       rw [← e0] at x2 x3
       obtain ⟨y0, y1⟩ := modQ (.inl rfl) hrd hrs
       rw [← e2] at y0 y1
       exact ⟨by omega, by rw [hl]; rfl, by rw [y1, x3]; exact putQ hrd, by rw [y0, x2]; exact putQ hrs, qn.symm⟩)

theorem len_26 {w rd rs n : Int} (he : errX 26 w rd rs n = 0) : (strX 26 w rd rs n).size = 7 := by
  have hL : encL 26 w rd rs n = [rexI w rd rs, 139, modI 128 rd rs] ++ tailL n 4 := by kernel_rfl
  rw [strX_ok he, S_size, hL, List.length_append, tail_length]
  rfl

attribute [local irreducible] evalF in
theorem read_26 : RP 26 (.agg [.int true .u8 109, .str ⟨#[139]⟩, .int true .i64 0, .int true .i64 8, .int true .i64 4, .bool true false]) := by
  intro s w
  refine RP_of (tr_26 s w) ?_
  repeat' refine RPl_cond (fun _ => ?_) (fun _ => ?_)
  all_goals simp only [cmz] at *
  all_goals first
    | (exfalso; omega)
    | (refine RPl_ret ⟨inI0, by omega, by omega, fun rd rs n hd => ?_⟩; obtain ⟨hw, qw, hrd, hrs, hi, hf, hz, e0, e1, e2, ht⟩ := fact_26 hd; omega)
    | (refine RPl_ret ⟨numU_range _ (by simp only [ByteArray.size_extract]; omega), by omega, by omega, fun rd rs n hd => ?_⟩
       have hl := len_26 hd.1
       obtain ⟨hw, qw, hrd, hrs, hi, hf, hz, e0, e1, e2, ht⟩ := fact_26 hd
       obtain ⟨x2, x3⟩ := rexQ hw hrd hrs
       rw [← e0] at x2 x3
       obtain ⟨y0, y1⟩ := modQ (.inr rfl) hrd hrs
       rw [← e2] at y0 y1
       exact ⟨by omega, by rw [hl]; rfl, by rw [y1, x3]; exact putQ hrd, by rw [y0, x2]; exact putQ hrs, num_tail 3 4 (by decide) hz ht hi hf⟩)

theorem len_27 {w rd rs n : Int} (he : errX 27 w rd rs n = 0) : (strX 27 w rd rs n).size = 7 := by
  have hL : encL 27 w rd rs n = [rexI w rd rs, 139, modI 128 rd rs] ++ tailL n 4 := by kernel_rfl
  rw [strX_ok he, S_size, hL, List.length_append, tail_length]
  rfl

attribute [local irreducible] evalF in
theorem read_27 : RP 27 (.agg [.int true .u8 109, .str ⟨#[139]⟩, .int true .i64 0, .int true .i64 4, .int true .i64 4, .bool true false]) := by
  intro s w
  refine RP_of (tr_27 s w) ?_
  repeat' refine RPl_cond (fun _ => ?_) (fun _ => ?_)
  all_goals simp only [cmz] at *
  all_goals first
    | (exfalso; omega)
    | (refine RPl_ret ⟨inI0, by omega, by omega, fun rd rs n hd => ?_⟩; obtain ⟨hw, qw, hrd, hrs, hi, hf, hz, e0, e1, e2, ht⟩ := fact_27 hd; omega)
    | (refine RPl_ret ⟨numU_range _ (by simp only [ByteArray.size_extract]; omega), by omega, by omega, fun rd rs n hd => ?_⟩
       have hl := len_27 hd.1
       obtain ⟨hw, qw, hrd, hrs, hi, hf, hz, e0, e1, e2, ht⟩ := fact_27 hd
       obtain ⟨x2, x3⟩ := rexQ hw hrd hrs
       rw [← e0] at x2 x3
       obtain ⟨y0, y1⟩ := modQ (.inr rfl) hrd hrs
       rw [← e2] at y0 y1
       exact ⟨by omega, by rw [hl]; rfl, by rw [y1, x3]; exact putQ hrd, by rw [y0, x2]; exact putQ hrs, num_tail 3 4 (by decide) hz ht hi hf⟩)

theorem len_28 {w rd rs n : Int} (he : errX 28 w rd rs n = 0) : (strX 28 w rd rs n).size = 7 := by
  have hL : encL 28 w rd rs n = [rexI w rd rs, 99, modI 128 rd rs] ++ tailL n 4 := by kernel_rfl
  rw [strX_ok he, S_size, hL, List.length_append, tail_length]
  rfl

attribute [local irreducible] evalF in
theorem read_28 : RP 28 (.agg [.int true .u8 109, .str ⟨#[99]⟩, .int true .i64 0, .int true .i64 8, .int true .i64 4, .bool true false]) := by
  intro s w
  refine RP_of (tr_28 s w) ?_
  repeat' refine RPl_cond (fun _ => ?_) (fun _ => ?_)
  all_goals simp only [cmz] at *
  all_goals first
    | (exfalso; omega)
    | (refine RPl_ret ⟨inI0, by omega, by omega, fun rd rs n hd => ?_⟩; obtain ⟨hw, qw, hrd, hrs, hi, hf, hz, e0, e1, e2, ht⟩ := fact_28 hd; omega)
    | (refine RPl_ret ⟨numU_range _ (by simp only [ByteArray.size_extract]; omega), by omega, by omega, fun rd rs n hd => ?_⟩
       have hl := len_28 hd.1
       obtain ⟨hw, qw, hrd, hrs, hi, hf, hz, e0, e1, e2, ht⟩ := fact_28 hd
       obtain ⟨x2, x3⟩ := rexQ hw hrd hrs
       rw [← e0] at x2 x3
       obtain ⟨y0, y1⟩ := modQ (.inr rfl) hrd hrs
       rw [← e2] at y0 y1
       exact ⟨by omega, by rw [hl]; rfl, by rw [y1, x3]; exact putQ hrd, by rw [y0, x2]; exact putQ hrs, num_tail 3 4 (by decide) hz ht hi hf⟩)

theorem len_29 {w rd rs n : Int} (he : errX 29 w rd rs n = 0) : (strX 29 w rd rs n).size = 8 := by
  have hL : encL 29 w rd rs n = [rexI w rd rs, 15, 191, modI 128 rd rs] ++ tailL n 4 := by kernel_rfl
  rw [strX_ok he, S_size, hL, List.length_append, tail_length]
  rfl

attribute [local irreducible] evalF in
theorem read_29 : RP 29 (.agg [.int true .u8 109, .str ⟨#[15, 191]⟩, .int true .i64 0, .int true .i64 8, .int true .i64 4, .bool true false]) := by
  intro s w
  refine RP_of (tr_29 s w) ?_
  repeat' refine RPl_cond (fun _ => ?_) (fun _ => ?_)
  all_goals simp only [cmz] at *
  all_goals first
    | (exfalso; omega)
    | (refine RPl_ret ⟨inI0, by omega, by omega, fun rd rs n hd => ?_⟩; obtain ⟨hw, qw, hrd, hrs, hi, hf, hz, e0, e1, e2, e3, ht⟩ := fact_29 hd; omega)
    | (refine RPl_ret ⟨numU_range _ (by simp only [ByteArray.size_extract]; omega), by omega, by omega, fun rd rs n hd => ?_⟩
       have hl := len_29 hd.1
       obtain ⟨hw, qw, hrd, hrs, hi, hf, hz, e0, e1, e2, e3, ht⟩ := fact_29 hd
       obtain ⟨x2, x3⟩ := rexQ hw hrd hrs
       rw [← e0] at x2 x3
       obtain ⟨y0, y1⟩ := modQ (.inr rfl) hrd hrs
       rw [← e3] at y0 y1
       exact ⟨by omega, by rw [hl]; rfl, by rw [y1, x3]; exact putQ hrd, by rw [y0, x2]; exact putQ hrs, num_tail 4 4 (by decide) hz ht hi hf⟩)

theorem len_30 {w rd rs n : Int} (he : errX 30 w rd rs n = 0) : (strX 30 w rd rs n).size = 8 := by
  have hL : encL 30 w rd rs n = [rexI w rd rs, 15, 190, modI 128 rd rs] ++ tailL n 4 := by kernel_rfl
  rw [strX_ok he, S_size, hL, List.length_append, tail_length]
  rfl

attribute [local irreducible] evalF in
theorem read_30 : RP 30 (.agg [.int true .u8 109, .str ⟨#[15, 190]⟩, .int true .i64 0, .int true .i64 8, .int true .i64 4, .bool true false]) := by
  intro s w
  refine RP_of (tr_30 s w) ?_
  repeat' refine RPl_cond (fun _ => ?_) (fun _ => ?_)
  all_goals simp only [cmz] at *
  all_goals first
    | (exfalso; omega)
    | (refine RPl_ret ⟨inI0, by omega, by omega, fun rd rs n hd => ?_⟩; obtain ⟨hw, qw, hrd, hrs, hi, hf, hz, e0, e1, e2, e3, ht⟩ := fact_30 hd; omega)
    | (refine RPl_ret ⟨numU_range _ (by simp only [ByteArray.size_extract]; omega), by omega, by omega, fun rd rs n hd => ?_⟩
       have hl := len_30 hd.1
       obtain ⟨hw, qw, hrd, hrs, hi, hf, hz, e0, e1, e2, e3, ht⟩ := fact_30 hd
       obtain ⟨x2, x3⟩ := rexQ hw hrd hrs
       rw [← e0] at x2 x3
       obtain ⟨y0, y1⟩ := modQ (.inr rfl) hrd hrs
       rw [← e3] at y0 y1
       exact ⟨by omega, by rw [hl]; rfl, by rw [y1, x3]; exact putQ hrd, by rw [y0, x2]; exact putQ hrs, num_tail 4 4 (by decide) hz ht hi hf⟩)

theorem len_31 {w rd rs n : Int} (he : errX 31 w rd rs n = 0) : (strX 31 w rd rs n).size = 8 := by
  have hL : encL 31 w rd rs n = [rexI w rd rs, 15, 183, modI 128 rd rs] ++ tailL n 4 := by kernel_rfl
  rw [strX_ok he, S_size, hL, List.length_append, tail_length]
  rfl

attribute [local irreducible] evalF in
theorem read_31 : RP 31 (.agg [.int true .u8 109, .str ⟨#[15, 183]⟩, .int true .i64 0, .int true .i64 8, .int true .i64 4, .bool true false]) := by
  intro s w
  refine RP_of (tr_31 s w) ?_
  repeat' refine RPl_cond (fun _ => ?_) (fun _ => ?_)
  all_goals simp only [cmz] at *
  all_goals first
    | (exfalso; omega)
    | (refine RPl_ret ⟨inI0, by omega, by omega, fun rd rs n hd => ?_⟩; obtain ⟨hw, qw, hrd, hrs, hi, hf, hz, e0, e1, e2, e3, ht⟩ := fact_31 hd; omega)
    | (refine RPl_ret ⟨numU_range _ (by simp only [ByteArray.size_extract]; omega), by omega, by omega, fun rd rs n hd => ?_⟩
       have hl := len_31 hd.1
       obtain ⟨hw, qw, hrd, hrs, hi, hf, hz, e0, e1, e2, e3, ht⟩ := fact_31 hd
       obtain ⟨x2, x3⟩ := rexQ hw hrd hrs
       rw [← e0] at x2 x3
       obtain ⟨y0, y1⟩ := modQ (.inr rfl) hrd hrs
       rw [← e3] at y0 y1
       exact ⟨by omega, by rw [hl]; rfl, by rw [y1, x3]; exact putQ hrd, by rw [y0, x2]; exact putQ hrs, num_tail 4 4 (by decide) hz ht hi hf⟩)

end Go.X
end

section
set_option linter.unusedVariables false
open Go Go.Ev Go.Proofs
namespace Go.X

theorem tr_32 (s : ByteArray) (w : Int) : (evalF E29 Try.prog 29 [.str s, .agg [.int true .u8 109, .str ⟨#[15, 182]⟩, .int true .i64 0, .int true .i64 8, .int true .i64 4, .bool true false], .ptr 0 0 0] [(0, cells5 32 w 0 0 0)] 1024).leaf =
    (bif (cm .lss (↑s.size : Int) 8) then
 .ret (.int true .i64 0) [(0, .cells [.int false .i64 32, .int false .i64 (w), .int false .i64 0, .int false .i64 0, .int false .i64 0]), (1024, .cells [.int true .u8 109, .str ⟨#[15, 182]⟩, .int true .i64 0, .int true .i64 8, .int true .i64 4, .bool true false])]
 else
 bif (Nat.blt (0) (s.size)) then
 bif (Nat.blt (3) (s.size)) then
 bif (Nat.ble (8) (s.size)) then
 bif (Nat.ble ((s.extract 4 8).size) (8)) then
 .ret (.int false .i64 8) [(0, .cells [.int false .i64 32, .int false .i64 (w), (.int false .i64 (ar .add .i64 (ar .rem .i64 (ar .quo .i64 (conv .i64 (chr s 3)) 8) 8) (ar .mul .i64 8 (ar .rem .i64 (ar .quo .i64 (conv .i64 (chr s 0)) 4) 2)))), (.int false .i64 (ar .add .i64 (ar .rem .i64 (conv .i64 (chr s 3)) 8) (ar .mul .i64 8 (ar .rem .i64 (conv .i64 (chr s 0)) 2)))), .int false .i64 (numU (s.extract 4 8))]), (1024, .cells [.int true .u8 109, .str ⟨#[15, 182]⟩, .int true .i64 0, .int true .i64 8, .int true .i64 4, .bool true false])]
 else .bad
 else .bad
 else .bad
 else .bad) := by kernel_rfl

theorem tr_33 (s : ByteArray) (w : Int) : (evalF E29 Try.prog 29 [.str s, .agg [.int true .u8 109, .str ⟨#[137]⟩, .int true .i64 0, .int true .i64 8, .int true .i64 4, .bool true false], .ptr 0 0 0] [(0, cells5 33 w 0 0 0)] 1024).leaf =
    (bif (cm .lss (↑s.size : Int) 7) then
 .ret (.int true .i64 0) [(0, .cells [.int false .i64 33, .int false .i64 (w), .int false .i64 0, .int false .i64 0, .int false .i64 0]), (1024, .cells [.int true .u8 109, .str ⟨#[137]⟩, .int true .i64 0, .int true .i64 8, .int true .i64 4, .bool true false])]
 else
 bif (Nat.blt (0) (s.size)) then
 bif (Nat.blt (2) (s.size)) then
 bif (Nat.ble (7) (s.size)) then
 bif (Nat.ble ((s.extract 3 7).size) (8)) then
 .ret (.int false .i64 7) [(0, .cells [.int false .i64 33, .int false .i64 (w), (.int false .i64 (ar .add .i64 (ar .rem .i64 (ar .quo .i64 (conv .i64 (chr s 2)) 8) 8) (ar .mul .i64 8 (ar .rem .i64 (ar .quo .i64 (conv .i64 (chr s 0)) 4) 2)))), (.int false .i64 (ar .add .i64 (ar .rem .i64 (conv .i64 (chr s 2)) 8) (ar .mul .i64 8 (ar .rem .i64 (conv .i64 (chr s 0)) 2)))), .int false .i64 (numU (s.extract 3 7))]), (1024, .cells [.int true .u8 109, .str ⟨#[137]⟩, .int true .i64 0, .int true .i64 8, .int true .i64 4, .bool true false])]
 else .bad
 else .bad
 else .bad
 else .bad) := by kernel_rfl

theorem tr_34 (s : ByteArray) (w : Int) : (evalF E29 Try.prog 29 [.str s, .agg [.int true .u8 109, .str ⟨#[137]⟩, .int true .i64 0, .int true .i64 4, .int true .i64 4, .bool true false], .ptr 0 0 0] [(0, cells5 34 w 0 0 0)] 1024).leaf =
    (bif (cm .lss (↑s.size : Int) 7) then
 .ret (.int true .i64 0) [(0, .cells [.int false .i64 34, .int false .i64 (w), .int false .i64 0, .int false .i64 0, .int false .i64 0]), (1024, .cells [.int true .u8 109, .str ⟨#[137]⟩, .int true .i64 0, .int true .i64 4, .int true .i64 4, .bool true false])]
 else
 bif (Nat.blt (0) (s.size)) then
 bif (Nat.blt (2) (s.size)) then
 bif (Nat.ble (7) (s.size)) then
 bif (Nat.ble ((s.extract 3 7).size) (8)) then
 .ret (.int false .i64 7) [(0, .cells [.int false .i64 34, .int false .i64 (w), (.int false .i64 (ar .add .i64 (ar .rem .i64 (ar .quo .i64 (conv .i64 (chr s 2)) 8) 8) (ar .mul .i64 8 (ar .rem .i64 (ar .quo .i64 (conv .i64 (chr s 0)) 4) 2)))), (.int false .i64 (ar .add .i64 (ar .rem .i64 (conv .i64 (chr s 2)) 8) (ar .mul .i64 8 (ar .rem .i64 (conv .i64 (chr s 0)) 2)))), .int false .i64 (numU (s.extract 3 7))]), (1024, .cells [.int true .u8 109, .str ⟨#[137]⟩, .int true .i64 0, .int true .i64 4, .int true .i64 4, .bool true false])]
 else .bad
 else .bad
 else .bad
 else .bad) := by kernel_rfl

theorem tr_35 (s : ByteArray) (w : Int) : (evalF E29 Try.prog 29 [.str s, .agg [.int true .u8 109, .str ⟨#[137]⟩, .int true .i64 0, .int true .i64 4, .int true .i64 4, .bool true true], .ptr 0 0 0] [(0, cells5 35 w 0 0 0)] 1024).leaf =
    (bif (cm .lss (↑s.size : Int) 8) then
 .ret (.int true .i64 0) [(0, .cells [.int false .i64 35, .int false .i64 (w), .int false .i64 0, .int false .i64 0, .int false .i64 0]), (1024, .cells [.int true .u8 109, .str ⟨#[137]⟩, .int true .i64 0, .int true .i64 4, .int true .i64 4, .bool true true])]
 else
 bif (Nat.blt (1) (s.size)) then
 bif (Nat.blt (3) (s.size)) then
 bif (Nat.ble (8) (s.size)) then
 bif (Nat.ble ((s.extract 4 8).size) (8)) then
 .ret (.int false .i64 8) [(0, .cells [.int false .i64 35, .int false .i64 (w), (.int false .i64 (ar .add .i64 (ar .rem .i64 (ar .quo .i64 (conv .i64 (chr s 3)) 8) 8) (ar .mul .i64 8 (ar .rem .i64 (ar .quo .i64 (conv .i64 (chr s 1)) 4) 2)))), (.int false .i64 (ar .add .i64 (ar .rem .i64 (conv .i64 (chr s 3)) 8) (ar .mul .i64 8 (ar .rem .i64 (conv .i64 (chr s 1)) 2)))), .int false .i64 (numU (s.extract 4 8))]), (1024, .cells [.int true .u8 109, .str ⟨#[137]⟩, .int true .i64 0, .int true .i64 4, .int true .i64 4, .bool true true])]
 else .bad
 else .bad
 else .bad
 else .bad) := by kernel_rfl

theorem tr_36 (s : ByteArray) (w : Int) : (evalF E29 Try.prog 29 [.str s, .agg [.int true .u8 109, .str ⟨#[136]⟩, .int true .i64 0, .int true .i64 4, .int true .i64 4, .bool true false], .ptr 0 0 0] [(0, cells5 36 w 0 0 0)] 1024).leaf =
    (bif (cm .lss (↑s.size : Int) 7) then
 .ret (.int true .i64 0) [(0, .cells [.int false .i64 36, .int false .i64 (w), .int false .i64 0, .int false .i64 0, .int false .i64 0]), (1024, .cells [.int true .u8 109, .str ⟨#[136]⟩, .int true .i64 0, .int true .i64 4, .int true .i64 4, .bool true false])]
 else
 bif (Nat.blt (0) (s.size)) then
 bif (Nat.blt (2) (s.size)) then
 bif (Nat.ble (7) (s.size)) then
 bif (Nat.ble ((s.extract 3 7).size) (8)) then
 .ret (.int false .i64 7) [(0, .cells [.int false .i64 36, .int false .i64 (w), (.int false .i64 (ar .add .i64 (ar .rem .i64 (ar .quo .i64 (conv .i64 (chr s 2)) 8) 8) (ar .mul .i64 8 (ar .rem .i64 (ar .quo .i64 (conv .i64 (chr s 0)) 4) 2)))), (.int false .i64 (ar .add .i64 (ar .rem .i64 (conv .i64 (chr s 2)) 8) (ar .mul .i64 8 (ar .rem .i64 (conv .i64 (chr s 0)) 2)))), .int false .i64 (numU (s.extract 3 7))]), (1024, .cells [.int true .u8 109, .str ⟨#[136]⟩, .int true .i64 0, .int true .i64 4, .int true .i64 4, .bool true false])]
 else .bad
 else .bad
 else .bad
 else .bad) := by kernel_rfl

theorem tr_37 (s : ByteArray) (w : Int) : (evalF E29 Try.prog 29 [.str s, .agg [.int true .u8 109, .str ⟨#[141]⟩, .int true .i64 0, .int true .i64 8, .int true .i64 4, .bool true false], .ptr 0 0 0] [(0, cells5 37 w 0 0 0)] 1024).leaf =
    (bif (cm .lss (↑s.size : Int) 7) then
 .ret (.int true .i64 0) [(0, .cells [.int false .i64 37, .int false .i64 (w), .int false .i64 0, .int false .i64 0, .int false .i64 0]), (1024, .cells [.int true .u8 109, .str ⟨#[141]⟩, .int true .i64 0, .int true .i64 8, .int true .i64 4, .bool true false])]
 else
 bif (Nat.blt (0) (s.size)) then
 bif (Nat.blt (2) (s.size)) then
 bif (Nat.ble (7) (s.size)) then
 bif (Nat.ble ((s.extract 3 7).size) (8)) then
 .ret (.int false .i64 7) [(0, .cells [.int false .i64 37, .int false .i64 (w), (.int false .i64 (ar .add .i64 (ar .rem .i64 (ar .quo .i64 (conv .i64 (chr s 2)) 8) 8) (ar .mul .i64 8 (ar .rem .i64 (ar .quo .i64 (conv .i64 (chr s 0)) 4) 2)))), (.int false .i64 (ar .add .i64 (ar .rem .i64 (conv .i64 (chr s 2)) 8) (ar .mul .i64 8 (ar .rem .i64 (conv .i64 (chr s 0)) 2)))), .int false .i64 (numU (s.extract 3 7))]), (1024, .cells [.int true .u8 109, .str ⟨#[141]⟩, .int true .i64 0, .int true .i64 8, .int true .i64 4, .bool true false])]
 else .bad
 else .bad
 else .bad
 else .bad) := by kernel_rfl

theorem tr_38 (s : ByteArray) (w : Int) : (evalF E29 Try.prog 29 [.str s, .agg [.int true .u8 98, .str ⟨#[80]⟩, .int true .i64 0, .int true .i64 4, .int true .i64 0, .bool true false], .ptr 0 0 0] [(0, cells5 38 w 0 0 0)] 1024).leaf =
    (bif (cm .lss (↑s.size : Int) 2) then
 .ret (.int true .i64 0) [(0, .cells [.int false .i64 38, .int false .i64 (w), .int false .i64 0, .int false .i64 0, .int false .i64 0]), (1024, .cells [.int true .u8 98, .str ⟨#[80]⟩, .int true .i64 0, .int true .i64 4, .int true .i64 0, .bool true false])]
 else
 bif (Nat.blt (0) (s.size)) then
 bif (Nat.blt (1) (s.size)) then
 bif (Nat.blt (1) (s.size)) then
 .ret (.int true .i64 2) [(0, .cells [.int false .i64 38, .int false .i64 (w), (.int false .i64 (ar .add .i64 (ar .rem .i64 (conv .i64 (chr s 1)) 8) (ar .mul .i64 8 (ar .rem .i64 (conv .i64 (chr s 0)) 2)))), .int false .i64 0, .int false .i64 0]), (1024, .cells [.int true .u8 98, .str ⟨#[80]⟩, .int true .i64 0, .int true .i64 4, .int true .i64 0, .bool true false])]
 else .bad
 else .bad
 else .bad) := by kernel_rfl

theorem tr_39 (s : ByteArray) (w : Int) : (evalF E29 Try.prog 29 [.str s, .agg [.int true .u8 98, .str ⟨#[88]⟩, .int true .i64 0, .int true .i64 4, .int true .i64 0, .bool true false], .ptr 0 0 0] [(0, cells5 39 w 0 0 0)] 1024).leaf =
    (bif (cm .lss (↑s.size : Int) 2) then
 .ret (.int true .i64 0) [(0, .cells [.int false .i64 39, .int false .i64 (w), .int false .i64 0, .int false .i64 0, .int false .i64 0]), (1024, .cells [.int true .u8 98, .str ⟨#[88]⟩, .int true .i64 0, .int true .i64 4, .int true .i64 0, .bool true false])]
 else
 bif (Nat.blt (0) (s.size)) then
 bif (Nat.blt (1) (s.size)) then
 bif (Nat.blt (1) (s.size)) then
 .ret (.int true .i64 2) [(0, .cells [.int false .i64 39, .int false .i64 (w), (.int false .i64 (ar .add .i64 (ar .rem .i64 (conv .i64 (chr s 1)) 8) (ar .mul .i64 8 (ar .rem .i64 (conv .i64 (chr s 0)) 2)))), .int false .i64 0, .int false .i64 0]), (1024, .cells [.int true .u8 98, .str ⟨#[88]⟩, .int true .i64 0, .int true .i64 4, .int true .i64 0, .bool true false])]
 else .bad
 else .bad
 else .bad) := by kernel_rfl

theorem tr_40 (s : ByteArray) (w : Int) : (evalF E29 Try.prog 29 [.str s, .agg [.int true .u8 112, .str ⟨#[232]⟩, .int true .i64 0, .int true .i64 4, .int true .i64 4, .bool true false], .ptr 0 0 0] [(0, cells5 40 w 0 0 0)] 1024).leaf =
    (bif (cm .lss (↑s.size : Int) 5) then
 .ret (.int true .i64 0) [(0, .cells [.int false .i64 40, .int false .i64 (w), .int false .i64 0, .int false .i64 0, .int false .i64 0]), (1024, .cells [.int true .u8 112, .str ⟨#[232]⟩, .int true .i64 0, .int true .i64 4, .int true .i64 4, .bool true false])]
 else
 bif (Nat.blt (0) (s.size)) then
 bif (Nat.blt (0) (s.size)) then
 bif (Nat.ble (5) (s.size)) then
 bif (Nat.ble ((s.extract 1 5).size) (8)) then
 .ret (.int false .i64 5) [(0, .cells [.int false .i64 40, .int false .i64 (w), .int false .i64 0, .int false .i64 0, .int false .i64 (numU (s.extract 1 5))]), (1024, .cells [.int true .u8 112, .str ⟨#[232]⟩, .int true .i64 0, .int true .i64 4, .int true .i64 4, .bool true false])]
 else .bad
 else .bad
 else .bad
 else .bad) := by kernel_rfl

theorem tr_41 (s : ByteArray) (w : Int) : (evalF E29 Try.prog 29 [.str s, .agg [.int true .u8 112, .str ⟨#[195]⟩, .int true .i64 0, .int true .i64 4, .int true .i64 0, .bool true false], .ptr 0 0 0] [(0, cells5 41 w 0 0 0)] 1024).leaf =
    (bif (cm .lss (↑s.size : Int) 1) then
 .ret (.int true .i64 0) [(0, .cells [.int false .i64 41, .int false .i64 (w), .int false .i64 0, .int false .i64 0, .int false .i64 0]), (1024, .cells [.int true .u8 112, .str ⟨#[195]⟩, .int true .i64 0, .int true .i64 4, .int true .i64 0, .bool true false])]
 else
 bif (Nat.blt (0) (s.size)) then
 bif (Nat.blt (0) (s.size)) then
 .ret (.int false .i64 1) [(0, .cells [.int false .i64 41, .int false .i64 (w), .int false .i64 0, .int false .i64 0, .int false .i64 0]), (1024, .cells [.int true .u8 112, .str ⟨#[195]⟩, .int true .i64 0, .int true .i64 4, .int true .i64 0, .bool true false])]
 else .bad
 else .bad) := by kernel_rfl

theorem tr_42 (s : ByteArray) (w : Int) : (evalF E29 Try.prog 29 [.str s, .agg [.int true .u8 112, .str ⟨#[233]⟩, .int true .i64 0, .int true .i64 4, .int true .i64 4, .bool true false], .ptr 0 0 0] [(0, cells5 42 w 0 0 0)] 1024).leaf =
    (bif (cm .lss (↑s.size : Int) 5) then
 .ret (.int true .i64 0) [(0, .cells [.int false .i64 42, .int false .i64 (w), .int false .i64 0, .int false .i64 0, .int false .i64 0]), (1024, .cells [.int true .u8 112, .str ⟨#[233]⟩, .int true .i64 0, .int true .i64 4, .int true .i64 4, .bool true false])]
 else
 bif (Nat.blt (0) (s.size)) then
 bif (Nat.blt (0) (s.size)) then
 bif (Nat.ble (5) (s.size)) then
 bif (Nat.ble ((s.extract 1 5).size) (8)) then
 .ret (.int false .i64 5) [(0, .cells [.int false .i64 42, .int false .i64 (w), .int false .i64 0, .int false .i64 0, .int false .i64 (numU (s.extract 1 5))]), (1024, .cells [.int true .u8 112, .str ⟨#[233]⟩, .int true .i64 0, .int true .i64 4, .int true .i64 4, .bool true false])]
 else .bad
 else .bad
 else .bad
 else .bad) := by kernel_rfl

theorem tr_43 (s : ByteArray) (w : Int) : (evalF E29 Try.prog 29 [.str s, .agg [.int true .u8 112, .str ⟨#[235]⟩, .int true .i64 0, .int true .i64 4, .int true .i64 1, .bool true false], .ptr 0 0 0] [(0, cells5 43 w 0 0 0)] 1024).leaf =
    (bif (cm .lss (↑s.size : Int) 2) then
 .ret (.int true .i64 0) [(0, .cells [.int false .i64 43, .int false .i64 (w), .int false .i64 0, .int false .i64 0, .int false .i64 0]), (1024, .cells [.int true .u8 112, .str ⟨#[235]⟩, .int true .i64 0, .int true .i64 4, .int true .i64 1, .bool true false])]
 else
 bif (Nat.blt (0) (s.size)) then
 bif (Nat.blt (0) (s.size)) then
 bif (Nat.ble (2) (s.size)) then
 bif (Nat.ble ((s.extract 1 2).size) (8)) then
 .ret (.int false .i64 2) [(0, .cells [.int false .i64 43, .int false .i64 (w), .int false .i64 0, .int false .i64 0, .int false .i64 (numU (s.extract 1 2))]), (1024, .cells [.int true .u8 112, .str ⟨#[235]⟩, .int true .i64 0, .int true .i64 4, .int true .i64 1, .bool true false])]
 else .bad
 else .bad
 else .bad
 else .bad) := by kernel_rfl

theorem tr_44 (s : ByteArray) (w : Int) : (evalF E29 Try.prog 29 [.str s, .agg [.int true .u8 99, .str ⟨#[15, 128]⟩, .int true .i64 0, .int true .i64 4, .int true .i64 4, .bool true false], .ptr 0 0 0] [(0, cells5 44 w 0 0 0)] 1024).leaf =
    (bif (cm .lss (↑s.size : Int) 6) then
 .ret (.int true .i64 0) [(0, .cells [.int false .i64 44, .int false .i64 (w), .int false .i64 0, .int false .i64 0, .int false .i64 0]), (1024, .cells [.int true .u8 99, .str ⟨#[15, 128]⟩, .int true .i64 0, .int true .i64 4, .int true .i64 4, .bool true false])]
 else
 bif (Nat.blt (0) (s.size)) then
 bif (Nat.blt (1) (s.size)) then
 bif (Nat.ble (6) (s.size)) then
 bif (Nat.ble ((s.extract 2 6).size) (8)) then
 .ret (.int false .i64 6) [(0, .cells [.int false .i64 44, .int false .i64 (w), .int false .i64 (ar .rem .i64 (conv .i64 (chr s 1)) 16), .int false .i64 0, .int false .i64 (numU (s.extract 2 6))]), (1024, .cells [.int true .u8 99, .str ⟨#[15, 128]⟩, .int true .i64 0, .int true .i64 4, .int true .i64 4, .bool true false])]
 else .bad
 else .bad
 else .bad
 else .bad) := by kernel_rfl

theorem tr_45 (s : ByteArray) (w : Int) : (evalF E29 Try.prog 29 [.str s, .agg [.int true .u8 99, .str ⟨#[112]⟩, .int true .i64 0, .int true .i64 4, .int true .i64 1, .bool true false], .ptr 0 0 0] [(0, cells5 45 w 0 0 0)] 1024).leaf =
    (bif (cm .lss (↑s.size : Int) 2) then
 .ret (.int true .i64 0) [(0, .cells [.int false .i64 45, .int false .i64 (w), .int false .i64 0, .int false .i64 0, .int false .i64 0]), (1024, .cells [.int true .u8 99, .str ⟨#[112]⟩, .int true .i64 0, .int true .i64 4, .int true .i64 1, .bool true false])]
 else
 bif (Nat.blt (0) (s.size)) then
 bif (Nat.blt (0) (s.size)) then
 bif (Nat.ble (2) (s.size)) then
 bif (Nat.ble ((s.extract 1 2).size) (8)) then
 .ret (.int false .i64 2) [(0, .cells [.int false .i64 45, .int false .i64 (w), .int false .i64 (ar .rem .i64 (conv .i64 (chr s 0)) 16), .int false .i64 0, .int false .i64 (numU (s.extract 1 2))]), (1024, .cells [.int true .u8 99, .str ⟨#[112]⟩, .int true .i64 0, .int true .i64 4, .int true .i64 1, .bool true false])]
 else .bad
 else .bad
 else .bad
 else .bad) := by kernel_rfl

theorem tr_46 (s : ByteArray) (w : Int) : (evalF E29 Try.prog 29 [.str s, .agg [.int true .u8 112, .str ⟨#[15, 5]⟩, .int true .i64 0, .int true .i64 4, .int true .i64 0, .bool true false], .ptr 0 0 0] [(0, cells5 46 w 0 0 0)] 1024).leaf =
    (bif (cm .lss (↑s.size : Int) 2) then
 .ret (.int true .i64 0) [(0, .cells [.int false .i64 46, .int false .i64 (w), .int false .i64 0, .int false .i64 0, .int false .i64 0]), (1024, .cells [.int true .u8 112, .str ⟨#[15, 5]⟩, .int true .i64 0, .int true .i64 4, .int true .i64 0, .bool true false])]
 else
 bif (Nat.blt (0) (s.size)) then
 bif (Nat.blt (1) (s.size)) then
 .ret (.int false .i64 2) [(0, .cells [.int false .i64 46, .int false .i64 (w), .int false .i64 0, .int false .i64 0, .int false .i64 0]), (1024, .cells [.int true .u8 112, .str ⟨#[15, 5]⟩, .int true .i64 0, .int true .i64 4, .int true .i64 0, .bool true false])]
 else .bad
 else .bad) := by kernel_rfl

end Go.X
end

section
set_option linter.unusedVariables false
open Go Go.Ev Go.Proofs
namespace Go.X

theorem len_32 {w rd rs n : Int} (he : errX 32 w rd rs n = 0) : (strX 32 w rd rs n).size = 8 := by
  have hL : encL 32 w rd rs n = [rexI w rd rs, 15, 182, modI 128 rd rs] ++ tailL n 4 := by kernel_rfl
  rw [strX_ok he, S_size, hL, List.length_append, tail_length]
  rfl

attribute [local irreducible] evalF in
theorem read_32 : RP 32 (.agg [.int true .u8 109, .str ⟨#[15, 182]⟩, .int true .i64 0, .int true .i64 8, .int true .i64 4, .bool true false]) := by
  intro s w
  refine RP_of (tr_32 s w) ?_
  repeat' refine RPl_cond (fun _ => ?_) (fun _ => ?_)
  all_goals simp only [cmz] at *
  all_goals first
    | (exfalso; omega)
    | (refine RPl_ret ⟨inI0, by omega, by omega, fun rd rs n hd => ?_⟩; obtain ⟨hw, qw, hrd, hrs, hi, hf, hz, e0, e1, e2, e3, ht⟩ := fact_32 hd; omega)
    | (refine RPl_ret ⟨numU_range _ (by simp only [ByteArray.size_extract]; omega), by omega, by omega, fun rd rs n hd => ?_⟩
       have hl := len_32 hd.1
       obtain ⟨hw, qw, hrd, hrs, hi, hf, hz, e0, e1, e2, e3, ht⟩ := fact_32 hd
       obtain ⟨x2, x3⟩ := rexQ hw hrd hrs
       rw [← e0] at x2 x3
       obtain ⟨y0, y1⟩ := modQ (.inr rfl) hrd hrs
       rw [← e3] at y0 y1
       exact ⟨by omega, by rw [hl]; rfl, by rw [y1, x3]; exact putQ hrd, by rw [y0, x2]; exact putQ hrs, num_tail 4 4 (by decide) hz ht hi hf⟩)

theorem len_33 {w rd rs n : Int} (he : errX 33 w rd rs n = 0) : (strX 33 w rd rs n).size = 7 := by
  have hL : encL 33 w rd rs n = [rexI w rd rs, 137, modI 128 rd rs] ++ tailL n 4 := by kernel_rfl
  rw [strX_ok he, S_size, hL, List.length_append, tail_length]
  rfl

attribute [local irreducible] evalF in
theorem read_33 : RP 33 (.agg [.int true .u8 109, .str ⟨#[137]⟩, .int true .i64 0, .int true .i64 8, .int true .i64 4, .bool true false]) := by
  intro s w
  refine RP_of (tr_33 s w) ?_
  repeat' refine RPl_cond (fun _ => ?_) (fun _ => ?_)
  all_goals simp only [cmz] at *
  all_goals first
    | (exfalso; omega)
    | (refine RPl_ret ⟨inI0, by omega, by omega, fun rd rs n hd => ?_⟩; obtain ⟨hw, qw, hrd, hrs, hi, hf, hz, e0, e1, e2, ht⟩ := fact_33 hd; omega)
    | (refine RPl_ret ⟨numU_range _ (by simp only [ByteArray.size_extract]; omega), by omega, by omega, fun rd rs n hd => ?_⟩
       have hl := len_33 hd.1
       obtain ⟨hw, qw, hrd, hrs, hi, hf, hz, e0, e1, e2, ht⟩ := fact_33 hd
       obtain ⟨x2, x3⟩ := rexQ hw hrd hrs
       rw [← e0] at x2 x3
       obtain ⟨y0, y1⟩ := modQ (.inr rfl) hrd hrs
       rw [← e2] at y0 y1
       exact ⟨by omega, by rw [hl]; rfl, by rw [y1, x3]; exact putQ hrd, by rw [y0, x2]; exact putQ hrs, num_tail 3 4 (by decide) hz ht hi hf⟩)

theorem len_34 {w rd rs n : Int} (he : errX 34 w rd rs n = 0) : (strX 34 w rd rs n).size = 7 := by
  have hL : encL 34 w rd rs n = [rexI w rd rs, 137, modI 128 rd rs] ++ tailL n 4 := by kernel_rfl
  rw [strX_ok he, S_size, hL, List.length_append, tail_length]
  rfl

attribute [local irreducible] evalF in
theorem read_34 : RP 34 (.agg [.int true .u8 109, .str ⟨#[137]⟩, .int true .i64 0, .int true .i64 4, .int true .i64 4, .bool true false]) := by
  intro s w
  refine RP_of (tr_34 s w) ?_
  repeat' refine RPl_cond (fun _ => ?_) (fun _ => ?_)
  all_goals simp only [cmz] at *
  all_goals first
    | (exfalso; omega)
    | (refine RPl_ret ⟨inI0, by omega, by omega, fun rd rs n hd => ?_⟩; obtain ⟨hw, qw, hrd, hrs, hi, hf, hz, e0, e1, e2, ht⟩ := fact_34 hd; omega)
    | (refine RPl_ret ⟨numU_range _ (by simp only [ByteArray.size_extract]; omega), by omega, by omega, fun rd rs n hd => ?_⟩
       have hl := len_34 hd.1
       obtain ⟨hw, qw, hrd, hrs, hi, hf, hz, e0, e1, e2, ht⟩ := fact_34 hd
       obtain ⟨x2, x3⟩ := rexQ hw hrd hrs
       rw [← e0] at x2 x3
       obtain ⟨y0, y1⟩ := modQ (.inr rfl) hrd hrs
       rw [← e2] at y0 y1
       exact ⟨by omega, by rw [hl]; rfl, by rw [y1, x3]; exact putQ hrd, by rw [y0, x2]; exact putQ hrs, num_tail 3 4 (by decide) hz ht hi hf⟩)

theorem len_35 {w rd rs n : Int} (he : errX 35 w rd rs n = 0) : (strX 35 w rd rs n).size = 8 := by
  have hL : encL 35 w rd rs n = [102, rexI w rd rs, 137, modI 128 rd rs] ++ tailL n 4 := by kernel_rfl
  rw [strX_ok he, S_size, hL, List.length_append, tail_length]
  rfl

attribute [local irreducible] evalF in
theorem read_35 : RP 35 (.agg [.int true .u8 109, .str ⟨#[137]⟩, .int true .i64 0, .int true .i64 4, .int true .i64 4, .bool true true]) := by
  intro s w
  refine RP_of (tr_35 s w) ?_
  repeat' refine RPl_cond (fun _ => ?_) (fun _ => ?_)
  all_goals simp only [cmz] at *
  all_goals first
    | (exfalso; omega)
    | (refine RPl_ret ⟨inI0, by omega, by omega, fun rd rs n hd => ?_⟩; obtain ⟨hw, qw, hrd, hrs, hi, hf, hz, e0, e1, e2, e3, ht⟩ := fact_35 hd; omega)
    | (refine RPl_ret ⟨numU_range _ (by simp only [ByteArray.size_extract]; omega), by omega, by omega, fun rd rs n hd => ?_⟩
       have hl := len_35 hd.1
       obtain ⟨hw, qw, hrd, hrs, hi, hf, hz, e0, e1, e2, e3, ht⟩ := fact_35 hd
       obtain ⟨x2, x3⟩ := rexQ hw hrd hrs
       rw [← e1] at x2 x3
       obtain ⟨y0, y1⟩ := modQ (.inr rfl) hrd hrs
       rw [← e3] at y0 y1
       exact ⟨by omega, by rw [hl]; rfl, by rw [y1, x3]; exact putQ hrd, by rw [y0, x2]; exact putQ hrs, num_tail 4 4 (by decide) hz ht hi hf⟩)

theorem len_36 {w rd rs n : Int} (he : errX 36 w rd rs n = 0) : (strX 36 w rd rs n).size = 7 := by
  have hL : encL 36 w rd rs n = [rexI w rd rs, 136, modI 128 rd rs] ++ tailL n 4 := by kernel_rfl
  rw [strX_ok he, S_size, hL, List.length_append, tail_length]
  rfl

attribute [local irreducible] evalF in
theorem read_36 : RP 36 (.agg [.int true .u8 109, .str ⟨#[136]⟩, .int true .i64 0, .int true .i64 4, .int true .i64 4, .bool true false]) := by
  intro s w
  refine RP_of (tr_36 s w) ?_
  repeat' refine RPl_cond (fun _ => ?_) (fun _ => ?_)
  all_goals simp only [cmz] at *
  all_goals first
    | (exfalso; omega)
    | (refine RPl_ret ⟨inI0, by omega, by omega, fun rd rs n hd => ?_⟩; obtain ⟨hw, qw, hrd, hrs, hi, hf, hz, e0, e1, e2, ht⟩ := fact_36 hd; omega)
    | (refine RPl_ret ⟨numU_range _ (by simp only [ByteArray.size_extract]; omega), by omega, by omega, fun rd rs n hd => ?_⟩
       have hl := len_36 hd.1
       obtain ⟨hw, qw, hrd, hrs, hi, hf, hz, e0, e1, e2, ht⟩ := fact_36 hd
       obtain ⟨x2, x3⟩ := rexQ hw hrd hrs
       rw [← e0] at x2 x3
       obtain ⟨y0, y1⟩ := modQ (.inr rfl) hrd hrs
       rw [← e2] at y0 y1
       exact ⟨by omega, by rw [hl]; rfl, by rw [y1, x3]; exact putQ hrd, by rw [y0, x2]; exact putQ hrs, num_tail 3 4 (by decide) hz ht hi hf⟩)

theorem len_37 {w rd rs n : Int} (he : errX 37 w rd rs n = 0) : (strX 37 w rd rs n).size = 7 := by
  have hL : encL 37 w rd rs n = [rexI w rd rs, 141, modI 128 rd rs] ++ tailL n 4 := by kernel_rfl
  rw [strX_ok he, S_size, hL, List.length_append, tail_length]
  rfl

attribute [local irreducible] evalF in
theorem read_37 : RP 37 (.agg [.int true .u8 109, .str ⟨#[141]⟩, .int true .i64 0, .int true .i64 8, .int true .i64 4, .bool true false]) := by
  intro s w
  refine RP_of (tr_37 s w) ?_
  repeat' refine RPl_cond (fun _ => ?_) (fun _ => ?_)
  all_goals simp only [cmz] at *
  all_goals first
    | (exfalso; omega)
    | (refine RPl_ret ⟨inI0, by omega, by omega, fun rd rs n hd => ?_⟩; obtain ⟨hw, qw, hrd, hrs, hi, hf, hz, e0, e1, e2, ht⟩ := fact_37 hd; omega)
    | (refine RPl_ret ⟨numU_range _ (by simp only [ByteArray.size_extract]; omega), by omega, by omega, fun rd rs n hd => ?_⟩
       have hl := len_37 hd.1
       obtain ⟨hw, qw, hrd, hrs, hi, hf, hz, e0, e1, e2, ht⟩ := fact_37 hd
       obtain ⟨x2, x3⟩ := rexQ hw hrd hrs
       rw [← e0] at x2 x3
       obtain ⟨y0, y1⟩ := modQ (.inr rfl) hrd hrs
       rw [← e2] at y0 y1
       exact ⟨by omega, by rw [hl]; rfl, by rw [y1, x3]; exact putQ hrd, by rw [y0, x2]; exact putQ hrs, num_tail 3 4 (by decide) hz ht hi hf⟩)

theorem len_38 {w rd rs n : Int} (he : errX 38 w rd rs n = 0) : (strX 38 w rd rs n).size = 2 := by
  have hL : encL 38 w rd rs n = [rexI w 0 rd, 80 + rd % 8] ++ tailL n 0 := by kernel_rfl
  rw [strX_ok he, S_size, hL, List.length_append, tail_length]
  rfl

attribute [local irreducible] evalF in
theorem read_38 : RP 38 (.agg [.int true .u8 98, .str ⟨#[80]⟩, .int true .i64 0, .int true .i64 4, .int true .i64 0, .bool true false]) := by
  intro s w
  refine RP_of (tr_38 s w) ?_
  repeat' refine RPl_cond (fun _ => ?_) (fun _ => ?_)
  all_goals simp only [cmz] at *
  all_goals first
    | (exfalso; omega)
    | (refine RPl_ret ⟨inI0, by omega, by omega, fun rd rs n hd => ?_⟩; obtain ⟨hw, qw, hrd, qs, qn, hi, hf, hz, e0, e1⟩ := fact_38 hd; omega)
    | (refine RPl_ret ⟨inI0, by omega, by omega, fun rd rs n hd => ?_⟩
       have hl := len_38 hd.1
       obtain ⟨hw, qw, hrd, qs, qn, hi, hf, hz, e0, e1⟩ := fact_38 hd
       obtain ⟨x2, x3⟩ := rexQ hw (by decide : small 0) hrd
       rw [← e0] at x2 x3
       exact ⟨by omega, by rw [hl]; rfl, by rw [x2, e1]; exact moreQ (by decide) hrd, qs.symm, qn.symm⟩)

theorem len_39 {w rd rs n : Int} (he : errX 39 w rd rs n = 0) : (strX 39 w rd rs n).size = 2 := by
  have hL : encL 39 w rd rs n = [rexI w 0 rd, 88 + rd % 8] ++ tailL n 0 := by kernel_rfl
  rw [strX_ok he, S_size, hL, List.length_append, tail_length]
  rfl

attribute [local irreducible] evalF in
theorem read_39 : RP 39 (.agg [.int true .u8 98, .str ⟨#[88]⟩, .int true .i64 0, .int true .i64 4, .int true .i64 0, .bool true false]) := by
  intro s w
  refine RP_of (tr_39 s w) ?_
  repeat' refine RPl_cond (fun _ => ?_) (fun _ => ?_)
  all_goals simp only [cmz] at *
  all_goals first
    | (exfalso; omega)
    | (refine RPl_ret ⟨inI0, by omega, by omega, fun rd rs n hd => ?_⟩; obtain ⟨hw, qw, hrd, qs, qn, hi, hf, hz, e0, e1⟩ := fact_39 hd; omega)
    | (refine RPl_ret ⟨inI0, by omega, by omega, fun rd rs n hd => ?_⟩
       have hl := len_39 hd.1
       obtain ⟨hw, qw, hrd, qs, qn, hi, hf, hz, e0, e1⟩ := fact_39 hd
       obtain ⟨x2, x3⟩ := rexQ hw (by decide : small 0) hrd
       rw [← e0] at x2 x3
       exact ⟨by omega, by rw [hl]; rfl, by rw [x2, e1]; exact moreQ (by decide) hrd, qs.symm, qn.symm⟩)

theorem len_40 {w rd rs n : Int} (he : errX 40 w rd rs n = 0) : (strX 40 w rd rs n).size = 5 := by
  have hL : encL 40 w rd rs n = [232] ++ tailL n 4 := by kernel_rfl
  rw [strX_ok he, S_size, hL, List.length_append, tail_length]
  rfl

attribute [local irreducible] evalF in
theorem read_40 : RP 40 (.agg [.int true .u8 112, .str ⟨#[232]⟩, .int true .i64 0, .int true .i64 4, .int true .i64 4, .bool true false]) := by
  intro s w
  refine RP_of (tr_40 s w) ?_
  repeat' refine RPl_cond (fun _ => ?_) (fun _ => ?_)
  all_goals simp only [cmz] at *
  all_goals first
    | (exfalso; omega)
    | (refine RPl_ret ⟨inI0, by omega, by omega, fun rd rs n hd => ?_⟩; obtain ⟨hw, qw, qs, qd, hi, hf, hz, e0, ht⟩ := fact_40 hd; omega)
    | (refine RPl_ret ⟨numU_range _ (by simp only [ByteArray.size_extract]; omega), by omega, by omega, fun rd rs n hd => ?_⟩
       have hl := len_40 hd.1
       obtain ⟨hw, qw, qs, qd, hi, hf, hz, e0, ht⟩ := fact_40 hd
       exact ⟨by omega, by rw [hl]; rfl, qd.symm, qs.symm, num_tail 1 4 (by decide) hz ht hi hf⟩)

theorem len_41 {w rd rs n : Int} (he : errX 41 w rd rs n = 0) : (strX 41 w rd rs n).size = 1 := by
  have hL : encL 41 w rd rs n = [195] ++ tailL n 0 := by kernel_rfl
  rw [strX_ok he, S_size, hL, List.length_append, tail_length]
  rfl

attribute [local irreducible] evalF in
theorem read_41 : RP 41 (.agg [.int true .u8 112, .str ⟨#[195]⟩, .int true .i64 0, .int true .i64 4, .int true .i64 0, .bool true false]) := by
  intro s w
  refine RP_of (tr_41 s w) ?_
  repeat' refine RPl_cond (fun _ => ?_) (fun _ => ?_)
  all_goals simp only [cmz] at *
  all_goals first
    | (exfalso; omega)
    | (refine RPl_ret ⟨inI0, by omega, by omega, fun rd rs n hd => ?_⟩; obtain ⟨hw, qw, qs, qd, qn, hi, hf, hz, e0⟩ := fact_41 hd; omega)
    | (refine RPl_ret ⟨inI0, by omega, by omega, fun rd rs n hd => ?_⟩
       have hl := len_41 hd.1
       obtain ⟨hw, qw, qs, qd, qn, hi, hf, hz, e0⟩ := fact_41 hd
       exact ⟨by omega, by rw [hl]; rfl, qd.symm, qs.symm, qn.symm⟩)

theorem len_42 {w rd rs n : Int} (he : errX 42 w rd rs n = 0) : (strX 42 w rd rs n).size = 5 := by
  have hL : encL 42 w rd rs n = [233] ++ tailL n 4 := by kernel_rfl
  rw [strX_ok he, S_size, hL, List.length_append, tail_length]
  rfl

attribute [local irreducible] evalF in
theorem read_42 : RP 42 (.agg [.int true .u8 112, .str ⟨#[233]⟩, .int true .i64 0, .int true .i64 4, .int true .i64 4, .bool true false]) := by
  intro s w
  refine RP_of (tr_42 s w) ?_
  repeat' refine RPl_cond (fun _ => ?_) (fun _ => ?_)
  all_goals simp only [cmz] at *
  all_goals first
    | (exfalso; omega)
    | (refine RPl_ret ⟨inI0, by omega, by omega, fun rd rs n hd => ?_⟩; obtain ⟨hw, qw, qs, qd, hi, hf, hz, e0, ht⟩ := fact_42 hd; omega)
    | (refine RPl_ret ⟨numU_range _ (by simp only [ByteArray.size_extract]; omega), by omega, by omega, fun rd rs n hd => ?_⟩
       have hl := len_42 hd.1
       obtain ⟨hw, qw, qs, qd, hi, hf, hz, e0, ht⟩ := fact_42 hd
       exact ⟨by omega, by rw [hl]; rfl, qd.symm, qs.symm, num_tail 1 4 (by decide) hz ht hi hf⟩)

theorem len_43 {w rd rs n : Int} (he : errX 43 w rd rs n = 0) : (strX 43 w rd rs n).size = 2 := by
  have hL : encL 43 w rd rs n = [235] ++ tailL n 1 := by kernel_rfl
  rw [strX_ok he, S_size, hL, List.length_append, tail_length]
  rfl

attribute [local irreducible] evalF in
theorem read_43 : RP 43 (.agg [.int true .u8 112, .str ⟨#[235]⟩, .int true .i64 0, .int true .i64 4, .int true .i64 1, .bool true false]) := by
  intro s w
  refine RP_of (tr_43 s w) ?_
  repeat' refine RPl_cond (fun _ => ?_) (fun _ => ?_)
  all_goals simp only [cmz] at *
  all_goals first
    | (exfalso; omega)
    | (refine RPl_ret ⟨inI0, by omega, by omega, fun rd rs n hd => ?_⟩; obtain ⟨hw, qw, qs, qd, hi, hf, hz, e0, ht⟩ := fact_43 hd; omega)
    | (refine RPl_ret ⟨numU_range _ (by simp only [ByteArray.size_extract]; omega), by omega, by omega, fun rd rs n hd => ?_⟩
       have hl := len_43 hd.1
       obtain ⟨hw, qw, qs, qd, hi, hf, hz, e0, ht⟩ := fact_43 hd
       exact ⟨by omega, by rw [hl]; rfl, qd.symm, qs.symm, num_tail 1 1 (by decide) hz ht hi hf⟩)

theorem len_44 {w rd rs n : Int} (he : errX 44 w rd rs n = 0) : (strX 44 w rd rs n).size = 6 := by
  have hL : encL 44 w rd rs n = [15, 128 + rd] ++ tailL n 4 := by kernel_rfl
  rw [strX_ok he, S_size, hL, List.length_append, tail_length]
  rfl

attribute [local irreducible] evalF in
theorem read_44 : RP 44 (.agg [.int true .u8 99, .str ⟨#[15, 128]⟩, .int true .i64 0, .int true .i64 4, .int true .i64 4, .bool true false]) := by
  intro s w
  refine RP_of (tr_44 s w) ?_
  repeat' refine RPl_cond (fun _ => ?_) (fun _ => ?_)
  all_goals simp only [cmz] at *
  all_goals first
    | (exfalso; omega)
    | (refine RPl_ret ⟨inI0, by omega, by omega, fun rd rs n hd => ?_⟩; obtain ⟨hw, qw, qs, hrd, hi, hf, hz, e0, e1, ht⟩ := fact_44 hd; omega)
    | (refine RPl_ret ⟨numU_range _ (by simp only [ByteArray.size_extract]; omega), by omega, by omega, fun rd rs n hd => ?_⟩
       have hl := len_44 hd.1
       obtain ⟨hw, qw, qs, hrd, hi, hf, hz, e0, e1, ht⟩ := fact_44 hd
       exact ⟨by omega, by rw [hl]; rfl, by rw [e1]; exact condQ (by decide) hrd, qs.symm, num_tail 2 4 (by decide) hz ht hi hf⟩)

theorem len_45 {w rd rs n : Int} (he : errX 45 w rd rs n = 0) : (strX 45 w rd rs n).size = 2 := by
  have hL : encL 45 w rd rs n = [112 + rd] ++ tailL n 1 := by kernel_rfl
  rw [strX_ok he, S_size, hL, List.length_append, tail_length]
  rfl

attribute [local irreducible] evalF in
theorem read_45 : RP 45 (.agg [.int true .u8 99, .str ⟨#[112]⟩, .int true .i64 0, .int true .i64 4, .int true .i64 1, .bool true false]) := by
  intro s w
  refine RP_of (tr_45 s w) ?_
  repeat' refine RPl_cond (fun _ => ?_) (fun _ => ?_)
  all_goals simp only [cmz] at *
  all_goals first
    | (exfalso; omega)
    | (refine RPl_ret ⟨inI0, by omega, by omega, fun rd rs n hd => ?_⟩; obtain ⟨hw, qw, qs, hrd, hi, hf, hz, e0, ht⟩ := fact_45 hd; omega)
    | (refine RPl_ret ⟨numU_range _ (by simp only [ByteArray.size_extract]; omega), by omega, by omega, fun rd rs n hd => ?_⟩
       have hl := len_45 hd.1
       obtain ⟨hw, qw, qs, hrd, hi, hf, hz, e0, ht⟩ := fact_45 hd
       exact ⟨by omega, by rw [hl]; rfl, by rw [e0]; exact condQ (by decide) hrd, qs.symm, num_tail 1 1 (by decide) hz ht hi hf⟩)

theorem len_46 {w rd rs n : Int} (he : errX 46 w rd rs n = 0) : (strX 46 w rd rs n).size = 2 := by
  have hL : encL 46 w rd rs n = [15, 5] ++ tailL n 0 := by kernel_rfl
  rw [strX_ok he, S_size, hL, List.length_append, tail_length]
  rfl

attribute [local irreducible] evalF in
theorem read_46 : RP 46 (.agg [.int true .u8 112, .str ⟨#[15, 5]⟩, .int true .i64 0, .int true .i64 4, .int true .i64 0, .bool true false]) := by
  intro s w
  refine RP_of (tr_46 s w) ?_
  repeat' refine RPl_cond (fun _ => ?_) (fun _ => ?_)
  all_goals simp only [cmz] at *
  all_goals first
    | (exfalso; omega)
    | (refine RPl_ret ⟨inI0, by omega, by omega, fun rd rs n hd => ?_⟩; obtain ⟨hw, qw, qs, qd, qn, hi, hf, hz, e0, e1⟩ := fact_46 hd; omega)
    | (refine RPl_ret ⟨inI0, by omega, by omega, fun rd rs n hd => ?_⟩
       have hl := len_46 hd.1
       obtain ⟨hw, qw, qs, qd, qn, hi, hf, hz, e0, e1⟩ := fact_46 hd
       exact ⟨by omega, by rw [hl]; rfl, qd.symm, qs.symm, qn.symm⟩)

end Go.X
end
