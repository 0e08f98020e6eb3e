/-
  x86: Decode's loop and contract.
-/
import Derived.Test.YtihfbhoodofhoaaGreatC12
set_option linter.unusedSimpArgs false
set_option linter.unusedVariables false
section
set_option linter.unusedVariables false
open Go Go.Ev Go.Proofs
namespace Go.X

structure X10 where
  s : ByteArray
  k : Nat
def ok10 (x : X10) : Prop := x.k ≤ 46 ∧ ∀ j : Int, 1 ≤ j → j ≤ x.k → ¬ hitX j x.s
def vs10 (x : X10) : List SV := v10 x.s x.k
noncomputable def out10 (x : X10) : Vw := bif (decX x.s).ok then .ret (decT x.s) [] else .exit 0 45 [.any, .ptr 1024 0 0, .any, .any, .any] [(1024, z5)]

theorem entry10 (l : List SV) (H : Heap) (T : Tr) (h : lp10.get l H = some T) (hb : T.leaf ≠ .bad) : ∃ x r, ok10 x ∧ WkV r lp10.nm l H (vs10 x) ((fun _ => h10) x) ∧ T.leaf = toLf lp10 (out10 x) := by
  replace h : get10 l H = some T := h
  unfold get10 at h
  split at h
  · rename_i s k1 r1 p1 k2 m2 _ N _ k j1 _ a0 _ a1 _ a2 _ a3 _ a4 j2 n2 c0 c1 c2 c3 c4 c5 c6 rw
    split at h
    · simp only [Option.some.injEq] at h
      subst h
      obtain ⟨hn, he⟩ := needs_ne hb
      rw [he]
      simp only [allB, Bool.and_eq_true, Bool.and_true, decide_eq_true_eq, Nat.beq_eq] at hn
      obtain ⟨rfl, rfl, rfl, rfl, rfl, rfl, rfl, rfl, rfl, rfl, rfl, rfl, rfl, rfl, rfl, q0, q1, q2, q3, q4, q5, q6⟩ := hn
      obtain rfl := eqC_spec q0
      obtain rfl := eqC_spec q1
      obtain rfl := eqC_spec q2
      obtain rfl := eqC_spec q3
      obtain rfl := eqC_spec q4
      obtain rfl := eqC_spec q5
      obtain rfl := eqC_spec q6
      refine ⟨⟨s, 0⟩, [], ⟨Nat.zero_le _, fun j h1 h2 => by have : j ≤ 0 := h2; omega⟩, ?_, ?_⟩
      · refine ⟨rfl, ?_, ⟨?_, ?_, trivial⟩, rfl, rfl⟩
        · exact ⟨rfl, ⟨rfl, rfl, rfl⟩, ⟨rfl, rfl⟩, ⟨rfl, rfl⟩, ⟨rfl, rfl⟩, trivial⟩
        · simp [rmap, rlook, Ev.look, wkB, simL, sim, z5]
        · exact ⟨Nat.le_refl _, fun h => h, wkCs_refl _ _⟩
      · simp only [Tr.leaf, exitT_leaf, out10, toLf_cond]
        rfl
    · cases h
  · cases h

theorem k_facts {k : Nat} (h : k < 46) : ar .add .i64 1 (k : Int) = (k : Int) + 1 ∧ ((k : Int) + 1 - 1).toNat = k := by
  constructor
  · simp only [ar, IntKind.wrap_i64]; omega
  · omega

attribute [local irreducible] evalB Tr.view gv decX strX errX in
theorem round10 (x : X10) (hx : ok10 x) : Round lp10 ok10 (fun x => 46 - x.k) vs10 (fun _ => h10) out10 x ((evalB E10 Tryz.prog Tryz.f72.results.toList (loopOf Tryz.f72 0) (0 + 1) lp10 (vs10 x) h10).view lp10.ks) := by
  obtain ⟨s, k⟩ := x
  obtain ⟨h0, h1⟩ := hx
  simp only at h0 h1
  have hr := r10 s k
  rw [show evalB E10 Tryz.prog Tryz.f72.results.toList (loopOf Tryz.f72 0) (0 + 1) lp10 (vs10 ⟨s, k⟩) h10 = evalB E10 Tryz.prog Tryz.f72.results.toList (loopOf Tryz.f72 0) 1 lp10 (v10 s k) h10 from rfl, show lp10.ks = [0, 2, 11, 12, 13] from rfl, hr]
  by_cases h : k < 46
  · obtain ⟨e0, e00⟩ := k_facts h
    have e1 : cm .lss (k : Int) 46 = true := by rw [cm_lss']; exact decide_eq_true (by omega)
    have e2 : decide (0 ≤ (k : Int)) = true := decide_eq_true (by omega)
    have e3 : decide ((k : Int) < 46) = true := decide_eq_true (by omega)
    have e4 : Nat.blt k 46 = true := by rw [Nat.blt_eq]; omega
    have e5 : decide (1 ≤ (k : Int) + 1) = true := decide_eq_true (by omega)
    have e6 : decide ((k : Int) + 1 ≤ 46) = true := decide_eq_true (by omega)
    simp only [e0, e00, e1, e2, e3, e4, e5, e6, cond_true, Int.toNat_natCast, decide_true]
    obtain ⟨⟨g1, g2⟩, _⟩ := gv_ok ((k : Int) + 1) s (by omega) (by omega)
    have hnext : ∀ H2, ¬ hitX ((k : Int) + 1) s → Round lp10 ok10 (fun x => 46 - x.k) vs10 (fun _ => h10) out10 ⟨s, k⟩ (.norm 45 [.str s, .ptr 1024 0 0, .sl 1072 46, .int false .i64 46, .int false .i64 (ar .add .i64 k 1)] ((1024, z5) :: (1072, .tab 46 cols true) :: H2)) := by
      intro H2 hno
      rw [addOne (show k < 9223372036854775807 by omega)]
      refine ⟨rfl, ⟨s, k + 1⟩, [], ⟨h, fun j hj1 hj2 => ?_⟩, by show 46 - (k + 1) < 46 - k; omega, rfl, ?_⟩
      · by_cases hj : j ≤ k
        · exact h1 j hj1 hj
        · have : (j : Int) ≤ ((k + 1 : Nat) : Int) := hj2
          obtain rfl : j = (k : Int) + 1 := by omega
          exact hno
      · refine ⟨rfl, ?_, ⟨?_, ?_, trivial⟩, rfl, rfl⟩
        · exact ⟨rfl, ⟨rfl, rfl, rfl⟩, ⟨rfl, rfl⟩, ⟨rfl, rfl⟩, ⟨rfl, rfl⟩, trivial⟩
        · simp [rmap, rlook, Ev.look, wkB, simL, sim, z5]
        · exact ⟨Nat.le_refl _, fun h => h, wkCs_refl _ _⟩
    refine Round_cond (fun hk => ?_) (fun hk => ?_)
    · refine hnext _ ?_
      rintro ⟨w, rd, rs, n, hd⟩
      have := (g2 _ _ _ _ hd).1
      rw [this] at hk
      cases hk
    · have hok : (gv ((k : Int) + 1) s).ok = true := by simpa using hk
      obtain ⟨ho, hi⟩ := g1 hok
      rw [ho]
      generalize gv ((k : Int) + 1) s = v at *
      have key : (bif cm .eql (errX ((k : Int) + 1) v.w v.rd v.rs v.n) 0 then bif cm .geq (s.size : Int) ((strX ((k : Int) + 1) v.w v.rd v.rs v.n).size : Int) then seq (s.extract 0 (strX ((k : Int) + 1) v.w v.rd v.rs v.n).size) (strX ((k : Int) + 1) v.w v.rd v.rs v.n) else false else false) = true ↔ DX ((k : Int) + 1) s v.w v.rd v.rs v.n := by
        rw [cm_eql', cm_geq', seq_eq]
        by_cases he : errX ((k : Int) + 1) v.w v.rd v.rs v.n = 0
        · rw [hit_iff he hi, decide_eq_true he, cond_true]
          by_cases hz : (strX ((k : Int) + 1) v.w v.rd v.rs v.n).size ≤ s.size
          · rw [decide_eq_true (show ((strX ((k : Int) + 1) v.w v.rd v.rs v.n).size : Int) ≤ s.size by omega), cond_true]
            simp [hz]
          · rw [decide_eq_false (show ¬ ((strX ((k : Int) + 1) v.w v.rd v.rs v.n).size : Int) ≤ s.size by omega), cond_false]
            simp [hz]
        · rw [decide_eq_false he, cond_false]
          constructor
          · intro h; cases h
          · intro h; exact absurd h.1 he
      have need : (bif cm .eql (errX ((k : Int) + 1) v.w v.rd v.rs v.n) 0 then allB [bif cm .geq (s.size : Int) ((strX ((k : Int) + 1) v.w v.rd v.rs v.n).size : Int) then allB [decide ((0 : Int) ≤ ((strX ((k : Int) + 1) v.w v.rd v.rs v.n).size : Int)), Nat.ble (strX ((k : Int) + 1) v.w v.rd v.rs v.n).size s.size] else true] else true) = true := by
        rw [cm_geq']
        cases cm .eql (errX ((k : Int) + 1) v.w v.rd v.rs v.n) 0 with
        | false => rfl
        | true =>
          by_cases hz : ((strX ((k : Int) + 1) v.w v.rd v.rs v.n).size : Int) ≤ s.size
          · rw [decide_eq_true hz]
            simp [allB]
            omega
          · rw [decide_eq_false hz]
            simp [allB]
      rw [need, cond_true]
      refine Round_cond (fun hh => ?_) (fun hh => ?_)
      · have hd := key.1 hh
        have hdec : decX s = ⟨(k : Int) + 1, v.w, v.rd, v.rs, v.n, ((strX ((k : Int) + 1) v.w v.rd v.rs v.n).size : Int), true⟩ :=
          decX_is ⟨by show (1 : Int) ≤ (k : Int) + 1; omega, by show (k : Int) + 1 ≤ 46; omega, hd, rfl, rfl, fun j hj1 (hj2 : j < (k : Int) + 1) => h1 j hj1 (by omega)⟩
        refine ⟨decT s, [], [], ?_, rfl, ?_, trivial, rfl⟩
        · simp only [out10, hdec, cond_true]
        · simp [decT, hdec, sim, simL]
      · refine hnext _ ?_
        rintro ⟨w, rd, rs, n, hd⟩
        obtain ⟨_, a1, a2, a3, a4⟩ := g2 _ _ _ _ hd
        rw [← a1, ← a2, ← a3, ← a4] at hd
        rw [key.2 hd] at hh
        cases hh
  · obtain rfl : k = 46 := by omega
    have e1 : cm .lss ((46 : Nat) : Int) 46 = false := rfl
    simp only [e1, cond_false]
    have hno := decX_none (s := s) fun j hj1 hj2 => h1 j hj1 (by omega)
    refine ⟨rfl, _, _, [], by simp only [out10, hno, cond_false]; rfl, ?_⟩
    refine ⟨rfl, ?_, ⟨?_, trivial⟩, rfl, rfl⟩
    · exact ⟨trivial, ⟨rfl, rfl, rfl⟩, trivial, trivial, trivial, trivial⟩
    · simp [rmap, rlook, Ev.look, wkB, simL, sim, z5]

theorem e10l_calls : CallsOk E10L Tryz.prog := fun f args H nm r h hn => e10_calls f args H nm r h hn
attribute [local irreducible] evalB Tr.view in
theorem loop10 : LoopOk E10L Tryz.prog Tryz.f72 0 (loopOf Tryz.f72 0) :=
  loop_okE mixed (fun S => rfl) (by decide) ok10 (fun x => 46 - x.k) vs10 (fun _ => h10) out10 entry10 fun x hx => ⟨E10, e10_calls, loops_noLoop e10_loop _ _, round10 x hx⟩
theorem fn10 : Tryz.prog.funcs[72]? = some Tryz.f72 := by kernel_rfl
theorem b10 : Tryz.f72.body = some (bodyOf Tryz.f72) := by kernel_rfl
theorem n10 : (Tryz.f72.name == "runtime.NumGoroutine") = false := by kernel_rfl
theorem nl10 : Code.loops (bodyOf Tryz.f72) = 1 := by kernel_rfl
theorem nth10 : nthLoop (bodyOf Tryz.f72) 0 = some (loopOf Tryz.f72 0) := by kernel_rfl
theorem loops10 : LoopsOk E10L Tryz.prog Tryz.f72 (bodyOf Tryz.f72) 0 := loops1 nl10 fun a ha => by
  rw [nth10] at ha
  simp only [Option.some.injEq] at ha
  subst ha
  exact loop10

noncomputable def g10 : List SV → Heap → Option R
  | [.str s], [] => some ⟨[], decT s, []⟩
  | _, _ => none
theorem gives_ret {v s : SV} {H : Heap} (h : ∀ σ σ', den σ' v = den σ s) : (Lf.ret v H).gives s := h
attribute [local irreducible] evalF Lf.gives decX in
theorem spec10 : SpecOk Tryz.prog 72 (specOf g10) := spec_okA false e10l_calls mixed fn10 b10 n10 loops10 g10 fun a0 H0 r hg hn => by
  unfold g10 at hg
  split at hg
  · rename_i s
    simp only [Option.some.injEq] at hg
    subst hg
    refine ⟨_, id, fun _ => rfl, gives_giv (gives_tree (t10 s) ?_)⟩
    simp only [eqC_self, cond_true]
    refine gives_cond (fun h => ?_) (fun h => ?_)
    · exact gives_ret fun σ σ' => by simp only [decT, den, denL]
    · have hno : decX s = ⟨0, 0, 0, 0, 0, 0, false⟩ := by
        rcases decX_cases s with hd | hd
        · rw [hd.2.2.2.2.1] at h; cases h
        · exact hd.1
      exact gives_ret fun σ σ' => by simp only [decT, hno, den, denL, cond_false]
  · cases hg

end Go.X
end

section
set_option linter.unusedVariables false
open Go Go.Ev Go.Proofs
namespace Go.X

attribute [local irreducible] evalF Lf.gives numD numU in
theorem spec44u : SpecOk Tryz.prog 79 (specOf g42) := spec_okA false e44_calls mixed fn44 b44 n44 loops44 g42 fun a0 H0 r hg hn => by
  unfold g42 at hg
  split at hg
  · rename_i s
    simp only [Option.some.injEq] at hg
    subst hg
    simp only [allB, Bool.and_true, Nat.ble_eq] at hn
    refine ⟨_, id, fun _ => rfl, gives_giv (gives_tree (t44 s) ?_)⟩
    have e2 : Nat.ble s.size 8 = true := by rw [Nat.ble_eq]; exact hn
    simp only [decide_true, e2, low8 hn, cond_true, numD_eq s hn]
    exact gives_int
  · cases hg

/-- begins -/
def bgX (at_ : Nat) (s b : ByteArray) (kd : Int) : Bool :=
  bif decide (kd = 114) || (decide (kd = 113) || (decide (kd = 110) || decide (kd = 109))) then decide (at_ + b.size < s.size) && decide (s.extract (at_ + 1) (at_ + 1 + b.size) = b)
  else bif decide (kd = 115) then decide (1 < s.size) && decide (chr s 1 = 15)
  else bif decide (kd = 98) then decide (1 < s.size) && decide (ar .and .u8 (chr s 1) 248 = chr b 0)
  else bif decide (kd = 120) then decide (1 < s.size) && decide (chr s 1 = 153)
  else bif decide (kd = 99) then decide (b.size ≤ s.size) && decide (ar .and .u8 (chr s (b.size - 1)) 240 = chr b (b.size - 1))
  else decide (b.size ≤ s.size) && decide (s.extract 0 b.size = b)

noncomputable def E28 : Env := inlA Tryz.prog (envOf [] noLoop) [] [] 1
theorem e28_calls : CallsOk E28 Tryz.prog := (inlA_calls (SpecsOk.nil.calls noLoop) mixed namedNil namedNil 1).1
theorem e28_loop : E28.loop = noLoop := rfl
theorem fn28 : Tryz.prog.funcs[66]? = some Tryz.f66 := by kernel_rfl
theorem b28 : Tryz.f66.body = some (bodyOf Tryz.f66) := by kernel_rfl
theorem n28 : (Tryz.f66.name == "runtime.NumGoroutine") = false := by kernel_rfl

theorem t28 (s : ByteArray) (b : ByteArray) (kd : Int) (m : Int) (w : Int) (im : Int) : (evalF E28 Tryz.prog 66 [SV.str s, SV.agg [SV.int false IntKind.u8 kd, SV.str b, SV.int false IntKind.i64 m, SV.int false IntKind.i64 w, SV.int false IntKind.i64 im, SV.bool true false]] [] 1024).bare =
    (bif (cm BinOp.eql kd 114) then
      bif (bif cm BinOp.gtr (↑s.size : Int) (ar BinOp.add IntKind.i64 0 (↑b.size : Int)) then allB [true, decide (0 ≤ ar BinOp.add IntKind.i64 1 (↑b.size : Int)), Nat.ble 1 (ar BinOp.add IntKind.i64 1 (↑b.size : Int)).toNat, (ar BinOp.add IntKind.i64 1 (↑b.size : Int)).toNat.ble s.size] else true) then
        .ret (.bool false (bif cm BinOp.gtr (↑s.size : Int) (ar BinOp.add IntKind.i64 0 (↑b.size : Int)) then seq (s.extract 1 (ar BinOp.add IntKind.i64 1 (↑b.size : Int)).toNat) b else false)) []
      else .bad
    else
      bif (cm BinOp.eql kd 113) then
        bif (bif cm BinOp.gtr (↑s.size : Int) (ar BinOp.add IntKind.i64 0 (↑b.size : Int)) then allB [true, decide (0 ≤ ar BinOp.add IntKind.i64 1 (↑b.size : Int)), Nat.ble 1 (ar BinOp.add IntKind.i64 1 (↑b.size : Int)).toNat, (ar BinOp.add IntKind.i64 1 (↑b.size : Int)).toNat.ble s.size] else true) then
          .ret (.bool false (bif cm BinOp.gtr (↑s.size : Int) (ar BinOp.add IntKind.i64 0 (↑b.size : Int)) then seq (s.extract 1 (ar BinOp.add IntKind.i64 1 (↑b.size : Int)).toNat) b else false)) []
        else .bad
      else
        bif (cm BinOp.eql kd 110) then
          bif (bif cm BinOp.gtr (↑s.size : Int) (ar BinOp.add IntKind.i64 0 (↑b.size : Int)) then allB [true, decide (0 ≤ ar BinOp.add IntKind.i64 1 (↑b.size : Int)), Nat.ble 1 (ar BinOp.add IntKind.i64 1 (↑b.size : Int)).toNat, (ar BinOp.add IntKind.i64 1 (↑b.size : Int)).toNat.ble s.size] else true) then
            .ret (.bool false (bif cm BinOp.gtr (↑s.size : Int) (ar BinOp.add IntKind.i64 0 (↑b.size : Int)) then seq (s.extract 1 (ar BinOp.add IntKind.i64 1 (↑b.size : Int)).toNat) b else false)) []
          else .bad
        else
          bif (cm BinOp.eql kd 109) then
            bif (bif cm BinOp.gtr (↑s.size : Int) (ar BinOp.add IntKind.i64 0 (↑b.size : Int)) then allB [true, decide (0 ≤ ar BinOp.add IntKind.i64 1 (↑b.size : Int)), Nat.ble 1 (ar BinOp.add IntKind.i64 1 (↑b.size : Int)).toNat, (ar BinOp.add IntKind.i64 1 (↑b.size : Int)).toNat.ble s.size] else true) then
              .ret (.bool false (bif cm BinOp.gtr (↑s.size : Int) (ar BinOp.add IntKind.i64 0 (↑b.size : Int)) then seq (s.extract 1 (ar BinOp.add IntKind.i64 1 (↑b.size : Int)).toNat) b else false)) []
            else .bad
          else
            bif (cm BinOp.eql kd 115) then
              bif (bif cm BinOp.gtr (↑s.size : Int) 1 then allB [true, Nat.blt 1 s.size] else true) then
                .ret (.bool false (bif cm BinOp.gtr (↑s.size : Int) 1 then cm BinOp.eql (chr s 1) 15 else false)) []
              else .bad
            else
              bif (cm BinOp.eql kd 98) then
                bif (bif cm BinOp.gtr (↑s.size : Int) 1 then allB [true, Nat.blt 1 s.size, true, Nat.blt 0 b.size] else true) then
                  .ret (.bool false (bif cm BinOp.gtr (↑s.size : Int) 1 then cm BinOp.eql (ar BinOp.and IntKind.u8 (chr s 1) 248) (chr b 0) else false)) []
                else .bad
              else
                bif (cm BinOp.eql kd 120) then
                  bif (bif cm BinOp.gtr (↑s.size : Int) 1 then allB [true, Nat.blt 1 s.size] else true) then
                    .ret (.bool false (bif cm BinOp.gtr (↑s.size : Int) 1 then cm BinOp.eql (chr s 1) 153 else false)) []
                  else .bad
                else
                  bif (cm BinOp.eql kd 99) then
                    bif (bif cm BinOp.geq (↑s.size : Int) (↑b.size : Int) then allB [decide (0 ≤ ar BinOp.sub IntKind.i64 (↑b.size : Int) 1), (ar BinOp.sub IntKind.i64 (↑b.size : Int) 1).toNat.blt s.size, decide (0 ≤ ar BinOp.sub IntKind.i64 (↑b.size : Int) 1), (ar BinOp.sub IntKind.i64 (↑b.size : Int) 1).toNat.blt b.size] else true) then
                      .ret (.bool false (bif cm BinOp.geq (↑s.size : Int) (↑b.size : Int) then cm BinOp.eql (ar BinOp.and IntKind.u8 (chr s (ar BinOp.sub IntKind.i64 (↑b.size : Int) 1).toNat) 240) (chr b (ar BinOp.sub IntKind.i64 (↑b.size : Int) 1).toNat) else false)) []
                    else .bad
                  else
                    bif (bif cm BinOp.geq (↑s.size : Int) (↑b.size : Int) then allB [decide (0 ≤ (↑b.size : Int)), (↑b.size : Int).toNat.ble s.size] else true) then
                      .ret (.bool false (bif cm BinOp.geq (↑s.size : Int) (↑b.size : Int) then seq (s.extract 0 (↑b.size : Int).toNat) b else false)) []
                    else .bad) := by kernel_rfl

theorem t28a (s : ByteArray) (b : ByteArray) (kd : Int) (m : Int) (w : Int) (im : Int) : (evalF E28 Tryz.prog 66 [SV.str s, SV.agg [SV.int false IntKind.u8 kd, SV.str b, SV.int false IntKind.i64 m, SV.int false IntKind.i64 w, SV.int false IntKind.i64 im, SV.bool true true]] [] 1024).bare =
    (bif (cm BinOp.eql kd 114) then
      bif (bif cm BinOp.gtr (↑s.size : Int) (ar BinOp.add IntKind.i64 1 (↑b.size : Int)) then allB [true, decide (0 ≤ ar BinOp.add IntKind.i64 2 (↑b.size : Int)), Nat.ble 2 (ar BinOp.add IntKind.i64 2 (↑b.size : Int)).toNat, (ar BinOp.add IntKind.i64 2 (↑b.size : Int)).toNat.ble s.size] else true) then
        .ret (.bool false (bif cm BinOp.gtr (↑s.size : Int) (ar BinOp.add IntKind.i64 1 (↑b.size : Int)) then seq (s.extract 2 (ar BinOp.add IntKind.i64 2 (↑b.size : Int)).toNat) b else false)) []
      else .bad
    else
      bif (cm BinOp.eql kd 113) then
        bif (bif cm BinOp.gtr (↑s.size : Int) (ar BinOp.add IntKind.i64 1 (↑b.size : Int)) then allB [true, decide (0 ≤ ar BinOp.add IntKind.i64 2 (↑b.size : Int)), Nat.ble 2 (ar BinOp.add IntKind.i64 2 (↑b.size : Int)).toNat, (ar BinOp.add IntKind.i64 2 (↑b.size : Int)).toNat.ble s.size] else true) then
          .ret (.bool false (bif cm BinOp.gtr (↑s.size : Int) (ar BinOp.add IntKind.i64 1 (↑b.size : Int)) then seq (s.extract 2 (ar BinOp.add IntKind.i64 2 (↑b.size : Int)).toNat) b else false)) []
        else .bad
      else
        bif (cm BinOp.eql kd 110) then
          bif (bif cm BinOp.gtr (↑s.size : Int) (ar BinOp.add IntKind.i64 1 (↑b.size : Int)) then allB [true, decide (0 ≤ ar BinOp.add IntKind.i64 2 (↑b.size : Int)), Nat.ble 2 (ar BinOp.add IntKind.i64 2 (↑b.size : Int)).toNat, (ar BinOp.add IntKind.i64 2 (↑b.size : Int)).toNat.ble s.size] else true) then
            .ret (.bool false (bif cm BinOp.gtr (↑s.size : Int) (ar BinOp.add IntKind.i64 1 (↑b.size : Int)) then seq (s.extract 2 (ar BinOp.add IntKind.i64 2 (↑b.size : Int)).toNat) b else false)) []
          else .bad
        else
          bif (cm BinOp.eql kd 109) then
            bif (bif cm BinOp.gtr (↑s.size : Int) (ar BinOp.add IntKind.i64 1 (↑b.size : Int)) then allB [true, decide (0 ≤ ar BinOp.add IntKind.i64 2 (↑b.size : Int)), Nat.ble 2 (ar BinOp.add IntKind.i64 2 (↑b.size : Int)).toNat, (ar BinOp.add IntKind.i64 2 (↑b.size : Int)).toNat.ble s.size] else true) then
              .ret (.bool false (bif cm BinOp.gtr (↑s.size : Int) (ar BinOp.add IntKind.i64 1 (↑b.size : Int)) then seq (s.extract 2 (ar BinOp.add IntKind.i64 2 (↑b.size : Int)).toNat) b else false)) []
            else .bad
          else
            bif (cm BinOp.eql kd 115) then
              bif (bif cm BinOp.gtr (↑s.size : Int) 1 then allB [true, Nat.blt 1 s.size] else true) then
                .ret (.bool false (bif cm BinOp.gtr (↑s.size : Int) 1 then cm BinOp.eql (chr s 1) 15 else false)) []
              else .bad
            else
              bif (cm BinOp.eql kd 98) then
                bif (bif cm BinOp.gtr (↑s.size : Int) 1 then allB [true, Nat.blt 1 s.size, true, Nat.blt 0 b.size] else true) then
                  .ret (.bool false (bif cm BinOp.gtr (↑s.size : Int) 1 then cm BinOp.eql (ar BinOp.and IntKind.u8 (chr s 1) 248) (chr b 0) else false)) []
                else .bad
              else
                bif (cm BinOp.eql kd 120) then
                  bif (bif cm BinOp.gtr (↑s.size : Int) 1 then allB [true, Nat.blt 1 s.size] else true) then
                    .ret (.bool false (bif cm BinOp.gtr (↑s.size : Int) 1 then cm BinOp.eql (chr s 1) 153 else false)) []
                  else .bad
                else
                  bif (cm BinOp.eql kd 99) then
                    bif (bif cm BinOp.geq (↑s.size : Int) (↑b.size : Int) then allB [decide (0 ≤ ar BinOp.sub IntKind.i64 (↑b.size : Int) 1), (ar BinOp.sub IntKind.i64 (↑b.size : Int) 1).toNat.blt s.size, decide (0 ≤ ar BinOp.sub IntKind.i64 (↑b.size : Int) 1), (ar BinOp.sub IntKind.i64 (↑b.size : Int) 1).toNat.blt b.size] else true) then
                      .ret (.bool false (bif cm BinOp.geq (↑s.size : Int) (↑b.size : Int) then cm BinOp.eql (ar BinOp.and IntKind.u8 (chr s (ar BinOp.sub IntKind.i64 (↑b.size : Int) 1).toNat) 240) (chr b (ar BinOp.sub IntKind.i64 (↑b.size : Int) 1).toNat) else false)) []
                    else .bad
                  else
                    bif (bif cm BinOp.geq (↑s.size : Int) (↑b.size : Int) then allB [decide (0 ≤ (↑b.size : Int)), (↑b.size : Int).toNat.ble s.size] else true) then
                      .ret (.bool false (bif cm BinOp.geq (↑s.size : Int) (↑b.size : Int) then seq (s.extract 0 (↑b.size : Int).toNat) b else false)) []
                    else .bad) := by kernel_rfl

def g28 : List SV → Heap → Option R
  | [.str s, .agg [.int _ .u8 kd, .str b, .int _ .i64 m, .int _ .i64 w, .int _ .i64 im, .bool _ pre]], [] =>
    some ⟨[Nat.ble b.size 100, decide (1 ≤ b.size) || (!decide (kd = 98) && !decide (kd = 99))], .bool false (bgX (bif pre then 1 else 0) s b kd), []⟩
  | _, _ => none

theorem gives_bool {l b c : Bool} {H : Heap} (h : b = c) : (Lf.ret (.bool l b) H).gives (.bool false c) := by subst h; exact fun σ σ' => rfl
theorem add0 {n : Nat} (h : n ≤ 100) : ar .add .i64 0 (n : Int) = (n : Int) := by simp only [ar, IntKind.wrap_i64]; omega
theorem add1 {n : Nat} (h : n ≤ 100) : ar .add .i64 1 (n : Int) = ((1 + n : Nat) : Int) := by simp only [ar, IntKind.wrap_i64]; omega
theorem add2 {n : Nat} (h : n ≤ 100) : ar .add .i64 2 (n : Int) = ((2 + n : Nat) : Int) := by simp only [ar, IntKind.wrap_i64]; omega
theorem sub1 {n : Nat} (h : n ≤ 100) : ar .sub .i64 (n : Int) 1 = (n : Int) - 1 := by simp only [ar, IntKind.wrap_i64]; omega

/-- a test, and what it needs -/
theorem gives_need {c p : Bool} {need : Bool} {x : Bool} (h : c = true → need = true) (hx : (bif c then p else false) = x) : (bif (bif c then need else true) then Lf.ret (.bool false (bif c then p else false)) [] else .bad).gives (.bool false x) := by
  cases c with
  | true => rw [cond_true, h rfl, cond_true]; exact gives_bool hx
  | false => rw [cond_false, cond_true]; exact gives_bool hx

attribute [local irreducible] evalF Lf.gives in
theorem spec28 : SpecOk Tryz.prog 66 (specOf g28) := spec_okA false e28_calls mixed fn28 b28 n28 (loops_noLoop e28_loop _ _) g28 fun a0 H0 r hg hn => by
  unfold g28 at hg
  split at hg
  · rename_i s _ kd b _ m _ w _ im _ pre
    simp only [Option.some.injEq] at hg
    subst hg
    simp only [allB, Bool.and_true, Bool.and_eq_true, Nat.ble_eq, Bool.or_eq_true, decide_eq_true_eq, Bool.not_eq_true', decide_eq_false_iff_not] at hn
    obtain ⟨hb, hb1⟩ := hn
    have z1 : ((1 : Int) < (s.size : Int)) = (1 < s.size) := propext (by omega)
    have z2 : ((b.size : Int) + 1 < (s.size : Int)) = (b.size + 1 < s.size) := propext (by omega)
    refine ⟨[.str s, .agg [.int false .u8 kd, .str b, .int false .i64 m, .int false .i64 w, .int false .i64 im, .bool true pre]], fun _ => by simp [SV.alL, SV.al], fun σ => by simp only [denL, den], gives_giv ?_⟩
    cases pre with
    | false =>
      refine gives_tree (t28 s b kd m w im) ?_
      simp only [cm_eql', add0 hb, add1 hb, sub1 hb, cm_gtr', cm_geq', Int.toNat_natCast, seq_eq, nble, nblt]
      by_cases k114 : kd = 114
      · subst k114
        exact gives_need (fun h => by simp [allB] at h hb1 ⊢; try omega) (by simp [bgX, Nat.add_comm, z1, z2])
      by_cases k113 : kd = 113
      · subst k113
        exact gives_need (fun h => by simp [allB] at h hb1 ⊢; try omega) (by simp [bgX, Nat.add_comm, z1, z2])
      by_cases k110 : kd = 110
      · subst k110
        exact gives_need (fun h => by simp [allB] at h hb1 ⊢; try omega) (by simp [bgX, Nat.add_comm, z1, z2])
      by_cases k109 : kd = 109
      · subst k109
        exact gives_need (fun h => by simp [allB] at h hb1 ⊢; try omega) (by simp [bgX, Nat.add_comm, z1, z2])
      by_cases k115 : kd = 115
      · subst k115
        exact gives_need (fun h => by simp [allB] at h hb1 ⊢; try omega) (by simp [bgX, Nat.add_comm, z1, z2])
      by_cases k98 : kd = 98
      · subst k98
        exact gives_need (fun h => by simp [allB] at h hb1 ⊢; try omega) (by simp [bgX, Nat.add_comm, z1, z2])
      by_cases k120 : kd = 120
      · subst k120
        exact gives_need (fun h => by simp [allB] at h hb1 ⊢; try omega) (by simp [bgX, Nat.add_comm, z1, z2])
      by_cases k99 : kd = 99
      · subst k99
        exact gives_need (fun h => by simp [allB] at h hb1 ⊢; try omega) (by simp [bgX, Nat.add_comm, z1, z2])
      simp only [decide_eq_false k114, decide_eq_false k113, decide_eq_false k110, decide_eq_false k109, decide_eq_false k115, decide_eq_false k98, decide_eq_false k120, decide_eq_false k99, cond_false]
      exact gives_need (fun h => by simp [allB] at h ⊢; try omega) (by simp [bgX, k114, k113, k110, k109, k115, k98, k120, k99]; try omega)
    | true =>
      refine gives_tree (t28a s b kd m w im) ?_
      simp only [cm_eql', add0 hb, add1 hb, add2 hb, sub1 hb, cm_gtr', cm_geq', Int.toNat_natCast, seq_eq, nble, nblt]
      by_cases k114 : kd = 114
      · subst k114
        exact gives_need (fun h => by simp [allB] at h hb1 ⊢; try omega) (by simp [bgX, Nat.add_comm, z1, z2])
      by_cases k113 : kd = 113
      · subst k113
        exact gives_need (fun h => by simp [allB] at h hb1 ⊢; try omega) (by simp [bgX, Nat.add_comm, z1, z2])
      by_cases k110 : kd = 110
      · subst k110
        exact gives_need (fun h => by simp [allB] at h hb1 ⊢; try omega) (by simp [bgX, Nat.add_comm, z1, z2])
      by_cases k109 : kd = 109
      · subst k109
        exact gives_need (fun h => by simp [allB] at h hb1 ⊢; try omega) (by simp [bgX, Nat.add_comm, z1, z2])
      by_cases k115 : kd = 115
      · subst k115
        exact gives_need (fun h => by simp [allB] at h hb1 ⊢; try omega) (by simp [bgX, Nat.add_comm, z1, z2])
      by_cases k98 : kd = 98
      · subst k98
        exact gives_need (fun h => by simp [allB] at h hb1 ⊢; try omega) (by simp [bgX, Nat.add_comm, z1, z2])
      by_cases k120 : kd = 120
      · subst k120
        exact gives_need (fun h => by simp [allB] at h hb1 ⊢; try omega) (by simp [bgX, Nat.add_comm, z1, z2])
      by_cases k99 : kd = 99
      · subst k99
        exact gives_need (fun h => by simp [allB] at h hb1 ⊢; try omega) (by simp [bgX, Nat.add_comm, z1, z2])
      simp only [decide_eq_false k114, decide_eq_false k113, decide_eq_false k110, decide_eq_false k109, decide_eq_false k115, decide_eq_false k98, decide_eq_false k120, decide_eq_false k99, cond_false]
      exact gives_need (fun h => by simp [allB] at h ⊢; try omega) (by simp [bgX, k114, k113, k110, k109, k115, k98, k120, k99]; try omega)
  · cases hg

end Go.X
end

section
set_option linter.unusedVariables false
open Go Go.Ev Go.Proofs
namespace Go.X

theorem rexQ_chk : ([(4 : Int), 8].all fun w => all16 fun m => all16 fun l => (ar .rem .i64 (conv .i64 (rexI w m l)) 2 == l / 8) && (ar .rem .i64 (ar .quo .i64 (conv .i64 (rexI w m l)) 4) 2 == m / 8)) = true := by kernel_rfl
theorem rexQ {w m l : Int} (hw : w = 4 ∨ w = 8) (hm : small m) (hl : small l) : ar .rem .i64 (conv .i64 (rexI w m l)) 2 = l / 8 ∧ ar .rem .i64 (ar .quo .i64 (conv .i64 (rexI w m l)) 4) 2 = m / 8 := by
  have := all16_spec (all16_spec (List.all_eq_true.1 rexQ_chk w (by rcases hw with rfl | rfl <;> simp)) hm) hl
  simpa using this
theorem modQ_chk : ([(192 : Int), 128].all fun d => all16 fun m => all16 fun l => (ar .rem .i64 (conv .i64 (modI d m l)) 8 == l % 8) && (ar .rem .i64 (ar .quo .i64 (conv .i64 (modI d m l)) 8) 8 == m % 8)) = true := by kernel_rfl
theorem modQ {d m l : Int} (hd : d = 192 ∨ d = 128) (hm : small m) (hl : small l) : ar .rem .i64 (conv .i64 (modI d m l)) 8 = l % 8 ∧ ar .rem .i64 (ar .quo .i64 (conv .i64 (modI d m l)) 8) 8 = m % 8 := by
  have := all16_spec (all16_spec (List.all_eq_true.1 modQ_chk d (by rcases hd with rfl | rfl <;> simp)) hm) hl
  simpa using this
theorem putQ_chk : (all16 fun m => ar .add .i64 (m % 8) (ar .mul .i64 8 (m / 8)) == m) = true := by kernel_rfl
theorem putQ {m : Int} (hm : small m) : ar .add .i64 (m % 8) (ar .mul .i64 8 (m / 8)) = m := by
  have := all16_spec putQ_chk hm
  simpa using this
theorem moreQ_chk : ([(184 : Int), 80, 88].all fun c => all16 fun m => ar .add .i64 (ar .rem .i64 (conv .i64 (c + m % 8)) 8) (ar .mul .i64 8 (m / 8)) == m) = true := by kernel_rfl
theorem moreQ {c m : Int} (hc : c ∈ [(184 : Int), 80, 88]) (hm : small m) : ar .add .i64 (ar .rem .i64 (conv .i64 (c + m % 8)) 8) (ar .mul .i64 8 (m / 8)) = m := by
  have := all16_spec (List.all_eq_true.1 moreQ_chk c hc) hm
  simpa using this
theorem condQ_chk : ([(128 : Int), 112].all fun c => all16 fun m => ar .rem .i64 (conv .i64 (c + m)) 16 == m) = true := by kernel_rfl
theorem condQ {c m : Int} (hc : c ∈ [(128 : Int), 112]) (hm : small m) : ar .rem .i64 (conv .i64 (c + m)) 16 = m := by
  have := all16_spec (List.all_eq_true.1 condQ_chk c hc) hm
  simpa using this

def cells5 (o w rd rs n : Int) : Blk := .cells [.int false .i64 o, .int false .i64 w, .int false .i64 rd, .int false .i64 rs, .int false .i64 n]
noncomputable def E29 : Env := inlA Tryz.prog (envOf [(79, specOf g42)] noLoop) [] [] 1
theorem e29_calls : CallsOk E29 Tryz.prog := (inlA_calls ((SpecsOk.cons spec44u SpecsOk.nil).calls noLoop) mixed namedNil namedNil 1).1
theorem e29_loop : E29.loop = noLoop := rfl

/-- what read says: how many bytes, and the fields -/
def Q29 (k : Int) (s : ByteArray) (w m rd rs n : Int) : Prop :=
  inI n ∧ 0 ≤ m ∧ m ≤ s.size ∧ ∀ rd' rs' n', DX k s w rd' rs' n' → m ≠ 0 ∧ m = ((strX k w rd' rs' n').size : Int) ∧ rd = rd' ∧ rs = rs' ∧ n = n'
def RPl (k : Int) (s : ByteArray) (w : Int) (l : Lf) : Prop := ∃ m rd rs n, Q29 k s w m rd rs n ∧ GivesD ⟨[], .int false .i64 m, [(0, cells5 k w rd rs n)]⟩ l
theorem RPl_cond {k : Int} {s : ByteArray} {w : Int} {b : Bool} {x y : Lf} (h1 : b = true → RPl k s w x) (h2 : b = false → RPl k s w y) : RPl k s w (bif b then x else y) := by
  cases b with
  | true => exact h1 rfl
  | false => exact h2 rfl
theorem RPl_ret {k : Int} {s : ByteArray} {w m rd rs n : Int} {a b c d e f : Bool} {H : Heap} (h : Q29 k s w m rd rs n) : RPl k s w (.ret (.int a .i64 m) ((0, .cells [.int b .i64 k, .int c .i64 w, .int d .i64 rd, .int e .i64 rs, .int f .i64 n]) :: H)) := by
  refine ⟨m, rd, rs, n, h, [], rfl, fun σ => by simp only [den], ⟨?_, trivial⟩, rfl⟩
  simp [rmap, rlook, Ev.look, cells5, wkB, simL, sim]
def RP (k : Int) (f : SV) : Prop := ∀ s w, RPl k s w (evalF E29 Tryz.prog 67 [.str s, f, .ptr 0 0 0] [(0, cells5 k w 0 0 0)] 1024).leaf
attribute [local irreducible] evalF in
theorem RP_of {k : Int} {s : ByteArray} {w : Int} {f : SV} {l : Lf} (h : (evalF E29 Tryz.prog 67 [.str s, f, .ptr 0 0 0] [(0, cells5 k w 0 0 0)] 1024).leaf = l) (hl : RPl k s w l) : RPl k s w (evalF E29 Tryz.prog 67 [.str s, f, .ptr 0 0 0] [(0, cells5 k w 0 0 0)] 1024).leaf := h ▸ hl

end Go.X
end

section
set_option linter.unusedVariables false
open Go Go.Ev Go.Proofs
namespace Go.X

def mrB (sh : Int) : Bool := decide (sh = 0 ∨ sh = 1 ∨ sh = 2 ∨ sh = 7)
/-- where the number lies -/
def pX (k : Int) : Nat := bif mrB (shX k) then endX k + 1 else endX k
def lowQ (s : ByteArray) (a m : Nat) : Int := ar .add .i64 (ar .rem .i64 (conv .i64 (chr s m)) 8) (ar .mul .i64 8 (ar .rem .i64 (conv .i64 (chr s a)) 2))
def midQ (s : ByteArray) (a m : Nat) : Int := ar .add .i64 (ar .rem .i64 (ar .quo .i64 (conv .i64 (chr s m)) 8) 8) (ar .mul .i64 8 (ar .rem .i64 (ar .quo .i64 (conv .i64 (chr s a)) 4) 2))
def retR (k w : Int) (f : Bool) (m rd rs n : Int) : Lf := .ret (.int f .i64 m) [(0, cells5 k w rd rs n), (1024, .cells (rowL k))]
def flR (k : Int) : Bool := decide (shX k = 3 ∨ shX k = 4 ∨ shX k = 6 ∨ shX k = 7)
def numR (k w : Int) (rd rs n0 : Int) (p T : Nat) (s : ByteArray) : Lf :=
  if T = 0 then retR k w (flR k) ((p + T : Nat) : Int) rd rs n0
  else bif Nat.ble (p + T) s.size then bif Nat.ble (s.extract p (p + T)).size 8 then retR k w (flR k) ((p + T : Nat) : Int) rd rs (numU (s.extract p (p + T))) else .bad else .bad
def rT (k w : Int) (s : ByteArray) : Lf :=
  let p := pX k
  let T := tlX k
  let a := atX k
  let sh := shX k
  bif cm .lss (s.size : Int) ((p + T : Nat) : Int) then retR k w true 0 0 0 0
  else bif Nat.blt a s.size then bif Nat.blt (p - 1) s.size then
    if sh = 0 then (bif turnX k then numR k w (midQ s a (p - 1)) (lowQ s a (p - 1)) 0 p T s else numR k w (lowQ s a (p - 1)) (midQ s a (p - 1)) 0 p T s)
    else if sh = 1 then numR k w (lowQ s a (p - 1)) 0 0 p T s
    else if sh = 2 then numR k w (midQ s a (p - 1)) (lowQ s a (p - 1)) 0 p T s
    else if sh = 7 then bif Nat.blt 2 s.size then numR k w (lowQ s a (p - 1)) 0 (ar .sub .i64 (conv .i64 (chr s 2)) 144) p T s else .bad
    else if sh = 3 ∨ sh = 4 then bif Nat.blt 1 s.size then numR k w (lowQ s a 1) 0 0 p T s else .bad
    else if sh = 10 ∨ sh = 11 then numR k w (ar .rem .i64 (conv .i64 (chr s (p - 1))) 16) 0 0 p T s
    else numR k w 0 0 0 p T s
  else .bad else .bad

theorem lowQ_eq {s : ByteArray} {a e : Nat} {w m l d : Int} (hw : w = 4 ∨ w = 8) (hd : d = 192 ∨ d = 128) (hm : small m) (hl : small l) (h1 : chr s a = rexI w m l) (h2 : chr s e = modI d m l) : lowQ s a e = l ∧ midQ s a e = m := by
  obtain ⟨x2, x3⟩ := rexQ hw hm hl
  obtain ⟨y0, y1⟩ := modQ hd hm hl
  unfold lowQ midQ
  rw [h1, h2, x2, x3, y0, y1]
  exact ⟨putQ hl, putQ hm⟩

def endP (k : Int) : Bool := decide (endX k = (bif freeB (shX k) then 0 else atX k + 1) + (codeX k).size) && (decide ((shX k = 3 ∨ shX k = 4 → endX k = 2)) && (decide (shX k = 7 → endX k = 3) && decide (1 ≤ endX k ∧ (¬ freeB (shX k) = true → atX k < endX k) ∧ (freeB (shX k) = true → atX k = 0))))
theorem end_chk : ((List.range 46).all fun i => endP (Int.ofNat (i + 1))) = true := by kernel_rfl
theorem end_is {k : Int} (h1 : 1 ≤ k) (h2 : k ≤ 46) : (shX k = 3 ∨ shX k = 4 → endX k = 2) ∧ (shX k = 7 → endX k = 3) ∧ 1 ≤ endX k ∧ atX k < endX k := by
  have := each46 (p := endP) end_chk h1 h2
  simp only [endP, Bool.and_eq_true, decide_eq_true_eq] at this
  obtain ⟨_, a, b, c, d, e⟩ := this
  refine ⟨a, b, c, ?_⟩
  by_cases h : freeB (shX k) = true
  · have := e h; omega
  · exact d h

theorem pX_mr {k : Int} (h : shX k = 0 ∨ shX k = 1 ∨ shX k = 2 ∨ shX k = 7) : pX k = endX k + 1 := by unfold pX mrB; rw [decide_eq_true h]; rfl
theorem pX_fr {k : Int} (h : ¬ (shX k = 0 ∨ shX k = 1 ∨ shX k = 2 ∨ shX k = 7)) : pX k = endX k := by unfold pX mrB; rw [decide_eq_false h]; rfl
theorem enc_len {k w rd rs n : Int} (he : errX k w rd rs n = 0) : (encL k w rd rs n).length = pX k + tlX k := by
  obtain ⟨h1, h2⟩ := err_op he
  obtain ⟨_, _, t34, t7, t10, t11, _⟩ := tabs h1 h2
  obtain ⟨⟨c0, _⟩, ha⟩ := code_is h1 h2
  have hT : tlX k = longX (shX k) (imX k) := rfl
  unfold encL
  by_cases k0 : shX k = 0
  · have hA := at_zero (ha.resolve_left (by rw [k0]; decide))
    rw [pX_mr (.inl k0), end_rex (by rw [k0]; decide), hA, hT, if_pos k0]
    cases nth turns false (k - 1).toNat <;> simp only [cond_true, cond_false, List.length_cons, List.length_append, tail_length, c0] <;> omega
  by_cases k1 : shX k = 1
  · have hA := at_zero (ha.resolve_left (by rw [k1]; decide))
    rw [pX_mr (.inr (.inl k1)), end_rex (by rw [k1]; decide), hA, hT, if_neg k0, if_pos k1]
    simp only [List.length_cons, List.length_append, tail_length, c0]
    omega
  by_cases k2 : shX k = 2
  · rw [pX_mr (.inr (.inr (.inl k2))), end_rex (by rw [k2]; decide), hT, if_neg k0, if_neg k1, if_pos k2]
    change ((bif ahX k then [102] else ([] : List Int)) ++ _).length = _
    unfold atX
    cases ahX k <;> simp only [cond_true, cond_false, List.length_cons, List.length_append, List.length_nil, tail_length, c0] <;> omega
  have hA := at_zero (ha.resolve_left k2)
  by_cases k34 : shX k = 3 ∨ shX k = 4
  · obtain ⟨c, hc, e⟩ := t34 k34
    obtain ⟨_, _, _, n6, n7, _, nf, _⟩ := g34 k34
    rw [e] at c0
    rw [pX_fr (fun h => by rcases h with h | h | h | h <;> contradiction), end_rex nf, hA, hT, if_neg k0, if_neg k1, if_neg k2, if_pos k34, e, ← c0]
    simp only [lastL, List.length_cons, List.length_append, List.length_nil, tail_length]
    omega
  by_cases k6 : shX k = 6
  · rw [pX_fr (by rw [k6]; decide), end_rex (by rw [k6]; decide), hA, hT, if_neg k0, if_neg k1, if_neg k2, if_neg k34, if_pos k6]
    simp only [List.length_cons, List.length_append, tail_length, c0]
    omega
  by_cases k7 : shX k = 7
  · have e := t7 k7
    rw [e] at c0
    rw [pX_mr (.inr (.inr (.inr k7))), end_rex (by rw [k7]; decide), hA, hT, if_neg k0, if_neg k1, if_neg k2, if_neg k34, if_neg k6, if_pos k7, e, ← c0]
    simp only [lastL, List.length_cons, List.length_append, List.length_nil, tail_length]
    omega
  have hm : ¬ (shX k = 0 ∨ shX k = 1 ∨ shX k = 2 ∨ shX k = 7) := fun h => by rcases h with h | h | h | h <;> contradiction
  by_cases kc : shX k = 10 ∨ shX k = 11
  · rw [pX_fr hm, (end_free (by omega)).2, hT, if_neg k0, if_neg k1, if_neg k2, if_neg k34, if_neg k6, if_neg k7, if_pos kc]
    rcases kc with q | q
    · have e := t10 q
      rw [e] at c0
      rw [e, ← c0]
      simp only [lastL, List.length_cons, List.length_append, List.length_nil, tail_length]
    · have e := t11 q
      rw [e] at c0
      rw [e, ← c0]
      simp only [lastL, List.length_cons, List.length_append, List.length_nil, tail_length]
  · obtain ⟨⟨s0, s1⟩, _⟩ := tabs h1 h2
    rw [pX_fr hm, (end_free (by omega)).2, hT, if_neg k0, if_neg k1, if_neg k2, if_neg k34, if_neg k6, if_neg k7, if_neg kc]
    simp only [List.length_append, tail_length, c0]

theorem dx_size {k : Int} {s : ByteArray} {w rd rs n : Int} (h : DX k s w rd rs n) : ((strX k w rd rs n).size : Int) = ((pX k + tlX k : Nat) : Int) ∧ pX k + tlX k ≤ s.size := by
  have hl := enc_len h.1
  have := h.2.2.1
  rw [strX_ok h.1, S_size, hl]
  exact ⟨rfl, by omega⟩

theorem RPl_num {k : Int} {s : ByteArray} {w rd rs n0 : Int} (hT : tlX k = 0 ∨ tlX k = 1 ∨ tlX k = 4 ∨ tlX k = 8) (h0 : inI n0) (hz : pX k + tlX k ≤ s.size) (hp : 1 ≤ pX k)
    (h : ∀ rd' rs' n', DX k s w rd' rs' n' → rd = rd' ∧ rs = rs' ∧ (∀ j, j < tlX k → chr s (pX k + j) = bat n' j) ∧ (tlX k = 0 → n0 = n') ∧ (tlX k ≠ 0 → fitsX (tlX k) n' = true)) : RPl k s w (numR k w rd rs n0 (pX k) (tlX k) s) := by
  unfold numR
  split
  · rename_i ht
    refine RPl_ret ⟨h0, by omega, by omega, fun rd' rs' n' hd => ?_⟩
    obtain ⟨a1, a2, _, a4, _⟩ := h _ _ _ hd
    exact ⟨by omega, (dx_size hd).1.symm, a1, a2, a4 ht⟩
  · have hze : (s.extract (pX k) (pX k + tlX k)).size ≤ 8 := by rw [ByteArray.size_extract]; omega
    refine RPl_cond (fun _ => RPl_cond (fun _ => ?_) fun hb => ?_) fun hb => ?_
    · refine RPl_ret ⟨numU_range _ hze, by omega, by omega, fun rd' rs' n' hd => ?_⟩
      obtain ⟨a1, a2, a3, _, a5⟩ := h _ _ _ hd
      exact ⟨by omega, (dx_size hd).1.symm, a1, a2, num_tail _ _ (by omega) hz a3 hd.2.1 (a5 (by assumption))⟩
    · rw [nble, decide_eq_false_iff_not] at hb; omega
    · rw [nble, decide_eq_false_iff_not] at hb; omega

theorem rT_ok {k : Int} (h1 : 1 ≤ k) (h2 : k ≤ 46) (s : ByteArray) (w : Int) : RPl k s w (rT k w s) := by
  obtain ⟨⟨s0, s1⟩, _⟩ := tabs h1 h2
  obtain ⟨l34, l7, l10, l11⟩ := last_is h1 h2
  obtain ⟨e34, e7, e1', ea⟩ := end_is h1 h2
  have hT : tlX k = 0 ∨ tlX k = 1 ∨ tlX k = 4 ∨ tlX k = 8 := long_is _ _
  have hp : 1 ≤ pX k := by unfold pX; cases mrB (shX k) <;> simp only [cond_true, cond_false] <;> omega
  have hpe : endX k ≤ pX k := by unfold pX; cases mrB (shX k) <;> simp only [cond_true, cond_false] <;> omega
  unfold rT
  refine RPl_cond (fun hc => RPl_ret ⟨inI0, by omega, by omega, fun rd rs n hd => ?_⟩) fun hc => ?_
  · have := (dx_size hd).2
    simp only [cm_lss', decide_eq_true_eq] at hc
    omega
  have hz : pX k + tlX k ≤ s.size := by simp only [cm_lss', decide_eq_false_iff_not] at hc; omega
  refine RPl_cond (fun _ => RPl_cond (fun _ => ?_) fun hb => ?_) fun hb => ?_
  case refine_2 => rw [nblt, decide_eq_false_iff_not] at hb; omega
  case refine_3 => rw [nblt, decide_eq_false_iff_not] at hb; omega
  have hmr := pX_mr (k := k)
  have hmf := pX_fr (k := k)
  have h77 : shX k = 7 → tlX k = 0 := by
    have : (!decide (shX k = 7) || decide (tlX k = 0)) = true := each46 (p := fun k => !decide (shX k = 7) || decide (tlX k = 0)) (by kernel_rfl) h1 h2
    intro h
    rw [decide_eq_true h] at this
    simpa using this
  by_cases k0 : shX k = 0
  · have hq := hmr (.inl k0)
    rw [if_pos k0]
    have key : ∀ rd' rs' n', DX k s w rd' rs' n' → (bif turnX k then midQ s (atX k) (pX k - 1) = rd' ∧ lowQ s (atX k) (pX k - 1) = rs' else lowQ s (atX k) (pX k - 1) = rd' ∧ midQ s (atX k) (pX k - 1) = rs') ∧
        (∀ j, j < tlX k → chr s (pX k + j) = bat n' j) ∧ (tlX k = 0 → 0 = n') ∧ (tlX k ≠ 0 → fitsX (tlX k) n' = true) := by
      intro rd' rs' n' hd
      obtain ⟨_, hw', _, _, hf⟩ := dx_len hd
      obtain ⟨m, l, d, hd1, hm, hl, e0, e1, _, _, ht, hf1, _, hn⟩ := dxM hd (.inl k0)
      obtain ⟨x1, x2⟩ := lowQ_eq hw' hd1 hm hl e0 e1
      rw [hq, Nat.add_sub_cancel]
      refine ⟨?_, ht, fun h => (hn (by omega) h).symm, fun _ => hf (by omega)⟩
      rw [x1, x2]
      rcases hf1 with ⟨_, h⟩ | ⟨h, _⟩
      · rw [decide_eq_false (show ¬ shX k = 2 by omega), Bool.or_false] at h
        revert h
        cases turnX k <;> exact fun h => ⟨h.1.symm, h.2.symm⟩
      · omega
    cases ht : turnX k with
    | true =>
      refine RPl_num hT inI0 hz hp fun rd' rs' n' hd => ?_
      obtain ⟨b, c⟩ := key _ _ _ hd
      rw [ht] at b
      exact ⟨b.1, b.2, c⟩
    | false =>
      refine RPl_num hT inI0 hz hp fun rd' rs' n' hd => ?_
      obtain ⟨b, c⟩ := key _ _ _ hd
      rw [ht] at b
      exact ⟨b.1, b.2, c⟩
  by_cases k1 : shX k = 1
  · have hq := hmr (.inr (.inl k1))
    rw [if_neg k0, if_pos k1]
    refine RPl_num hT inI0 hz hp fun rd' rs' n' hd => ?_
    obtain ⟨_, hw', _, _, hf⟩ := dx_len hd
    obtain ⟨m, l, d, hd1, hm, hl, e0, e1, _, _, ht, hf1, _, hn⟩ := dxM hd (.inr (.inl k1))
    obtain ⟨x1, x2⟩ := lowQ_eq hw' hd1 hm hl e0 e1
    rw [hq, Nat.add_sub_cancel]
    rcases hf1 with ⟨h, _⟩ | ⟨_, rfl, rfl⟩
    · omega
    · exact ⟨x1, rfl, ht, fun h => (hn (by omega) h).symm, fun _ => hf (by omega)⟩
  by_cases k2 : shX k = 2
  · have hq := hmr (.inr (.inr (.inl k2)))
    rw [if_neg k0, if_neg k1, if_pos k2]
    refine RPl_num hT inI0 hz hp fun rd' rs' n' hd => ?_
    obtain ⟨_, hw', _, _, hf⟩ := dx_len hd
    obtain ⟨m, l, d, hd1, hm, hl, e0, e1, _, _, ht, hf1, _, hn⟩ := dxM hd (.inr (.inr (.inl k2)))
    obtain ⟨x1, x2⟩ := lowQ_eq hw' hd1 hm hl e0 e1
    rw [hq, Nat.add_sub_cancel]
    rcases hf1 with ⟨_, h⟩ | ⟨h, _⟩
    · rw [decide_eq_true k2, Bool.or_true] at h
      obtain ⟨rfl, rfl⟩ := h
      exact ⟨x2, x1, ht, fun h => (hn (by omega) h).symm, fun _ => hf (by omega)⟩
    · omega
  by_cases k7 : shX k = 7
  · have hq := hmr (.inr (.inr (.inr k7)))
    have he := e7 k7
    rw [if_neg k0, if_neg k1, if_neg k2, if_pos k7]
    refine RPl_cond (fun _ => ?_) fun hb => ?_
    case refine_2 => rw [nblt, decide_eq_false_iff_not] at hb; omega
    refine RPl_num hT (more_inI (chr_range _ _) (by decide)) hz hp fun rd' rs' n' hd => ?_
    obtain ⟨_, hw', _, _, hf⟩ := dx_len hd
    obtain ⟨m, l, d, hd1, hm, hl, e0, e1, _, _, ht, hf1, h7, _⟩ := dxM hd (.inr (.inr (.inr k7)))
    obtain ⟨x1, x2⟩ := lowQ_eq hw' hd1 hm hl e0 e1
    obtain ⟨y1, y2⟩ := h7 k7
    rw [hq, Nat.add_sub_cancel]
    rw [he] at y2
    rcases hf1 with ⟨h, _⟩ | ⟨_, rfl, rfl⟩
    · omega
    · exact ⟨x1, rfl, ht, fun _ => by rw [y2]; exact more_cond (by decide) y1, fun h => absurd (h77 k7) h⟩
  have hm : ¬ (shX k = 0 ∨ shX k = 1 ∨ shX k = 2 ∨ shX k = 7) := by omega
  have hq := hmf hm
  rw [if_neg k0, if_neg k1, if_neg k2, if_neg k7]
  by_cases k34 : shX k = 3 ∨ shX k = 4
  · rw [if_pos k34]
    have he := e34 k34
    refine RPl_cond (fun _ => ?_) fun hb => ?_
    case refine_2 => rw [nblt, decide_eq_false_iff_not] at hb; omega
    refine RPl_num hT inI0 hz hp fun rd' rs' n' hd => ?_
    obtain ⟨_, hw', _, _, hf⟩ := dx_len hd
    obtain ⟨hr, _, _, ht, hs, hq', _, _, hn⟩ := dxF hd hm
    obtain ⟨l, hl, e0, e1⟩ := hr (by unfold freeB; exact decide_eq_false (by omega))
    obtain ⟨hrd, e2⟩ := hq' k34
    obtain rfl := e1 (by omega)
    rw [hq]
    refine ⟨?_, hs.symm, ht, fun h => (hn h).symm, fun _ => hf (by omega)⟩
    rw [he] at e2
    unfold lowQ
    rw [e2, e0, (rexQ hw' small0 hl).1]
    exact moreQ (l34 k34).2 hrd
  rw [if_neg k34]
  by_cases kc : shX k = 10 ∨ shX k = 11
  · rw [if_pos kc]
    refine RPl_num hT inI0 hz hp fun rd' rs' n' hd => ?_
    obtain ⟨_, hw', _, _, hf⟩ := dx_len hd
    obtain ⟨hr, _, _, ht, hs, _, hq', _, hn⟩ := dxF hd hm
    obtain ⟨hrd, e2⟩ := hq' kc
    rw [hq]
    refine ⟨?_, hs.symm, ht, fun h => (hn h).symm, fun _ => hf (by omega)⟩
    rw [e2]
    refine condQ ?_ hrd
    rcases kc with q | q
    · rw [l10 q]; decide
    · rw [l11 q]; decide
  rw [if_neg kc]
  refine RPl_num hT inI0 hz hp fun rd' rs' n' hd => ?_
  obtain ⟨_, hw', _, _, hf⟩ := dx_len hd
  obtain ⟨hr, _, _, ht, hs, _, _, hq', hn⟩ := dxF hd hm
  rw [hq]
  exact ⟨(hq' (by omega)).symm, hs.symm, ht, fun h => (hn h).symm, fun _ => hf (by omega)⟩

def ryP (k : Int) : Prop := ∀ s w, (evalF E29 Tryz.prog 67 [.str s, rowR k, .ptr 0 0 0] [(0, cells5 k w 0 0 0)] 1024).leaf = rT k w s

/-! begins -/
theorem dx_code {k : Int} {s : ByteArray} {w rd rs n : Int} (h : DX k s w rd rs n) : (shX k = 0 ∨ shX k = 1 ∨ shX k = 2 → st s (atX k + 1) (codeL k)) ∧ (shX k = 5 ∨ shX k = 8 ∨ shX k = 9 → st s 0 (codeL k)) ∧ (shX k = 6 → st s 1 (codeL k)) ∧ (shX k = 7 → chr s 1 = 15) := by
  obtain ⟨he, hi, hst⟩ := h
  obtain ⟨h1, h2⟩ := err_op he
  obtain ⟨_, _, _, t7, _⟩ := tabs h1 h2
  obtain ⟨_, ha⟩ := code_is h1 h2
  have hst := st_zero hst
  unfold encL at hst
  refine ⟨fun hs => ?_, fun hs => ?_, fun hs => ?_, fun hs => ?_⟩
  · by_cases k2 : shX k = 2
    · simp only [if_neg (show ¬ shX k = 0 by omega), if_neg (show ¬ shX k = 1 by omega), if_pos k2] at hst
      change st s 0 ((bif ahX k then [102] else []) ++ _) at hst
      unfold atX
      cases hA : ahX k with
      | false => rw [hA] at hst; exact (st_app (st_cons hst).2).1
      | true => rw [hA] at hst; exact (st_app (st_cons (st_cons hst).2).2).1
    · have hA := ha.resolve_left k2
      have hat : atX k = 0 := by unfold atX; rw [hA]; rfl
      rw [hat]
      by_cases k0 : shX k = 0
      · rw [if_pos k0] at hst
        revert hst
        cases nth turns false (k - 1).toNat <;> exact fun hst => (st_app (st_cons hst).2).1
      · rw [if_neg k0, if_pos (show shX k = 1 by omega)] at hst
        exact (st_app (st_cons hst).2).1
  · simp only [if_neg (show ¬ shX k = 0 by omega), if_neg (show ¬ shX k = 1 by omega), if_neg (show ¬ shX k = 2 by omega), if_neg (show ¬ (shX k = 3 ∨ shX k = 4) by omega), if_neg (show ¬ shX k = 6 by omega), if_neg (show ¬ shX k = 7 by omega), if_neg (show ¬ (shX k = 10 ∨ shX k = 11) by omega)] at hst
    exact (st_app hst).1
  · simp only [if_neg (show ¬ shX k = 0 by omega), if_neg (show ¬ shX k = 1 by omega), if_neg (show ¬ shX k = 2 by omega), if_neg (show ¬ (shX k = 3 ∨ shX k = 4) by omega), if_pos hs] at hst
    exact (st_app (st_cons hst).2).1
  · simp [hs, t7 hs, lastL] at hst
    exact (st_cons (st_cons hst).2).1

theorem ext_is {s b : ByteArray} (a : Nat) (h : a + b.size ≤ s.size) (hc : ∀ j, j < b.size → chr s (a + j) = chr b j) : s.extract a (a + b.size) = b := by
  refine ba_ext ?_ fun j hj => ?_
  · rw [ByteArray.size_extract]; omega
  · rw [ByteArray.size_extract] at hj
    rw [chr_extract s a _ j h (by omega), hc j (by omega)]
theorem and248_chk : ([(184 : Int), 80, 88].all fun c => all16 fun m => ar .and .u8 (c + m % 8) 248 == c) = true := by kernel_rfl
theorem and248 {c m : Int} (hc : c ∈ [(184 : Int), 80, 88]) (hm : small m) : ar .and .u8 (c + m % 8) 248 = c := by
  have := all16_spec (List.all_eq_true.1 and248_chk c hc) hm
  simpa using this
theorem and240_chk : ([(128 : Int), 112].all fun c => all16 fun m => ar .and .u8 (c + m) 240 == c) = true := by kernel_rfl
theorem and240 {c m : Int} (hc : c ∈ [(128 : Int), 112]) (hm : small m) : ar .and .u8 (c + m) 240 = c := by
  have := all16_spec (List.all_eq_true.1 and240_chk c hc) hm
  simpa using this
theorem st_ext {s : ByteArray} {o : Nat} {l : List Int} (hl : bytesOk l) (h : st s o l) : s.extract o (o + (S l).size) = S l := by
  obtain ⟨h1, h2⟩ := h
  refine ext_is o (by rw [S_size]; exact h1) fun j hj => ?_
  rw [S_size] at hj
  rw [h2 j hj, S_chr hl j hj]

def bgOp (k : Int) (s : ByteArray) : Bool := bgX (bif nth preR false (k - 1).toNat then 1 else 0) s (nth bytesR .empty (k - 1).toNat) (nth kindR 0 (k - 1).toNat)
/-- the reference's table is the same -/
def bothP (k : Int) : Bool := decide (nth preR false (k - 1).toNat = ahX k) && (decide (nth kindR 0 (k - 1).toNat = nth [114, 110, 109, 98, 98, 112, 120, 115, 112, 112, 99, 99] 0 (shX k).toNat ∨ (shX k = 0 ∧ nth kindR 0 (k - 1).toNat = 113)) &&
    (decide (shX k = 6 ∨ shX k = 7 ∨ nth bytesR .empty (k - 1).toNat = codeX k) && (decide (shX k = 6 → codeL k = [153]) && (decide (shX k ≠ 2 → ahX k = false)))))
theorem both_chk : ((List.range 46).all fun i => bothP (Int.ofNat (i + 1))) = true := by kernel_rfl
theorem bg_ok {k : Int} {s : ByteArray} {w rd rs n : Int} (hd : DX k s w rd rs n) : bgOp k s = true := by
  obtain ⟨h1, h2⟩ := err_op hd.1
  have hb := each46 (p := bothP) both_chk h1 h2
  simp only [bothP, Bool.and_eq_true, decide_eq_true_eq] at hb
  obtain ⟨b1, b2, b3, b4, b5⟩ := hb
  obtain ⟨⟨s0, s1⟩, _⟩ := tabs h1 h2
  obtain ⟨⟨c0, c1, c2⟩, ha⟩ := code_is h1 h2
  obtain ⟨l34, l7, l10, l11⟩ := last_is h1 h2
  obtain ⟨e34, e7, _, _⟩ := end_is h1 h2
  obtain ⟨hz, _⟩ := dx_len hd
  obtain ⟨d1, d2, d3, d4⟩ := dx_code hd
  have hS := code_S h1 h2
  have hbk := bok_code k
  unfold bgOp
  rw [b1]
  by_cases k012 : shX k = 0 ∨ shX k = 1 ∨ shX k = 2
  · have hcode := b3.resolve_left (by omega)
    have hcode := hcode.resolve_left (by omega)
    rw [hcode]
    obtain ⟨_, _, _, _, _, _, _, _, _, hz, _⟩ := dxM hd (by omega)
    have hfr : freeB (shX k) = false := by simp only [freeB]; exact decide_eq_false (by omega)
    have hE : endX k = atX k + 1 + (codeX k).size := by unfold endX; rw [hfr]; rfl
    have hx : s.extract (atX k + 1) (atX k + 1 + (codeX k).size) = codeX k := by
      have := st_ext hbk (d1 k012)
      rwa [← hS] at this
    have hk : (decide (nth kindR 0 (k - 1).toNat = 114) || (decide (nth kindR 0 (k - 1).toNat = 113) || (decide (nth kindR 0 (k - 1).toNat = 110) || decide (nth kindR 0 (k - 1).toNat = 109)))) = true := by
      simp only [Bool.or_eq_true, decide_eq_true_eq]
      rcases b2 with b2 | b2
      · rcases k012 with q | q | q <;> rw [q] at b2 <;> rw [b2] <;> simp [nth]
      · omega
    unfold bgX
    rw [hk, cond_true]
    change (decide (atX k + (codeX k).size < s.size) && decide (s.extract (atX k + 1) (atX k + 1 + (codeX k).size) = codeX k)) = true
    rw [decide_eq_true hx, decide_eq_true (by omega)]
    rfl
  have k2 : shX k ≠ 2 := by omega
  have b2 := b2.resolve_right (by omega)
  rw [b2, b5 k2]
  have hsh : shX k = 3 ∨ shX k = 4 ∨ shX k = 5 ∨ shX k = 6 ∨ shX k = 7 ∨ shX k = 8 ∨ shX k = 9 ∨ shX k = 10 ∨ shX k = 11 := by omega
  by_cases k6 : shX k = 6
  · have e := d3 k6
    rw [b4 k6] at e
    have hz : 1 < s.size := e.1
    have e1 : chr s 1 = 153 := (st_cons e).1
    rw [k6]
    change (decide (1 < s.size) && decide (chr s 1 = 153)) = true
    rw [decide_eq_true hz, decide_eq_true e1]
    rfl
  by_cases k7 : shX k = 7
  · have e := d4 k7
    have hz : 1 < s.size := by
      obtain ⟨_, _, _, _, _, _, _, _, _, hz, _⟩ := dxM hd (by omega)
      have := e7 k7
      omega
    rw [k7]
    change (decide (1 < s.size) && decide (chr s 1 = 15)) = true
    rw [decide_eq_true hz, decide_eq_true e]
    rfl
  have hcode := (b3.resolve_left k6).resolve_left k7
  rw [hcode]
  obtain ⟨_, _, hz, _, _, f34, f10, _⟩ := dxF hd (by omega)
  by_cases k34 : shX k = 3 ∨ shX k = 4
  · obtain ⟨hrd, e⟩ := f34 k34
    have h2' := e34 k34
    rw [h2'] at e hz
    obtain ⟨e3, hm⟩ := l34 k34
    have hl : chr (codeX k) 0 = lastX k := by
      have : (codeX k).size = 1 := by rw [← c0, e3]; rfl
      unfold lastX
      rw [this]
    have hgoal : (decide (1 < s.size) && decide (ar .and .u8 (chr s 1) 248 = chr (codeX k) 0)) = true := by
      rw [decide_eq_true (show 1 < s.size by omega), hl, decide_eq_true (show ar .and .u8 (chr s 1) 248 = lastX k by rw [e]; exact and248 hm hrd)]
      rfl
    rcases k34 with q | q <;> rw [q] <;> exact hgoal
  have hfr : freeB (shX k) = true := by simp only [freeB]; exact decide_eq_true (by omega)
  have hE : endX k = (codeX k).size := by unfold endX; rw [hfr]; rfl
  rw [hE] at hz f10
  by_cases kc : shX k = 10 ∨ shX k = 11
  · obtain ⟨hrd, e⟩ := f10 kc
    have hgoal : (decide ((codeX k).size ≤ s.size) && decide (ar .and .u8 (chr s ((codeX k).size - 1)) 240 = chr (codeX k) ((codeX k).size - 1))) = true := by
      rw [decide_eq_true (show (codeX k).size ≤ s.size by omega), e]
      change (true && decide (_ = lastX k)) = true
      have hm : lastX k ∈ [(128 : Int), 112] := by
        rcases kc with q | q
        · rw [l10 q]; decide
        · rw [l11 q]; decide
      rw [decide_eq_true (show ar .and .u8 (lastX k + rd) 240 = lastX k from and240 hm hrd)]
      rfl
    rcases kc with q | q <;> rw [q] <;> exact hgoal
  · have hx : s.extract 0 (codeX k).size = codeX k := by
      have := st_ext hbk (d2 (by omega))
      rw [Nat.zero_add] at this
      rwa [← hS] at this
    have hgoal : (decide ((codeX k).size ≤ s.size) && decide (s.extract 0 (codeX k).size = codeX k)) = true := by
      rw [decide_eq_true (show (codeX k).size ≤ s.size by omega), decide_eq_true hx]
      rfl
    have : shX k = 5 ∨ shX k = 8 ∨ shX k = 9 := by omega
    rcases this with q | q | q <;> rw [q] <;> exact hgoal

end Go.X
end

section
set_option linter.unusedVariables false
open Go Go.Ev Go.Proofs
namespace Go.X

theorem ry0 : ryP (Int.ofNat (0 + 1)) := fun s w => by kernel_rfl
theorem ry1 : ryP (Int.ofNat (1 + 1)) := fun s w => by kernel_rfl
theorem ry2 : ryP (Int.ofNat (2 + 1)) := fun s w => by kernel_rfl
theorem ry3 : ryP (Int.ofNat (3 + 1)) := fun s w => by kernel_rfl
theorem ry4 : ryP (Int.ofNat (4 + 1)) := fun s w => by kernel_rfl
theorem ry5 : ryP (Int.ofNat (5 + 1)) := fun s w => by kernel_rfl
theorem ry6 : ryP (Int.ofNat (6 + 1)) := fun s w => by kernel_rfl
theorem ry7 : ryP (Int.ofNat (7 + 1)) := fun s w => by kernel_rfl
theorem ry8 : ryP (Int.ofNat (8 + 1)) := fun s w => by kernel_rfl
theorem ry9 : ryP (Int.ofNat (9 + 1)) := fun s w => by kernel_rfl
theorem ry10 : ryP (Int.ofNat (10 + 1)) := fun s w => by kernel_rfl
theorem ry11 : ryP (Int.ofNat (11 + 1)) := fun s w => by kernel_rfl
theorem ry12 : ryP (Int.ofNat (12 + 1)) := fun s w => by kernel_rfl
theorem ry13 : ryP (Int.ofNat (13 + 1)) := fun s w => by kernel_rfl
theorem ry14 : ryP (Int.ofNat (14 + 1)) := fun s w => by kernel_rfl
theorem ry15 : ryP (Int.ofNat (15 + 1)) := fun s w => by kernel_rfl
theorem ry16 : ryP (Int.ofNat (16 + 1)) := fun s w => by kernel_rfl
theorem ry17 : ryP (Int.ofNat (17 + 1)) := fun s w => by kernel_rfl
theorem ry18 : ryP (Int.ofNat (18 + 1)) := fun s w => by kernel_rfl
theorem ry19 : ryP (Int.ofNat (19 + 1)) := fun s w => by kernel_rfl
theorem ry20 : ryP (Int.ofNat (20 + 1)) := fun s w => by kernel_rfl
theorem ry21 : ryP (Int.ofNat (21 + 1)) := fun s w => by kernel_rfl
theorem ry22 : ryP (Int.ofNat (22 + 1)) := fun s w => by kernel_rfl

end Go.X
end

section
set_option linter.unusedVariables false
open Go Go.Ev Go.Proofs
namespace Go.X

theorem ry23 : ryP (Int.ofNat (23 + 1)) := fun s w => by kernel_rfl
theorem ry24 : ryP (Int.ofNat (24 + 1)) := fun s w => by kernel_rfl
theorem ry25 : ryP (Int.ofNat (25 + 1)) := fun s w => by kernel_rfl
theorem ry26 : ryP (Int.ofNat (26 + 1)) := fun s w => by kernel_rfl
theorem ry27 : ryP (Int.ofNat (27 + 1)) := fun s w => by kernel_rfl
theorem ry28 : ryP (Int.ofNat (28 + 1)) := fun s w => by kernel_rfl
theorem ry29 : ryP (Int.ofNat (29 + 1)) := fun s w => by kernel_rfl
theorem ry30 : ryP (Int.ofNat (30 + 1)) := fun s w => by kernel_rfl
theorem ry31 : ryP (Int.ofNat (31 + 1)) := fun s w => by kernel_rfl
theorem ry32 : ryP (Int.ofNat (32 + 1)) := fun s w => by kernel_rfl
theorem ry33 : ryP (Int.ofNat (33 + 1)) := fun s w => by kernel_rfl
theorem ry34 : ryP (Int.ofNat (34 + 1)) := fun s w => by kernel_rfl
theorem ry35 : ryP (Int.ofNat (35 + 1)) := fun s w => by kernel_rfl
theorem ry36 : ryP (Int.ofNat (36 + 1)) := fun s w => by kernel_rfl
theorem ry37 : ryP (Int.ofNat (37 + 1)) := fun s w => by kernel_rfl
theorem ry38 : ryP (Int.ofNat (38 + 1)) := fun s w => by kernel_rfl
theorem ry39 : ryP (Int.ofNat (39 + 1)) := fun s w => by kernel_rfl
theorem ry40 : ryP (Int.ofNat (40 + 1)) := fun s w => by kernel_rfl
theorem ry41 : ryP (Int.ofNat (41 + 1)) := fun s w => by kernel_rfl
theorem ry42 : ryP (Int.ofNat (42 + 1)) := fun s w => by kernel_rfl
theorem ry43 : ryP (Int.ofNat (43 + 1)) := fun s w => by kernel_rfl
theorem ry44 : ryP (Int.ofNat (44 + 1)) := fun s w => by kernel_rfl
theorem ry45 : ryP (Int.ofNat (45 + 1)) := fun s w => by kernel_rfl
theorem ry_all : ∀ i : Nat, i < 46 → ryP (Int.ofNat (i + 1))
  | 0, _ => ry0
  | 1, _ => ry1
  | 2, _ => ry2
  | 3, _ => ry3
  | 4, _ => ry4
  | 5, _ => ry5
  | 6, _ => ry6
  | 7, _ => ry7
  | 8, _ => ry8
  | 9, _ => ry9
  | 10, _ => ry10
  | 11, _ => ry11
  | 12, _ => ry12
  | 13, _ => ry13
  | 14, _ => ry14
  | 15, _ => ry15
  | 16, _ => ry16
  | 17, _ => ry17
  | 18, _ => ry18
  | 19, _ => ry19
  | 20, _ => ry20
  | 21, _ => ry21
  | 22, _ => ry22
  | 23, _ => ry23
  | 24, _ => ry24
  | 25, _ => ry25
  | 26, _ => ry26
  | 27, _ => ry27
  | 28, _ => ry28
  | 29, _ => ry29
  | 30, _ => ry30
  | 31, _ => ry31
  | 32, _ => ry32
  | 33, _ => ry33
  | 34, _ => ry34
  | 35, _ => ry35
  | 36, _ => ry36
  | 37, _ => ry37
  | 38, _ => ry38
  | 39, _ => ry39
  | 40, _ => ry40
  | 41, _ => ry41
  | 42, _ => ry42
  | 43, _ => ry43
  | 44, _ => ry44
  | 45, _ => ry45
  | m + 46, h => absurd h (by omega)
def BRP (k : Int) : Prop := RP k (rowR k) ∧ ∀ s w rd rs n, DX k s w rd rs n → bgOp k s = true
attribute [local irreducible] evalF in
theorem br_all (k : Int) (h1 : 1 ≤ k) (h2 : k ≤ 46) : BRP k := by
  have h : ryP k := ops46 (P := ryP) ry_all h1 h2
  exact ⟨fun s w => RP_of (h s w) (rT_ok h1 h2 s w), fun s w rd rs n hd => bg_ok hd⟩

structure RV where
  m : Int
  rd : Int
  rs : Int
  n : Int
def RVok (k : Int) (s : ByteArray) (w : Int) (v : RV) : Prop := Q29 k s w v.m v.rd v.rs v.n ∧ GivesD ⟨[], .int false .i64 v.m, [(0, cells5 k w v.rd v.rs v.n)]⟩ (evalF E29 Tryz.prog 67 [.str s, rowR k, .ptr 0 0 0] [(0, cells5 k w 0 0 0)] 1024).leaf
attribute [local irreducible] evalF in
theorem rv_ex (k : Int) (s : ByteArray) (w : Int) (h1 : 1 ≤ k) (h2 : k ≤ 46) : ∃ v, RVok k s w v := by
  obtain ⟨m, rd, rs, n, hq, hg⟩ := (br_all k h1 h2).1 s w
  exact ⟨⟨m, rd, rs, n⟩, hq, hg⟩
open Classical in
noncomputable def rdX (k : Int) (s : ByteArray) (w : Int) : RV := if h : 1 ≤ k ∧ k ≤ 46 then Classical.choose (rv_ex k s w h.1 h.2) else ⟨0, 0, 0, 0⟩
theorem rdX_ok (k : Int) (s : ByteArray) (w : Int) (h1 : 1 ≤ k) (h2 : k ≤ 46) : RVok k s w (rdX k s w) := by
  unfold rdX
  rw [dif_pos ⟨h1, h2⟩]
  exact Classical.choose_spec (rv_ex k s w h1 h2)

noncomputable def g29 : List SV → Heap → Option R
  | [.str s, .agg [.int _ .u8 kd, .str b, .int _ .i64 mi, .int _ .i64 wr, .int _ .i64 im, .bool _ pr], .ptr k0 r0 c0], [(j0, .cells [.int false .i64 op, .int false .i64 w, .int false .i64 rd, .int false .i64 rs, .int false .i64 n])] =>
    match Nat.beq k0 0 && (Nat.beq r0 0 && (Nat.beq c0 0 && Nat.beq j0 0)) with
    | true => some ⟨[decide (1 ≤ op), decide (op ≤ 46), decide (kd = nth kindR 0 (op - 1).toNat), decide (b = nth bytesR .empty (op - 1).toNat), decide (mi = nth midR 0 (op - 1).toNat), decide (wr = nth wR 0 (op - 1).toNat),
      decide (im = nth immR 0 (op - 1).toNat), decide (pr = nth preR false (op - 1).toNat), decide (rd = 0), decide (rs = 0), decide (n = 0)], .int false .i64 (rdX op s w).m,
      [(0, .cells [.int false .i64 op, .int false .i64 w, .int false .i64 (rdX op s w).rd, .int false .i64 (rdX op s w).rs, .int false .i64 (rdX op s w).n])]⟩
    | false => none
  | _, _ => none

theorem fn29 : Tryz.prog.funcs[67]? = some Tryz.f67 := by kernel_rfl
theorem b29 : Tryz.f67.body = some (bodyOf Tryz.f67) := by kernel_rfl
theorem n29 : (Tryz.f67.name == "runtime.NumGoroutine") = false := by kernel_rfl

attribute [local irreducible] evalF rdX in
theorem spec29 : SpecOk Tryz.prog 67 (specOf g29) := spec_okB false mixed fn29 b29 n29 g29 fun a0 H0 r hg hn => by
  unfold g29 at hg
  split at hg
  · rename_i s _ kd b _ mi _ wr _ im _ pr k0 r0 c0 j0 op w rd rs n
    split at hg
    · rename_i hb
      simp only [Bool.and_eq_true, Nat.beq_eq] at hb
      obtain ⟨rfl, rfl, rfl, rfl⟩ := hb
      simp only [Option.some.injEq] at hg
      subst hg
      simp only [allB, Bool.and_true, Bool.and_eq_true, decide_eq_true_eq] at hn
      obtain ⟨h1, h2, rfl, rfl, rfl, rfl, rfl, rfl, rfl, rfl, rfl⟩ := hn
      obtain ⟨hq, hg⟩ := rdX_ok op s w h1 h2
      refine ⟨E29, [.str s, rowR op, .ptr 0 0 0], e29_calls, loops_noLoop e29_loop _ _, fun _ => by simp [rowR, rowL, SV.alL, SV.al, lt, base], fun σ => by simp only [denL, den, rowR, rowL], ?_⟩
      have e : roH (namesH [(0, Blk.cells [.int false .i64 op, .int false .i64 w, .int false .i64 (rdX op s w).rd, .int false .i64 (rdX op s w).rs, .int false .i64 (rdX op s w).n])]) [(0, .cells [.int false .i64 op, .int false .i64 w, .int false .i64 0, .int false .i64 0, .int false .i64 0])] = [(0, cells5 op w 0 0 0)] := rfl
      rw [e]
      exact hg
    · cases hg
  · cases hg

end Go.X
end

section
set_option linter.unusedVariables false
open Go Go.Ev Go.Proofs
namespace Go.X

noncomputable def E11 : Env := inlA Tryz.prog (envOf [(53, specOf g19), (66, specOf g28), (67, specOf g29), (26, specOf g7)] noLoop) [] [] 1
theorem e11_calls : CallsOk E11 Tryz.prog := (inlA_calls ((SpecsOk.cons spec19 (SpecsOk.cons spec28 (SpecsOk.cons spec29 (SpecsOk.cons spec8 SpecsOk.nil)))).calls noLoop) mixed namedNil namedNil 1).1
theorem e11_loop : E11.loop = noLoop := rfl
def cellsR (k : Int) : Blk := .cells [.int false .u8 (nth kindR 0 (k - 1).toNat), .str (nth bytesR .empty (k - 1).toNat), .int false .i64 (nth midR 0 (k - 1).toNat), .int false .i64 (nth wR 0 (k - 1).toNat), .int false .i64 (nth immR 0 (k - 1).toNat), .bool false (nth preR false (k - 1).toNat)]
noncomputable def decT2 (s : ByteArray) : SV := .tup [.agg [.int false .i64 (decX s).o, .int false .i64 (decX s).w, .int false .i64 (decX s).rd, .int false .i64 (decX s).rs, .int false .i64 (decX s).n], .int false .i64 (decX s).len]
/-- no earlier op has an instruction there -/
noncomputable def noneX (k : Int) (s : ByteArray) : Bool := @decide (∀ j, 1 ≤ j → j < k → ¬ hitX j s) (Classical.propDecidable _)
theorem noneX_iff (k : Int) (s : ByteArray) : noneX k s = true ↔ ∀ j, 1 ≤ j → j < k → ¬ hitX j s := @decide_eq_true_iff _ (Classical.propDecidable _)
/-- the inner loop -/
def v11b (s : ByteArray) (k t : Int) : List SV := [.str s, .ptr 1024 0 0, .int false .i64 k, .ptr 1500 0 0, .int false .i64 t]
def h11b (k : Int) : Heap := [(1024, z5), (1500, cellsR k)]
def lk11b : Lp := ⟨51, [0, 2, 4, 5, 6], 2600, fun _ _ => none⟩
noncomputable def get11b : List SV → Heap → Option Tr
  | [.str s, .ptr k1 r1 p1, .int _ .i64 k, .ptr k2 r2 p2, .int _ .i64 t], [(j1, .cells [.int _ .i64 a0, .int _ .i64 a1, .int _ .i64 a2, .int _ .i64 a3, .int _ .i64 a4]), (j2, .cells [.int _ .u8 kd, .str b, .int _ .i64 mi, .int _ .i64 wr, .int _ .i64 im, .bool _ pr])] =>
    some (Tr.needs [Nat.beq k1 1024, Nat.beq r1 0, Nat.beq p1 0, Nat.beq r2 0, Nat.beq p2 0, decide (t = 0), Nat.beq j1 1024, Nat.beq j2 k2, Nat.blt 1024 k2, decide (1 ≤ k), decide (k ≤ 46),
        decide (a0 = 0), decide (a1 = 0), decide (a2 = 0), decide (a3 = 0), decide (a4 = 0), decide (kd = nth kindR 0 (k - 1).toNat), decide (b = nth bytesR .empty (k - 1).toNat), decide (mi = nth midR 0 (k - 1).toNat), decide (wr = nth wR 0 (k - 1).toNat),
        decide (im = nth immR 0 (k - 1).toNat), decide (pr = nth preR false (k - 1).toNat), noneX k s]
        (.node ((decX s).ok && decide ((decX s).o = k)) (.ret (decT2 s) []) (exitT lk11b 2 [.str s, .ptr 1024 0 0, .int false .i64 k, .any, .any] [(1024, z5)])))
  | _, _ => none
noncomputable def lp11b : Lp := { lk11b with get := get11b }
noncomputable def E11b : Env := ⟨E11.call, loopEnv [(1, lp11b)]⟩
/-- the outer loop -/
def v11 (s : ByteArray) (k : Int) : List SV := [.str s, .ptr 1024 0 0, .int false .i64 k]
def h11 : Heap := [(1024, z5)]
def lk11 : Lp := ⟨51, [0, 2, 4], 2000, fun _ _ => none⟩
noncomputable def get11 : List SV → Heap → Option Tr
  | [.str s, .ptr k1 r1 p1, .int _ .i64 k], [(j1, .cells [.int _ .i64 a0, .int _ .i64 a1, .int _ .i64 a2, .int _ .i64 a3, .int _ .i64 a4])] =>
    some (Tr.needs [Nat.beq k1 1024, Nat.beq r1 0, Nat.beq p1 0, decide (k = 1), Nat.beq j1 1024, decide (a0 = 0), decide (a1 = 0), decide (a2 = 0), decide (a3 = 0), decide (a4 = 0)]
        (.node (decX s).ok (.ret (decT2 s) []) (exitT lk11 0 [.any, .ptr 1024 0 0, .any] [(1024, z5)])))
  | _, _ => none
noncomputable def lp11 : Lp := { lk11 with get := get11 }
noncomputable def E11L : Env := ⟨E11.call, loopEnv [(0, lp11), (1, lp11b)]⟩

theorem r11b (s : ByteArray) (k : Int) (t : Int) : (evalB E11 Tryz.prog Tryz.f32.results.toList (loopOf Tryz.f32 1) 2 lp11b (v11b s k t) (h11b k)).view [0, 2, 4, 5, 6] =
    (bif (cm .lss t 2) then
 bif (Nat.ble ((nth bytesR ByteArray.empty (k - 1).toNat).size) (100)) then
 bif (decide (1 ≤ (nth bytesR ByteArray.empty (k - 1).toNat).size) || !decide (nth kindR 0 (k - 1).toNat = 98) && !decide (nth kindR 0 (k - 1).toNat = 99)) then
 bif (bgX (bif nth preR false (k - 1).toNat then 1 else 0) s (nth bytesR ByteArray.empty (k - 1).toNat) (nth kindR 0 (k - 1).toNat)) then
 bif (decide (1 ≤ k)) then
 bif (decide (k ≤ 46)) then
 bif (decide (nth kindR 0 (k - 1).toNat = nth kindR 0 (k - 1).toNat)) then
 bif (decide (nth bytesR ByteArray.empty (k - 1).toNat = nth bytesR ByteArray.empty (k - 1).toNat)) then
 bif (decide (nth midR 0 (k - 1).toNat = nth midR 0 (k - 1).toNat)) then
 bif (decide (nth wR 0 (k - 1).toNat = nth wR 0 (k - 1).toNat)) then
 bif (decide (nth immR 0 (k - 1).toNat = nth immR 0 (k - 1).toNat)) then
 bif (decide (nth preR false (k - 1).toNat = nth preR false (k - 1).toNat)) then
 bif (cm .eql (rdX k s (ar .add .i64 4 (ar .mul .i64 4 t))).m 0) then
 .norm 51 [.str (s), .ptr 1024 0 0, .int false .i64 (k), .ptr 1500 0 0, .int false .i64 (ar .add .i64 t 1)] [(1024, .cells [.int false .i64 0, .int false .i64 0, .int false .i64 0, .int false .i64 0, .int false .i64 0]), (1500, .cells [.int false .u8 (nth kindR 0 (k - 1).toNat), .str (nth bytesR ByteArray.empty (k - 1).toNat), .int false .i64 (nth midR 0 (k - 1).toNat), .int false .i64 (nth wR 0 (k - 1).toNat), .int false .i64 (nth immR 0 (k - 1).toNat), .bool false (nth preR false (k - 1).toNat)]), (2712, .cells [.int false .i64 (k), .int false .i64 (ar .add .i64 4 (ar .mul .i64 4 t)), .int false .i64 ((rdX k s (ar .add .i64 4 (ar .mul .i64 4 t))).rd), .int false .i64 ((rdX k s (ar .add .i64 4 (ar .mul .i64 4 t))).rs), .int false .i64 ((rdX k s (ar .add .i64 4 (ar .mul .i64 4 t))).n)])]
 else
 bif (bif cm .eql (errX k (ar .add .i64 4 (ar .mul .i64 4 t)) (rdX k s (ar .add .i64 4 (ar .mul .i64 4 t))).rd (rdX k s (ar .add .i64 4 (ar .mul .i64 4 t))).rs (rdX k s (ar .add .i64 4 (ar .mul .i64 4 t))).n) 0 then allB [decide (0 ≤ (rdX k s (ar .add .i64 4 (ar .mul .i64 4 t))).m), (rdX k s (ar .add .i64 4 (ar .mul .i64 4 t))).m.toNat.ble s.size] else true) then
 bif (bif cm .eql (errX k (ar .add .i64 4 (ar .mul .i64 4 t)) (rdX k s (ar .add .i64 4 (ar .mul .i64 4 t))).rd (rdX k s (ar .add .i64 4 (ar .mul .i64 4 t))).rs (rdX k s (ar .add .i64 4 (ar .mul .i64 4 t))).n) 0 then seq (strX k (ar .add .i64 4 (ar .mul .i64 4 t)) (rdX k s (ar .add .i64 4 (ar .mul .i64 4 t))).rd (rdX k s (ar .add .i64 4 (ar .mul .i64 4 t))).rs (rdX k s (ar .add .i64 4 (ar .mul .i64 4 t))).n) (s.extract 0 (rdX k s (ar .add .i64 4 (ar .mul .i64 4 t))).m.toNat) else false) then
 .ret (.tup [.agg [.int false .i64 (k), .int false .i64 (ar .add .i64 4 (ar .mul .i64 4 t)), .int false .i64 ((rdX k s (ar .add .i64 4 (ar .mul .i64 4 t))).rd), .int false .i64 ((rdX k s (ar .add .i64 4 (ar .mul .i64 4 t))).rs), .int false .i64 ((rdX k s (ar .add .i64 4 (ar .mul .i64 4 t))).n)], .int false .i64 ((rdX k s (ar .add .i64 4 (ar .mul .i64 4 t))).m)]) [(1024, .cells [.int false .i64 (k), .int false .i64 (ar .add .i64 4 (ar .mul .i64 4 t)), .int false .i64 ((rdX k s (ar .add .i64 4 (ar .mul .i64 4 t))).rd), .int false .i64 ((rdX k s (ar .add .i64 4 (ar .mul .i64 4 t))).rs), .int false .i64 ((rdX k s (ar .add .i64 4 (ar .mul .i64 4 t))).n)]), (1500, .cells [.int false .u8 (nth kindR 0 (k - 1).toNat), .str (nth bytesR ByteArray.empty (k - 1).toNat), .int false .i64 (nth midR 0 (k - 1).toNat), .int false .i64 (nth wR 0 (k - 1).toNat), .int false .i64 (nth immR 0 (k - 1).toNat), .bool false (nth preR false (k - 1).toNat)]), (2712, .cells [.int false .i64 (k), .int false .i64 (ar .add .i64 4 (ar .mul .i64 4 t)), .int false .i64 ((rdX k s (ar .add .i64 4 (ar .mul .i64 4 t))).rd), .int false .i64 ((rdX k s (ar .add .i64 4 (ar .mul .i64 4 t))).rs), .int false .i64 ((rdX k s (ar .add .i64 4 (ar .mul .i64 4 t))).n)])]
 else
 .norm 51 [.str (s), .ptr 1024 0 0, .int false .i64 (k), .ptr 1500 0 0, .int false .i64 (ar .add .i64 t 1)] [(1024, .cells [.int false .i64 0, .int false .i64 0, .int false .i64 0, .int false .i64 0, .int false .i64 0]), (1500, .cells [.int false .u8 (nth kindR 0 (k - 1).toNat), .str (nth bytesR ByteArray.empty (k - 1).toNat), .int false .i64 (nth midR 0 (k - 1).toNat), .int false .i64 (nth wR 0 (k - 1).toNat), .int false .i64 (nth immR 0 (k - 1).toNat), .bool false (nth preR false (k - 1).toNat)]), (2712, .cells [.int false .i64 (k), .int false .i64 (ar .add .i64 4 (ar .mul .i64 4 t)), .int false .i64 ((rdX k s (ar .add .i64 4 (ar .mul .i64 4 t))).rd), .int false .i64 ((rdX k s (ar .add .i64 4 (ar .mul .i64 4 t))).rs), .int false .i64 ((rdX k s (ar .add .i64 4 (ar .mul .i64 4 t))).n)])]
 else .bad
 else .bad
 else .bad
 else .bad
 else .bad
 else .bad
 else .bad
 else .bad
 else .bad
 else
 .norm 51 [.str (s), .ptr 1024 0 0, .int false .i64 (k), .ptr 1500 0 0, .int false .i64 (ar .add .i64 t 1)] [(1024, .cells [.int false .i64 0, .int false .i64 0, .int false .i64 0, .int false .i64 0, .int false .i64 0]), (1500, .cells [.int false .u8 (nth kindR 0 (k - 1).toNat), .str (nth bytesR ByteArray.empty (k - 1).toNat), .int false .i64 (nth midR 0 (k - 1).toNat), .int false .i64 (nth wR 0 (k - 1).toNat), .int false .i64 (nth immR 0 (k - 1).toNat), .bool false (nth preR false (k - 1).toNat)]), (2712, .cells [.int false .i64 (k), .int false .i64 (ar .add .i64 4 (ar .mul .i64 4 t)), .int true .i64 0, .int true .i64 0, .int true .i64 0])]
 else .bad
 else .bad
 else
 .exit 2 51 [.str (s), .ptr 1024 0 0, .int false .i64 (k), .ptr 1500 0 0, .int false .i64 (t)] [(1024, .cells [.int false .i64 0, .int false .i64 0, .int false .i64 0, .int false .i64 0, .int false .i64 0]), (1500, .cells [.int false .u8 (nth kindR 0 (k - 1).toNat), .str (nth bytesR ByteArray.empty (k - 1).toNat), .int false .i64 (nth midR 0 (k - 1).toNat), .int false .i64 (nth wR 0 (k - 1).toNat), .int false .i64 (nth immR 0 (k - 1).toNat), .bool false (nth preR false (k - 1).toNat)])]) := by kernel_rfl

theorem r11 (s : ByteArray) (k : Int) : (evalB E11b Tryz.prog Tryz.f32.results.toList (loopOf Tryz.f32 0) 1 lp11 (v11 s k) h11).view [0, 2, 4] =
    (bif (cm .leq k 46) then
 bif (decide (1 ≤ k)) then
 bif (decide (k ≤ 46)) then
 bif (decide (1 ≤ k)) then
 bif (decide (k ≤ 46)) then
 bif (decide (nth kindR 0 (k - 1).toNat = nth kindR 0 (k - 1).toNat)) then
 bif (decide (nth bytesR ByteArray.empty (k - 1).toNat = nth bytesR ByteArray.empty (k - 1).toNat)) then
 bif (decide (nth midR 0 (k - 1).toNat = nth midR 0 (k - 1).toNat)) then
 bif (decide (nth wR 0 (k - 1).toNat = nth wR 0 (k - 1).toNat)) then
 bif (decide (nth immR 0 (k - 1).toNat = nth immR 0 (k - 1).toNat)) then
 bif (decide (nth preR false (k - 1).toNat = nth preR false (k - 1).toNat)) then
 bif (noneX k s) then
 bif ((decX s).ok && decide ((decX s).o = k)) then
 .ret (.tup [.agg [.int false .i64 ((decX s).o), .int false .i64 ((decX s).w), .int false .i64 ((decX s).rd), .int false .i64 ((decX s).rs), .int false .i64 ((decX s).n)], .int false .i64 ((decX s).len)]) []
 else
 .norm 51 [.str (s), .ptr 1024 0 0, .int false .i64 (ar .add .i64 k 1)] [(1024, .cells [.int false .i64 0, .int false .i64 0, .int false .i64 0, .int false .i64 0, .int false .i64 0])]
 else .bad
 else .bad
 else .bad
 else .bad
 else .bad
 else .bad
 else .bad
 else .bad
 else .bad
 else .bad
 else .bad
 else
 .exit 0 51 [.str (s), .ptr 1024 0 0, .int false .i64 (k)] [(1024, .cells [.int false .i64 0, .int false .i64 0, .int false .i64 0, .int false .i64 0, .int false .i64 0])]) := by kernel_rfl

theorem t11 (s : ByteArray) : (evalF E11L Tryz.prog 32 [.str s] [] 1024).bare =
    (bif ((decX s).ok) then
 .ret (.tup [.agg [.int false .i64 ((decX s).o), .int false .i64 ((decX s).w), .int false .i64 ((decX s).rd), .int false .i64 ((decX s).rs), .int false .i64 ((decX s).n)], .int false .i64 ((decX s).len)]) []
 else
 .ret (.tup [.agg [.int true .i64 0, .int true .i64 0, .int true .i64 0, .int true .i64 0, .int true .i64 0], .int true .i64 0]) []) := by kernel_rfl

end Go.X
end

section
set_option linter.unusedVariables false
open Go Go.Ev Go.Proofs
namespace Go.X

structure X11b where
  s : ByteArray
  k : Int
  t : Nat
def hitW (k : Int) (s : ByteArray) (w : Int) : Prop := ∃ rd rs n, DX k s w rd rs n
def ok11b (x : X11b) : Prop := 1 ≤ x.k ∧ x.k ≤ 46 ∧ x.t ≤ 2 ∧ (∀ j, 1 ≤ j → j < x.k → ¬ hitX j x.s) ∧ ∀ q : Nat, q < x.t → ¬ hitW x.k x.s (4 + 4 * (q : Int))
def vs11b (x : X11b) : List SV := v11b x.s x.k x.t
def hp11b (x : X11b) : Heap := h11b x.k
noncomputable def out11b (x : X11b) : Vw := bif ((decX x.s).ok && decide ((decX x.s).o = x.k)) then .ret (decT2 x.s) [] else .exit 2 51 [.str x.s, .ptr 1024 0 0, .int false .i64 x.k, .any, .any] [(1024, z5)]

theorem entry11b (l : List SV) (H : Heap) (T : Tr) (h : lp11b.get l H = some T) (hb : T.leaf ≠ .bad) : ∃ x r, ok11b x ∧ WkV r lp11b.nm l H (vs11b x) (hp11b x) ∧ T.leaf = toLf lp11b (out11b x) := by
  replace h : get11b l H = some T := h
  unfold get11b at h
  split at h
  · rename_i s k1 r1 p1 _ k k2 r2 p2 _ t j1 _ a0 _ a1 _ a2 _ a3 _ a4 j2 _ kd b _ mi _ wr _ im _ pr
    simp only [Option.some.injEq] at h
    subst h
    obtain ⟨hn, he⟩ := needs_ne hb
    rw [he]
    simp only [allB, Bool.and_eq_true, Bool.and_true, decide_eq_true_eq, Nat.beq_eq, Nat.blt_eq] at hn
    obtain ⟨rfl, rfl, rfl, rfl, rfl, rfl, rfl, rfl, hk2, hk0, hk1, rfl, rfl, rfl, rfl, rfl, rfl, rfl, rfl, rfl, rfl, rfl, hno⟩ := hn
    refine ⟨⟨s, k, 0⟩, [(1500, .old j2)], ⟨hk0, hk1, Nat.zero_le _, (noneX_iff k s).1 hno, fun q hq => absurd hq (Nat.not_lt_zero _)⟩, ?_, ?_⟩
    · have hne : Nat.beq 1024 j2 = false := by
        cases hq : Nat.beq 1024 j2 with
        | true => have := Nat.eq_of_beq_eq_true hq; omega
        | false => rfl
      have hne2 : Nat.beq j2 1024 = false := by
        cases hq : Nat.beq j2 1024 with
        | true => have := Nat.eq_of_beq_eq_true hq; omega
        | false => rfl
      refine ⟨rfl, ?_, ⟨?_, ?_, trivial⟩, ?_, rfl⟩
      · exact ⟨rfl, ⟨rfl, rfl, rfl⟩, ⟨rfl, rfl⟩, ⟨rfl, rfl, rfl⟩, ⟨rfl, rfl⟩, trivial⟩
      · simp [rmap, rlook, Ev.look, wkB, simL, sim, z5]
      · simp [rmap, rlook, Ev.look, hne, wkB, simL, sim, cellsR, Nat.beq_refl]
      · simp [hp11b, h11b, z5, cellsR, oldsOf, rmap, rlook, uniqN, mem, hne2, hne]
    · simp only [Tr.leaf, exitT_leaf, out11b, toLf_cond]
      rfl
  · cases h

theorem bytes_chk : ((List.range 46).all fun i => Nat.ble (nth bytesR .empty i).size 100 && (decide (1 ≤ (nth bytesR .empty i).size) || !decide (nth kindR 0 i = 98) && !decide (nth kindR 0 i = 99))) = true := by kernel_rfl
theorem bytes_facts {k : Int} (h1 : 1 ≤ k) (h2 : k ≤ 46) : Nat.ble (nth bytesR .empty (k - 1).toNat).size 100 = true ∧ (decide (1 ≤ (nth bytesR .empty (k - 1).toNat).size) || !decide (nth kindR 0 (k - 1).toNat = 98) && !decide (nth kindR 0 (k - 1).toNat = 99)) = true := by
  have := List.all_eq_true.1 bytes_chk (k - 1).toNat (List.mem_range.2 (by omega))
  rw [Bool.and_eq_true] at this
  exact this
theorem w_of_t {t : Nat} (h : t < 2) : ar .add .i64 4 (ar .mul .i64 4 (t : Int)) = 4 + 4 * (t : Int) := by
  simp only [ar, IntKind.wrap_i64]; omega
theorem err_w {k w rd rs n : Int} (h : errX k w rd rs n = 0) : w = 4 ∨ w = 8 := by
  unfold errX at h
  cases h1 : (decide (k < 1) || decide (46 < k)) with
  | true => rw [h1] at h; cases h
  | false =>
    rw [h1] at h
    have h2 := (err0 h).1
    simp only [Bool.and_eq_true, Bool.or_eq_true, decide_eq_true_eq] at h2
    exact h2.1

attribute [local irreducible] evalB Tr.view rdX decX strX errX bgX in
theorem round11b (x : X11b) (hx : ok11b x) : Round lp11b ok11b (fun x => 2 - x.t) vs11b hp11b out11b x ((evalB E11 Tryz.prog Tryz.f32.results.toList (loopOf Tryz.f32 1) (1 + 1) lp11b (vs11b x) (hp11b x)).view lp11b.ks) := by
  obtain ⟨s, k, t⟩ := x
  obtain ⟨h1, h2, h3, h4, h5⟩ := hx
  simp only at h1 h2 h3 h4 h5
  have hr := r11b s k t
  rw [show evalB E11 Tryz.prog Tryz.f32.results.toList (loopOf Tryz.f32 1) (1 + 1) lp11b (vs11b ⟨s, k, t⟩) (hp11b ⟨s, k, t⟩) = evalB E11 Tryz.prog Tryz.f32.results.toList (loopOf Tryz.f32 1) 2 lp11b (v11b s k t) (h11b k) from rfl, show lp11b.ks = [0, 2, 4, 5, 6] from rfl, hr]
  by_cases h : t < 2
  · obtain ⟨b1, b2⟩ := bytes_facts h1 h2
    have e1 : cm .lss (t : Int) 2 = true := by rw [cm_lss']; exact decide_eq_true (by omega)
    simp only [e1, b1, b2, w_of_t h, decide_eq_true h1, decide_eq_true h2, cond_true, decide_true]
    have hnext : ∀ H2, ¬ hitW k s (4 + 4 * (t : Int)) → Round lp11b ok11b (fun x => 2 - x.t) vs11b hp11b out11b ⟨s, k, t⟩ (.norm 51 [.str s, .ptr 1024 0 0, .int false .i64 k, .ptr 1500 0 0, .int false .i64 (ar .add .i64 t 1)] ((1024, z5) :: (1500, cellsR k) :: H2)) := by
      intro H2 hno
      rw [addOne (show t < 9223372036854775807 by omega)]
      refine ⟨rfl, ⟨s, k, t + 1⟩, [], ⟨h1, h2, h, h4, fun q (hq : q < t + 1) => ?_⟩, by show 2 - (t + 1) < 2 - t; omega, rfl, ?_⟩
      · by_cases hqt : q = t
        · subst hqt; exact hno
        · exact h5 q (by omega)
      · refine ⟨rfl, ?_, ⟨?_, ?_, trivial⟩, rfl, rfl⟩
        · exact ⟨rfl, ⟨rfl, rfl, rfl⟩, ⟨rfl, rfl⟩, ⟨rfl, rfl, rfl⟩, ⟨rfl, rfl⟩, trivial⟩
        · simp [rmap, rlook, Ev.look, wkB, simL, sim, z5]
        · simp [rmap, rlook, Ev.look, wkB, simL, sim, cellsR]
    generalize (4 + 4 * (t : Int)) = w at *
    obtain ⟨hq, _⟩ := rdX_ok k s w h1 h2
    generalize rdX k s w = v at *
    obtain ⟨q1, q2, q3, q4⟩ := hq
    refine Round_cond (fun hbg => ?_) (fun hbg => ?_)
    · refine Round_cond (fun hm => ?_) (fun hm => ?_)
      · refine hnext _ ?_
        rintro ⟨rd, rs, n, hd⟩
        rw [cm_eql', decide_eq_true_eq] at hm
        exact (q4 _ _ _ hd).1 hm
      · have key : (bif cm .eql (errX k w v.rd v.rs v.n) 0 then seq (strX k w v.rd v.rs v.n) (s.extract 0 v.m.toNat) else false) = true ↔ DX k s w v.rd v.rs v.n := by
          rw [cm_eql', seq_eq]
          by_cases he : errX k w v.rd v.rs v.n = 0
          · rw [decide_eq_true he, cond_true, decide_eq_true_eq]
            constructor
            · intro hx
              have hz : (strX k w v.rd v.rs v.n).size = v.m.toNat := by rw [hx, ByteArray.size_extract]; omega
              exact (hit_iff he q1).2 ⟨by omega, by rw [hz]; exact hx.symm⟩
            · intro hd
              obtain ⟨_, g1, _, _, _⟩ := q4 _ _ _ hd
              have := ((hit_iff he q1).1 hd).2
              rw [g1, Int.toNat_natCast]
              exact this.symm
          · rw [decide_eq_false he, cond_false]
            constructor
            · intro h; cases h
            · intro h; exact absurd h.1 he
        have need : (bif cm .eql (errX k w v.rd v.rs v.n) 0 then allB [decide (0 ≤ v.m), Nat.ble v.m.toNat s.size] else true) = true := by
          cases cm .eql (errX k w v.rd v.rs v.n) 0 with
          | false => rfl
          | true => simp [allB]; omega
        rw [need, cond_true]
        refine Round_cond (fun hh => ?_) (fun hh => ?_)
        · have hd := key.1 hh
          obtain ⟨_, g1, _, _, _⟩ := q4 _ _ _ hd
          have hdec : decX s = ⟨k, w, v.rd, v.rs, v.n, ((strX k w v.rd v.rs v.n).size : Int), true⟩ := decX_is ⟨h1, h2, hd, rfl, rfl, h4⟩
          refine ⟨decT2 s, [], [], ?_, rfl, ?_, trivial, rfl⟩
          · simp only [out11b, hdec, Bool.true_and, decide_true, cond_true]
          · simp [decT2, hdec, sim, simL, g1]
        · refine hnext _ ?_
          rintro ⟨rd, rs, n, hd⟩
          obtain ⟨_, _, a1, a2, a3⟩ := q4 _ _ _ hd
          rw [← a1, ← a2, ← a3] at hd
          rw [key.2 hd] at hh
          cases hh
    · refine hnext _ ?_
      rintro ⟨rd, rs, n, hd⟩
      have := (br_all k h1 h2).2 s w rd rs n hd
      rw [show bgOp k s = bgX (bif nth preR false (k - 1).toNat then 1 else 0) s (nth bytesR .empty (k - 1).toNat) (nth kindR 0 (k - 1).toNat) from rfl, hbg] at this
      cases this
  · obtain rfl : t = 2 := by omega
    have e1 : cm .lss ((2 : Nat) : Int) 2 = false := rfl
    simp only [e1, cond_false]
    have hno : ¬ hitX k s := by
      rintro ⟨w, rd, rs, n, hd⟩
      rcases err_w hd.1 with rfl | rfl
      · exact h5 0 (by decide) ⟨rd, rs, n, hd⟩
      · exact h5 1 (by decide) ⟨rd, rs, n, hd⟩
    have hf : ((decX s).ok && decide ((decX s).o = k)) = false := by
      cases hc : ((decX s).ok && decide ((decX s).o = k)) with
      | false => rfl
      | true =>
        simp only [Bool.and_eq_true, decide_eq_true_eq] at hc
        rcases decX_cases s with hd | hd
        · exact absurd ⟨_, _, _, _, hc.2 ▸ hd.2.2.1⟩ hno
        · rw [hd.1] at hc; cases hc.1
    refine ⟨rfl, _, _, [], by simp only [out11b, hf, cond_false]; rfl, ?_⟩
    refine ⟨rfl, ?_, ⟨?_, trivial⟩, rfl, rfl⟩
    · exact ⟨rfl, ⟨rfl, rfl, rfl⟩, ⟨rfl, rfl⟩, trivial, trivial, trivial⟩
    · simp [rmap, rlook, Ev.look, wkB, simL, sim, z5]

attribute [local irreducible] evalB Tr.view in
theorem loop11b {E : Env} (hE : ∀ S, E.loop 1 S = runLp lp11b S) : LoopOk E Tryz.prog Tryz.f32 1 (loopOf Tryz.f32 1) :=
  loop_okE mixed hE (by decide) ok11b (fun x => 2 - x.t) vs11b hp11b out11b entry11b fun x hx => ⟨E11, e11_calls, loops_noLoop e11_loop _ _, round11b x hx⟩
theorem e11b_calls : CallsOk E11b Tryz.prog := fun f args H nm r h hn => e11_calls f args H nm r h hn
theorem nl11b : Code.loops (loopOf Tryz.f32 0) = 1 := by kernel_rfl
theorem nth11b : nthLoop (loopOf Tryz.f32 0) 0 = some (loopOf Tryz.f32 1) := by kernel_rfl
theorem inner11 : LoopsOk E11b Tryz.prog Tryz.f32 (loopOf Tryz.f32 0) 1 := loopsOk_of _ 1 fun m a hm ha => by
  rw [nl11b] at hm
  obtain rfl : m = 0 := by omega
  rw [nth11b] at ha
  simp only [Option.some.injEq] at ha
  subst ha
  exact loop11b fun S => rfl

structure X11 where
  s : ByteArray
  k : Nat
def ok11 (x : X11) : Prop := 1 ≤ x.k ∧ x.k ≤ 47 ∧ ∀ j : Int, 1 ≤ j → j < x.k → ¬ hitX j x.s
def vs11 (x : X11) : List SV := v11 x.s x.k
noncomputable def out11 (x : X11) : Vw := bif (decX x.s).ok then .ret (decT2 x.s) [] else .exit 0 51 [.any, .ptr 1024 0 0, .any] [(1024, z5)]

theorem entry11 (l : List SV) (H : Heap) (T : Tr) (h : lp11.get l H = some T) (hb : T.leaf ≠ .bad) : ∃ x r, ok11 x ∧ WkV r lp11.nm l H (vs11 x) ((fun _ => h11) x) ∧ T.leaf = toLf lp11 (out11 x) := by
  replace h : get11 l H = some T := h
  unfold get11 at h
  split at h
  · rename_i s k1 r1 p1 _ k j1 _ a0 _ a1 _ a2 _ a3 _ a4
    simp only [Option.some.injEq] at h
    subst h
    obtain ⟨hn, he⟩ := needs_ne hb
    rw [he]
    simp only [allB, Bool.and_eq_true, Bool.and_true, decide_eq_true_eq, Nat.beq_eq] at hn
    obtain ⟨rfl, rfl, rfl, rfl, rfl, rfl, rfl, rfl, rfl, rfl⟩ := hn
    refine ⟨⟨s, 1⟩, [], ⟨Nat.le_refl _, by show 1 ≤ 47; decide, fun j h1 (h2 : j < ((1 : Nat) : Int)) => by omega⟩, ?_, ?_⟩
    · refine ⟨rfl, ?_, ⟨?_, trivial⟩, rfl, rfl⟩
      · exact ⟨rfl, ⟨rfl, rfl, rfl⟩, ⟨rfl, rfl⟩, trivial⟩
      · simp [rmap, rlook, Ev.look, wkB, simL, sim, z5]
    · simp only [Tr.leaf, exitT_leaf, out11, toLf_cond]
      rfl
  · cases h

attribute [local irreducible] evalB Tr.view decX in
theorem round11 (x : X11) (hx : ok11 x) : Round lp11 ok11 (fun x => 47 - x.k) vs11 (fun _ => h11) out11 x ((evalB E11b Tryz.prog Tryz.f32.results.toList (loopOf Tryz.f32 0) (0 + 1) lp11 (vs11 x) h11).view lp11.ks) := by
  obtain ⟨s, k⟩ := x
  obtain ⟨h1, h2, h3⟩ := hx
  simp only at h1 h2 h3
  have hr := r11 s k
  rw [show evalB E11b Tryz.prog Tryz.f32.results.toList (loopOf Tryz.f32 0) (0 + 1) lp11 (vs11 ⟨s, k⟩) h11 = evalB E11b Tryz.prog Tryz.f32.results.toList (loopOf Tryz.f32 0) 1 lp11 (v11 s k) h11 from rfl, show lp11.ks = [0, 2, 4] from rfl, hr]
  by_cases h : k ≤ 46
  · have e1 : cm .leq (k : Int) 46 = true := by rw [cm_leq']; exact decide_eq_true (by omega)
    have e2 : decide (1 ≤ (k : Int)) = true := decide_eq_true (by omega)
    have e3 : decide ((k : Int) ≤ 46) = true := decide_eq_true (by omega)
    simp only [e1, e2, e3, cond_true, decide_true, (noneX_iff k s).2 h3]
    refine Round_cond (fun hh => ?_) (fun hh => ?_)
    · simp only [Bool.and_eq_true, decide_eq_true_eq] at hh
      refine ⟨decT2 s, [], [], ?_, rfl, ?_, trivial, rfl⟩
      · simp only [out11, hh.1, cond_true]
      · simp [decT2, sim, simL]
    · rw [addOne (show k < 9223372036854775807 by omega)]
      refine ⟨rfl, ⟨s, k + 1⟩, [], ⟨by show 1 ≤ k + 1; omega, by show k + 1 ≤ 47; omega, fun j hj1 (hj2 : j < ((k + 1 : Nat) : Int)) => ?_⟩, by show 47 - (k + 1) < 47 - k; omega, rfl, ?_⟩
      · by_cases hj : j < k
        · exact h3 j hj1 hj
        · obtain rfl : j = (k : Int) := by omega
          rintro ⟨w, rd, rs, n, hd⟩
          have hdec : decX s = ⟨k, w, rd, rs, n, ((strX k w rd rs n).size : Int), true⟩ := decX_is ⟨hj1, by show (k : Int) ≤ 46; omega, hd, rfl, rfl, h3⟩
          rw [hdec] at hh
          simp at hh
      · refine ⟨rfl, ?_, ⟨?_, trivial⟩, rfl, rfl⟩
        · exact ⟨rfl, ⟨rfl, rfl, rfl⟩, ⟨rfl, rfl⟩, trivial⟩
        · simp [rmap, rlook, Ev.look, wkB, simL, sim, z5]
  · obtain rfl : k = 47 := by omega
    have e1 : cm .leq ((47 : Nat) : Int) 46 = false := rfl
    simp only [e1, cond_false]
    have hno := decX_none (s := s) fun j hj1 hj2 => h3 j hj1 (by omega)
    refine ⟨rfl, _, _, [], by simp only [out11, hno, cond_false]; rfl, ?_⟩
    refine ⟨rfl, ?_, ⟨?_, trivial⟩, rfl, rfl⟩
    · exact ⟨trivial, ⟨rfl, rfl, rfl⟩, trivial, trivial⟩
    · simp [rmap, rlook, Ev.look, wkB, simL, sim, z5]

theorem e11l_calls : CallsOk E11L Tryz.prog := fun f args H nm r h hn => e11_calls f args H nm r h hn
attribute [local irreducible] evalB Tr.view in
theorem loop11 : LoopOk E11L Tryz.prog Tryz.f32 0 (loopOf Tryz.f32 0) :=
  loop_okE mixed (fun S => rfl) (by decide) ok11 (fun x => 47 - x.k) vs11 (fun _ => h11) out11 entry11 fun x hx => ⟨E11b, e11b_calls, inner11, round11 x hx⟩
theorem fn11 : Tryz.prog.funcs[32]? = some Tryz.f32 := by kernel_rfl
theorem b11 : Tryz.f32.body = some (bodyOf Tryz.f32) := by kernel_rfl
theorem n11 : (Tryz.f32.name == "runtime.NumGoroutine") = false := by kernel_rfl
theorem nl11 : Code.loops (bodyOf Tryz.f32) = 2 := by kernel_rfl
theorem nth110 : nthLoop (bodyOf Tryz.f32) 0 = some (loopOf Tryz.f32 0) := by kernel_rfl
theorem nth111 : nthLoop (bodyOf Tryz.f32) 1 = some (loopOf Tryz.f32 1) := by kernel_rfl
theorem loops11 : LoopsOk E11L Tryz.prog Tryz.f32 (bodyOf Tryz.f32) 0 := loops2 nl11
  (fun a ha => by
    rw [nth110] at ha
    simp only [Option.some.injEq] at ha
    subst ha
    exact loop11)
  (fun a ha => by
    rw [nth111] at ha
    simp only [Option.some.injEq] at ha
    subst ha
    exact loop11b fun S => rfl)

noncomputable def g11 : List SV → Heap → Option R
  | [.str s], [] => some ⟨[], decT2 s, []⟩
  | _, _ => none
attribute [local irreducible] evalF Lf.gives decX in
theorem spec11 : SpecOk Tryz.prog 32 (specOf g11) := spec_okA false e11l_calls mixed fn11 b11 n11 loops11 g11 fun a0 H0 r hg hn => by
  unfold g11 at hg
  split at hg
  · rename_i s
    simp only [Option.some.injEq] at hg
    subst hg
    refine ⟨_, id, fun _ => rfl, gives_giv (gives_tree (t11 s) ?_)⟩
    refine gives_cond (fun h => ?_) (fun h => ?_)
    · exact gives_ret fun σ σ' => by simp only [decT2, den, denL]
    · have hno : decX s = ⟨0, 0, 0, 0, 0, 0, false⟩ := by
        rcases decX_cases s with hd | hd
        · rw [hd.2.2.2.2.1] at h; cases h
        · exact hd.1
      exact gives_ret fun σ σ' => by simp only [decT2, hno, den, denL]
  · cases hg

end Go.X
end

section
set_option linter.unusedVariables false
open Go Go.Ev Go.Proofs
namespace Go.Rv

/-- an instruction stands there; none does: not to be reckoned -/
noncomputable def isIns (s : ByteArray) (K w rd rs n len : Int) : Bool := @decide (X.decX s = ⟨K, w, rd, rs, n, len, true⟩) (Classical.propDecidable _)
theorem isIns_iff {s : ByteArray} {K w rd rs n len : Int} : isIns s K w rd rs n len = true ↔ X.decX s = ⟨K, w, rd, rs, n, len, true⟩ := @decide_eq_true_iff _ (Classical.propDecidable _)
noncomputable def noIns (s : ByteArray) : Bool := @decide (X.decX s = ⟨0, 0, 0, 0, 0, 0, false⟩) (Classical.propDecidable _)
theorem noIns_iff {s : ByteArray} : noIns s = true ↔ X.decX s = ⟨0, 0, 0, 0, 0, 0, false⟩ := @decide_eq_true_iff _ (Classical.propDecidable _)
noncomputable def g32K (K w rd rs n len : Int) : List SV → Heap → Option R
  | [.str s], [] => some ⟨[isIns s K w rd rs n len], .tup [.agg [.int true .i64 K, .int false .i64 w, .int false .i64 rd, .int false .i64 rs, .int false .i64 n], .int false .i64 len], []⟩
  | _, _ => none
noncomputable def g32N : List SV → Heap → Option R
  | [.str s], [] => some ⟨[noIns s], .tup [.agg [.int true .i64 0, .int true .i64 0, .int true .i64 0, .int true .i64 0, .int true .i64 0], .int true .i64 0], []⟩
  | _, _ => none

attribute [local irreducible] evalF Lf.gives X.decX in
theorem gives11 (s : ByteArray) : (evalF X.E11L Tryz.prog 32 [.str s] [] 1024).leaf.gives (X.decT2 s) := by
  refine gives_tree (X.t11 s) ?_
  refine gives_cond (fun h => ?_) (fun h => ?_)
  · exact gives_ret fun σ σ' => by simp only [X.decT2, den, denL]
  · have hno : X.decX s = ⟨0, 0, 0, 0, 0, 0, false⟩ := by
      rcases X.decX_cases s with hd | hd
      · rw [hd.2.2.2.2.1] at h; cases h
      · exact hd.1
    exact gives_ret fun σ σ' => by simp only [X.decT2, hno, den, denL]
theorem gives_same {l : Lf} {v v' : SV} (h : l.gives v) (hv : ∀ σ, den σ v = den σ v') : l.gives v' := by
  cases l with
  | ret x H => exact fun σ σ' => (h σ σ').trans (hv _)
  | _ => exact h
attribute [local irreducible] evalF Lf.gives X.decX in
theorem spec32K (K w rd rs n len : Int) : SpecOk Tryz.prog 32 (specC true (g32K K w rd rs n len)) := spec_okA true X.e11l_calls mixed X.fn11 X.b11 X.n11 X.loops11 (g32K K w rd rs n len) fun a0 H0 r hg hn => by
  unfold g32K at hg
  split at hg
  · rename_i s
    simp only [Option.some.injEq] at hg
    subst hg
    simp only [allB, Bool.and_true, isIns_iff] at hn
    exact ⟨_, id, fun _ => rfl, gives_giv (gives_same (gives11 s) fun σ => by simp only [X.decT2, hn, den, denL])⟩
  · cases hg
attribute [local irreducible] evalF Lf.gives X.decX in
theorem spec32N : SpecOk Tryz.prog 32 (specC true g32N) := spec_okA true X.e11l_calls mixed X.fn11 X.b11 X.n11 X.loops11 g32N fun a0 H0 r hg hn => by
  unfold g32N at hg
  split at hg
  · rename_i s
    simp only [Option.some.injEq] at hg
    subst hg
    simp only [allB, Bool.and_true, noIns_iff] at hn
    exact ⟨_, id, fun _ => rfl, gives_giv (gives_same (gives11 s) fun σ => by simp only [X.decT2, hn, den, denL])⟩
  · cases hg

/-- the environment of the page's step, at an op -/
noncomputable def EP (K : Nat) (w rd rs n len : Int) : Env := inlF Tryz.prog (envOf [(70, specOf g41), (69, specOf g43), (33, specOf g33), (45, specC true (g45 K)), (32, specC true (g32K K w rd rs n len))] noLoop) [34, 37, 40, 41, 68, 80] [38] [35, 36, 39, 42, 43, 44] 6
theorem namedP : named Tryz.prog [34, 37, 40, 41, 68, 80] = true := by kernel_rfl
theorem namedP2 : named Tryz.prog [38] = true := by kernel_rfl
theorem namedP3 : named Tryz.prog [35, 36, 39, 42, 43, 44] = true := by kernel_rfl
theorem ep_calls (K : Nat) (w rd rs n len : Int) : CallsOk (EP K w rd rs n len) Tryz.prog := (inlF_calls ((SpecsOk.cons spec41 (SpecsOk.cons spec43 (SpecsOk.cons spec33 (SpecsOk.cons (spec45 K) (SpecsOk.cons (spec32K K w rd rs n len) SpecsOk.nil))))).calls noLoop) mixed namedP namedP2 namedP3 6).1
theorem ep_loop (K : Nat) (w rd rs n len : Int) : (EP K w rd rs n len).loop = noLoop := rfl
noncomputable def EPN : Env := inlF Tryz.prog (envOf [(32, specC true g32N)] noLoop) [] [] [] 1
theorem epn_calls : CallsOk EPN Tryz.prog := (inlF_calls ((SpecsOk.cons spec32N SpecsOk.nil).calls noLoop) mixed rfl rfl rfl 1).1
theorem epn_loop : EPN.loop = noLoop := rfl
/-- the program's: what an instruction does -/
noncomputable def ED : Env := inlF Tryz.prog (envOf [(91, specOf g75), (90, specOf g68), (88, specOf g88)] noLoop) [92, 93, 98] [94, 97, 115, 100, 76] [73, 74, 75, 77, 78, 86, 87, 89, 95, 96, 99, 113] 8
theorem namedD : named Tryz.prog [92, 93, 98] = true := by kernel_rfl
theorem namedD2 : named Tryz.prog [94, 97, 115, 100, 76] = true := by kernel_rfl
theorem namedD3 : named Tryz.prog [73, 74, 75, 77, 78, 86, 87, 89, 95, 96, 99, 113] = true := by kernel_rfl
theorem ed_calls : CallsOk ED Tryz.prog := (inlF_calls ((SpecsOk.cons spec75 (SpecsOk.cons spec68 (SpecsOk.cons spec88 SpecsOk.nil))).calls noLoop) mixed namedD namedD2 namedD3 8).1
theorem ed_loop : ED.loop = noLoop := rfl

end Go.Rv
end

section
set_option linter.unusedVariables false
open Go Go.Ev Go.Proofs
namespace Go.Rv

/-- a machine as a leaf tells it; flags of its end, CF, OF -/
def hF (k c o : Bool) (m : M) : Heap := [(0, .cells [.int false .i64 m.pc, .sl 1 16, .bool false m.zf, .bool false m.sf, .bool c m.cf, .bool o m.of_, .sl 2 196608, .sl 3 m.nI, .sl 4 m.nO, .int k .i64 m.kind, .int false .i64 m.code]), (1, .tab 16 [.ints .i64 m.X] true), (2, .tab 196608 [.ints .u8 m.mem] true), (3, .tab m.nI [.ints .i64 m.inp] false), (4, .tab m.nO [.ints .i64 m.out] true)]
def rF (k c o : Bool) (m : M) : Lf := .ret (.tup []) (hF k c o m)
def ret (m : M) : Lf := rF false false false m
def fault (m : M) : Lf := rF true false false { m with kind := 5 }
def mp (len : Int) (m : M) : M := { m with pc := ar .add .i64 m.pc len }
def sX (rd v : Int) (m : M) : M := { m with X := upd m.X rd.toNat v }
def io (m : M) (x : Lf) : Lf := bx (Nat.beq m.nI m.nI) (bx (Nat.beq m.nO m.nO) x)
def cutD (w x : Int) : Int := bif cm .eql w 4 then conv .u64 (conv .u32 x) else conv .u64 x
def sgnD (w x : Int) : Int := bif cm .eql w 4 then conv .i64 (conv .i32 (conv .u32 x)) else conv .i64 x
def mskR (w x : Int) : Int := bif cm .eql w 4 then conv .i64 (conv .u32 x) else x
def sgnR (w x : Int) : Int := bif cm .eql w 4 then conv .i64 (conv .i32 x) else x
def putD (w x : Int) : Int := conv .i64 (cutD w (conv .i64 x))
/-- with all flags -/
def arL (c x z s y : Bool) (K : Lf → Lf) (m : M) : Lf :=
  bif c then K (rF false false false { m with zf := z, sf := s, cf := y, of_ := x }) else K (rF false false true { m with zf := z, sf := s, cf := y, of_ := false })
def sumD (w a b : Int) (K : Lf → Lf) (S : Int → M → M) (m : M) : Lf :=
  arL (cm .lss (sgnD w a) 0 == cm .lss (sgnD w b) 0) (!cm .lss (sgnD w (cutD w (conv .i64 (ar .add .u64 a b)))) 0 == cm .lss (sgnD w a) 0) (cm .eql (cutD w (conv .i64 (ar .add .u64 a b))) 0) (cm .lss (sgnD w (cutD w (conv .i64 (ar .add .u64 a b)))) 0) (cm .lss (cutD w (conv .i64 (ar .add .u64 a b))) a) K (S (putD w (cutD w (conv .i64 (ar .add .u64 a b)))) m)
def subD (w a b : Int) (K : Lf → Lf) (S : Int → M → M) (m : M) : Lf :=
  arL (!cm .lss (sgnD w a) 0 == cm .lss (sgnD w b) 0) (!cm .lss (sgnD w (cutD w (conv .i64 (ar .sub .u64 a b)))) 0 == cm .lss (sgnD w a) 0) (cm .eql (cutD w (conv .i64 (ar .sub .u64 a b))) 0) (cm .lss (sgnD w (cutD w (conv .i64 (ar .sub .u64 a b)))) 0) (cm .lss a b) K (S (putD w (cutD w (conv .i64 (ar .sub .u64 a b)))) m)
def logD (w v : Int) (rd : Int) (m : M) : Lf := rF false true true { sX rd (putD w v) m with zf := cm .eql v 0, sf := cm .lss (sgnD w v) 0, cf := false, of_ := false }
def byD (w : Int) (m : M) : Int := ar .rem .u64 (conv .u64 (conv .u8 (m.X 1))) (conv .u64 (ar .mul .i64 8 w))
def shD (w rd v : Int) (len : Int) (m : M) : Lf := ix rd (ix rd (bx (conv .u64 (ar .mul .i64 8 w) != 0) (bx (decide (0 ≤ byD w m)) (ix rd (ret (sX rd (putD w v) (mp len m)))))))
def exV (K : Nat) (b : Int) : Int := match K with
  | 21 => conv .i64 (conv .u8 b)
  | 22 => conv .i64 (conv .u16 b)
  | 23 => conv .i64 (conv .i8 b)
  | 24 => conv .i64 (conv .i16 b)
  | _ => conv .i64 (conv .i32 b)
def ldD (K : Nat) (x : Int) : Int := match K with
  | 28 => conv .i64 (conv .u64 (conv .i64 (conv .i32 x)))
  | 29 => conv .i64 (conv .u64 (conv .i64 (conv .i16 x)))
  | 30 => conv .i64 (conv .u64 (conv .i64 (conv .i8 x)))
  | _ => conv .i64 x
def aX (m : M) (b n : Int) : Int := conv .u64 (ar .add .i64 b n)
def kA (A : Int) (s : Nat) (m : M) : M := { m with kind := kindA m.kind A s }
def sA (A v : Int) (s : Nat) (m : M) : M := { m with kind := kindA m.kind A s, mem := storeA m.mem A (conv .u64 v) s }
def a4 (m : M) : Int := conv .u64 (ar .sub .i64 (m.X 4) 8)
def p4 (m : M) : Int := conv .u64 (m.X 4)
def dn4 (m : M) : M := { m with X := upd m.X 4 (ar .sub .i64 (m.X 4) 8) }
def up4 (m : M) : M := { m with X := upd m.X 4 (ar .add .i64 (m.X 4) 8) }
def pushL (v : Int) (len n : Int) (j : Bool) (m : M) : Lf :=
  bif !decide (accX (a4 m) 8 = 0) then ret (sA (a4 m) v 8 m) else ret (sA (a4 m) v 8 { dn4 m with pc := bif j then ar .add .i64 (ar .add .i64 m.pc len) n else ar .add .i64 m.pc len })
/-- the program's divide -/
def least (w sa sb : Int) : Bool :=
  bif cm .eql sa (ar .sub .i64 0 sa) then bif cm .lss sa 0 then bif cm .eql sb (-1) then true else bif cm .eql w 4 then bif cm .eql sa (-2147483648) then cm .eql sb (-1) else false else false else bif cm .eql w 4 then bif cm .eql sa (-2147483648) then cm .eql sb (-1) else false else false else bif cm .eql w 4 then bif cm .eql sa (-2147483648) then cm .eql sb (-1) else false else false
def divD (w rd len : Int) (s : Int) (m : M) : Lf :=
  bif (bif cm .eql (cutD w (m.X rd.toNat)) 0 then true else bif cm .neq (cutD w (m.X 2)) s then true else least w (sgnD w (cutD w (m.X 0))) (sgnD w (cutD w (m.X rd.toNat)))) then fault m
  else bx (cutD w (m.X rd.toNat) != 0) (bx (cutD w (m.X rd.toNat) != 0) (bx (sgnD w (cutD w (m.X rd.toNat)) != 0) (bx (sgnD w (cutD w (m.X rd.toNat)) != 0)
    (ret { mp len m with X := upd (upd m.X 0 (putD w (conv .u64 (ar .quo .i64 (sgnD w (cutD w (m.X 0))) (sgnD w (cutD w (m.X rd.toNat))))))) 2 (putD w (conv .u64 (ar .rem .i64 (sgnD w (cutD w (m.X 0))) (sgnD w (cutD w (m.X rd.toNat)))))) }))))
def popD (K : M → Int → Lf) (m : M) : Lf :=
  bif decide (accX (p4 m) 8 = 0) then K (up4 m) (conv .i64 (xX m (p4 m) 8)) else K m (conv .i64 (xX m (p4 m) 8))
/-- the environment's -/
def outL (N : Nat) (m : M) : Lf := .ret (.tup []) [(0, .cells [.int false .i64 m.pc, .sl 1 16, .bool false m.zf, .bool false m.sf, .bool false m.cf, .bool false m.of_, .sl 2 196608, .sl 3 m.nI, .sl N (m.nO + 1), .int false .i64 m.kind, .int false .i64 m.code]), (1, .tab 16 [.ints .i64 m.X] true), (2, .tab 196608 [.ints .u8 m.mem] true), (3, .tab m.nI [.ints .i64 m.inp] false), (4, .dead), (N, .tab (m.nO + 1) [.ints .i64 (cat m.nO m.out (nth [m.X 7] 0))] true)]
def inL (N : Nat) (m : M) : Lf := .ret (.tup []) [(0, .cells [.int false .i64 m.pc, .sl 1 16, .bool false m.zf, .bool false m.sf, .bool false m.cf, .bool false m.of_, .sl 2 196608, .sl N (m.nI - 1), .sl 4 m.nO, .int false .i64 m.kind, .int false .i64 m.code]), (1, .tab 16 [.ints .i64 (upd m.X 0 (m.inp 0))] true), (2, .tab 196608 [.ints .u8 m.mem] true), (3, .tab m.nI [.ints .i64 m.inp] false), (4, .tab m.nO [.ints .i64 m.out] true), (N, .tab (m.nI - 1) [.ints .i64 (from_ 1 m.inp)] false)]
def inG (m : M) (x : Lf) : Lf := bx (decide (0 < (m.nI : Int))) (bx (Nat.blt 0 m.nI) (bx (Nat.blt 0 m.nI) (bx (Nat.ble 1 m.nI) (bx (Nat.ble m.nI m.nI) x))))
def outG (m : M) (x : Lf) : Lf := bx (Nat.ble m.nO m.nO) (bx (Nat.ble ((m.nO + 1) * 8) 1099511627776) x)

/-- the program's leaf -/
noncomputable def lD (K : Nat) (w rd rs n len : Int) (m : M) : Lf :=
  let A := m.X rd.toNat
  let B := m.X rs.toNat
  let p := mp len m
  let D := aX m B n
  match K with
  | 1 => ix rd (ix rs (ix rd (ret (sX rd (putD w (cutD w B)) p))))
  | 2 => ix rd (ix rd (ret (sX rd n p)))
  | 3 => ix rd (ix rd (ret (sX rd n p)))
  | 4 => ix rd (ix rs (sumD w (cutD w A) (cutD w B) (ix rd) (sX rd) p))
  | 5 => ix rd (ix rs (subD w (cutD w A) (cutD w B) (ix rd) (sX rd) p))
  | 6 => ix rd (ix rs (ix rd (logD w (ar .and .u64 (cutD w A) (cutD w B)) rd p)))
  | 7 => ix rd (ix rs (ix rd (logD w (ar .or .u64 (cutD w A) (cutD w B)) rd p)))
  | 8 => ix rd (ix rs (ix rd (logD w (ar .xor .u64 (cutD w A) (cutD w B)) rd p)))
  | 9 => ix rd (ix rs (subD w (cutD w A) (cutD w B) id (fun _ m => m) p))
  | 10 => ix rd (ix rs (ix rd (ret (sX rd (putD w (ar .mul .u64 (cutD w A) (cutD w B))) p))))
  | 11 => ix rd (subD w 0 (cutD w A) (ix rd) (sX rd) p)
  | 12 => ix rd (ix rd (ret (sX rd (putD w (ar .xor .u64 18446744073709551615 (cutD w A))) p)))
  | 13 => ix rd (ix rd (bif cm .lss (sgnD w (cutD w (m.X 0))) 0 then divD w rd len (bif cm .eql w 4 then 4294967295 else 18446744073709551615) m else divD w rd len 0 m))
  | 14 => ix rd (ix rd (bif (bif cm .eql (cutD w A) 0 then true else bif cm .neq (cutD w (m.X 2)) 0 then true else false) then fault m else bx (cutD w A != 0) (bx (cutD w A != 0)
      (ret { p with X := upd (upd m.X 0 (putD w (ar .quo .u64 (cutD w (m.X 0)) (cutD w A)))) 2 (putD w (ar .rem .u64 (cutD w (m.X 0)) (cutD w A))) }))))
  | 15 => shD w rd (ar .shl .u64 (cutD w A) (byD w m)) len m
  | 16 => shD w rd (ar .shr .u64 (cutD w A) (byD w m)) len m
  | 17 => shD w rd (conv .u64 (ar .shr .i64 (sgnD w (cutD w A)) (byD w m))) len m
  | 18 => ix rd (ret { p with X := upd m.X 2 (putD w (conv .u64 (ar .shr .i64 (sgnD w (cutD w (m.X 0))) 63))) })
  | 19 => ix rd (sumD w (cutD w A) (conv .u64 n) (ix rd) (sX rd) p)
  | 20 => ix rd (ix rd (bx (decide (0 ≤ n)) (bx (decide (n ≤ 15)) (io m (bif holdB m n then ix rd (ret (sX rd (ar .or .i64 (ar .andNot .i64 A 255) 1) p)) else ix rd (ret (sX rd (ar .andNot .i64 A 255) p)))))))
  | 37 => ix rs (ix rd (ret (sX rd (ar .add .i64 B n) p)))
  | 38 => ix rd (io m (pushL A len n false m))
  | 39 => io m (bx (byteB m.mem) (popD (fun m' v => bif decide (accX (p4 m) 8 = 0) then ix rd (bif decide (accX (p4 m) 8 = 0) then ret (kA (p4 m) 8 (mp len (sX rd v m'))) else ret (kA (p4 m) 8 (sX rd v m')))
      else bif decide (accX (p4 m) 8 = 0) then ret (kA (p4 m) 8 (mp len m')) else ret (kA (p4 m) 8 m')) m))
  | 40 => io m (pushL (ar .add .i64 m.pc len) len n true m)
  | 41 => io m (bx (byteB m.mem) (popD (fun m' v => bif decide (accX (p4 m) 8 = 0) then ret (kA (p4 m) 8 { m' with pc := v }) else ret (kA (p4 m) 8 m')) m))
  | 42 => ret (mp n p)
  | 43 => ret (mp n p)
  | 44 => bx (decide (0 ≤ rd)) (bx (decide (rd ≤ 15)) (io m (bif !holdB m rd then ret p else ret (mp n p))))
  | 45 => bx (decide (0 ≤ rd)) (bx (decide (rd ≤ 15)) (io m (bif !holdB m rd then ret p else ret (mp n p))))
  | 46 => bif cm .eql (m.X 0) 1 then outG m (outL 1280 p) else bif cm .eql (m.X 0) 2 then bif cm .eql (m.nI : Int) 0 then ret { p with X := upd m.X 0 0 } else inG m (inL 1280 p)
      else bif cm .eql (m.X 0) 3 then rF true false false { m with kind := 1, code := m.X 7 } else fault m
  | K => bif Nat.ble K 25 then ix rs (ix rd (ret (sX rd (exV K B) p)))
      else bif Nat.ble K 32 then ix rs (io m (bx (byteB m.mem) (bif !decide (accX D (szM K) = 0) then ret (kA D (szM K) m) else ix rd (ret (kA D (szM K) (sX rd (ldD K (xX m D (szM K))) p))))))
      else ix rs (ix rd (io m (bif decide (accX D (szM K) = 0) then ret (sA D A (szM K) p) else ret (sA D A (szM K) m))))

/-! the page's -/
def sumR (w a b : Int) (K : Lf → Lf) (S : Int → M → M) (m : M) : Lf :=
  arL (cm .lss (sgnR w a) 0 == cm .lss (sgnR w b) 0) (!cm .lss (sgnR w (mskR w (ar .add .i64 a b))) 0 == cm .lss (sgnR w a) 0) (cm .eql (mskR w (mskR w (ar .add .i64 a b))) 0) (cm .lss (sgnR w (mskR w (ar .add .i64 a b))) 0) (cm .lss (conv .u64 (mskR w (ar .add .i64 a b))) (conv .u64 (mskR w a))) K (S (mskR w (ar .add .i64 a b)) m)
def subR (w a b : Int) (K : Lf → Lf) (S : Int → M → M) (m : M) : Lf :=
  arL (!cm .lss (sgnR w a) 0 == cm .lss (sgnR w b) 0) (!cm .lss (sgnR w (mskR w (ar .sub .i64 a b))) 0 == cm .lss (sgnR w a) 0) (cm .eql (mskR w (mskR w (ar .sub .i64 a b))) 0) (cm .lss (sgnR w (mskR w (ar .sub .i64 a b))) 0) (cm .lss (conv .u64 (mskR w a)) (conv .u64 (mskR w b))) K (S (mskR w (ar .sub .i64 a b)) m)
def logR (w v : Int) (rd : Int) (m : M) : Lf := rF false true true { sX rd (mskR w v) m with zf := cm .eql (mskR w (mskR w v)) 0, sf := cm .lss (sgnR w (mskR w v)) 0, cf := false, of_ := false }
def byR (w : Int) (m : M) : Int := ar .rem .u64 (ar .and .u64 (conv .u64 (m.X 1)) 255) (conv .u64 (ar .mul .i64 8 w))
def shR (w rd v : Int) (len : Int) (m : M) : Lf := bx (conv .u64 (ar .mul .i64 8 w) != 0) (bx (decide (0 ≤ byR w m)) (ix rd (ret (sX rd v (mp len m)))))
noncomputable def lR (K : Nat) (w rd rs n len : Int) (m : M) : Lf :=
  let A := m.X rd.toNat
  let B := m.X rs.toNat
  let p := mp len m
  let D := aX m B n
  ix rd (ix rs (match K with
  | 1 => ix rd (ret (sX rd (mskR w B) p))
  | 2 => ix rd (ret (sX rd n p))
  | 3 => ix rd (ret (sX rd n p))
  | 4 => sumR w A B (ix rd) (sX rd) p
  | 5 => subR w A B (ix rd) (sX rd) p
  | 6 => ix rd (logR w (ar .and .i64 A B) rd p)
  | 7 => ix rd (logR w (ar .or .i64 A B) rd p)
  | 8 => ix rd (logR w (ar .xor .i64 A B) rd p)
  | 9 => subR w A B id (fun _ m => m) p
  | 10 => ix rd (ret (sX rd (mskR w (ar .mul .i64 A B)) p))
  | 11 => subR w 0 A (ix rd) (sX rd) p
  | 12 => ix rd (ret (sX rd (mskR w (ar .xor .i64 (-1) A)) p))
  | 13 => ix rd (bif cm .eql (mskR w A) 0 then fault m else bx (decide (0 ≤ ar .sub .i64 (ar .mul .i64 8 w) 1))
      (bif (bif cm .neq (mskR w (m.X 2)) (mskR w (ar .shr .i64 (sgnR w (m.X 0)) 63)) then true else bif cm .eql (sgnR w A) (-1) then cm .eql (sgnR w (m.X 0)) (sgnR w (ar .shl .i64 (-1) (ar .sub .i64 (ar .mul .i64 8 w) 1))) else false) then fault m
       else bx (sgnR w A != 0) (bx (sgnR w A != 0) (ret { p with X := upd (upd m.X 0 (mskR w (ar .quo .i64 (sgnR w (m.X 0)) (sgnR w A)))) 2 (mskR w (ar .rem .i64 (sgnR w (m.X 0)) (sgnR w A))) }))))
  | 14 => ix rd (bif cm .eql (mskR w A) 0 then fault m else bif cm .neq (mskR w (m.X 2)) 0 then fault m else bx (bif cm .eql (mskR w A) 0 then true else allB [conv .u64 (mskR w A) != 0]) (bx (bif cm .eql (mskR w A) 0 then true else allB [conv .u64 (mskR w A) != 0])
      (ret { p with X := upd (upd m.X 0 (bif cm .eql (mskR w A) 0 then -1 else conv .i64 (ar .quo .u64 (conv .u64 (mskR w (m.X 0))) (conv .u64 (mskR w A))))) 2 (bif cm .eql (mskR w A) 0 then mskR w (m.X 0) else conv .i64 (ar .rem .u64 (conv .u64 (mskR w (m.X 0))) (conv .u64 (mskR w A)))) })))
  | 15 => shR w rd (mskR w (ar .shl .i64 A (byR w m))) len m
  | 16 => shR w rd (conv .i64 (ar .shr .u64 (conv .u64 (mskR w A)) (byR w m))) len m
  | 17 => shR w rd (mskR w (ar .shr .i64 (sgnR w A) (byR w m))) len m
  | 18 => ret { p with X := upd m.X 2 (mskR w (ar .shr .i64 (sgnR w (m.X 0)) 63)) }
  | 19 => sumR w A n (ix rd) (sX rd) p
  | 20 => io m (bif holdB m n then ix rd (ret (sX rd (ar .or .i64 (ar .andNot .i64 A 255) 1) p)) else ix rd (ret (sX rd (ar .or .i64 (ar .andNot .i64 A 255) 0) p)))
  | 37 => ix rd (ret (sX rd (ar .add .i64 B n) p))
  | 38 => io m (pushL A len n false m)
  | 39 => io m (bx (byteB m.mem) (popD (fun m' v => bif !decide (accX (p4 m) 8 = 0) then ret (kA (p4 m) 8 m') else ix rd (ret (kA (p4 m) 8 (mp len (sX rd v m'))))) m))
  | 40 => io m (pushL (ar .add .i64 m.pc len) len n true m)
  | 41 => io m (bx (byteB m.mem) (popD (fun m' v => bif !decide (accX (p4 m) 8 = 0) then ret (kA (p4 m) 8 m') else ret (kA (p4 m) 8 { m' with pc := v })) m))
  | 42 => ret (mp n p)
  | 43 => ret (mp n p)
  | 44 => io m (bif holdB m rd then ret (mp n p) else ret p)
  | 45 => io m (bif holdB m rd then ret (mp n p) else ret p)
  | 46 => bif cm .eql (m.X 0) 1 then outG m (outL 3520 p) else bif cm .eql (m.X 0) 2 then bif cm .gtr (m.nI : Int) 0 then inG m (inL 3520 p) else ret { p with X := upd m.X 0 0 }
      else bif cm .eql (m.X 0) 3 then rF true false false { m with kind := 1, code := m.X 7 } else fault m
  | K => bif Nat.ble K 25 then ix rd (ret (sX rd (exV K B) p))
      else bif Nat.ble K 32 then bx (decide (0 ≤ rd)) (bx (decide (rd < 16)) (bx (byteB m.mem) (io m (bif !decide (accX D (szM K) = 0) then ret (kA D (szM K) { m with X := ldX K rd D m }) else ret (kA D (szM K) { p with X := ldX K rd D m })))))
      else io m (bif !decide (accX D (szM K) = 0) then ret (sA D A (szM K) m) else ret (sA D A (szM K) p))))
noncomputable def fetch (s : ByteArray) (m : M) (K : Nat) (w rd rs n len : Int) (x : Lf) : Lf :=
  bif cm .neq m.kind 0 then ret m else
  bif (bif cm .lss m.pc 4096 then true else cm .geq (ar .sub .i64 m.pc 4096) (s.size : Int)) then fault m else
  bx (decide (0 ≤ ar .sub .i64 m.pc 4096)) (bx (decide (0 ≤ minI (s.size : Int) (ar .add .i64 (ar .sub .i64 m.pc 4096) 16))) (bx (Nat.ble (ar .sub .i64 m.pc 4096).toNat (minI (s.size : Int) (ar .add .i64 (ar .sub .i64 m.pc 4096) 16)).toNat) (bx (Nat.ble (minI (s.size : Int) (ar .add .i64 (ar .sub .i64 m.pc 4096) 16)).toNat s.size)
    (bx (isIns (s.extract (ar .sub .i64 m.pc 4096).toNat (minI (s.size : Int) (ar .add .i64 (ar .sub .i64 m.pc 4096) 16)).toNat) K w rd rs n len) (bif cm .eql len 0 then fault m else x)))))

def blkK (K : Nat) (N : Nat) : List Nat := if K = 46 then [0, 1, 2, 3, 4, N] else [0, 1, 2, 3, 4]
def dP (K : Nat) : Prop := ∀ (m : M) (w rd rs n len : Int), (evalF ED Tryz.prog 65 [.ptr 0 0 0, .agg [.int true .i64 K, .int false .i64 w, .int false .i64 rd, .int false .i64 rs, .int false .i64 n], .int false .i64 len] (hM m true true true) 1024).retH (blkK K 1280) = lD K w rd rs n len m
def rP (K : Nat) : Prop := ∀ (s : ByteArray) (m : M) (w rd rs n len : Int), (evalF (EP K w rd rs n len) Tryz.prog 19 [.str s, .ptr 0 0 0] (hM m true true true) 1024).retH (blkK K 3520) = fetch s m K w rd rs n len (lR K w rd rs n len m)

end Go.Rv
end

section
set_option linter.unusedVariables false
open Go Go.Ev Go.Proofs
namespace Go.Rv

theorem dl1 : dP 1 := fun m w rd rs n len => by kernel_rfl
theorem dl2 : dP 2 := fun m w rd rs n len => by kernel_rfl
theorem dl3 : dP 3 := fun m w rd rs n len => by kernel_rfl
theorem dl4 : dP 4 := fun m w rd rs n len => by kernel_rfl
theorem dl5 : dP 5 := fun m w rd rs n len => by kernel_rfl
theorem dl6 : dP 6 := fun m w rd rs n len => by kernel_rfl
theorem dl7 : dP 7 := fun m w rd rs n len => by kernel_rfl
theorem dl8 : dP 8 := fun m w rd rs n len => by kernel_rfl
theorem dl9 : dP 9 := fun m w rd rs n len => by kernel_rfl
theorem dl10 : dP 10 := fun m w rd rs n len => by kernel_rfl
theorem dl11 : dP 11 := fun m w rd rs n len => by kernel_rfl
theorem dl12 : dP 12 := fun m w rd rs n len => by kernel_rfl
theorem dl13 : dP 13 := fun m w rd rs n len => by kernel_rfl
theorem dl14 : dP 14 := fun m w rd rs n len => by kernel_rfl
theorem dl15 : dP 15 := fun m w rd rs n len => by kernel_rfl
theorem dl16 : dP 16 := fun m w rd rs n len => by kernel_rfl
theorem dl17 : dP 17 := fun m w rd rs n len => by kernel_rfl
theorem dl18 : dP 18 := fun m w rd rs n len => by kernel_rfl
theorem dl19 : dP 19 := fun m w rd rs n len => by kernel_rfl
theorem dl20 : dP 20 := fun m w rd rs n len => by kernel_rfl
theorem dl21 : dP 21 := fun m w rd rs n len => by kernel_rfl
theorem dl22 : dP 22 := fun m w rd rs n len => by kernel_rfl
theorem dl23 : dP 23 := fun m w rd rs n len => by kernel_rfl
theorem dl24 : dP 24 := fun m w rd rs n len => by kernel_rfl
theorem dl25 : dP 25 := fun m w rd rs n len => by kernel_rfl
theorem dl26 : dP 26 := fun m w rd rs n len => by kernel_rfl
theorem dl27 : dP 27 := fun m w rd rs n len => by kernel_rfl
theorem dl28 : dP 28 := fun m w rd rs n len => by kernel_rfl
theorem dl29 : dP 29 := fun m w rd rs n len => by kernel_rfl
theorem dl30 : dP 30 := fun m w rd rs n len => by kernel_rfl
theorem dl31 : dP 31 := fun m w rd rs n len => by kernel_rfl
theorem dl32 : dP 32 := fun m w rd rs n len => by kernel_rfl
theorem dl33 : dP 33 := fun m w rd rs n len => by kernel_rfl
theorem dl34 : dP 34 := fun m w rd rs n len => by kernel_rfl
theorem dl35 : dP 35 := fun m w rd rs n len => by kernel_rfl
theorem dl36 : dP 36 := fun m w rd rs n len => by kernel_rfl
theorem dl37 : dP 37 := fun m w rd rs n len => by kernel_rfl
theorem dl38 : dP 38 := fun m w rd rs n len => by kernel_rfl
theorem dl39 : dP 39 := fun m w rd rs n len => by kernel_rfl
theorem dl40 : dP 40 := fun m w rd rs n len => by kernel_rfl
theorem dl41 : dP 41 := fun m w rd rs n len => by kernel_rfl
theorem dl42 : dP 42 := fun m w rd rs n len => by kernel_rfl
theorem dl43 : dP 43 := fun m w rd rs n len => by kernel_rfl
theorem dl44 : dP 44 := fun m w rd rs n len => by kernel_rfl
theorem dl45 : dP 45 := fun m w rd rs n len => by kernel_rfl
theorem dl46 : dP 46 := fun m w rd rs n len => by kernel_rfl

end Go.Rv
end

section
set_option linter.unusedVariables false
open Go Go.Ev Go.Proofs
namespace Go.Rv

theorem rl1 : rP 1 := fun s m w rd rs n len => by kernel_rfl
theorem rl2 : rP 2 := fun s m w rd rs n len => by kernel_rfl
theorem rl3 : rP 3 := fun s m w rd rs n len => by kernel_rfl
theorem rl4 : rP 4 := fun s m w rd rs n len => by kernel_rfl
theorem rl5 : rP 5 := fun s m w rd rs n len => by kernel_rfl
theorem rl6 : rP 6 := fun s m w rd rs n len => by kernel_rfl
theorem rl7 : rP 7 := fun s m w rd rs n len => by kernel_rfl
theorem rl8 : rP 8 := fun s m w rd rs n len => by kernel_rfl
theorem rl9 : rP 9 := fun s m w rd rs n len => by kernel_rfl
theorem rl10 : rP 10 := fun s m w rd rs n len => by kernel_rfl
theorem rl11 : rP 11 := fun s m w rd rs n len => by kernel_rfl
theorem rl12 : rP 12 := fun s m w rd rs n len => by kernel_rfl
theorem rl13 : rP 13 := fun s m w rd rs n len => by kernel_rfl
theorem rl14 : rP 14 := fun s m w rd rs n len => by kernel_rfl
theorem rl15 : rP 15 := fun s m w rd rs n len => by kernel_rfl
theorem rl16 : rP 16 := fun s m w rd rs n len => by kernel_rfl
theorem rl17 : rP 17 := fun s m w rd rs n len => by kernel_rfl
theorem rl18 : rP 18 := fun s m w rd rs n len => by kernel_rfl
theorem rl19 : rP 19 := fun s m w rd rs n len => by kernel_rfl
theorem rl20 : rP 20 := fun s m w rd rs n len => by kernel_rfl
theorem rl21 : rP 21 := fun s m w rd rs n len => by kernel_rfl
theorem rl22 : rP 22 := fun s m w rd rs n len => by kernel_rfl
theorem rl23 : rP 23 := fun s m w rd rs n len => by kernel_rfl

end Go.Rv
end

section
set_option linter.unusedVariables false
open Go Go.Ev Go.Proofs
namespace Go.Rv

theorem rl24 : rP 24 := fun s m w rd rs n len => by kernel_rfl
theorem rl25 : rP 25 := fun s m w rd rs n len => by kernel_rfl
theorem rl26 : rP 26 := fun s m w rd rs n len => by kernel_rfl
theorem rl27 : rP 27 := fun s m w rd rs n len => by kernel_rfl
theorem rl28 : rP 28 := fun s m w rd rs n len => by kernel_rfl
theorem rl29 : rP 29 := fun s m w rd rs n len => by kernel_rfl
theorem rl30 : rP 30 := fun s m w rd rs n len => by kernel_rfl
theorem rl31 : rP 31 := fun s m w rd rs n len => by kernel_rfl
theorem rl32 : rP 32 := fun s m w rd rs n len => by kernel_rfl
theorem rl33 : rP 33 := fun s m w rd rs n len => by kernel_rfl
theorem rl34 : rP 34 := fun s m w rd rs n len => by kernel_rfl
theorem rl35 : rP 35 := fun s m w rd rs n len => by kernel_rfl
theorem rl36 : rP 36 := fun s m w rd rs n len => by kernel_rfl
theorem rl37 : rP 37 := fun s m w rd rs n len => by kernel_rfl
theorem rl38 : rP 38 := fun s m w rd rs n len => by kernel_rfl
theorem rl39 : rP 39 := fun s m w rd rs n len => by kernel_rfl
theorem rl40 : rP 40 := fun s m w rd rs n len => by kernel_rfl
theorem rl41 : rP 41 := fun s m w rd rs n len => by kernel_rfl
theorem rl42 : rP 42 := fun s m w rd rs n len => by kernel_rfl
theorem rl43 : rP 43 := fun s m w rd rs n len => by kernel_rfl
theorem rl44 : rP 44 := fun s m w rd rs n len => by kernel_rfl
theorem rl45 : rP 45 := fun s m w rd rs n len => by kernel_rfl
theorem rl46 : rP 46 := fun s m w rd rs n len => by kernel_rfl

end Go.Rv
end

section
set_option linter.unusedVariables false
open Go Go.Ev Go.Proofs
namespace Go.Rv

def inR (x : Int) : Prop := -9223372036854775808 ≤ x ∧ x < 9223372036854775808
theorem w44 : cm .eql 4 4 = true := rfl
theorem w84 : cm .eql 8 4 = false := rfl

theorem cut_msk {w x : Int} (hw : w = 4 ∨ w = 8) (hx : inR x) : cutD w x = conv .u64 (mskR w x) := by
  obtain ⟨h0, h1⟩ := hx
  rcases hw with rfl | rfl
  · simp only [cutD, mskR, w44, cond_true, conv, IntKind.wrap_u64, IntKind.wrap_u32, IntKind.wrap_i64]; omega
  · simp only [cutD, mskR, w84, cond_false]
theorem sgn_cut {w x : Int} (hw : w = 4 ∨ w = 8) (hx : inR x) : sgnD w (cutD w x) = sgnR w x := by
  obtain ⟨h0, h1⟩ := hx
  rcases hw with rfl | rfl
  · simp only [cutD, sgnD, sgnR, w44, cond_true, conv, IntKind.wrap_u64, IntKind.wrap_u32, IntKind.wrap_i64, IntKind.wrap_i32]; omega
  · simp only [cutD, sgnD, sgnR, w84, cond_false, conv, IntKind.wrap_u64, IntKind.wrap_i64]; omega
theorem msk_in {w x : Int} (hw : w = 4 ∨ w = 8) (hx : inR x) : inR (mskR w x) := by
  obtain ⟨h0, h1⟩ := hx
  rcases hw with rfl | rfl
  · simp only [inR, mskR, w44, cond_true, conv, IntKind.wrap_u32, IntKind.wrap_i64]; omega
  · simp only [inR, mskR, w84, cond_false]; omega
theorem msk_msk {w x : Int} (hw : w = 4 ∨ w = 8) : mskR w (mskR w x) = mskR w x := by
  rcases hw with rfl | rfl
  · simp only [mskR, w44, cond_true, conv, IntKind.wrap_u32, IntKind.wrap_i64]; omega
  · simp only [mskR, w84, cond_false]
/-- what is written -/
theorem put_msk {w x : Int} (hw : w = 4 ∨ w = 8) (hx : inR x) : putD w (conv .u64 (mskR w x)) = mskR w x := by
  obtain ⟨h0, h1⟩ := hx
  rcases hw with rfl | rfl
  · simp only [putD, cutD, mskR, w44, cond_true, conv, IntKind.wrap_u64, IntKind.wrap_u32, IntKind.wrap_i64]; omega
  · simp only [putD, cutD, mskR, w84, cond_false, conv, IntKind.wrap_u64, IntKind.wrap_i64]; omega
/-- of any number of the same bits -/
theorem put_of {w v x : Int} (hw : w = 4 ∨ w = 8) (hx : inR x) (h : conv .i64 v = x) : putD w v = mskR w x := by
  obtain ⟨h0, h1⟩ := hx
  rcases hw with rfl | rfl
  · simp only [putD, cutD, mskR, w44, cond_true, h]
    simp only [conv, IntKind.wrap_u64, IntKind.wrap_u32, IntKind.wrap_i64]; omega
  · simp only [putD, cutD, mskR, w84, cond_false, h]
    simp only [conv, IntKind.wrap_u64, IntKind.wrap_i64]; omega
theorem sgn_u {w x : Int} (hw : w = 4 ∨ w = 8) (hx : inR x) : sgnD w (conv .u64 (mskR w x)) = sgnR w (mskR w x) := by
  obtain ⟨h0, h1⟩ := hx
  rcases hw with rfl | rfl
  · simp only [mskR, sgnD, sgnR, w44, cond_true, conv, IntKind.wrap_u64, IntKind.wrap_u32, IntKind.wrap_i64, IntKind.wrap_i32]; omega
  · simp only [mskR, sgnD, sgnR, w84, cond_false, conv, IntKind.wrap_u64, IntKind.wrap_i64]; omega
theorem zero_u {w x : Int} (hw : w = 4 ∨ w = 8) (hx : inR x) : cm .eql (conv .u64 (mskR w x)) 0 = cm .eql (mskR w x) 0 := by
  rw [cm_eql', cm_eql']
  obtain ⟨h0, h1⟩ := hx
  have : (conv .u64 (mskR w x) = 0) = (mskR w x = 0) := by
    rcases hw with rfl | rfl
    · simp only [mskR, w44, cond_true, conv, IntKind.wrap_u64, IntKind.wrap_u32, IntKind.wrap_i64]; exact propext (by omega)
    · simp only [mskR, w84, cond_false, conv, IntKind.wrap_u64]; exact propext (by omega)
  simp only [this]
theorem add_in (a b : Int) : inR (ar .add .i64 a b) := by simp only [inR, ar, IntKind.wrap_i64]; omega
theorem sub_in (a b : Int) : inR (ar .sub .i64 a b) := by simp only [inR, ar, IntKind.wrap_i64]; omega
theorem mul_in (a b : Int) : inR (ar .mul .i64 a b) := by simp only [inR, ar, IntKind.wrap_i64]; omega
theorem conv_in (a : Int) : inR (conv .i64 a) := by simp only [inR, conv, IntKind.wrap_i64]; omega
theorem and_in (a b : Int) : inR (ar .and .i64 a b) := by simp only [inR, ar, IntKind.wrap_i64]; omega
theorem or_in (a b : Int) : inR (ar .or .i64 a b) := by simp only [inR, ar, IntKind.wrap_i64]; omega
theorem xor_in (a b : Int) : inR (ar .xor .i64 a b) := by simp only [inR, ar, IntKind.wrap_i64]; omega
theorem shl_in (a b : Int) : inR (ar .shl .i64 a b) := by simp only [inR, ar, IntKind.wrap_i64]; omega
theorem andNot_in (a b : Int) : inR (ar .andNot .i64 a b) := by simp only [inR, ar, IntKind.wrap_i64]; omega

theorem cut_add {w a b : Int} (hw : w = 4 ∨ w = 8) (ha : inR a) (hb : inR b) : cutD w (conv .i64 (ar .add .u64 (cutD w a) (cutD w b))) = conv .u64 (mskR w (ar .add .i64 a b)) := by
  obtain ⟨h0, h1⟩ := ha
  obtain ⟨h2, h3⟩ := hb
  rcases hw with rfl | rfl
  · simp only [cutD, mskR, w44, cond_true, conv, ar, IntKind.wrap_u64, IntKind.wrap_u32, IntKind.wrap_i64]; omega
  · simp only [cutD, mskR, w84, cond_false, conv, ar, IntKind.wrap_u64, IntKind.wrap_i64]; omega
theorem cut_sub {w a b : Int} (hw : w = 4 ∨ w = 8) (ha : inR a) (hb : inR b) : cutD w (conv .i64 (ar .sub .u64 (cutD w a) (cutD w b))) = conv .u64 (mskR w (ar .sub .i64 a b)) := by
  obtain ⟨h0, h1⟩ := ha
  obtain ⟨h2, h3⟩ := hb
  rcases hw with rfl | rfl
  · simp only [cutD, mskR, w44, cond_true, conv, ar, IntKind.wrap_u64, IntKind.wrap_u32, IntKind.wrap_i64]; omega
  · simp only [cutD, mskR, w84, cond_false, conv, ar, IntKind.wrap_u64, IntKind.wrap_i64]; omega
theorem cut_zero {w : Int} (hw : w = 4 ∨ w = 8) : cutD w 0 = 0 := by rcases hw with rfl | rfl <;> rfl

/-! products -/
theorem mul_mod (a b n : Int) : (a % n) * (b % n) % n = a * b % n := by rw [← Int.mul_emod]
theorem mul_mod2 (a b : Int) : (a % 4294967296) * (b % 4294967296) % 4294967296 = a * b % 4294967296 := by rw [← Int.mul_emod]
theorem put_mul {w a b : Int} (hw : w = 4 ∨ w = 8) : putD w (ar .mul .u64 (cutD w a) (cutD w b)) = mskR w (ar .mul .i64 a b) := by
  rcases hw with rfl | rfl
  · have e1 : conv .u64 (conv .u32 a) = a % 4294967296 := by simp only [conv, IntKind.wrap_u64, IntKind.wrap_u32]; omega
    have e2 : conv .u64 (conv .u32 b) = b % 4294967296 := by simp only [conv, IntKind.wrap_u64, IntKind.wrap_u32]; omega
    have h := mul_mod2 a b
    simp only [putD, cutD, mskR, w44, cond_true, e1, e2]
    simp only [ar, conv, IntKind.wrap_u64, IntKind.wrap_u32, IntKind.wrap_i64]
    generalize (a % 4294967296) * (b % 4294967296) = P at h ⊢
    generalize a * b = R at h ⊢
    omega
  · have h := mul_mod a b 18446744073709551616
    simp only [putD, cutD, mskR, w84, cond_false]
    simp only [ar, conv, IntKind.wrap_u64, IntKind.wrap_i64]
    generalize (a % 18446744073709551616) * (b % 18446744073709551616) = P at h ⊢
    generalize a * b = R at h ⊢
    omega

/-! bits -/
theorem ofInt_u64 (a : Int) : BitVec.ofInt 64 (conv .u64 a) = BitVec.ofInt 64 a := by
  apply BitVec.eq_of_toNat_eq
  simp only [BitVec.toNat_ofInt, conv, IntKind.wrap_u64]
  omega
theorem ofInt_u32 (a : Int) : (BitVec.ofInt 64 (conv .u64 (conv .u32 a))).toNat = (BitVec.ofInt 64 a).toNat % 2 ^ 32 := by
  simp only [BitVec.toNat_ofInt, conv, IntKind.wrap_u64, IntKind.wrap_u32]
  omega
theorem msk_int4 {x : Int} (h0 : 0 ≤ x) (h : x < 18446744073709551616) : conv .u64 (mskR 4 (IntKind.i64.wrap x)) = x % 4294967296 := by
  simp only [mskR, w44, cond_true, conv, IntKind.wrap_u64, IntKind.wrap_u32, IntKind.wrap_i64]; omega
theorem msk_int8 {x : Int} (h0 : 0 ≤ x) (h : x < 18446744073709551616) : conv .u64 (mskR 8 (IntKind.i64.wrap x)) = x := by
  simp only [mskR, w84, cond_false, conv, IntKind.wrap_u64, IntKind.wrap_i64]; omega
theorem lt_int {n : Nat} (h : n < 2 ^ 64) : (0 : Int) ≤ (n : Int) ∧ (n : Int) < 18446744073709551616 := by
  have : (2 : Nat) ^ 64 = 18446744073709551616 := by decide
  rw [this] at h
  omega
theorem msk_nat4 (n : Nat) (h : n < 2 ^ 64) : conv .u64 (mskR 4 (IntKind.i64.wrap (n : Int))) = ((n % 2 ^ 32 : Nat) : Int) := by
  rw [msk_int4 (lt_int h).1 (lt_int h).2]; rfl
theorem msk_nat8 (n : Nat) (h : n < 2 ^ 64) : conv .u64 (mskR 8 (IntKind.i64.wrap (n : Int))) = (n : Int) := msk_int8 (lt_int h).1 (lt_int h).2
theorem wrap_nat (n : Nat) (h : n < 2 ^ 64) : IntKind.u64.wrap (n : Int) = (n : Int) := by
  have := lt_int h
  simp only [IntKind.wrap_u64]; omega
theorem put_wrap4 {x y : Int} (h : x % 4294967296 = y % 4294967296) : putD 4 x = mskR 4 (IntKind.i64.wrap y) := by
  simp only [putD, cutD, mskR, w44, cond_true, conv, IntKind.wrap_u64, IntKind.wrap_u32, IntKind.wrap_i64]; omega
theorem put_wrap8 (x : Int) : putD 8 x = mskR 8 (IntKind.i64.wrap x) := by
  simp only [putD, cutD, mskR, w84, cond_false, conv, IntKind.wrap_u64, IntKind.wrap_i64]; omega
theorem and_cut {w a b : Int} (hw : w = 4 ∨ w = 8) : ar .and .u64 (cutD w a) (cutD w b) = conv .u64 (mskR w (ar .and .i64 a b)) := by
  have e1 : ∀ x y : Int, ar .and .u64 x y = IntKind.u64.wrap ((BitVec.ofInt 64 x &&& BitVec.ofInt 64 y).toNat : Int) := fun _ _ => rfl
  have e2 : ∀ x y : Int, ar .and .i64 x y = IntKind.i64.wrap ((BitVec.ofInt 64 x &&& BitVec.ofInt 64 y).toNat : Int) := fun _ _ => rfl
  rw [e1, e2, wrap_nat _ (BitVec.isLt _)]
  rcases hw with rfl | rfl
  · rw [msk_nat4 _ (BitVec.isLt _)]
    simp only [cutD, w44, cond_true, BitVec.toNat_and, ofInt_u32]
    congr 1
    apply Nat.eq_of_testBit_eq
    intro i
    simp only [Nat.testBit_and, Nat.testBit_mod_two_pow]
    cases decide (i < 32) <;> simp
  · rw [msk_nat8 _ (BitVec.isLt _)]
    simp only [cutD, w84, cond_false, ofInt_u64]
theorem or_cut {w a b : Int} (hw : w = 4 ∨ w = 8) : ar .or .u64 (cutD w a) (cutD w b) = conv .u64 (mskR w (ar .or .i64 a b)) := by
  have e1 : ∀ x y : Int, ar .or .u64 x y = IntKind.u64.wrap ((BitVec.ofInt 64 x ||| BitVec.ofInt 64 y).toNat : Int) := fun _ _ => rfl
  have e2 : ∀ x y : Int, ar .or .i64 x y = IntKind.i64.wrap ((BitVec.ofInt 64 x ||| BitVec.ofInt 64 y).toNat : Int) := fun _ _ => rfl
  rw [e1, e2, wrap_nat _ (BitVec.isLt _)]
  rcases hw with rfl | rfl
  · rw [msk_nat4 _ (BitVec.isLt _)]
    simp only [cutD, w44, cond_true, BitVec.toNat_or, ofInt_u32]
    congr 1
    apply Nat.eq_of_testBit_eq
    intro i
    simp only [Nat.testBit_or, Nat.testBit_mod_two_pow]
    cases decide (i < 32) <;> simp
  · rw [msk_nat8 _ (BitVec.isLt _)]
    simp only [cutD, w84, cond_false, ofInt_u64]
theorem xor_cut {w a b : Int} (hw : w = 4 ∨ w = 8) : ar .xor .u64 (cutD w a) (cutD w b) = conv .u64 (mskR w (ar .xor .i64 a b)) := by
  have e1 : ∀ x y : Int, ar .xor .u64 x y = IntKind.u64.wrap ((BitVec.ofInt 64 x ^^^ BitVec.ofInt 64 y).toNat : Int) := fun _ _ => rfl
  have e2 : ∀ x y : Int, ar .xor .i64 x y = IntKind.i64.wrap ((BitVec.ofInt 64 x ^^^ BitVec.ofInt 64 y).toNat : Int) := fun _ _ => rfl
  rw [e1, e2, wrap_nat _ (BitVec.isLt _)]
  rcases hw with rfl | rfl
  · rw [msk_nat4 _ (BitVec.isLt _)]
    simp only [cutD, w44, cond_true, BitVec.toNat_xor, ofInt_u32]
    congr 1
    apply Nat.eq_of_testBit_eq
    intro i
    simp only [Nat.testBit_xor, Nat.testBit_mod_two_pow]
    cases decide (i < 32) <;> simp
  · rw [msk_nat8 _ (BitVec.isLt _)]
    simp only [cutD, w84, cond_false, ofInt_u64]
theorem put_not {w a : Int} (hw : w = 4 ∨ w = 8) : putD w (ar .xor .u64 18446744073709551615 (cutD w a)) = mskR w (ar .xor .i64 (-1) a) := by
  have e1 : ∀ x y : Int, ar .xor .u64 x y = IntKind.u64.wrap ((BitVec.ofInt 64 x ^^^ BitVec.ofInt 64 y).toNat : Int) := fun _ _ => rfl
  have e2 : ∀ x y : Int, ar .xor .i64 x y = IntKind.i64.wrap ((BitVec.ofInt 64 x ^^^ BitVec.ofInt 64 y).toNat : Int) := fun _ _ => rfl
  have em : BitVec.ofInt 64 18446744073709551615 = BitVec.ofInt 64 (-1) := by decide
  rw [e1, e2, em, wrap_nat _ (BitVec.isLt _)]
  rcases hw with rfl | rfl
  · have key : (BitVec.ofInt 64 (-1) ^^^ BitVec.ofInt 64 (cutD 4 a)).toNat % 2 ^ 32 = (BitVec.ofInt 64 (-1) ^^^ BitVec.ofInt 64 a).toNat % 2 ^ 32 := by
      simp only [cutD, w44, cond_true, BitVec.toNat_xor, ofInt_u32]
      apply Nat.eq_of_testBit_eq
      intro i
      simp only [Nat.testBit_xor, Nat.testBit_mod_two_pow]
      cases decide (i < 32) <;> simp
    refine put_wrap4 ?_
    have := congrArg (fun n : Nat => (n : Int)) key
    simpa using this
  · simp only [cutD, w84, cond_false, ofInt_u64]
    exact put_wrap8 _

/-! shifts -/
theorem by_eq {w : Int} (hw : w = 4 ∨ w = 8) (m : M) : byD w m = byR w m := by
  have e1 : ∀ x y : Int, ar .and .u64 x y = IntKind.u64.wrap ((BitVec.ofInt 64 x &&& BitVec.ofInt 64 y).toNat : Int) := fun _ _ => rfl
  have h : ar .and .u64 (conv .u64 (m.X 1)) 255 = conv .u64 (conv .u8 (m.X 1)) := by
    rw [e1, wrap_nat _ (BitVec.isLt _), BitVec.toNat_and]
    have : (BitVec.ofInt 64 255).toNat = 2 ^ 8 - 1 := by decide
    rw [this, Nat.and_two_pow_sub_one_eq_mod, BitVec.toNat_ofInt]
    simp only [conv, IntKind.wrap_u64, IntKind.wrap_u8]
    omega
  unfold byD byR
  rw [h]
theorem by_rng {w : Int} (hw : w = 4 ∨ w = 8) (m : M) : ∃ k : Nat, byR w m = (k : Int) ∧ (k : Int) < 8 * w := by
  have h0 : 0 ≤ byR w m ∧ byR w m < 8 * w := by
    rw [← by_eq hw]
    have hc : 0 ≤ conv .u64 (conv .u8 (m.X 1)) := by simp only [conv, IntKind.wrap_u64, IntKind.wrap_u8]; omega
    have e : ∀ x y : Int, ar .rem .u64 x y = x.tmod y := fun _ _ => rfl
    have e8 : conv .u64 (ar .mul .i64 8 w) = 8 * w := by rcases hw with rfl | rfl <;> rfl
    unfold byD
    rw [e, e8, Int.tmod_eq_emod_of_nonneg hc]
    exact ⟨Int.emod_nonneg _ (by rcases hw with rfl | rfl <;> decide), Int.emod_lt_of_pos _ (by rcases hw with rfl | rfl <;> decide)⟩
  exact ⟨(byR w m).toNat, by omega, by omega⟩
theorem put_shl {w a : Int} (hw : w = 4 ∨ w = 8) (k : Nat) (hk : (k : Int) < 8 * w) : putD w (ar .shl .u64 (cutD w a) k) = mskR w (ar .shl .i64 a k) := by
  have e1 : ar .shl .u64 (cutD w a) k = IntKind.u64.wrap (cutD w a * 2 ^ k) := by
    show IntKind.u64.wrap (_ * 2 ^ min (k : Int).toNat 64) = _
    rw [Int.toNat_natCast, Nat.min_eq_left (by rcases hw with rfl | rfl <;> omega)]
  have e2 : ar .shl .i64 a k = IntKind.i64.wrap (a * 2 ^ k) := by
    show IntKind.i64.wrap (_ * 2 ^ min (k : Int).toNat 64) = _
    rw [Int.toNat_natCast, Nat.min_eq_left (by rcases hw with rfl | rfl <;> omega)]
  rw [e1, e2]
  generalize (2 : Int) ^ k = q
  rcases hw with rfl | rfl
  · have c : cutD 4 a = a % 4294967296 := by simp only [cutD, w44, cond_true, conv, IntKind.wrap_u64, IntKind.wrap_u32]; omega
    have h : (a % 4294967296 * q) % 4294967296 = a * q % 4294967296 := by rw [Int.mul_emod, Int.emod_emod, ← Int.mul_emod]
    rw [c]
    simp only [putD, cutD, mskR, w44, cond_true, conv, IntKind.wrap_u64, IntKind.wrap_u32, IntKind.wrap_i64]
    generalize a % 4294967296 * q = P at h ⊢
    generalize a * q = R at h ⊢
    omega
  · have c : cutD 8 a = a % 18446744073709551616 := by simp only [cutD, w84, cond_false, conv, IntKind.wrap_u64]
    have h : (a % 18446744073709551616 * q) % 18446744073709551616 = a * q % 18446744073709551616 := by rw [Int.mul_emod, Int.emod_emod, ← Int.mul_emod]
    rw [c]
    simp only [putD, cutD, mskR, w84, cond_false, conv, IntKind.wrap_u64, IntKind.wrap_i64]
    generalize a % 18446744073709551616 * q = P at h ⊢
    generalize a * q = R at h ⊢
    omega
theorem shr_nn {x : Int} (h0 : 0 ≤ x) (k : Nat) : 0 ≤ x.fdiv (2 ^ k) ∧ x.fdiv (2 ^ k) ≤ x := by
  rw [Int.fdiv_eq_ediv_of_nonneg _ (Int.le_of_lt (Int.pow_pos (by decide)))]
  exact ⟨Int.ediv_nonneg h0 (Int.le_of_lt (Int.pow_pos (by decide))), Int.ediv_le_self _ h0⟩
theorem put_shr {w a : Int} (hw : w = 4 ∨ w = 8) (ha : inR a) (k : Int) : putD w (ar .shr .u64 (cutD w a) k) = conv .i64 (ar .shr .u64 (conv .u64 (mskR w a)) k) := by
  rw [cut_msk hw ha]
  have e1 : ar .shr .u64 (conv .u64 (mskR w a)) k = (conv .u64 (mskR w a)).fdiv (2 ^ min k.toNat 64) := rfl
  rw [e1]
  have hr : 0 ≤ conv .u64 (mskR w a) ∧ conv .u64 (mskR w a) < 18446744073709551616 ∧ (w = 4 → conv .u64 (mskR w a) < 4294967296) := by
    rcases hw with rfl | rfl
    · simp only [mskR, w44, cond_true, conv, IntKind.wrap_u64, IntKind.wrap_u32, IntKind.wrap_i64]; omega
    · simp only [mskR, w84, cond_false, conv, IntKind.wrap_u64]; omega
  generalize conv .u64 (mskR w a) = v at hr
  obtain ⟨q0, q1⟩ := shr_nn hr.1 (min k.toNat 64)
  generalize v.fdiv (2 ^ min k.toNat 64) = z at q0 q1
  rcases hw with rfl | rfl
  · have := hr.2.2 rfl
    simp only [putD, cutD, w44, cond_true, conv, IntKind.wrap_u64, IntKind.wrap_u32, IntKind.wrap_i64]; omega
  · simp only [putD, cutD, w84, cond_false, conv, IntKind.wrap_u64, IntKind.wrap_i64]; omega
theorem shr_in {x : Int} (hx : inR x) (k : Int) : inR (ar .shr .i64 x k) := by
  have e : ar .shr .i64 x k = x.fdiv (2 ^ min k.toNat 64) := rfl
  have hp : (0 : Int) < 2 ^ min k.toNat 64 := Int.pow_pos (by decide)
  rw [e, Int.fdiv_eq_ediv_of_nonneg _ (Int.le_of_lt hp)]
  generalize (2 : Int) ^ min k.toNat 64 = p at hp
  obtain ⟨h0, h1⟩ := hx
  by_cases hn : 0 ≤ x
  · have a := Int.ediv_nonneg hn (Int.le_of_lt hp)
    have b := Int.ediv_le_self p hn
    exact ⟨by omega, by omega⟩
  · have a : x / p < 0 := Int.ediv_neg_of_neg_of_pos (by omega) hp
    have b : x ≤ x / p := by
      rw [Int.le_ediv_iff_mul_le hp]
      have : x * p ≤ x * 1 := Int.mul_le_mul_of_nonpos_left (by omega) (by omega)
      omega
    exact ⟨by omega, by omega⟩
theorem sgn_in {w x : Int} (hw : w = 4 ∨ w = 8) (hx : inR x) : inR (sgnR w x) := by
  obtain ⟨h0, h1⟩ := hx
  rcases hw with rfl | rfl
  · simp only [inR, sgnR, w44, cond_true, conv, IntKind.wrap_i32, IntKind.wrap_i64]; omega
  · simp only [inR, sgnR, w84, cond_false]; omega
theorem conv_uu {x : Int} (hx : inR x) : conv .i64 (conv .u64 x) = x := by
  obtain ⟨h0, h1⟩ := hx
  simp only [conv, IntKind.wrap_u64, IntKind.wrap_i64]; omega
theorem put_sar {w a : Int} (hw : w = 4 ∨ w = 8) (ha : inR a) (k : Int) : putD w (conv .u64 (ar .shr .i64 (sgnD w (cutD w a)) k)) = mskR w (ar .shr .i64 (sgnR w a) k) := by
  rw [sgn_cut hw ha]
  have h := shr_in (sgn_in hw ha) k
  exact put_of hw h (conv_uu h)
theorem or_zero {a : Int} (ha : inR a) : ar .or .i64 a 0 = a := by
  have e2 : ar .or .i64 a 0 = IntKind.i64.wrap ((BitVec.ofInt 64 a ||| BitVec.ofInt 64 0).toNat : Int) := rfl
  have z : BitVec.ofInt 64 0 = 0#64 := by decide
  obtain ⟨h0, h1⟩ := ha
  rw [e2, z, BitVec.or_zero, BitVec.toNat_ofInt, IntKind.wrap_i64]
  omega
theorem wrap_i16' (n : Int) : IntKind.i16.wrap n = (n + 32768) % 65536 - 32768 := by
  simp only [IntKind.wrap, IntKind.signed, IntKind.bits, if_true]
  simp; split <;> omega
theorem wrap_i8' (n : Int) : IntKind.i8.wrap n = (n + 128) % 256 - 128 := by
  simp only [IntKind.wrap, IntKind.signed, IntKind.bits, if_true]
  simp; split <;> omega
theorem ld_eq (K : Nat) (x : Int) : ldD K x = ldM K x := by
  by_cases h1 : K = 28
  · subst h1
    simp only [ldD, ldM, conv, IntKind.wrap_u64, IntKind.wrap_i64, IntKind.wrap_i32]; omega
  by_cases h2 : K = 29
  · subst h2
    simp only [ldD, ldM, conv, IntKind.wrap_u64, IntKind.wrap_i64, wrap_i16']; omega
  by_cases h3 : K = 30
  · subst h3
    simp only [ldD, ldM, conv, IntKind.wrap_u64, IntKind.wrap_i64, wrap_i8']; omega
  have e1 : ldD K x = conv .i64 x := by unfold ldD; split <;> first | contradiction | rfl
  have e2 : ldM K x = conv .i64 x := by unfold ldM; split <;> first | contradiction | rfl
  rw [e1, e2]

end Go.Rv
end
