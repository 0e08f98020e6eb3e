/-
  rvm: the loops of both Runs come to the same machine.
-/
import Derived.Test.YtngponflocmgiaaC14
set_option linter.unusedSimpArgs false
set_option linter.unusedVariables false
section
set_option linter.unusedVariables false
open Go Go.Ev Go.Proofs
namespace Go.Rv

theorem stepsM_run {s : ByteArray} {m : M} : ∀ j, (∀ i, i < j → (runM s i m).kind = 0) → stepsM s j m = j
  | 0, _ => rfl
  | j + 1, h => by
    have e : cm .eql (runM s j m).kind 0 = true := by rw [h j (by omega)]; rfl
    simp only [stepsM, e, cond_true, stepsM_run j fun i hi => h i (by omega)]
theorem run_end {s : ByteArray} {m : M} {j : Nat} (h : (runM s j m).kind ≠ 0) : ∀ t, runM s (j + t) m = runM s j m
  | 0 => rfl
  | t + 1 => by
    have ih := run_end h t
    show stepM s (runM s (j + t) m) = _
    rw [ih, stepM_end h]
theorem steps_end {s : ByteArray} {m : M} {j : Nat} (h : (runM s j m).kind ≠ 0) : ∀ t, stepsM s (j + t) m = stepsM s j m
  | 0 => rfl
  | t + 1 => by
    have ih := steps_end h t
    have hr := run_end h t
    show (bif cm .eql (runM s (j + t) m).kind 0 then stepsM s (j + t) m + 1 else stepsM s (j + t) m) = _
    have e : cm .eql (runM s (j + t) m).kind 0 = false := by rw [hr]; simp [cm, h]
    rw [e, cond_false, ih]

theorem runM_pc {s : ByteArray} {m : M} (h : inR m.pc) : ∀ j, inR (runM s j m).pc
  | 0 => h
  | j + 1 => stepM_pc (runM_pc h j)
theorem runM_ms {s : ByteArray} {m : M} {fuel : Int} (h : MS m) {j : Nat} (hj : (j : Int) ≤ fuel) (hn : (m.nO : Int) + fuel < 1000000) : MS (runM s j m) := by
  have := runM_nO s m j
  have := runM_nI s m j
  have := h.nI
  exact ⟨runM_mv h.mv j, runM_pc h.pc j, by omega, by omega⟩

structure X25 where
  s : ByteArray
  n : Nat
  c : Ca
  m : M
  m0 : M
  b : Bool
  fuel : Nat
  j : Nat
def ok25 (x : X25) : Prop := RunG x.s x.n x.c x.m x.fuel ∧ x.j ≤ x.fuel ∧ ∀ i, i < x.j → (runM x.s i x.m).kind = 0
def vs25 (x : X25) : List SV := v25 x.fuel x.j
def hp25 (x : X25) : Heap := h25 x.s x.n x.c (runM x.s x.j x.m) x.m0 x.b
def out25 (x : X25) : Vw := .exit 0 41 [.any, .ptr 1040 0 0, .int false .i64 (stepsM x.s x.fuel x.m), .any] (hX25 (runM x.s x.fuel x.m) x.m0 x.b)

theorem unH25_wk {H : Heap} {nn : List Bool} {s : ByteArray} {n : Nat} {c : Ca} {m m0 : M} {b : Bool} (h : unH25 H = some (nn, s, n, c, m, m0, b)) (hn : allB nn = true) : wkH (rmap []) H (h25 s n c m m0 b) := by
  unfold unH25 at h
  split at h
  · rename_i q1 q2 q3 q4 q5 q6 q7 q8 q9 q10 q11
    simp only [Option.some.injEq, Prod.mk.injEq] at h
    obtain ⟨rfl, rfl, rfl, rfl, rfl, rfl, rfl⟩ := h
    simp only [allB, Bool.and_true, Bool.and_eq_true, Nat.beq_eq] at hn
    obtain ⟨rfl, rfl, rfl, rfl, rfl, rfl, rfl, rfl, rfl, rfl, rfl, rfl, rfl, rfl⟩ := hn
    simp [wkH, h25, hX25, hF, cpuL, Ca.cols, rmap, rlook, q1, q2, q3, q4, q5, q6, q7, q8, q9, q10, q11, wkB, simL, sim, wkCs, wkC]
  · cases h

theorem entry25 (l : List SV) (H : Heap) (T : Tr) (h : lp25.get l H = some T) (hb : T.leaf ≠ .bad) : ∃ x r, ok25 x ∧ WkV r lp25.nm l H (vs25 x) (hp25 x) ∧ T.leaf = toLf lp25 (out25 x) := by
  replace h : get25 l H = some T := h
  unfold get25 at h
  split at h
  · rename_i _ fuel kx rx cx _ j kp rp cp
    split at h
    · rename_i nn s n c m m0 b hu
      simp only [Option.some.injEq] at h
      subst h
      obtain ⟨hn, he⟩ := needs_ne hb
      rw [he]
      rw [allB_append] at hn
      simp only [allB, Bool.and_eq_true, Bool.and_true, decide_eq_true_eq, Nat.beq_eq, runB_iff] at hn
      obtain ⟨⟨rfl, rfl, rfl, rfl, rfl, rfl, rfl, hg⟩, hnn⟩ := hn
      obtain ⟨f, rfl⟩ : ∃ f : Nat, fuel = (f : Int) := ⟨fuel.toNat, by have := hg.lo; omega⟩
      refine ⟨⟨s, n, c, m, m0, b, f, 0⟩, [], ⟨hg, Nat.zero_le _, fun i (hi : i < 0) => absurd hi (Nat.not_lt_zero i)⟩, ⟨rfl, ?_, unH25_wk hu hnn, rfl, rfl⟩, ?_⟩
      · simp [vs25, v25, wkF, wkS, sim, rmap, rlook]
      · simp only [exitT_leaf, out25, Int.toNat_natCast]
        rfl
    · cases h
  · cases h

theorem hN25_wk (s : ByteArray) (n : Nat) (c : Ca) (m m0 : M) (b : Bool) : wkH (rmap [(1298, .old 2144), (1299, .old 2145)]) (hN25 s n c m m0 b) (h25 s n c m m0 b) := by
  simp [wkH, hN25, h25, hX25, hF, cpuL, Ca.cols, rmap, rlook, Ev.look, wkB, simL, sim, wkCs, wkC]
theorem h25_X (s : ByteArray) (n : Nat) (c : Ca) (m m0 : M) (b : Bool) : wkH (rmap []) (h25 s n c m m0 b) (hX25 m m0 b) := by
  simp [wkH, h25, hX25, hF, cpuL, Ca.cols, rmap, rlook, Ev.look, wkB, simL, sim, wkCs, wkC]

attribute [local irreducible] evalB Tr.view runM stepM nextC in
theorem round25 (x : X25) (hx : ok25 x) : Round lp25 ok25 (fun x => x.fuel - x.j) vs25 hp25 out25 x ((evalB ET Try.prog Try.f25.results.toList (loopOf Try.f25 0) (0 + 1) lp25 (vs25 x) (hp25 x)).view lp25.ks) := by
  obtain ⟨s, n, c, m, m0, b, fuel, j⟩ := x
  obtain ⟨hg, hj, hk⟩ := hx
  simp only at hg hj hk
  have hr := r25 s n c (runM s j m) m0 b fuel j
  rw [show evalB ET Try.prog Try.f25.results.toList (loopOf Try.f25 0) (0 + 1) lp25 (vs25 ⟨s, n, c, m, m0, b, fuel, j⟩) (hp25 ⟨s, n, c, m, m0, b, fuel, j⟩) = evalB ET Try.prog Try.f25.results.toList (loopOf Try.f25 0) 1 lp25 (v25 fuel j) (h25 s n c (runM s j m) m0 b) from rfl, show lp25.ks = [2, 6, 7, 9] from rfl, hr]
  have hms := runM_ms (s := s) hg.ms (show (j : Int) ≤ fuel by omega) hg.nO
  have hsmall : j < 9223372036854775807 := by have := hg.hi; omega
  have hrun : runM s (j + 1) m = stepM s (runM s j m) := by with_unfolding_all rfl
  by_cases hc : j < fuel ∧ (runM s j m).kind = 0
  · obtain ⟨h1, h2⟩ := hc
    have e1 : cm .lss (j : Int) (fuel : Int) = true := by rw [cm_lss']; exact decide_eq_true (by omega)
    have e2 : cm .eql (runM s j m).kind 0 = true := by rw [h2]; rfl
    have hst : StG s n c (runM s j m) := stG_of hms hg.size h2 hg.len hg.ca
    rw [e1, e2, cond_true, cond_true, stB_iff.2 hst, beq_t, beq_t, beq_t, cond_true, cond_true, cond_true, cond_true, addOne hsmall, ← hrun]
    refine ⟨rfl, ⟨s, n, nextC s n c (runM s j m), m, m0, b, fuel, j + 1⟩, [(1298, .old 2144), (1299, .old 2145)], ⟨⟨hg.ms, hg.size, hg.len, nextC_ok hst, hg.lo, hg.hi, hg.nO⟩, h1, fun i (hi : i < j + 1) => ?_⟩, by show fuel - (j + 1) < fuel - j; omega, rfl, rfl, ?_, hN25_wk _ _ _ _ _ _, rfl, rfl⟩
    · by_cases hij : i = j
      · subst hij; exact h2
      · exact hk i (by omega)
    · simp [vs25, v25, wkF, wkS, sim, rmap, rlook]
  · have e : (bif cm .lss (j : Int) (fuel : Int) then cm .eql (runM s j m).kind 0 else false) = false := by
      by_cases h1 : j < fuel
      · have h2 : (runM s j m).kind ≠ 0 := fun h => hc ⟨h1, h⟩
        have e2 : cm .eql (runM s j m).kind 0 = false := by simp [cm, h2]
        rw [e2]; cases cm .lss (j : Int) (fuel : Int) <;> rfl
      · have e1 : cm .lss (j : Int) (fuel : Int) = false := by rw [cm_lss']; exact decide_eq_false (by omega)
        rw [e1]; rfl
    rw [e, cond_false]
    have hend : runM s fuel m = runM s j m ∧ stepsM s fuel m = j := by
      by_cases h1 : j < fuel
      · have h2 : (runM s j m).kind ≠ 0 := fun h => hc ⟨h1, h⟩
        obtain ⟨t, rfl⟩ : ∃ t, fuel = j + t := ⟨fuel - j, by omega⟩
        exact ⟨run_end h2 t, (steps_end h2 t).trans (stepsM_run j hk)⟩
      · obtain rfl : j = fuel := by omega
        exact ⟨rfl, stepsM_run j hk⟩
    refine ⟨rfl, [.any, .ptr 1040 0 0, .int false .i64 j, .any], hX25 (runM s j m) m0 b, [], ?_, rfl, ?_, h25_X _ _ _ _ _ _, rfl, rfl⟩
    · simp only [out25, hend.1, hend.2]
      rfl
    · simp [v25, wkF, wkS, sim, rmap, rlook]

theorem e25_calls : CallsOk E25 Try.prog := fun f args H nm r h hn => et_calls f args H nm r h hn
attribute [local irreducible] evalB Tr.view in
theorem loop25 : LoopOk E25 Try.prog Try.f25 0 (loopOf Try.f25 0) :=
  loop_okE mixed (fun S => rfl) (by decide) ok25 (fun x => x.fuel - x.j) vs25 hp25 out25 entry25 fun x hx => ⟨ET, et_calls, loops_noLoop et_loop _ _, round25 x hx⟩
theorem fn25 : Try.prog.funcs[25]? = some Try.f25 := by kernel_rfl
theorem b25 : Try.f25.body = some (bodyOf Try.f25) := by kernel_rfl
theorem n25 : (Try.f25.name == "runtime.NumGoroutine") = false := by kernel_rfl
theorem nl25 : Code.loops (bodyOf Try.f25) = 1 := by kernel_rfl
theorem nth25 : nthLoop (bodyOf Try.f25) 0 = some (loopOf Try.f25 0) := by kernel_rfl
theorem loops25 : LoopsOk E25 Try.prog Try.f25 (bodyOf Try.f25) 0 := loops1 nl25 fun a ha => by
  rw [nth25] at ha
  simp only [Option.some.injEq] at ha
  subst ha
  exact loop25

/-! the page's -/
structure X27 where
  s : ByteArray
  m : M
  fuel : Nat
  j : Nat
def ok27 (x : X27) : Prop := RunG x.s (x.s.size / 4) noC x.m x.fuel ∧ x.j ≤ x.fuel ∧ ∀ i, i < x.j → (runM x.s i x.m).kind = 0
def vs27 (x : X27) : List SV := v27 x.s x.fuel x.j
def hp27 (x : X27) : Heap := h27 (runM x.s x.j x.m)
def out27 (x : X27) : Vw := .exit 0 24 [.any, .any, .any, .int false .i64 (stepsM x.s x.fuel x.m)] (h27 (runM x.s x.fuel x.m))

theorem unM_27 {H : Heap} {nn : List Bool} {m : M} (h : unM true true true H = some (nn, m)) (hn : allB nn = true) : wkH (rmap [(1998, .old 3), (1999, .old 4)]) H (h27 m) := by
  unfold unM at h
  split at h
  · rename_i j0 _ pc k1 n1 _ zf _ sf _ cf _ of_ k2 n2 k3 n3 k4 n4 _ kind _ code j1 t1 X rw1 j2 t2 mem rw2 j3 t3 inp rw3 j4 t4 out rw4
    split at h
    · rename_i hr hb
      simp only [Option.some.injEq, Prod.mk.injEq] at h
      obtain ⟨rfl, rfl⟩ := h
      simp only [Bool.and_eq_true, Nat.beq_eq] at hb
      obtain ⟨rfl, rfl, rfl, rfl, rfl, rfl, rfl, rfl, rfl, rfl, rfl, rfl, rfl⟩ := hb
      simp only [allB, Bool.and_true, Bool.and_eq_true, Nat.beq_eq] at hn
      obtain ⟨rfl, rfl⟩ := hn
      simp at hr
      obtain ⟨rfl, rfl, rfl⟩ := hr
      simp [wkH, h27, cpuL, rmap, rlook, Ev.look, wkB, simL, sim, wkCs, wkC]
    · cases h
  · cases h

theorem entry27 (l : List SV) (H : Heap) (T : Tr) (h : lp27.get l H = some T) (hb : T.leaf ≠ .bad) : ∃ x r, ok27 x ∧ WkV r lp27.nm l H (vs27 x) (hp27 x) ∧ T.leaf = toLf lp27 (out27 x) := by
  replace h : get27 l H = some T := h
  unfold get27 at h
  split at h
  · rename_i s kx rx cx _ fuel _ j
    split at h
    · rename_i nn m hu
      simp only [Option.some.injEq] at h
      subst h
      obtain ⟨hn, he⟩ := needs_ne hb
      rw [he]
      rw [allB_append] at hn
      simp only [allB, Bool.and_eq_true, Bool.and_true, decide_eq_true_eq, Nat.beq_eq, run2B, runB_iff] at hn
      obtain ⟨⟨rfl, rfl, rfl, rfl, hg⟩, hnn⟩ := hn
      obtain ⟨f, rfl⟩ : ∃ f : Nat, fuel = (f : Int) := ⟨fuel.toNat, by have := hg.lo; omega⟩
      refine ⟨⟨s, m, f, 0⟩, [(1998, .old 3), (1999, .old 4)], ⟨hg, Nat.zero_le _, fun i (hi : i < 0) => absurd hi (Nat.not_lt_zero i)⟩, ⟨rfl, ?_, unM_27 hu hnn, rfl, rfl⟩, ?_⟩
      · simp [vs27, v27, wkF, wkS, sim, rmap, rlook]
      · simp only [exitT_leaf, out27, Int.toNat_natCast]
        rfl
    · cases h
  · cases h

theorem hN27_wk (m : M) : wkH (rmap [(1998, .old 2192), (1999, .old 2193)]) (hN27 m) (h27 m) := by
  simp [wkH, hN27, h27, cpuL, rmap, rlook, Ev.look, wkB, simL, sim, wkCs, wkC]
theorem h27_self (m : M) : wkH (rmap []) (h27 m) (h27 m) := by
  simp [wkH, h27, cpuL, rmap, rlook, Ev.look, wkB, simL, sim, wkCs, wkC]

attribute [local irreducible] evalB Tr.view runM stepM in
theorem round27 (x : X27) (hx : ok27 x) : Round lp27 ok27 (fun x => x.fuel - x.j) vs27 hp27 out27 x ((evalB E20s Try.prog Try.f27.results.toList (loopOf Try.f27 0) (0 + 1) lp27 (vs27 x) (hp27 x)).view lp27.ks) := by
  obtain ⟨s, m, fuel, j⟩ := x
  obtain ⟨hg, hj, hk⟩ := hx
  simp only at hg hj hk
  have hr := r27 s (runM s j m) fuel j
  rw [show evalB E20s Try.prog Try.f27.results.toList (loopOf Try.f27 0) (0 + 1) lp27 (vs27 ⟨s, m, fuel, j⟩) (hp27 ⟨s, m, fuel, j⟩) = evalB E20s Try.prog Try.f27.results.toList (loopOf Try.f27 0) 1 lp27 (v27 s fuel j) (h27 (runM s j m)) from rfl, show lp27.ks = [0, 1, 2, 7] from rfl, hr]
  have hms := runM_ms (s := s) hg.ms (show (j : Int) ≤ fuel by omega) hg.nO
  have hsmall : j < 9223372036854775807 := by have := hg.hi; omega
  have hrun : runM s (j + 1) m = stepM s (runM s j m) := by with_unfolding_all rfl
  by_cases hc : j < fuel ∧ (runM s j m).kind = 0
  · obtain ⟨h1, h2⟩ := hc
    have e1 : cm .lss (j : Int) (fuel : Int) = true := by rw [cm_lss']; exact decide_eq_true (by omega)
    have e2 : cm .eql (runM s j m).kind 0 = true := by rw [h2]; rfl
    have e3 : goodB (runM s j m) = true := goodB_iff.2 ⟨hms.mv.mx.X, hms.mv.mx.mem, hms.nO⟩
    have e4 : sizeB s = true := sizeB_iff.2 (by have := hg.size; omega)
    rw [e1, e2, cond_true, cond_true, e3, e4, beq_t, beq_t, cond_true, cond_true, cond_true, cond_true, addOne hsmall, ← hrun]
    refine ⟨rfl, ⟨s, m, fuel, j + 1⟩, [(1998, .old 2192), (1999, .old 2193)], ⟨hg, h1, fun i (hi : i < j + 1) => ?_⟩, by show fuel - (j + 1) < fuel - j; omega, rfl, rfl, ?_, hN27_wk _, rfl, rfl⟩
    · by_cases hij : i = j
      · subst hij; exact h2
      · exact hk i (by omega)
    · simp [vs27, v27, wkF, wkS, sim, rmap, rlook]
  · have e : (bif cm .lss (j : Int) (fuel : Int) then cm .eql (runM s j m).kind 0 else false) = false := by
      by_cases h1 : j < fuel
      · have h2 : (runM s j m).kind ≠ 0 := fun h => hc ⟨h1, h⟩
        have e2 : cm .eql (runM s j m).kind 0 = false := by simp [cm, h2]
        rw [e2]; cases cm .lss (j : Int) (fuel : Int) <;> rfl
      · have e1 : cm .lss (j : Int) (fuel : Int) = false := by rw [cm_lss']; exact decide_eq_false (by omega)
        rw [e1]; rfl
    rw [e, cond_false]
    have hend : runM s fuel m = runM s j m ∧ stepsM s fuel m = j := by
      by_cases h1 : j < fuel
      · have h2 : (runM s j m).kind ≠ 0 := fun h => hc ⟨h1, h⟩
        obtain ⟨t, rfl⟩ : ∃ t, fuel = j + t := ⟨fuel - j, by omega⟩
        exact ⟨run_end h2 t, (steps_end h2 t).trans (stepsM_run j hk)⟩
      · obtain rfl : j = fuel := by omega
        exact ⟨rfl, stepsM_run j hk⟩
    refine ⟨rfl, [.any, .any, .any, .int false .i64 j], h27 (runM s j m), [], ?_, rfl, ?_, h27_self _, rfl, rfl⟩
    · simp only [out27, hend.1, hend.2]
      rfl
    · simp [v27, wkF, wkS, sim, rmap, rlook]

theorem e20s_calls : CallsOk E20s Try.prog := (SpecsOk.cons spec20 SpecsOk.nil).calls noLoop
theorem e20s_loop : E20s.loop = noLoop := rfl
theorem e27_calls : CallsOk E27 Try.prog := fun f args H nm r h hn => e20s_calls f args H nm r h hn
attribute [local irreducible] evalB Tr.view in
theorem loop27 : LoopOk E27 Try.prog Try.f27 0 (loopOf Try.f27 0) :=
  loop_okE mixed (fun S => rfl) (by decide) ok27 (fun x => x.fuel - x.j) vs27 hp27 out27 entry27 fun x hx => ⟨E20s, e20s_calls, loops_noLoop e20s_loop _ _, round27 x hx⟩
theorem fn27 : Try.prog.funcs[27]? = some Try.f27 := by kernel_rfl
theorem b27 : Try.f27.body = some (bodyOf Try.f27) := by kernel_rfl
theorem n27 : (Try.f27.name == "runtime.NumGoroutine") = false := by kernel_rfl
theorem nl27 : Code.loops (bodyOf Try.f27) = 1 := by kernel_rfl
theorem nth27 : nthLoop (bodyOf Try.f27) 0 = some (loopOf Try.f27 0) := by kernel_rfl
theorem loops27 : LoopsOk E27 Try.prog Try.f27 (bodyOf Try.f27) 0 := loops1 nl27 fun a ha => by
  rw [nth27] at ha
  simp only [Option.some.injEq] at ha
  subst ha
  exact loop27

end Go.Rv
end

section
set_option linter.unusedVariables false
open Go Go.Ev Go.Proofs
namespace Go.Rv

/-! rvm.Run -/
noncomputable def runLf (s : ByteArray) (m : M) (fuel : Int) (b : Bool) : Lf :=
  bx (isB m) (bif (bif !mayB s m then true else bif cm .lss fuel 0 then true else cm .gtr fuel 2000000) then .ret (.tup [.agg zeroV, .int true .i64 0, .int true .i64 1]) (hF m b) else
    bx (Nat.beq m.nI m.nI) (bx (Nat.ble m.nI 100000000) (bx (Nat.beq m.nO m.nO) (bx (Nat.ble m.nO 100000000)
      (bx (decide (0 ≤ ar .quo .i64 (s.size : Int) 4)) (bx (decide (ar .quo .i64 (s.size : Int) 4 ≤ ar .quo .i64 (s.size : Int) 4)) (bx (Nat.ble (nWd s * 40) 140737488355328) (bx (Nat.ble (nWd s) 140737488355328)
        (bx (runB s (nWd s) noC m fuel) (bx (Nat.beq (nWd s) (nWd s)) (bx (Nat.beq m.nI m.nI) (bx (Nat.beq m.nO m.nO)
          (.ret (.tup [.agg (cpuL (runM s fuel.toNat m) 1296 1297 1298 1299), .int false .i64 (stepsM s fuel.toNat m), .int true .i64 0])
            (hF m b ++ [(1296, .tab 32 [.ints .i64 (runM s fuel.toNat m).X] true), (1297, .tab 196608 [.ints .u8 (runM s fuel.toNat m).mem] true), (1298, .tab (runM s fuel.toNat m).nI [.ints .i64 (runM s fuel.toNat m).inp] false), (1299, .tab (runM s fuel.toNat m).nO [.ints .i64 (runM s fuel.toNat m).out] true)]))))))))))))))
def ks25 : List Nat := [0, 1, 2, 3, 1296, 1297, 1298, 1299]
theorem l25t (s : ByteArray) (m : M) (fuel : Int) : (evalF E25 Try.prog 25 [.str s, .agg (cpuL m 0 1 2 3), .int false .i64 fuel] (hF m true) 1024).retH ks25 = runLf s m fuel true := by kernel_rfl
theorem l25f (s : ByteArray) (m : M) (fuel : Int) : (evalF E25 Try.prog 25 [.str s, .agg (cpuL m 0 1 2 3), .int false .i64 fuel] (hF m false) 1024).retH ks25 = runLf s m fuel false := by kernel_rfl

def out25R (nn : List Bool) (b : Bool) (m0 m : M) (n : Nat) : R := ⟨nn, .tup [.agg (cpuL m 1024 1025 1026 1027), .int false .i64 n, .int false .i64 0], hF m0 b ++ [(1024, .tab 32 [.ints .i64 m.X] true), (1025, .tab 196608 [.ints .u8 m.mem] true), (1026, .tab m.nI [.ints .i64 m.inp] false), (1027, .tab m.nO [.ints .i64 m.out] true)]⟩
/-- a run that may be, from the begin -/
noncomputable def goB (s : ByteArray) (m : M) (fuel : Int) : Bool := runB s (s.size / 4) noC m fuel
theorem goB_iff {s : ByteArray} {m : M} {fuel : Int} : goB s m fuel = true ↔ RunG s (s.size / 4) noC m fuel := runB_iff

attribute [local irreducible] evalF Tr.retH Tr.leaf runM stepsM in
theorem run25 {s : ByteArray} {m : M} {fuel : Int} (h : RunG s (s.size / 4) noC m fuel) (nn : List Bool) (b : Bool) : GivesD (out25R nn b m (runM s fuel.toNat m) (stepsM s fuel.toNat m)) (runLf s m fuel b) := by
  have hs := h.size
  have e2 := nWd_eq hs
  have e3 : nWd s = s.size / 4 := by unfold nWd; rw [e2]; omega
  have e4 : cm .lss fuel 0 = false := by rw [cm_lss']; exact decide_eq_false (by have := h.lo; omega)
  have e5 : cm .gtr fuel 2000000 = false := by simp only [cm]; exact decide_eq_false (by have := h.hi; omega)
  unfold runLf
  rw [bx_true (isB_t m), mayB_t h.ms.mv hs, Bool.not_true, cond_false, e4, e5, cond_false, cond_false, bx_true (beq_t _), bx_true (ble_t h.ms.nI), bx_true (beq_t _), bx_true (ble_t (show m.nO ≤ 100000000 by have := h.ms.nO; omega)),
    e2, bx_true (dec_true (by omega)), bx_true (dec_true (by omega)), e3, bx_true (ble_t (by omega)), bx_true (ble_t (by omega)), bx_true (runB_iff.2 h), bx_true (beq_t _), bx_true (beq_t _), bx_true (beq_t _)]
  refine ⟨[(1024, .old 1296), (1025, .old 1297), (1026, .old 1298), (1027, .old 1299)], rfl, sim_den _ _ ?_, ?_, rfl⟩
  · simp [out25R, cpuL, sim, simL, rmap, rlook]
  · simp [out25R, hF, wkH, cpuL, rmap, rlook, Ev.look, wkB, simL, sim, wkCs, wkC]

noncomputable def g25 : List SV → Heap → Option R
  | [.str s, .agg l, .int _ .i64 fuel], H => match unV l H with
    | some (nn, m, b) => some (out25R (goB s m fuel :: nn) b m (runM s fuel.toNat m) (stepsM s fuel.toNat m))
    | none => none
  | _, _ => none
attribute [local irreducible] evalF Tr.retH Tr.leaf runM stepsM in
theorem spec25 : SpecOk Try.prog 25 (specOf g25) := spec_okU false mixed fn25 b25 n25 g25 fun a0 H0 r hg hn => by
  unfold g25 at hg
  split at hg
  · rename_i s l _ fuel
    split at hg
    · rename_i nn m b hm
      simp only [Option.some.injEq] at hg
      subst hg
      simp only [out25R, allB, Bool.and_eq_true, goB_iff] at hn
      obtain ⟨h1, hnn⟩ := hn
      obtain ⟨rfl, rfl⟩ := unV_all hm hnn
      refine ⟨E25, [.str s, .agg (cpuL m 0 1 2 3), .int false .i64 fuel], [0, 1, 2, 3], e25_calls, loops25, fun h => h, fun σ => by simp only [denL, den], subN rfl, ?_⟩
      rw [roH_hF]
      cases b with
      | true => exact gives_retH _ (l25t s m fuel) (run25 h1 _ _)
      | false => exact gives_retH _ (l25f s m fuel) (run25 h1 _ _)
    · cases hg
  · cases hg

end Go.Rv
end

section
set_option linter.unusedVariables false
open Go Go.Ev Go.Proofs
namespace Go.Rv

/-! the page's Run -/
def ks27 : List Nat := [0, 1, 2, 1998, 1999, 3, 4]
theorem l27 (s : ByteArray) (m : M) (fuel : Int) : (evalF E27 Try.prog 27 [.str s, .ptr 0 0 0, .int false .i64 fuel] (hM m true true true) 1024).retH ks27 =
    bx (run2B s m fuel) (bx (Nat.beq m.nI m.nI) (bx (Nat.beq m.nO m.nO) (.ret (.int false .i64 (stepsM s fuel.toNat m)) (h27 (runM s fuel.toNat m))))) := by kernel_rfl
def out27R (nn : List Bool) (m : M) (n : Nat) : R := ⟨nn, .int false .i64 n, [(0, .cells (cpuL m 1 2 1024 1025)), (1, .tab 32 [.ints .i64 m.X] true), (2, .tab 196608 [.ints .u8 m.mem] true), (1024, .tab m.nI [.ints .i64 m.inp] false), (1025, .tab m.nO [.ints .i64 m.out] true), (4, .dead), (3, .dead)]⟩
noncomputable def g27 : List SV → Heap → Option R
  | [.str s, .ptr k0 r0 c0, .int _ .i64 fuel], H => match unF true true true H, Nat.beq k0 0 && (Nat.beq r0 0 && Nat.beq c0 0) with
    | some (nn, m), true => some (out27R (goB s m fuel :: nn) (runM s fuel.toNat m) (stepsM s fuel.toNat m))
    | _, _ => none
  | _, _ => none
attribute [local irreducible] evalF Tr.retH Tr.leaf runM stepsM in
theorem spec27 : SpecOk Try.prog 27 (specOf g27) := spec_okU false mixed fn27 b27 n27 g27 fun a0 H0 r hg hn => by
  unfold g27 at hg
  split at hg
  · rename_i s k0 r0 c0 _ fuel
    split at hg
    · rename_i nn m hm hk
      simp only [Bool.and_eq_true, Nat.beq_eq] at hk
      obtain ⟨rfl, rfl, rfl⟩ := hk
      simp only [Option.some.injEq] at hg
      subst hg
      simp only [out27R, allB, Bool.and_eq_true] at hn
      obtain ⟨h1, hnn⟩ := hn
      refine ⟨E27, [.str s, .ptr 0 0 0, .int false .i64 fuel], [0, 1, 2, 1024, 1025, 4], e27_calls, loops27, fun h => h, fun σ => by simp only [denL, den], subN rfl, ?_⟩
      rw [unF_all hm hnn]
      refine gives_retH _ (l27 s m fuel) ?_
      rw [bx_true (show run2B s m fuel = true from h1), bx_true (beq_t _), bx_true (beq_t _)]
      refine ⟨[(1024, .old 1998), (1025, .old 1999)], rfl, fun σ => by simp only [out27R, den], ?_, rfl⟩
      simp [out27R, h27, wkH, cpuL, rmap, rlook, Ev.look, wkB, simL, sim, wkCs, wkC]
    · cases hg
  · cases hg

end Go.Rv
end

section
set_option linter.unusedVariables false
open Go Go.Ev Go.Proofs
namespace Go.Rv

/-! CopyCpu -/
noncomputable def EC : Env := inlF Try.prog (envOf [(33, specOf g33)] noLoop) [] [] [] 0
theorem ec_calls : CallsOk EC Try.prog := (inlF_calls ((SpecsOk.cons spec33 SpecsOk.nil).calls noLoop) mixed rfl rfl rfl 0).1
theorem ec_loop : EC.loop = noLoop := rfl
def hV (m : M) : Heap := [(0, .tab 32 [.ints .i64 m.X] false), (1, .tab 196608 [.ints .u8 m.mem] false), (2, .tab m.nI [.ints .i64 m.inp] false), (3, .tab m.nO [.ints .i64 m.out] false)]
theorem l24 (m : M) : (evalF EC Try.prog 24 [.agg (cpuL m 0 1 2 3)] (hV m) 1024).retH [1136, 1232, 1312, 1392] =
    bx (Nat.beq m.nI m.nI) (bx (Nat.ble m.nI 100000000) (bx (Nat.beq m.nO m.nO) (bx (Nat.ble m.nO 100000000)
      (.ret (.agg (cpuL m 1136 1232 1312 1392)) [(1136, .tab 32 [.ints .i64 m.X] true), (1232, .tab 196608 [.ints .u8 (cat 0 (fun _ => 0) m.mem)] true), (1312, .tab m.nI [.ints .i64 m.inp] true), (1392, .tab m.nO [.ints .i64 m.out] true)])))) := by kernel_rfl
def out24 (nn : List Bool) (m : M) : R := ⟨nn, .agg (cpuL m 1024 1025 1026 1027), [(1024, .tab 32 [.ints .i64 m.X] true), (1025, .tab 196608 [.ints .u8 m.mem] true), (1026, .tab m.nI [.ints .i64 m.inp] true), (1027, .tab m.nO [.ints .i64 m.out] true)]⟩
/-- told by value, whatever may be written -/
def unW : List SV → Heap → Option (List Bool × M)
  | [.int false .i64 pc, .sl k1 n1, .bool false zf, .bool false sf, .bool false cf, .bool false of_, .sl k2 n2, .sl k3 n3, .sl k4 n4, .int false .i64 kind, .int false .i64 code], [(j0, .tab t1 [.ints .i64 X] _), (j1, .tab t2 [.ints .u8 mem] _), (j2, .tab t3 [.ints .i64 inp] _), (j3, .tab t4 [.ints .i64 out] _)] =>
    match Nat.beq j0 0 && (Nat.beq j1 1 && (Nat.beq j2 2 && (Nat.beq j3 3 && (Nat.beq k1 0 && (Nat.beq k2 1 && (Nat.beq k3 2 && (Nat.beq k4 3 && (Nat.beq n1 32 && (Nat.beq n2 196608 && (Nat.beq t1 32 && Nat.beq t2 196608)))))))))) with
    | true => some ([Nat.beq t3 n3, Nat.beq t4 n4], ⟨pc, zf, sf, cf, of_, kind, code, X, mem, n3, inp, n4, out⟩)
    | false => none
  | _, _ => none
theorem unW_all {l : List SV} {H : Heap} {nn : List Bool} {m : M} (h : unW l H = some (nn, m)) (hn : allB nn = true) : l = cpuL m 0 1 2 3 ∧ roH [] H = hV m := by
  unfold unW at h
  split at h
  · split at h
    · rename_i hb
      simp only [Option.some.injEq, Prod.mk.injEq] at h
      obtain ⟨rfl, rfl⟩ := h
      simp only [Bool.and_eq_true, Nat.beq_eq] at hb
      obtain ⟨rfl, rfl, rfl, rfl, rfl, rfl, rfl, rfl, rfl, rfl, rfl, rfl⟩ := hb
      simp only [allB, Bool.and_true, Bool.and_eq_true, Nat.beq_eq] at hn
      obtain ⟨rfl, rfl⟩ := hn
      exact ⟨rfl, rfl⟩
    · cases h
  · cases h
def g24 : List SV → Heap → Option R
  | [.agg l], H => match unW l H with
    | some (nn, m) => some (out24 (Nat.ble m.nI 100000000 :: Nat.ble m.nO 100000000 :: nn) m)
    | none => none
  | _, _ => none
theorem fn24 : Try.prog.funcs[24]? = some Try.f24 := by kernel_rfl
theorem b24 : Try.f24.body = some (bodyOf Try.f24) := by kernel_rfl
theorem n24 : (Try.f24.name == "runtime.NumGoroutine") = false := by kernel_rfl
attribute [local irreducible] evalF Tr.retH Tr.leaf in
theorem spec24 : SpecOk Try.prog 24 (specOf g24) := spec_okU false mixed fn24 b24 n24 g24 fun a0 H0 r hg hn => by
  unfold g24 at hg
  split at hg
  · rename_i l
    split at hg
    · rename_i nn m hm
      simp only [Option.some.injEq] at hg
      subst hg
      simp only [out24, allB, Bool.and_eq_true] at hn
      obtain ⟨h1, h2, hnn⟩ := hn
      obtain ⟨rfl, hr⟩ := unW_all hm hnn
      refine ⟨EC, [.agg (cpuL m 0 1 2 3)], [], ec_calls, loops_noLoop ec_loop _ _, fun h => h, fun σ => rfl, fun k hk => (by cases hk), ?_⟩
      rw [hr]
      refine gives_retH _ (l24 m) ?_
      rw [bx_true (beq_t _), bx_true h1, bx_true (beq_t _), bx_true h2, cat_zero]
      refine ⟨[(1024, .old 1136), (1025, .old 1232), (1026, .old 1312), (1027, .old 1392)], rfl, sim_den _ _ ?_, ?_, rfl⟩
      · simp [out24, cpuL, sim, simL, rmap, rlook]
      · simp [out24, wkH, cpuL, rmap, rlook, Ev.look, wkB, simL, sim, wkCs, wkC]
    · cases hg
  · cases hg

end Go.Rv
end

section
set_option linter.unusedVariables false
open Go Go.Ev Go.Proofs
namespace Go.Rv

/-! EqCpu -/
/-- the same machine -/
structure SameM (m m' : M) : Prop where
  pc : m.pc = m'.pc
  X : ∀ i, i < 32 → m.X i = m'.X i
  f1 : m.zf = m'.zf
  f2 : m.sf = m'.sf
  f3 : m.cf = m'.cf
  f4 : m.of_ = m'.of_
  mem : ∀ i, i < 196608 → m.mem i = m'.mem i
  nI : m.nI = m'.nI
  inp : ∀ i, i < m.nI → m.inp i = m'.inp i
  nO : m.nO = m'.nO
  out : ∀ i, i < m.nO → m.out i = m'.out i
  kind : m.kind = m'.kind
  code : m.code = m'.code
  sI : m.nI ≤ 100000000
  sO : m.nO ≤ 100000000
noncomputable def eqMB (m m' : M) : Bool := @decide (SameM m m') (Classical.propDecidable _)
theorem eqMB_iff {m m' : M} : eqMB m m' = true ↔ SameM m m' := @decide_eq_true_iff _ (Classical.propDecidable _)
/-! EqBytes -/
theorem l48 (n : Nat) (g h : Nat → Int) : (evalF EN Try.prog 48 [.sl 0 n, .sl 1 n] [(0, .tab n [.ints .u8 g] false), (1, .tab n [.ints .u8 h] false)] 1024).bare =
    bif Nat.ble n n then bif Nat.ble n n then .ret (.bool false (seq (strOf g n) (strOf h n))) [] else .bad else .bad := by kernel_rfl
theorem strOf_same {g h : Nat → Int} {n : Nat} (e : ∀ i, i < n → g i = h i) : strOf g n = strOf h n := by
  unfold strOf
  congr 2
  exact List.map_congr_left fun i hi => by rw [e i (List.mem_range.1 hi)]
noncomputable def g48 : List SV → Heap → Option R
  | [.sl ka n, .sl kb m], [(ja, .tab n' [.ints .u8 g] _), (jb, .tab m' [.ints .u8 h] _)] => match Nat.beq ka 0 && (Nat.beq kb 1 && (Nat.beq ja 0 && Nat.beq jb 1)) with
    | true => some ⟨[Nat.beq n m, Nat.beq n n', Nat.beq n m', eqA n g h], .bool true true, []⟩
    | false => none
  | _, _ => none
theorem fn48 : Try.prog.funcs[48]? = some Try.f48 := by kernel_rfl
theorem b48 : Try.f48.body = some (bodyOf Try.f48) := by kernel_rfl
theorem n48 : (Try.f48.name == "runtime.NumGoroutine") = false := by kernel_rfl
attribute [local irreducible] evalF Tr.bare strOf seq in
theorem spec48 : SpecOk Try.prog 48 (specOf g48) := spec_okA false en_calls mixed fn48 b48 n48 (loops_noLoop en_loop _ _) g48 fun a0 H0 r hg hn => by
  unfold g48 at hg
  split at hg
  · rename_i ka n kb m ja n' g _ jb m' h _
    split at hg
    · rename_i hk
      simp only [Bool.and_eq_true, Nat.beq_eq] at hk
      obtain ⟨rfl, rfl, rfl, rfl⟩ := hk
      simp only [Option.some.injEq] at hg
      subst hg
      simp only [allB, Bool.and_true, Bool.and_eq_true, Nat.beq_eq, eqA_iff] at hn
      obtain ⟨rfl, rfl, rfl, heq⟩ := hn
      refine ⟨[.sl 0 n, .sl 1 n], fun h => h, fun σ => rfl, ?_⟩
      refine gives_giv (gives_tree (l48 n g h) ?_)
      have e : seq (strOf g n) (strOf h n) = true := by rw [strOf_same heq]; with_unfolding_all simp [seq]
      rw [ble_t (Nat.le_refl n), cond_true, cond_true, e]
      exact gives_ret fun σ σ' => by simp only [den]
    · cases hg
  · cases hg

noncomputable def EQ : Env := inlF Try.prog (envOf [(47, specOf g47), (48, specOf g48)] noLoop) [] [] [] 0
theorem eq_calls : CallsOk EQ Try.prog := (inlF_calls ((SpecsOk.cons spec47 (SpecsOk.cons spec48 SpecsOk.nil)).calls noLoop) mixed rfl rfl rfl 0).1
theorem eq_loop : EQ.loop = noLoop := rfl
def hQ (m m' : M) : Heap := hV m ++ [(4, .tab 32 [.ints .i64 m'.X] false), (5, .tab 196608 [.ints .u8 m'.mem] false), (6, .tab m'.nI [.ints .i64 m'.inp] false), (7, .tab m'.nO [.ints .i64 m'.out] false)]
theorem lEq (m m' : M) : (evalF EQ Try.prog 22 [.agg (cpuL m 0 1 2 3), .agg (cpuL m' 4 5 6 7)] (hQ m m') 1024).bare =
    bif (bif cm .eql m.pc m'.pc then allB [true, true, true, eqA 32 m.X m'.X, true, bif m.zf == m'.zf then allB [bif m.sf == m'.sf then allB [bif m.cf == m'.cf then allB [bif m.of_ == m'.of_ then allB [true, true, true, eqA 196608 m.mem m'.mem, Nat.beq m.nI m'.nI, Nat.beq m.nI m.nI, Nat.beq m.nI m'.nI, eqA m.nI m.inp m'.inp, Nat.ble m.nI 100000000, Nat.beq m.nO m'.nO, Nat.beq m.nO m.nO, Nat.beq m.nO m'.nO, eqA m.nO m.out m'.out, Nat.ble m.nO 100000000] else true] else true] else true] else true] else true) then
      .ret (.bool false (bif cm .eql m.pc m'.pc then bif m.zf == m'.zf then bif m.sf == m'.sf then bif m.cf == m'.cf then bif m.of_ == m'.of_ then bif cm .eql m.kind m'.kind then cm .eql m.code m'.code else false else false else false else false else false else false)) []
    else .bad := by kernel_rfl
/-- told by value, two of them -/
def unQ (l : List SV) (l' : List SV) : Heap → Option (List Bool × M × M)
  | [(j0, b0), (j1, b1), (j2, b2), (j3, b3), (j4, .tab t1 [.ints .i64 X] _), (j5, .tab t2 [.ints .u8 mem] _), (j6, .tab t3 [.ints .i64 inp] _), (j7, .tab t4 [.ints .i64 out] _)] => match unW l [(j0, b0), (j1, b1), (j2, b2), (j3, b3)], l' with
    | some (nn, m), [.int false .i64 pc, .sl k1 n1, .bool false zf, .bool false sf, .bool false cf, .bool false of_, .sl k2 n2, .sl k3 n3, .sl k4 n4, .int false .i64 kind, .int false .i64 code] =>
      match Nat.beq j4 4 && (Nat.beq j5 5 && (Nat.beq j6 6 && (Nat.beq j7 7 && (Nat.beq k1 4 && (Nat.beq k2 5 && (Nat.beq k3 6 && (Nat.beq k4 7 && (Nat.beq n1 32 && (Nat.beq n2 196608 && (Nat.beq t1 32 && Nat.beq t2 196608)))))))))) with
      | true => some (Nat.beq t3 n3 :: Nat.beq t4 n4 :: nn, m, ⟨pc, zf, sf, cf, of_, kind, code, X, mem, n3, inp, n4, out⟩)
      | false => none
    | _, _ => none
  | _ => none
theorem roH_nil_append : ∀ (H H' : Heap), roH [] (H ++ H') = roH [] H ++ roH [] H'
  | [], _ => rfl
  | (k, b) :: t, H' => by simp only [List.cons_append, roH, roH_nil_append t H']
theorem unQ_all {l l' : List SV} {H : Heap} {nn : List Bool} {m m' : M} (h : unQ l l' H = some (nn, m, m')) (hn : allB nn = true) : l = cpuL m 0 1 2 3 ∧ l' = cpuL m' 4 5 6 7 ∧ roH [] H = hQ m m' := by
  unfold unQ at h
  split at h
  · rename_i j0 b0 j1 b1 j2 b2 j3 b3 j4 t1 X _ j5 t2 mem _ j6 t3 inp _ j7 t4 out _
    split at h
    · rename_i nn0 m0 pc k1 n1 zf sf cf of_ k2 n2 k3 n3 k4 n4 kind code hm
      split at h
      · rename_i hb
        simp only [Option.some.injEq, Prod.mk.injEq] at h
        obtain ⟨rfl, rfl, rfl⟩ := h
        simp only [Bool.and_eq_true, Nat.beq_eq] at hb
        obtain ⟨rfl, rfl, rfl, rfl, rfl, rfl, rfl, rfl, rfl, rfl, rfl, rfl⟩ := hb
        simp only [allB, Bool.and_eq_true, Nat.beq_eq] at hn
        obtain ⟨rfl, rfl, hnn⟩ := hn
        obtain ⟨rfl, hr⟩ := unW_all hm hnn
        refine ⟨rfl, rfl, ?_⟩
        have := roH_nil_append [(j0, b0), (j1, b1), (j2, b2), (j3, b3)] [(4, .tab 32 [.ints .i64 X] true), (5, .tab 196608 [.ints .u8 mem] true), (6, .tab t3 [.ints .i64 inp] true), (7, .tab t4 [.ints .i64 out] true)]
        rw [hr] at this
        exact this
      · cases h
    · cases h
  · cases h
noncomputable def gEq : List SV → Heap → Option R
  | [.agg l, .agg l'], H => match unQ l l' H with
    | some (nn, m, m') => some ⟨eqMB m m' :: nn, .bool true true, []⟩
    | none => none
  | _, _ => none
theorem fnEq : Try.prog.funcs[22]? = some Try.f22 := by kernel_rfl
theorem bEq : Try.f22.body = some (bodyOf Try.f22) := by kernel_rfl
theorem nEq : (Try.f22.name == "runtime.NumGoroutine") = false := by kernel_rfl
attribute [local irreducible] evalF Tr.bare Tr.leaf in
theorem specEq : SpecOk Try.prog 22 (specOf gEq) := spec_okU false mixed fnEq bEq nEq gEq fun a0 H0 r hg hn => by
  unfold gEq at hg
  split at hg
  · rename_i l l'
    split at hg
    · rename_i nn m m' hm
      simp only [Option.some.injEq] at hg
      subst hg
      simp only [allB, Bool.and_eq_true, eqMB_iff] at hn
      obtain ⟨h1, hnn⟩ := hn
      obtain ⟨rfl, rfl, hr⟩ := unQ_all hm hnn
      refine ⟨EQ, [.agg (cpuL m 0 1 2 3), .agg (cpuL m' 4 5 6 7)], [], eq_calls, loops_noLoop eq_loop _ _, fun h => h, fun σ => rfl, fun k hk => (by cases hk), ?_⟩
      rw [hr]
      refine gives_giv (gives_tree (lEq m m') ?_)
      obtain ⟨p1, p2, p3, p4, p5, p6, p7, p8, p9, p10, p11, p12, p13, p14, p15⟩ := h1
      have q2 : cm .eql m.pc m'.pc = true := by rw [p1]; simp [cm]
      have q3 : cm .eql m.kind m'.kind = true := by rw [p12]; simp [cm]
      have q4 : cm .eql m.code m'.code = true := by rw [p13]; simp [cm]
      have q5 : Nat.beq m.nI m'.nI = true := by rw [p8]; exact beq_t _
      have q6 : Nat.beq m.nO m'.nO = true := by rw [p10]; exact beq_t _
      have b1 : (m.zf == m'.zf) = true := by rw [p3]; simp
      have b2 : (m.sf == m'.sf) = true := by rw [p4]; simp
      have b3 : (m.cf == m'.cf) = true := by rw [p5]; simp
      have b4 : (m.of_ == m'.of_) = true := by rw [p6]; simp
      rw [q2, q3, q4, q5, q6, eqA_iff.2 p2, eqA_iff.2 p7, eqA_iff.2 p9, eqA_iff.2 p11, beq_t, beq_t, ble_t p14, ble_t p15, b1, b2, b3, b4]
      exact gives_ret fun σ σ' => by simp only [den, cond_true]
    · cases hg
  · cases hg

end Go.Rv
end

section
set_option linter.unusedVariables false
open Go Go.Ev Go.Proofs
namespace Go.Rv

/-! Blank -/
noncomputable def outBl (nn : List Bool) (n : Nat) : R := ⟨nn, .agg [.int false .i64 4096, .sl 1024 n, .bool false false, .bool false false, .bool false false, .bool false false, .sl 1025 196608, .sl 1026 0, .sl 1027 0, .int false .i64 0, .int false .i64 0],
  [(1024, .tab n [.ints .i64 fun _ => 0] true), (1025, .tab 196608 [.ints .u8 fun _ => 0] true), (1026, .tab 0 [.ints .i64 fun _ => 0] true), (1027, .tab 0 [.ints .i64 fun _ => 0] true)]⟩
noncomputable def g28 : List SV → Heap → Option R
  | [.int _ .i64 r], [] => some (outBl [decide (0 ≤ r), decide (r ≤ 1000)] r.toNat)
  | _, _ => none
theorem fn28 : Try.prog.funcs[28]? = some Try.f28 := by kernel_rfl
theorem b28 : Try.f28.body = some (bodyOf Try.f28) := by kernel_rfl
theorem n28 : (Try.f28.name == "runtime.NumGoroutine") = false := by kernel_rfl
theorem l28 (r : Int) : (evalF EN Try.prog 28 [.int false .i64 r] [] 1024).retH [1056, 1072] =
    bx (decide (0 ≤ r)) (bx (decide (r ≤ r)) (bx (Nat.ble (r.toNat * 8) 140737488355328) (bx (Nat.ble r.toNat 140737488355328)
      (.ret (.agg [.int true .i64 4096, .sl 1056 r.toNat, .bool true false, .bool true false, .bool true false, .bool true false, .sl 1072 196608, .val (.slice none 0 0), .val (.slice none 0 0), .int true .i64 0, .int true .i64 0])
        [(1056, .tab r.toNat [.ints .i64 fun _ => 0] true), (1072, .tab 196608 [.ints .u8 fun _ => 0] true)])))) := by kernel_rfl
attribute [local irreducible] evalF Tr.retH Tr.leaf in
theorem spec28 : SpecOk Try.prog 28 (specOf g28) := spec_okU false mixed fn28 b28 n28 g28 fun a0 H0 r hg hn => by
  unfold g28 at hg
  split at hg
  · rename_i _ x
    simp only [Option.some.injEq] at hg
    subst hg
    simp only [outBl, allB, Bool.and_true, Bool.and_eq_true, decide_eq_true_eq] at hn
    obtain ⟨h1, h2⟩ := hn
    refine ⟨EN, [.int false .i64 x], [], en_calls, loops_noLoop en_loop _ _, fun _ => rfl, fun σ => by simp only [denL, den], fun k hk => (by cases hk), ?_⟩
    show GivesD _ (evalF EN Try.prog 28 [.int false .i64 x] [] 1024).leaf
    refine gives_retH _ (l28 x) ?_
    rw [bx_true (dec_true h1), bx_true (dec_true (by omega)), bx_true (ble_t (by omega)), bx_true (ble_t (by omega))]
    refine ⟨[(1024, .old 1056), (1025, .old 1072), (1026, .nil 1), (1027, .nil 1)], rfl, sim_den _ _ ?_, ?_, rfl⟩
    · simp [outBl, sim, simL, rmap, rlook, isNilV]
    · simp [outBl, wkH, rmap, rlook, Ev.look, wkB, wkN, simL, sim, wkCs, wkC]
  · cases hg

end Go.Rv
end
