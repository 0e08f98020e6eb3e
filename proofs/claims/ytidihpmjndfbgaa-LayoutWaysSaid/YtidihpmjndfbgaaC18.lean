/-
  layout: the law of ways.
-/
import Derived.Test.YtidihpmjndfbgaaC16
import Derived.Test.YtidihpmjndfbgaaB17
set_option linter.unusedSimpArgs false
set_option linter.unusedVariables false
set_option linter.unusedVariables false
open Go Go.Ev Go.Proofs Go.ChangeShapes Go.WideShapes Go.ChangeAt Go.RowKit
namespace Go.La

attribute [local irreducible] evalB Tr.view outB yL toK in
theorem round7 (z : X7) (hx : ok7 z) : Round lq7 ok7 (fun z => z.x.n - z.i) vs7 hp7 out7 z ((evalB E7d Try.prog Try.f7.results.toList (loopOf Try.f7 0) (0 + 1) lk7 (vs7 z) (hp7 z)).view lq7.ks) := by
  obtain ⟨x, q, i⟩ := z
  obtain ⟨h0, ho, hf⟩ := hx
  simp only at h0 ho hf
  have hr := r7 x q i
  rw [show evalB E7d Try.prog Try.f7.results.toList (loopOf Try.f7 0) (0 + 1) lk7 (vs7 ⟨x, q, i⟩) (hp7 ⟨x, q, i⟩) = evalB E7d Try.prog Try.f7.results.toList (loopOf Try.f7 0) 1 lk7 (v7 x q i) (h7 x q) from rfl, show lq7.ks = [1, 3, 4, 6] from rfl, hr]
  have hs := ho.1
  by_cases hi : i < x.n
  · have e1 : cm .lss (i : Int) (x.n : Int) = true := by rw [cm_lss']; exact decide_eq_true (by omega)
    have e2 : decide (0 ≤ (i : Int)) = true := decide_eq_true (by omega)
    have e3 : decide ((i : Int) < (x.n : Int)) = true := decide_eq_true (by omega)
    have e4 : smB x.n = true := smB_iff.2 hs
    have e5 : clsB ((yL x q).pos = (yL x q).pos) = true := cls_t rfl
    have e6 : clsB True = true := cls_t trivial
    simp only [e1, e2, e3, e4, e5, e6, blt_t hi, cond_true, cond_false, Int.toNat_natCast, addOne (show i < 9223372036854775807 by omega), beq_t, allB, Bool.and_self]
    refine Round_cond (fun _ => next7 hi ho hf) (fun hk => ?_)
    have hk : x.kd i = 3 ∨ x.kd i = 4 ∨ x.kd i = 5 := by
      simp only [cm_neq'] at hk
      by_cases h3 : x.kd i = 3
      · exact .inl h3
      by_cases h4 : x.kd i = 4
      · exact .inr (.inl h4)
      by_cases h5 : x.kd i = 5
      · exact .inr (.inr h5)
      simp [h3, h4, h5] at hk
    -- places
    have hP : ∀ r, (yL x q).pos r = ((posN (y0 x q (lastL x q)) r : Nat) : Int) := fun r => by unfold yL; rfl
    have hz : (outB x q).size = posN (y0 x q (lastL x q)) x.n := by unfold outB; exact out_pos ho x.n (Nat.le_refl _)
    have m1 := posN_up (y0 x q (lastL x q)) (show i ≤ i + 1 by omega)
    have m2 := posN_up (y0 x q (lastL x q)) (show i + 1 ≤ x.n by omega)
    have hfl : posN (y0 x q (lastL x q)) x.n ≤ 258048 := by rw [end_nat] at hf; omega
    have hx1 : (outB x q).extract (posN (y0 x q (lastL x q)) i) (posN (y0 x q (lastL x q)) (i + 1)) = byI (yL x q) i := by unfold outB; exact cat_ext ho hi x.n hi (Nat.le_refl _)
    have hw := way_item ho hf hi hk
    have hy : wayS q (byI (yL x q) i) = true := cls_t ⟨_, hw⟩
    have hl := way_ld hw
    have hwe := (way_eq (lg := lastL x q) ho hi)
    have hwe : wyZ (yL x q) i = (yL x q).pos (lbK x x.n (x.N i)).toNat - (yL x q).pos i ∧ -2048000 ≤ wyZ (yL x q) i ∧ wyZ (yL x q) i ≤ 2048000 := by unfold yL; exact hwe
    have hto := to_way ho hi hk
    have hsum : ar .add .i64 ((posN (y0 x q (lastL x q)) i : Nat) : Int) (wyZ (yL x q) i) = toK x q (x.N i) x.n := by
      rw [hto]
      have := hwe.1
      have hp := hP i
      simp only [ar, IntKind.wrap_i64]
      omega
    simp only [hP, hz, Int.toNat_natCast]
    have g1 : cm .geq ((posN (y0 x q (lastL x q)) i : Nat) : Int) 0 = true := by rw [cm_geq']; exact decide_eq_true (by omega)
    have g2 : cm .leq ((posN (y0 x q (lastL x q)) i : Nat) : Int) ((posN (y0 x q (lastL x q)) x.n : Nat) : Int) = true := by rw [cm_leq']; exact decide_eq_true (by omega)
    have g3 : decide (0 ≤ ((posN (y0 x q (lastL x q)) i : Nat) : Int)) = true := decide_eq_true (by omega)
    have g4 : cm .neq (toK x q (x.N i) x.n) (toK x q (x.N i) x.n) = false := by rw [cm_neq', decide_eq_true rfl]; rfl
    simp only [g1, g2, g3, cond_true, cond_false, Bool.not_true]
    by_cases hl1 : i + 1 < x.n
    · have f1 : cm .lss ((i + 1 : Nat) : Int) (x.n : Int) = true := by rw [cm_lss']; exact decide_eq_true (by omega)
      have f2 : decide (0 ≤ ((i + 1 : Nat) : Int)) = true := decide_eq_true (by omega)
      have f3 : decide (((i + 1 : Nat) : Int) < (x.n : Int)) = true := decide_eq_true (by omega)
      have f4 : cm .geq ((posN (y0 x q (lastL x q)) (i + 1) : Nat) : Int) ((posN (y0 x q (lastL x q)) i : Nat) : Int) = true := by rw [cm_geq']; exact decide_eq_true (by omega)
      have f5 : cm .leq ((posN (y0 x q (lastL x q)) (i + 1) : Nat) : Int) ((posN (y0 x q (lastL x q)) x.n : Nat) : Int) = true := by rw [cm_leq']; exact decide_eq_true (by omega)
      have f6 : decide (0 ≤ ((posN (y0 x q (lastL x q)) (i + 1) : Nat) : Int)) = true := decide_eq_true (by omega)
      have f7 : Nat.ble (posN (y0 x q (lastL x q)) i) (posN (y0 x q (lastL x q)) (i + 1)) = true := ble_t m1
      have f8 : Nat.ble (posN (y0 x q (lastL x q)) (i + 1)) (posN (y0 x q (lastL x q)) x.n) = true := ble_t m2
      simp only [f1, f2, f3, f4, f5, f6, f7, f8, blt_t hl1, hx1, hy, hl, hsum, g4, e6, cond_true, cond_false, Bool.not_true]
      exact next7 hi ho hf
    · have hn : i + 1 = x.n := by omega
      have f1 : cm .lss ((i + 1 : Nat) : Int) (x.n : Int) = false := by rw [cm_lss']; exact decide_eq_false (by omega)
      have f4 : cm .geq ((posN (y0 x q (lastL x q)) x.n : Nat) : Int) ((posN (y0 x q (lastL x q)) i : Nat) : Int) = true := by rw [cm_geq']; exact decide_eq_true (by omega)
      have f5 : cm .leq ((posN (y0 x q (lastL x q)) x.n : Nat) : Int) ((posN (y0 x q (lastL x q)) x.n : Nat) : Int) = true := by rw [cm_leq']; exact decide_eq_true (by omega)
      have f6 : decide (0 ≤ ((posN (y0 x q (lastL x q)) x.n : Nat) : Int)) = true := decide_eq_true (by omega)
      have f7 : Nat.ble (posN (y0 x q (lastL x q)) i) (posN (y0 x q (lastL x q)) x.n) = true := ble_t (by omega)
      have f8 : Nat.ble (posN (y0 x q (lastL x q)) x.n) (posN (y0 x q (lastL x q)) x.n) = true := ble_t (Nat.le_refl _)
      rw [hn] at hx1
      simp only [f1, f4, f5, f6, f7, f8, hx1, hy, hl, hsum, g4, e6, cond_true, cond_false, Bool.not_true]
      exact next7 hi ho hf
  · obtain rfl : i = x.n := by omega
    have e1 : cm .lss (x.n : Int) (x.n : Int) = false := by simp [cm]
    simp only [e1, cond_false]
    exact ⟨rfl, [.any, .any, .any, .any], [], [], rfl, rfl, ⟨trivial, trivial, trivial, trivial, trivial⟩, trivial, rfl, rfl⟩
attribute [local irreducible] evalB Tr.view in
theorem loop7 : LoopOk E7T Try.prog Try.f7 0 (loopOf Try.f7 0) :=
  loop_okE mixed (fun S => rfl) (by decide) ok7 (fun z => z.x.n - z.i) vs7 hp7 out7 entry7 fun x hx => ⟨E7d, e7d_calls, loops7a fun _ => rfl, by rw [lq_7]; exact round7 x hx⟩
theorem named12' : named Try.prog [12] = true := by kernel_rfl
theorem e7t_calls : CallsOk E7T Try.prog := fun f args H nm r h hn => (inlF_calls ((SpecsOk.cons spec8S (SpecsOk.cons spec10T (SpecsOk.cons spec9T (SpecsOk.cons spec15 SpecsOk.nil)))).calls noLoop) mixed named12' rfl rfl 3).1 f args H nm r h hn
theorem e7r_calls : CallsOk E7R Try.prog := (inlF_calls ((SpecsOk.cons spec8S (SpecsOk.cons spec10T (SpecsOk.cons spec9R SpecsOk.nil))).calls noLoop) mixed named12' rfl rfl 3).1
theorem e7f_calls : CallsOk E7F Try.prog := (inlF_calls ((SpecsOk.cons spec8S (SpecsOk.cons spec10F SpecsOk.nil)).calls noLoop) mixed named12' rfl rfl 3).1
theorem e7r_loop : E7R.loop = noLoop := rfl
theorem e7f_loop : E7F.loop = noLoop := rfl
theorem fn7 : Try.prog.funcs[7]? = some Try.f7 := by kernel_rfl
theorem b7 : Try.f7.body = some (bodyOf Try.f7) := by kernel_rfl
theorem n7 : (Try.f7.name == "runtime.NumGoroutine") = false := by kernel_rfl
theorem nl7 : Code.loops (bodyOf Try.f7) = 2 := by kernel_rfl
theorem nth7 : nthLoop (bodyOf Try.f7) 0 = some (loopOf Try.f7 0) := by kernel_rfl
theorem loops7 : LoopsOk E7T Try.prog Try.f7 (bodyOf Try.f7) 0 := loopsOk_of _ 0 fun m a hm ha => by
  rw [nl7] at hm
  rcases m with _ | _ | m
  · rw [nth7] at ha; simp only [Option.some.injEq] at ha; subst ha; exact loop7
  · exact fun S T hT => by cases hT
  · omega

attribute [local irreducible] evalF outB yL in
theorem law7 (x : It) (q : Int) (h : x.n ≤ reachBytes) : ∃ E, CallsOk E Try.prog ∧ LoopsOk E Try.prog Try.f7 (bodyOf Try.f7) 0 ∧ ∃ l, (evalF E Try.prog 7 [.agg (vA x q)] (hI x) 1024).bare = .ret (.bool l true) [] := by
  have hr := reach_le h
  by_cases ho : okP q x
  · have e1 : okB q x = true := cls_t ho
    have e0 : (bif heavyP x then true else true) = true := by cases heavyP x <;> rfl
    cases hf : fitB x q with
    | true =>
      refine ⟨E7T, e7t_calls, loops7, true, ?_⟩
      rw [t7T]
      have hc : cm .neq (x.n : Int) (x.n : Int) = false := by simp [cm]
      simp only [beq_t, hr, e1, e0, hf, hc, allB, Bool.and_self, cond_true, cond_false, cls_t]
      cases heavyP x <;> rfl
    | false =>
      refine ⟨E7R, e7r_calls, loops_noLoop e7r_loop _ _, true, ?_⟩
      rw [t7R]
      simp only [beq_t, hr, e1, e0, fit_far hf, allB, Bool.and_self, cond_true, cond_false]
      cases heavyP x <;> rfl
  · have e1 : noB q x = true := cls_t ho
    refine ⟨E7F, e7f_calls, loops_noLoop e7f_loop _ _, true, ?_⟩
    rw [t7F]
    simp only [beq_t, hr, e1, allB, Bool.and_self, cond_true]
    cases heavyP x <;> rfl

end Go.La
