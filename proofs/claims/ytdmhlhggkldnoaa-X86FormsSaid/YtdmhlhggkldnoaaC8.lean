/-
  x86: guess finds what the bytes begin with, op by op.
-/
import Derived.Test.YtdmhlhggkldnoaaC7
set_option linter.unusedSimpArgs false
set_option linter.unusedVariables false
section
set_option linter.unusedVariables false
open Go Go.Ev Go.Proofs
namespace Go.X

theorem fact_1 {s : ByteArray} {w rd rs n : Int} (h : DX 1 s w rd rs n) : (w = 4 ∨ w = 8) ∧ small rd ∧ small rs ∧ n = 0 ∧ inI n ∧ fitsX 0 n = true ∧ 3 ≤ s.size ∧ chr s 0 = rexI w rs rd ∧ chr s 1 = 137 ∧ chr s 2 = modI 192 rs rd := by
  obtain ⟨he, hi, hs⟩ := h
  have hE : errX 1 w rd rs n = (bif (decide (w = 4) || decide (w = 8)) && ((true || decide (w = 0)) && (regX rd && (regX rs && decide (n = 0)))) then (bif ((true) || false) then 0 else 10) else 1) := by kernel_rfl
  rw [hE] at he
  obtain ⟨hA, hF⟩ := err0 he
  have hL : encL 1 w rd rs n = [rexI w rs rd, 137, modI 192 rs rd] ++ tailL n 0 := by kernel_rfl
  rw [hL] at hs
  obtain ⟨h1, h2, h3⟩ := starts_tail hs
  rw [tail_length] at h2 h3
  simp [regX, condX] at hA hF
  have e0 : chr s 0 = rexI w rs rd := h1.2 0 (by show 0 < 3; decide)
  have e1 : chr s 1 = 137 := h1.2 1 (by show 1 < 3; decide)
  have e2 : chr s 2 = modI 192 rs rd := h1.2 2 (by show 2 < 3; decide)
  exact ⟨by first | omega | (simp only [small]; omega), by first | omega | (simp only [small]; omega), by first | omega | (simp only [small]; omega), by first | omega | (simp only [small]; omega), hi, by first | rfl | (simp [fitsX]; omega), h2, e0, e1, e2⟩

attribute [local irreducible] evalF Lf.gives in
theorem guess_1 : GP 1 (.agg [.int true .i64 0, .str ⟨#[137]⟩, .int true .i64 0, .bool true false, .int true .i64 0, .bool true false, .bool true false]) := by
  intro s
  cases hp : preOk false s with
  | false =>
    refine GP_of false (gn_1 s) ?_
    rw [hp]
    refine GPl_no fun w rd rs n hd => ?_
    obtain ⟨hw, hrd, hrs, qn, hi, hf, hz, e0, e1, e2⟩ := fact_1 hd
    have := pre0 hw hrs hrd (by omega) e0
    rw [hp] at this
    cases this
  | true =>
    refine GP_of true (gy_1 s) ?_
    rw [hp]
    refine GPl_cond (fun _ => ?_) (fun hc => by cases hc)
    repeat' refine GPl_cond (fun _ => ?_) (fun _ => ?_)
    all_goals simp only [cmz] at *
    all_goals first
        | (exfalso; omega)
        | (refine GPl_no fun w rd rs n hd => ?_; obtain ⟨hw, hrd, hrs, qn, hi, hf, hz, e0, e1, e2⟩ := fact_1 hd; omega)
        | (refine GPl_yes (inI0) fun w rd rs n hd => ?_
           obtain ⟨hw, hrd, hrs, qn, hi, hf, hz, e0, e1, e2⟩ := fact_1 hd
           obtain ⟨x0, x1, x2, x3⟩ := rex_facts hw hrs hrd
           rw [← e0] at x1 x2 x3
           obtain ⟨y0, y1⟩ := mod_facts (.inl rfl) hrs hrd
           rw [← e2] at y0 y1
           exact ⟨by omega, by rw [y0, x2]; exact (put_facts hrd).1, by rw [y1, x3]; exact (put_facts hrs).2, qn.symm⟩)

theorem fact_2 {s : ByteArray} {w rd rs n : Int} (h : DX 2 s w rd rs n) : (w = 4 ∨ w = 8) ∧ w = 8 ∧ small rd ∧ rs = 0 ∧ inI n ∧ fitsX 4 n = true ∧ 7 ≤ s.size ∧ chr s 0 = rexI w 0 rd ∧ chr s 1 = 199 ∧ chr s 2 = modI 192 0 rd ∧ (∀ j, j < 4 → chr s (3 + j) = bat n j) := by
  obtain ⟨he, hi, hs⟩ := h
  have hE : errX 2 w rd rs n = (bif (decide (w = 4) || decide (w = 8)) && ((false || decide (w = 8)) && (regX rd && (decide (rs = 0) && (true || decide (n = 0))))) then (bif ((decide (-2147483648 ≤ n) && decide (n ≤ 2147483647)) || false) then 0 else 10) else 1) := by kernel_rfl
  rw [hE] at he
  obtain ⟨hA, hF⟩ := err0 he
  have hL : encL 2 w rd rs n = [rexI w 0 rd, 199, modI 192 0 rd] ++ tailL n 4 := by kernel_rfl
  rw [hL] at hs
  obtain ⟨h1, h2, h3⟩ := starts_tail hs
  rw [tail_length] at h2 h3
  simp [regX, condX] at hA hF
  have e0 : chr s 0 = rexI w 0 rd := h1.2 0 (by show 0 < 3; decide)
  have e1 : chr s 1 = 199 := h1.2 1 (by show 1 < 3; decide)
  have e2 : chr s 2 = modI 192 0 rd := h1.2 2 (by show 2 < 3; decide)
  exact ⟨by first | omega | (simp only [small]; omega), by first | omega | (simp only [small]; omega), by first | omega | (simp only [small]; omega), by first | omega | (simp only [small]; omega), hi, by first | rfl | (simp [fitsX]; omega), h2, e0, e1, e2, fun j hj => by rw [← tail_get n 4 j hj]; exact h3 j hj⟩

attribute [local irreducible] evalF Lf.gives in
theorem guess_2 : GP 2 (.agg [.int true .i64 1, .str ⟨#[199]⟩, .int true .i64 0, .bool true false, .int true .i64 8, .bool true true, .bool true false]) := by
  intro s
  cases hp : preOk false s with
  | false =>
    refine GP_of false (gn_2 s) ?_
    rw [hp]
    refine GPl_no fun w rd rs n hd => ?_
    obtain ⟨hw, qw, hrd, qs, hi, hf, hz, e0, e1, e2, ht⟩ := fact_2 hd
    have := pre0 hw (by decide : small 0) hrd (by omega) e0
    rw [hp] at this
    cases this
  | true =>
    refine GP_of true (gy_2 s) ?_
    rw [hp]
    refine GPl_cond (fun _ => ?_) (fun hc => by cases hc)
    repeat' refine GPl_cond (fun _ => ?_) (fun _ => ?_)
    all_goals simp only [cmz] at *
    all_goals first
        | (exfalso; omega)
        | (refine GPl_no fun w rd rs n hd => ?_; obtain ⟨hw, qw, hrd, qs, hi, hf, hz, e0, e1, e2, ht⟩ := fact_2 hd; omega)
        | (refine GPl_yes (numU_range _ (by simp only [ByteArray.size_extract]; omega)) fun w rd rs n hd => ?_
           obtain ⟨hw, qw, hrd, qs, hi, hf, hz, e0, e1, e2, ht⟩ := fact_2 hd
           obtain ⟨x0, x1, x2, x3⟩ := rex_facts hw (by decide : small 0) hrd
           rw [← e0] at x1 x2 x3
           obtain ⟨y0, y1⟩ := mod_facts (.inl rfl) (by decide : small 0) hrd
           rw [← e2] at y0 y1
           exact ⟨by omega, by rw [y0, x2]; exact (put_facts hrd).1, qs.symm, num_tail 3 4 (by decide) hz ht hi hf⟩)

theorem fact_3 {s : ByteArray} {w rd rs n : Int} (h : DX 3 s w rd rs n) : (w = 4 ∨ w = 8) ∧ w = 8 ∧ small rd ∧ rs = 0 ∧ inI n ∧ fitsX 8 n = true ∧ 10 ≤ s.size ∧ chr s 0 = rexI w 0 rd ∧ chr s 1 = 184 + rd % 8 ∧ (∀ j, j < 8 → chr s (2 + j) = bat n j) := by
  obtain ⟨he, hi, hs⟩ := h
  have hE : errX 3 w rd rs n = (bif (decide (w = 4) || decide (w = 8)) && ((false || decide (w = 8)) && (regX rd && decide (rs = 0))) then (bif ((true) || false) then 0 else 10) else 1) := by kernel_rfl
  rw [hE] at he
  obtain ⟨hA, hF⟩ := err0 he
  have hL : encL 3 w rd rs n = [rexI w 0 rd, 184 + rd % 8] ++ tailL n 8 := by kernel_rfl
  rw [hL] at hs
  obtain ⟨h1, h2, h3⟩ := starts_tail hs
  rw [tail_length] at h2 h3
  simp [regX, condX] at hA hF
  have e0 : chr s 0 = rexI w 0 rd := h1.2 0 (by show 0 < 2; decide)
  have e1 : chr s 1 = 184 + rd % 8 := h1.2 1 (by show 1 < 2; decide)
  exact ⟨by first | omega | (simp only [small]; omega), by first | omega | (simp only [small]; omega), by first | omega | (simp only [small]; omega), by first | omega | (simp only [small]; omega), hi, by first | rfl | (simp [fitsX]; omega), h2, e0, e1, fun j hj => by rw [← tail_get n 8 j hj]; exact h3 j hj⟩

attribute [local irreducible] evalF Lf.gives in
theorem guess_3 : GP 3 (.agg [.int true .i64 3, .str ⟨#[184]⟩, .int true .i64 0, .bool true false, .int true .i64 8, .bool true false, .bool true false]) := by
  intro s
  cases hp : preOk false s with
  | false =>
    refine GP_of false (gn_3 s) ?_
    rw [hp]
    refine GPl_no fun w rd rs n hd => ?_
    obtain ⟨hw, qw, hrd, qs, hi, hf, hz, e0, e1, ht⟩ := fact_3 hd
    have := pre0 hw (by decide : small 0) hrd (by omega) e0
    rw [hp] at this
    cases this
  | true =>
    refine GP_of true (gy_3 s) ?_
    rw [hp]
    refine GPl_cond (fun _ => ?_) (fun hc => by cases hc)
    repeat' refine GPl_cond (fun _ => ?_) (fun _ => ?_)
    all_goals simp only [cmz] at *
    all_goals first
        | (exfalso; omega)
        | (refine GPl_no fun w rd rs n hd => ?_; obtain ⟨hw, qw, hrd, qs, hi, hf, hz, e0, e1, ht⟩ := fact_3 hd; omega)
        | (refine GPl_yes (numU_range _ (by simp only [ByteArray.size_extract]; omega)) fun w rd rs n hd => ?_
           obtain ⟨hw, qw, hrd, qs, hi, hf, hz, e0, e1, ht⟩ := fact_3 hd
           obtain ⟨x0, x1, x2, x3⟩ := rex_facts hw (by decide : small 0) hrd
           rw [← e0] at x1 x2 x3
           exact ⟨by omega, by rw [x2, e1]; exact more_reg (by decide) hrd, qs.symm, num_tail 2 8 (by decide) hz ht hi hf⟩)

theorem fact_4 {s : ByteArray} {w rd rs n : Int} (h : DX 4 s w rd rs n) : (w = 4 ∨ w = 8) ∧ small rd ∧ small rs ∧ n = 0 ∧ inI n ∧ fitsX 0 n = true ∧ 3 ≤ s.size ∧ chr s 0 = rexI w rs rd ∧ chr s 1 = 1 ∧ chr s 2 = modI 192 rs rd := by
  obtain ⟨he, hi, hs⟩ := h
  have hE : errX 4 w rd rs n = (bif (decide (w = 4) || decide (w = 8)) && ((true || decide (w = 0)) && (regX rd && (regX rs && decide (n = 0)))) then (bif ((true) || false) then 0 else 10) else 1) := by kernel_rfl
  rw [hE] at he
  obtain ⟨hA, hF⟩ := err0 he
  have hL : encL 4 w rd rs n = [rexI w rs rd, 1, modI 192 rs rd] ++ tailL n 0 := by kernel_rfl
  rw [hL] at hs
  obtain ⟨h1, h2, h3⟩ := starts_tail hs
  rw [tail_length] at h2 h3
  simp [regX, condX] at hA hF
  have e0 : chr s 0 = rexI w rs rd := h1.2 0 (by show 0 < 3; decide)
  have e1 : chr s 1 = 1 := h1.2 1 (by show 1 < 3; decide)
  have e2 : chr s 2 = modI 192 rs rd := h1.2 2 (by show 2 < 3; decide)
  exact ⟨by first | omega | (simp only [small]; omega), by first | omega | (simp only [small]; omega), by first | omega | (simp only [small]; omega), by first | omega | (simp only [small]; omega), hi, by first | rfl | (simp [fitsX]; omega), h2, e0, e1, e2⟩

attribute [local irreducible] evalF Lf.gives in
theorem guess_4 : GP 4 (.agg [.int true .i64 0, .str ⟨#[1]⟩, .int true .i64 0, .bool true false, .int true .i64 0, .bool true false, .bool true false]) := by
  intro s
  cases hp : preOk false s with
  | false =>
    refine GP_of false (gn_4 s) ?_
    rw [hp]
    refine GPl_no fun w rd rs n hd => ?_
    obtain ⟨hw, hrd, hrs, qn, hi, hf, hz, e0, e1, e2⟩ := fact_4 hd
    have := pre0 hw hrs hrd (by omega) e0
    rw [hp] at this
    cases this
  | true =>
    refine GP_of true (gy_4 s) ?_
    rw [hp]
    refine GPl_cond (fun _ => ?_) (fun hc => by cases hc)
    repeat' refine GPl_cond (fun _ => ?_) (fun _ => ?_)
    all_goals simp only [cmz] at *
    all_goals first
        | (exfalso; omega)
        | (refine GPl_no fun w rd rs n hd => ?_; obtain ⟨hw, hrd, hrs, qn, hi, hf, hz, e0, e1, e2⟩ := fact_4 hd; omega)
        | (refine GPl_yes (inI0) fun w rd rs n hd => ?_
           obtain ⟨hw, hrd, hrs, qn, hi, hf, hz, e0, e1, e2⟩ := fact_4 hd
           obtain ⟨x0, x1, x2, x3⟩ := rex_facts hw hrs hrd
           rw [← e0] at x1 x2 x3
           obtain ⟨y0, y1⟩ := mod_facts (.inl rfl) hrs hrd
           rw [← e2] at y0 y1
           exact ⟨by omega, by rw [y0, x2]; exact (put_facts hrd).1, by rw [y1, x3]; exact (put_facts hrs).2, qn.symm⟩)

theorem fact_5 {s : ByteArray} {w rd rs n : Int} (h : DX 5 s w rd rs n) : (w = 4 ∨ w = 8) ∧ small rd ∧ small rs ∧ n = 0 ∧ inI n ∧ fitsX 0 n = true ∧ 3 ≤ s.size ∧ chr s 0 = rexI w rs rd ∧ chr s 1 = 41 ∧ chr s 2 = modI 192 rs rd := by
  obtain ⟨he, hi, hs⟩ := h
  have hE : errX 5 w rd rs n = (bif (decide (w = 4) || decide (w = 8)) && ((true || decide (w = 0)) && (regX rd && (regX rs && decide (n = 0)))) then (bif ((true) || false) then 0 else 10) else 1) := by kernel_rfl
  rw [hE] at he
  obtain ⟨hA, hF⟩ := err0 he
  have hL : encL 5 w rd rs n = [rexI w rs rd, 41, modI 192 rs rd] ++ tailL n 0 := by kernel_rfl
  rw [hL] at hs
  obtain ⟨h1, h2, h3⟩ := starts_tail hs
  rw [tail_length] at h2 h3
  simp [regX, condX] at hA hF
  have e0 : chr s 0 = rexI w rs rd := h1.2 0 (by show 0 < 3; decide)
  have e1 : chr s 1 = 41 := h1.2 1 (by show 1 < 3; decide)
  have e2 : chr s 2 = modI 192 rs rd := h1.2 2 (by show 2 < 3; decide)
  exact ⟨by first | omega | (simp only [small]; omega), by first | omega | (simp only [small]; omega), by first | omega | (simp only [small]; omega), by first | omega | (simp only [small]; omega), hi, by first | rfl | (simp [fitsX]; omega), h2, e0, e1, e2⟩

attribute [local irreducible] evalF Lf.gives in
theorem guess_5 : GP 5 (.agg [.int true .i64 0, .str ⟨#[41]⟩, .int true .i64 0, .bool true false, .int true .i64 0, .bool true false, .bool true false]) := by
  intro s
  cases hp : preOk false s with
  | false =>
    refine GP_of false (gn_5 s) ?_
    rw [hp]
    refine GPl_no fun w rd rs n hd => ?_
    obtain ⟨hw, hrd, hrs, qn, hi, hf, hz, e0, e1, e2⟩ := fact_5 hd
    have := pre0 hw hrs hrd (by omega) e0
    rw [hp] at this
    cases this
  | true =>
    refine GP_of true (gy_5 s) ?_
    rw [hp]
    refine GPl_cond (fun _ => ?_) (fun hc => by cases hc)
    repeat' refine GPl_cond (fun _ => ?_) (fun _ => ?_)
    all_goals simp only [cmz] at *
    all_goals first
        | (exfalso; omega)
        | (refine GPl_no fun w rd rs n hd => ?_; obtain ⟨hw, hrd, hrs, qn, hi, hf, hz, e0, e1, e2⟩ := fact_5 hd; omega)
        | (refine GPl_yes (inI0) fun w rd rs n hd => ?_
           obtain ⟨hw, hrd, hrs, qn, hi, hf, hz, e0, e1, e2⟩ := fact_5 hd
           obtain ⟨x0, x1, x2, x3⟩ := rex_facts hw hrs hrd
           rw [← e0] at x1 x2 x3
           obtain ⟨y0, y1⟩ := mod_facts (.inl rfl) hrs hrd
           rw [← e2] at y0 y1
           exact ⟨by omega, by rw [y0, x2]; exact (put_facts hrd).1, by rw [y1, x3]; exact (put_facts hrs).2, qn.symm⟩)

theorem fact_6 {s : ByteArray} {w rd rs n : Int} (h : DX 6 s w rd rs n) : (w = 4 ∨ w = 8) ∧ small rd ∧ small rs ∧ n = 0 ∧ inI n ∧ fitsX 0 n = true ∧ 3 ≤ s.size ∧ chr s 0 = rexI w rs rd ∧ chr s 1 = 33 ∧ chr s 2 = modI 192 rs rd := by
  obtain ⟨he, hi, hs⟩ := h
  have hE : errX 6 w rd rs n = (bif (decide (w = 4) || decide (w = 8)) && ((true || decide (w = 0)) && (regX rd && (regX rs && decide (n = 0)))) then (bif ((true) || false) then 0 else 10) else 1) := by kernel_rfl
  rw [hE] at he
  obtain ⟨hA, hF⟩ := err0 he
  have hL : encL 6 w rd rs n = [rexI w rs rd, 33, modI 192 rs rd] ++ tailL n 0 := by kernel_rfl
  rw [hL] at hs
  obtain ⟨h1, h2, h3⟩ := starts_tail hs
  rw [tail_length] at h2 h3
  simp [regX, condX] at hA hF
  have e0 : chr s 0 = rexI w rs rd := h1.2 0 (by show 0 < 3; decide)
  have e1 : chr s 1 = 33 := h1.2 1 (by show 1 < 3; decide)
  have e2 : chr s 2 = modI 192 rs rd := h1.2 2 (by show 2 < 3; decide)
  exact ⟨by first | omega | (simp only [small]; omega), by first | omega | (simp only [small]; omega), by first | omega | (simp only [small]; omega), by first | omega | (simp only [small]; omega), hi, by first | rfl | (simp [fitsX]; omega), h2, e0, e1, e2⟩

attribute [local irreducible] evalF Lf.gives in
theorem guess_6 : GP 6 (.agg [.int true .i64 0, .str ⟨#[33]⟩, .int true .i64 0, .bool true false, .int true .i64 0, .bool true false, .bool true false]) := by
  intro s
  cases hp : preOk false s with
  | false =>
    refine GP_of false (gn_6 s) ?_
    rw [hp]
    refine GPl_no fun w rd rs n hd => ?_
    obtain ⟨hw, hrd, hrs, qn, hi, hf, hz, e0, e1, e2⟩ := fact_6 hd
    have := pre0 hw hrs hrd (by omega) e0
    rw [hp] at this
    cases this
  | true =>
    refine GP_of true (gy_6 s) ?_
    rw [hp]
    refine GPl_cond (fun _ => ?_) (fun hc => by cases hc)
    repeat' refine GPl_cond (fun _ => ?_) (fun _ => ?_)
    all_goals simp only [cmz] at *
    all_goals first
        | (exfalso; omega)
        | (refine GPl_no fun w rd rs n hd => ?_; obtain ⟨hw, hrd, hrs, qn, hi, hf, hz, e0, e1, e2⟩ := fact_6 hd; omega)
        | (refine GPl_yes (inI0) fun w rd rs n hd => ?_
           obtain ⟨hw, hrd, hrs, qn, hi, hf, hz, e0, e1, e2⟩ := fact_6 hd
           obtain ⟨x0, x1, x2, x3⟩ := rex_facts hw hrs hrd
           rw [← e0] at x1 x2 x3
           obtain ⟨y0, y1⟩ := mod_facts (.inl rfl) hrs hrd
           rw [← e2] at y0 y1
           exact ⟨by omega, by rw [y0, x2]; exact (put_facts hrd).1, by rw [y1, x3]; exact (put_facts hrs).2, qn.symm⟩)

theorem fact_7 {s : ByteArray} {w rd rs n : Int} (h : DX 7 s w rd rs n) : (w = 4 ∨ w = 8) ∧ small rd ∧ small rs ∧ n = 0 ∧ inI n ∧ fitsX 0 n = true ∧ 3 ≤ s.size ∧ chr s 0 = rexI w rs rd ∧ chr s 1 = 9 ∧ chr s 2 = modI 192 rs rd := by
  obtain ⟨he, hi, hs⟩ := h
  have hE : errX 7 w rd rs n = (bif (decide (w = 4) || decide (w = 8)) && ((true || decide (w = 0)) && (regX rd && (regX rs && decide (n = 0)))) then (bif ((true) || false) then 0 else 10) else 1) := by kernel_rfl
  rw [hE] at he
  obtain ⟨hA, hF⟩ := err0 he
  have hL : encL 7 w rd rs n = [rexI w rs rd, 9, modI 192 rs rd] ++ tailL n 0 := by kernel_rfl
  rw [hL] at hs
  obtain ⟨h1, h2, h3⟩ := starts_tail hs
  rw [tail_length] at h2 h3
  simp [regX, condX] at hA hF
  have e0 : chr s 0 = rexI w rs rd := h1.2 0 (by show 0 < 3; decide)
  have e1 : chr s 1 = 9 := h1.2 1 (by show 1 < 3; decide)
  have e2 : chr s 2 = modI 192 rs rd := h1.2 2 (by show 2 < 3; decide)
  exact ⟨by first | omega | (simp only [small]; omega), by first | omega | (simp only [small]; omega), by first | omega | (simp only [small]; omega), by first | omega | (simp only [small]; omega), hi, by first | rfl | (simp [fitsX]; omega), h2, e0, e1, e2⟩

attribute [local irreducible] evalF Lf.gives in
theorem guess_7 : GP 7 (.agg [.int true .i64 0, .str ⟨#[9]⟩, .int true .i64 0, .bool true false, .int true .i64 0, .bool true false, .bool true false]) := by
  intro s
  cases hp : preOk false s with
  | false =>
    refine GP_of false (gn_7 s) ?_
    rw [hp]
    refine GPl_no fun w rd rs n hd => ?_
    obtain ⟨hw, hrd, hrs, qn, hi, hf, hz, e0, e1, e2⟩ := fact_7 hd
    have := pre0 hw hrs hrd (by omega) e0
    rw [hp] at this
    cases this
  | true =>
    refine GP_of true (gy_7 s) ?_
    rw [hp]
    refine GPl_cond (fun _ => ?_) (fun hc => by cases hc)
    repeat' refine GPl_cond (fun _ => ?_) (fun _ => ?_)
    all_goals simp only [cmz] at *
    all_goals first
        | (exfalso; omega)
        | (refine GPl_no fun w rd rs n hd => ?_; obtain ⟨hw, hrd, hrs, qn, hi, hf, hz, e0, e1, e2⟩ := fact_7 hd; omega)
        | (refine GPl_yes (inI0) fun w rd rs n hd => ?_
           obtain ⟨hw, hrd, hrs, qn, hi, hf, hz, e0, e1, e2⟩ := fact_7 hd
           obtain ⟨x0, x1, x2, x3⟩ := rex_facts hw hrs hrd
           rw [← e0] at x1 x2 x3
           obtain ⟨y0, y1⟩ := mod_facts (.inl rfl) hrs hrd
           rw [← e2] at y0 y1
           exact ⟨by omega, by rw [y0, x2]; exact (put_facts hrd).1, by rw [y1, x3]; exact (put_facts hrs).2, qn.symm⟩)

theorem fact_8 {s : ByteArray} {w rd rs n : Int} (h : DX 8 s w rd rs n) : (w = 4 ∨ w = 8) ∧ small rd ∧ small rs ∧ n = 0 ∧ inI n ∧ fitsX 0 n = true ∧ 3 ≤ s.size ∧ chr s 0 = rexI w rs rd ∧ chr s 1 = 49 ∧ chr s 2 = modI 192 rs rd := by
  obtain ⟨he, hi, hs⟩ := h
  have hE : errX 8 w rd rs n = (bif (decide (w = 4) || decide (w = 8)) && ((true || decide (w = 0)) && (regX rd && (regX rs && decide (n = 0)))) then (bif ((true) || false) then 0 else 10) else 1) := by kernel_rfl
  rw [hE] at he
  obtain ⟨hA, hF⟩ := err0 he
  have hL : encL 8 w rd rs n = [rexI w rs rd, 49, modI 192 rs rd] ++ tailL n 0 := by kernel_rfl
  rw [hL] at hs
  obtain ⟨h1, h2, h3⟩ := starts_tail hs
  rw [tail_length] at h2 h3
  simp [regX, condX] at hA hF
  have e0 : chr s 0 = rexI w rs rd := h1.2 0 (by show 0 < 3; decide)
  have e1 : chr s 1 = 49 := h1.2 1 (by show 1 < 3; decide)
  have e2 : chr s 2 = modI 192 rs rd := h1.2 2 (by show 2 < 3; decide)
  exact ⟨by first | omega | (simp only [small]; omega), by first | omega | (simp only [small]; omega), by first | omega | (simp only [small]; omega), by first | omega | (simp only [small]; omega), hi, by first | rfl | (simp [fitsX]; omega), h2, e0, e1, e2⟩

attribute [local irreducible] evalF Lf.gives in
theorem guess_8 : GP 8 (.agg [.int true .i64 0, .str ⟨#[49]⟩, .int true .i64 0, .bool true false, .int true .i64 0, .bool true false, .bool true false]) := by
  intro s
  cases hp : preOk false s with
  | false =>
    refine GP_of false (gn_8 s) ?_
    rw [hp]
    refine GPl_no fun w rd rs n hd => ?_
    obtain ⟨hw, hrd, hrs, qn, hi, hf, hz, e0, e1, e2⟩ := fact_8 hd
    have := pre0 hw hrs hrd (by omega) e0
    rw [hp] at this
    cases this
  | true =>
    refine GP_of true (gy_8 s) ?_
    rw [hp]
    refine GPl_cond (fun _ => ?_) (fun hc => by cases hc)
    repeat' refine GPl_cond (fun _ => ?_) (fun _ => ?_)
    all_goals simp only [cmz] at *
    all_goals first
        | (exfalso; omega)
        | (refine GPl_no fun w rd rs n hd => ?_; obtain ⟨hw, hrd, hrs, qn, hi, hf, hz, e0, e1, e2⟩ := fact_8 hd; omega)
        | (refine GPl_yes (inI0) fun w rd rs n hd => ?_
           obtain ⟨hw, hrd, hrs, qn, hi, hf, hz, e0, e1, e2⟩ := fact_8 hd
           obtain ⟨x0, x1, x2, x3⟩ := rex_facts hw hrs hrd
           rw [← e0] at x1 x2 x3
           obtain ⟨y0, y1⟩ := mod_facts (.inl rfl) hrs hrd
           rw [← e2] at y0 y1
           exact ⟨by omega, by rw [y0, x2]; exact (put_facts hrd).1, by rw [y1, x3]; exact (put_facts hrs).2, qn.symm⟩)

theorem fact_9 {s : ByteArray} {w rd rs n : Int} (h : DX 9 s w rd rs n) : (w = 4 ∨ w = 8) ∧ small rd ∧ small rs ∧ n = 0 ∧ inI n ∧ fitsX 0 n = true ∧ 3 ≤ s.size ∧ chr s 0 = rexI w rs rd ∧ chr s 1 = 57 ∧ chr s 2 = modI 192 rs rd := by
  obtain ⟨he, hi, hs⟩ := h
  have hE : errX 9 w rd rs n = (bif (decide (w = 4) || decide (w = 8)) && ((true || decide (w = 0)) && (regX rd && (regX rs && decide (n = 0)))) then (bif ((true) || false) then 0 else 10) else 1) := by kernel_rfl
  rw [hE] at he
  obtain ⟨hA, hF⟩ := err0 he
  have hL : encL 9 w rd rs n = [rexI w rs rd, 57, modI 192 rs rd] ++ tailL n 0 := by kernel_rfl
  rw [hL] at hs
  obtain ⟨h1, h2, h3⟩ := starts_tail hs
  rw [tail_length] at h2 h3
  simp [regX, condX] at hA hF
  have e0 : chr s 0 = rexI w rs rd := h1.2 0 (by show 0 < 3; decide)
  have e1 : chr s 1 = 57 := h1.2 1 (by show 1 < 3; decide)
  have e2 : chr s 2 = modI 192 rs rd := h1.2 2 (by show 2 < 3; decide)
  exact ⟨by first | omega | (simp only [small]; omega), by first | omega | (simp only [small]; omega), by first | omega | (simp only [small]; omega), by first | omega | (simp only [small]; omega), hi, by first | rfl | (simp [fitsX]; omega), h2, e0, e1, e2⟩

attribute [local irreducible] evalF Lf.gives in
theorem guess_9 : GP 9 (.agg [.int true .i64 0, .str ⟨#[57]⟩, .int true .i64 0, .bool true false, .int true .i64 0, .bool true false, .bool true false]) := by
  intro s
  cases hp : preOk false s with
  | false =>
    refine GP_of false (gn_9 s) ?_
    rw [hp]
    refine GPl_no fun w rd rs n hd => ?_
    obtain ⟨hw, hrd, hrs, qn, hi, hf, hz, e0, e1, e2⟩ := fact_9 hd
    have := pre0 hw hrs hrd (by omega) e0
    rw [hp] at this
    cases this
  | true =>
    refine GP_of true (gy_9 s) ?_
    rw [hp]
    refine GPl_cond (fun _ => ?_) (fun hc => by cases hc)
    repeat' refine GPl_cond (fun _ => ?_) (fun _ => ?_)
    all_goals simp only [cmz] at *
    all_goals first
        | (exfalso; omega)
        | (refine GPl_no fun w rd rs n hd => ?_; obtain ⟨hw, hrd, hrs, qn, hi, hf, hz, e0, e1, e2⟩ := fact_9 hd; omega)
        | (refine GPl_yes (inI0) fun w rd rs n hd => ?_
           obtain ⟨hw, hrd, hrs, qn, hi, hf, hz, e0, e1, e2⟩ := fact_9 hd
           obtain ⟨x0, x1, x2, x3⟩ := rex_facts hw hrs hrd
           rw [← e0] at x1 x2 x3
           obtain ⟨y0, y1⟩ := mod_facts (.inl rfl) hrs hrd
           rw [← e2] at y0 y1
           exact ⟨by omega, by rw [y0, x2]; exact (put_facts hrd).1, by rw [y1, x3]; exact (put_facts hrs).2, qn.symm⟩)

theorem fact_10 {s : ByteArray} {w rd rs n : Int} (h : DX 10 s w rd rs n) : (w = 4 ∨ w = 8) ∧ small rd ∧ small rs ∧ n = 0 ∧ inI n ∧ fitsX 0 n = true ∧ 4 ≤ s.size ∧ chr s 0 = rexI w rd rs ∧ chr s 1 = 15 ∧ chr s 2 = 175 ∧ chr s 3 = modI 192 rd rs := by
  obtain ⟨he, hi, hs⟩ := h
  have hE : errX 10 w rd rs n = (bif (decide (w = 4) || decide (w = 8)) && ((true || decide (w = 0)) && (regX rd && (regX rs && decide (n = 0)))) then (bif ((true) || false) then 0 else 10) else 1) := by kernel_rfl
  rw [hE] at he
  obtain ⟨hA, hF⟩ := err0 he
  have hL : encL 10 w rd rs n = [rexI w rd rs, 15, 175, modI 192 rd rs] ++ tailL n 0 := by kernel_rfl
  rw [hL] at hs
  obtain ⟨h1, h2, h3⟩ := starts_tail hs
  rw [tail_length] at h2 h3
  simp [regX, condX] at hA hF
  have e0 : chr s 0 = rexI w rd rs := h1.2 0 (by show 0 < 4; decide)
  have e1 : chr s 1 = 15 := h1.2 1 (by show 1 < 4; decide)
  have e2 : chr s 2 = 175 := h1.2 2 (by show 2 < 4; decide)
  have e3 : chr s 3 = modI 192 rd rs := h1.2 3 (by show 3 < 4; decide)
  exact ⟨by first | omega | (simp only [small]; omega), by first | omega | (simp only [small]; omega), by first | omega | (simp only [small]; omega), by first | omega | (simp only [small]; omega), hi, by first | rfl | (simp [fitsX]; omega), h2, e0, e1, e2, e3⟩

attribute [local irreducible] evalF Lf.gives in
theorem guess_10 : GP 10 (.agg [.int true .i64 0, .str ⟨#[15, 175]⟩, .int true .i64 0, .bool true true, .int true .i64 0, .bool true false, .bool true false]) := by
  intro s
  cases hp : preOk false s with
  | false =>
    refine GP_of false (gn_10 s) ?_
    rw [hp]
    refine GPl_no fun w rd rs n hd => ?_
    obtain ⟨hw, hrd, hrs, qn, hi, hf, hz, e0, e1, e2, e3⟩ := fact_10 hd
    have := pre0 hw hrd hrs (by omega) e0
    rw [hp] at this
    cases this
  | true =>
    refine GP_of true (gy_10 s) ?_
    rw [hp]
    refine GPl_cond (fun _ => ?_) (fun hc => by cases hc)
    repeat' refine GPl_cond (fun _ => ?_) (fun _ => ?_)
    all_goals simp only [cmz] at *
    all_goals first
        | (exfalso; omega)
        | (refine GPl_no fun w rd rs n hd => ?_; obtain ⟨hw, hrd, hrs, qn, hi, hf, hz, e0, e1, e2, e3⟩ := fact_10 hd; omega)
        | (refine GPl_yes (inI0) fun w rd rs n hd => ?_
           obtain ⟨hw, hrd, hrs, qn, hi, hf, hz, e0, e1, e2, e3⟩ := fact_10 hd
           obtain ⟨x0, x1, x2, x3⟩ := rex_facts hw hrd hrs
           rw [← e0] at x1 x2 x3
           obtain ⟨y0, y1⟩ := mod_facts (.inl rfl) hrd hrs
           rw [← e3] at y0 y1
           exact ⟨by omega, by rw [y1, x3]; exact (put_facts hrd).2, by rw [y0, x2]; exact (put_facts hrs).1, qn.symm⟩)

theorem fact_11 {s : ByteArray} {w rd rs n : Int} (h : DX 11 s w rd rs n) : (w = 4 ∨ w = 8) ∧ small rd ∧ rs = 0 ∧ n = 0 ∧ inI n ∧ fitsX 0 n = true ∧ 3 ≤ s.size ∧ chr s 0 = rexI w 0 rd ∧ chr s 1 = 247 ∧ chr s 2 = modI 192 3 rd := by
  obtain ⟨he, hi, hs⟩ := h
  have hE : errX 11 w rd rs n = (bif (decide (w = 4) || decide (w = 8)) && ((true || decide (w = 0)) && (regX rd && (decide (rs = 0) && (false || decide (n = 0))))) then (bif ((true) || false) then 0 else 10) else 1) := by kernel_rfl
  rw [hE] at he
  obtain ⟨hA, hF⟩ := err0 he
  have hL : encL 11 w rd rs n = [rexI w 0 rd, 247, modI 192 3 rd] ++ tailL n 0 := by kernel_rfl
  rw [hL] at hs
  obtain ⟨h1, h2, h3⟩ := starts_tail hs
  rw [tail_length] at h2 h3
  simp [regX, condX] at hA hF
  have e0 : chr s 0 = rexI w 0 rd := h1.2 0 (by show 0 < 3; decide)
  have e1 : chr s 1 = 247 := h1.2 1 (by show 1 < 3; decide)
  have e2 : chr s 2 = modI 192 3 rd := h1.2 2 (by show 2 < 3; decide)
  exact ⟨by first | omega | (simp only [small]; omega), by first | omega | (simp only [small]; omega), by first | omega | (simp only [small]; omega), by first | omega | (simp only [small]; omega), hi, by first | rfl | (simp [fitsX]; omega), h2, e0, e1, e2⟩

attribute [local irreducible] evalF Lf.gives in
theorem guess_11 : GP 11 (.agg [.int true .i64 1, .str ⟨#[247]⟩, .int true .i64 3, .bool true false, .int true .i64 0, .bool true false, .bool true false]) := by
  intro s
  cases hp : preOk false s with
  | false =>
    refine GP_of false (gn_11 s) ?_
    rw [hp]
    refine GPl_no fun w rd rs n hd => ?_
    obtain ⟨hw, hrd, qs, qn, hi, hf, hz, e0, e1, e2⟩ := fact_11 hd
    have := pre0 hw (by decide : small 0) hrd (by omega) e0
    rw [hp] at this
    cases this
  | true =>
    refine GP_of true (gy_11 s) ?_
    rw [hp]
    refine GPl_cond (fun _ => ?_) (fun hc => by cases hc)
    repeat' refine GPl_cond (fun _ => ?_) (fun _ => ?_)
    all_goals simp only [cmz] at *
    all_goals first
        | (exfalso; omega)
        | (refine GPl_no fun w rd rs n hd => ?_; obtain ⟨hw, hrd, qs, qn, hi, hf, hz, e0, e1, e2⟩ := fact_11 hd; omega)
        | (refine GPl_yes (inI0) fun w rd rs n hd => ?_
           obtain ⟨hw, hrd, qs, qn, hi, hf, hz, e0, e1, e2⟩ := fact_11 hd
           obtain ⟨x0, x1, x2, x3⟩ := rex_facts hw (by decide : small 0) hrd
           rw [← e0] at x1 x2 x3
           obtain ⟨y0, y1⟩ := mod_facts (.inl rfl) (by decide : small 3) hrd
           rw [← e2] at y0 y1
           exact ⟨by omega, by rw [y0, x2]; exact (put_facts hrd).1, qs.symm, qn.symm⟩)

theorem fact_12 {s : ByteArray} {w rd rs n : Int} (h : DX 12 s w rd rs n) : (w = 4 ∨ w = 8) ∧ small rd ∧ rs = 0 ∧ n = 0 ∧ inI n ∧ fitsX 0 n = true ∧ 3 ≤ s.size ∧ chr s 0 = rexI w 0 rd ∧ chr s 1 = 247 ∧ chr s 2 = modI 192 2 rd := by
  obtain ⟨he, hi, hs⟩ := h
  have hE : errX 12 w rd rs n = (bif (decide (w = 4) || decide (w = 8)) && ((true || decide (w = 0)) && (regX rd && (decide (rs = 0) && (false || decide (n = 0))))) then (bif ((true) || false) then 0 else 10) else 1) := by kernel_rfl
  rw [hE] at he
  obtain ⟨hA, hF⟩ := err0 he
  have hL : encL 12 w rd rs n = [rexI w 0 rd, 247, modI 192 2 rd] ++ tailL n 0 := by kernel_rfl
  rw [hL] at hs
  obtain ⟨h1, h2, h3⟩ := starts_tail hs
  rw [tail_length] at h2 h3
  simp [regX, condX] at hA hF
  have e0 : chr s 0 = rexI w 0 rd := h1.2 0 (by show 0 < 3; decide)
  have e1 : chr s 1 = 247 := h1.2 1 (by show 1 < 3; decide)
  have e2 : chr s 2 = modI 192 2 rd := h1.2 2 (by show 2 < 3; decide)
  exact ⟨by first | omega | (simp only [small]; omega), by first | omega | (simp only [small]; omega), by first | omega | (simp only [small]; omega), by first | omega | (simp only [small]; omega), hi, by first | rfl | (simp [fitsX]; omega), h2, e0, e1, e2⟩

attribute [local irreducible] evalF Lf.gives in
theorem guess_12 : GP 12 (.agg [.int true .i64 1, .str ⟨#[247]⟩, .int true .i64 2, .bool true false, .int true .i64 0, .bool true false, .bool true false]) := by
  intro s
  cases hp : preOk false s with
  | false =>
    refine GP_of false (gn_12 s) ?_
    rw [hp]
    refine GPl_no fun w rd rs n hd => ?_
    obtain ⟨hw, hrd, qs, qn, hi, hf, hz, e0, e1, e2⟩ := fact_12 hd
    have := pre0 hw (by decide : small 0) hrd (by omega) e0
    rw [hp] at this
    cases this
  | true =>
    refine GP_of true (gy_12 s) ?_
    rw [hp]
    refine GPl_cond (fun _ => ?_) (fun hc => by cases hc)
    repeat' refine GPl_cond (fun _ => ?_) (fun _ => ?_)
    all_goals simp only [cmz] at *
    all_goals first
        | (exfalso; omega)
        | (refine GPl_no fun w rd rs n hd => ?_; obtain ⟨hw, hrd, qs, qn, hi, hf, hz, e0, e1, e2⟩ := fact_12 hd; omega)
        | (refine GPl_yes (inI0) fun w rd rs n hd => ?_
           obtain ⟨hw, hrd, qs, qn, hi, hf, hz, e0, e1, e2⟩ := fact_12 hd
           obtain ⟨x0, x1, x2, x3⟩ := rex_facts hw (by decide : small 0) hrd
           rw [← e0] at x1 x2 x3
           obtain ⟨y0, y1⟩ := mod_facts (.inl rfl) (by decide : small 2) hrd
           rw [← e2] at y0 y1
           exact ⟨by omega, by rw [y0, x2]; exact (put_facts hrd).1, qs.symm, qn.symm⟩)

end Go.X
end

section
set_option linter.unusedVariables false
open Go Go.Ev Go.Proofs
namespace Go.X

theorem gy_13 (s : ByteArray) : (evalF (E26 true) Try.prog 26 [.int true .i64 13, .agg [.int true .i64 1, .str ⟨#[247]⟩, .int true .i64 7, .bool true false, .int true .i64 0, .bool true false, .bool true false], .str s] [] 1024).bare =
    (bif (preOk false s == true) then
 bif (cm .gtr 2 ↑s.size) then
 zG
 else
 bif (cm .neq (ar .and .u8 (chr s 0) 8) 0) then
 bif (Nat.blt (1) (s.size)) then
 bif (cm .geq 2 ↑s.size) then
 .ret (.tup [.agg [.int true .i64 13, .int true .i64 8, .int true .i64 0, .int true .i64 0, .int true .i64 0], .bool true false]) []
 else
 bif (Nat.blt (2) (s.size)) then
 bif (Nat.blt (2) (s.size)) then
 .ret (.tup [(.agg [.int true .i64 13, .int true .i64 8, (.int false .i64 (ar .or .i64 (conv .i64 (ar .and .u8 (chr s 2) 7)) (ar .shl .i64 (conv .i64 (ar .and .u8 (chr s 0) 1)) 3))), .int true .i64 0, .int true .i64 0]), .bool true true]) []
 else .bad
 else .bad
 else .bad
 else
 bif (Nat.blt (1) (s.size)) then
 bif (cm .geq 2 ↑s.size) then
 .ret (.tup [.agg [.int true .i64 13, .int true .i64 4, .int true .i64 0, .int true .i64 0, .int true .i64 0], .bool true false]) []
 else
 bif (Nat.blt (2) (s.size)) then
 bif (Nat.blt (2) (s.size)) then
 .ret (.tup [(.agg [.int true .i64 13, .int true .i64 4, (.int false .i64 (ar .or .i64 (conv .i64 (ar .and .u8 (chr s 2) 7)) (ar .shl .i64 (conv .i64 (ar .and .u8 (chr s 0) 1)) 3))), .int true .i64 0, .int true .i64 0]), .bool true true]) []
 else .bad
 else .bad
 else .bad
 else .bad) := by kernel_rfl

theorem gn_13 (s : ByteArray) : (evalF (E26 false) Try.prog 26 [.int true .i64 13, .agg [.int true .i64 1, .str ⟨#[247]⟩, .int true .i64 7, .bool true false, .int true .i64 0, .bool true false, .bool true false], .str s] [] 1024).bare =
    (bif (preOk false s == false) then
 zG
 else .bad) := by kernel_rfl

theorem gy_14 (s : ByteArray) : (evalF (E26 true) Try.prog 26 [.int true .i64 14, .agg [.int true .i64 1, .str ⟨#[247]⟩, .int true .i64 6, .bool true false, .int true .i64 0, .bool true false, .bool true false], .str s] [] 1024).bare =
    (bif (preOk false s == true) then
 bif (cm .gtr 2 ↑s.size) then
 zG
 else
 bif (cm .neq (ar .and .u8 (chr s 0) 8) 0) then
 bif (Nat.blt (1) (s.size)) then
 bif (cm .geq 2 ↑s.size) then
 .ret (.tup [.agg [.int true .i64 14, .int true .i64 8, .int true .i64 0, .int true .i64 0, .int true .i64 0], .bool true false]) []
 else
 bif (Nat.blt (2) (s.size)) then
 bif (Nat.blt (2) (s.size)) then
 .ret (.tup [(.agg [.int true .i64 14, .int true .i64 8, (.int false .i64 (ar .or .i64 (conv .i64 (ar .and .u8 (chr s 2) 7)) (ar .shl .i64 (conv .i64 (ar .and .u8 (chr s 0) 1)) 3))), .int true .i64 0, .int true .i64 0]), .bool true true]) []
 else .bad
 else .bad
 else .bad
 else
 bif (Nat.blt (1) (s.size)) then
 bif (cm .geq 2 ↑s.size) then
 .ret (.tup [.agg [.int true .i64 14, .int true .i64 4, .int true .i64 0, .int true .i64 0, .int true .i64 0], .bool true false]) []
 else
 bif (Nat.blt (2) (s.size)) then
 bif (Nat.blt (2) (s.size)) then
 .ret (.tup [(.agg [.int true .i64 14, .int true .i64 4, (.int false .i64 (ar .or .i64 (conv .i64 (ar .and .u8 (chr s 2) 7)) (ar .shl .i64 (conv .i64 (ar .and .u8 (chr s 0) 1)) 3))), .int true .i64 0, .int true .i64 0]), .bool true true]) []
 else .bad
 else .bad
 else .bad
 else .bad) := by kernel_rfl

theorem gn_14 (s : ByteArray) : (evalF (E26 false) Try.prog 26 [.int true .i64 14, .agg [.int true .i64 1, .str ⟨#[247]⟩, .int true .i64 6, .bool true false, .int true .i64 0, .bool true false, .bool true false], .str s] [] 1024).bare =
    (bif (preOk false s == false) then
 zG
 else .bad) := by kernel_rfl

theorem gy_15 (s : ByteArray) : (evalF (E26 true) Try.prog 26 [.int true .i64 15, .agg [.int true .i64 1, .str ⟨#[211]⟩, .int true .i64 4, .bool true false, .int true .i64 0, .bool true false, .bool true false], .str s] [] 1024).bare =
    (bif (preOk false s == true) then
 bif (cm .gtr 2 ↑s.size) then
 zG
 else
 bif (cm .neq (ar .and .u8 (chr s 0) 8) 0) then
 bif (Nat.blt (1) (s.size)) then
 bif (cm .geq 2 ↑s.size) then
 .ret (.tup [.agg [.int true .i64 15, .int true .i64 8, .int true .i64 0, .int true .i64 0, .int true .i64 0], .bool true false]) []
 else
 bif (Nat.blt (2) (s.size)) then
 bif (Nat.blt (2) (s.size)) then
 .ret (.tup [(.agg [.int true .i64 15, .int true .i64 8, (.int false .i64 (ar .or .i64 (conv .i64 (ar .and .u8 (chr s 2) 7)) (ar .shl .i64 (conv .i64 (ar .and .u8 (chr s 0) 1)) 3))), .int true .i64 0, .int true .i64 0]), .bool true true]) []
 else .bad
 else .bad
 else .bad
 else
 bif (Nat.blt (1) (s.size)) then
 bif (cm .geq 2 ↑s.size) then
 .ret (.tup [.agg [.int true .i64 15, .int true .i64 4, .int true .i64 0, .int true .i64 0, .int true .i64 0], .bool true false]) []
 else
 bif (Nat.blt (2) (s.size)) then
 bif (Nat.blt (2) (s.size)) then
 .ret (.tup [(.agg [.int true .i64 15, .int true .i64 4, (.int false .i64 (ar .or .i64 (conv .i64 (ar .and .u8 (chr s 2) 7)) (ar .shl .i64 (conv .i64 (ar .and .u8 (chr s 0) 1)) 3))), .int true .i64 0, .int true .i64 0]), .bool true true]) []
 else .bad
 else .bad
 else .bad
 else .bad) := by kernel_rfl

theorem gn_15 (s : ByteArray) : (evalF (E26 false) Try.prog 26 [.int true .i64 15, .agg [.int true .i64 1, .str ⟨#[211]⟩, .int true .i64 4, .bool true false, .int true .i64 0, .bool true false, .bool true false], .str s] [] 1024).bare =
    (bif (preOk false s == false) then
 zG
 else .bad) := by kernel_rfl

theorem gy_16 (s : ByteArray) : (evalF (E26 true) Try.prog 26 [.int true .i64 16, .agg [.int true .i64 1, .str ⟨#[211]⟩, .int true .i64 5, .bool true false, .int true .i64 0, .bool true false, .bool true false], .str s] [] 1024).bare =
    (bif (preOk false s == true) then
 bif (cm .gtr 2 ↑s.size) then
 zG
 else
 bif (cm .neq (ar .and .u8 (chr s 0) 8) 0) then
 bif (Nat.blt (1) (s.size)) then
 bif (cm .geq 2 ↑s.size) then
 .ret (.tup [.agg [.int true .i64 16, .int true .i64 8, .int true .i64 0, .int true .i64 0, .int true .i64 0], .bool true false]) []
 else
 bif (Nat.blt (2) (s.size)) then
 bif (Nat.blt (2) (s.size)) then
 .ret (.tup [(.agg [.int true .i64 16, .int true .i64 8, (.int false .i64 (ar .or .i64 (conv .i64 (ar .and .u8 (chr s 2) 7)) (ar .shl .i64 (conv .i64 (ar .and .u8 (chr s 0) 1)) 3))), .int true .i64 0, .int true .i64 0]), .bool true true]) []
 else .bad
 else .bad
 else .bad
 else
 bif (Nat.blt (1) (s.size)) then
 bif (cm .geq 2 ↑s.size) then
 .ret (.tup [.agg [.int true .i64 16, .int true .i64 4, .int true .i64 0, .int true .i64 0, .int true .i64 0], .bool true false]) []
 else
 bif (Nat.blt (2) (s.size)) then
 bif (Nat.blt (2) (s.size)) then
 .ret (.tup [(.agg [.int true .i64 16, .int true .i64 4, (.int false .i64 (ar .or .i64 (conv .i64 (ar .and .u8 (chr s 2) 7)) (ar .shl .i64 (conv .i64 (ar .and .u8 (chr s 0) 1)) 3))), .int true .i64 0, .int true .i64 0]), .bool true true]) []
 else .bad
 else .bad
 else .bad
 else .bad) := by kernel_rfl

theorem gn_16 (s : ByteArray) : (evalF (E26 false) Try.prog 26 [.int true .i64 16, .agg [.int true .i64 1, .str ⟨#[211]⟩, .int true .i64 5, .bool true false, .int true .i64 0, .bool true false, .bool true false], .str s] [] 1024).bare =
    (bif (preOk false s == false) then
 zG
 else .bad) := by kernel_rfl

theorem gy_17 (s : ByteArray) : (evalF (E26 true) Try.prog 26 [.int true .i64 17, .agg [.int true .i64 1, .str ⟨#[211]⟩, .int true .i64 7, .bool true false, .int true .i64 0, .bool true false, .bool true false], .str s] [] 1024).bare =
    (bif (preOk false s == true) then
 bif (cm .gtr 2 ↑s.size) then
 zG
 else
 bif (cm .neq (ar .and .u8 (chr s 0) 8) 0) then
 bif (Nat.blt (1) (s.size)) then
 bif (cm .geq 2 ↑s.size) then
 .ret (.tup [.agg [.int true .i64 17, .int true .i64 8, .int true .i64 0, .int true .i64 0, .int true .i64 0], .bool true false]) []
 else
 bif (Nat.blt (2) (s.size)) then
 bif (Nat.blt (2) (s.size)) then
 .ret (.tup [(.agg [.int true .i64 17, .int true .i64 8, (.int false .i64 (ar .or .i64 (conv .i64 (ar .and .u8 (chr s 2) 7)) (ar .shl .i64 (conv .i64 (ar .and .u8 (chr s 0) 1)) 3))), .int true .i64 0, .int true .i64 0]), .bool true true]) []
 else .bad
 else .bad
 else .bad
 else
 bif (Nat.blt (1) (s.size)) then
 bif (cm .geq 2 ↑s.size) then
 .ret (.tup [.agg [.int true .i64 17, .int true .i64 4, .int true .i64 0, .int true .i64 0, .int true .i64 0], .bool true false]) []
 else
 bif (Nat.blt (2) (s.size)) then
 bif (Nat.blt (2) (s.size)) then
 .ret (.tup [(.agg [.int true .i64 17, .int true .i64 4, (.int false .i64 (ar .or .i64 (conv .i64 (ar .and .u8 (chr s 2) 7)) (ar .shl .i64 (conv .i64 (ar .and .u8 (chr s 0) 1)) 3))), .int true .i64 0, .int true .i64 0]), .bool true true]) []
 else .bad
 else .bad
 else .bad
 else .bad) := by kernel_rfl

theorem gn_17 (s : ByteArray) : (evalF (E26 false) Try.prog 26 [.int true .i64 17, .agg [.int true .i64 1, .str ⟨#[211]⟩, .int true .i64 7, .bool true false, .int true .i64 0, .bool true false, .bool true false], .str s] [] 1024).bare =
    (bif (preOk false s == false) then
 zG
 else .bad) := by kernel_rfl

theorem gy_18 (s : ByteArray) : (evalF (E26 true) Try.prog 26 [.int true .i64 18, .agg [.int true .i64 6, .str ⟨#[153]⟩, .int true .i64 0, .bool true false, .int true .i64 0, .bool true false, .bool true false], .str s] [] 1024).bare =
    (bif (preOk false s == true) then
 bif (cm .gtr 2 ↑s.size) then
 zG
 else
 bif (cm .neq (ar .and .u8 (chr s 0) 8) 0) then
 bif (Nat.blt (1) (s.size)) then
 .ret (.tup [.agg [.int true .i64 18, .int true .i64 8, .int true .i64 0, .int true .i64 0, .int true .i64 0], .bool true true]) []
 else .bad
 else
 bif (Nat.blt (1) (s.size)) then
 .ret (.tup [.agg [.int true .i64 18, .int true .i64 4, .int true .i64 0, .int true .i64 0, .int true .i64 0], .bool true true]) []
 else .bad
 else .bad) := by kernel_rfl

theorem gn_18 (s : ByteArray) : (evalF (E26 false) Try.prog 26 [.int true .i64 18, .agg [.int true .i64 6, .str ⟨#[153]⟩, .int true .i64 0, .bool true false, .int true .i64 0, .bool true false, .bool true false], .str s] [] 1024).bare =
    (bif (preOk false s == false) then
 zG
 else .bad) := by kernel_rfl

theorem gy_19 (s : ByteArray) : (evalF (E26 true) Try.prog 26 [.int true .i64 19, .agg [.int true .i64 1, .str ⟨#[129]⟩, .int true .i64 0, .bool true false, .int true .i64 8, .bool true true, .bool true false], .str s] [] 1024).bare =
    (bif (preOk false s == true) then
 bif (cm .gtr 2 ↑s.size) then
 zG
 else
 bif (cm .neq (ar .and .u8 (chr s 0) 8) 0) then
 bif (Nat.blt (1) (s.size)) then
 bif (cm .geq 2 ↑s.size) then
 .ret (.tup [.agg [.int true .i64 19, .int true .i64 8, .int true .i64 0, .int true .i64 0, .int true .i64 0], .bool true false]) []
 else
 bif (Nat.blt (2) (s.size)) then
 bif (Nat.blt (2) (s.size)) then
 bif (cm .gtr 7 ↑s.size) then
 .ret (.tup [(.agg [.int true .i64 19, .int true .i64 8, (.int false .i64 (ar .or .i64 (conv .i64 (ar .and .u8 (chr s 2) 7)) (ar .shl .i64 (conv .i64 (ar .and .u8 (chr s 0) 1)) 3))), .int true .i64 0, .int true .i64 0]), .bool true false]) []
 else
 bif (Nat.ble (7) (s.size)) then
 bif (Nat.ble ((s.extract 3 7).size) (8)) then
 .ret (.tup [(.agg [.int true .i64 19, .int true .i64 8, (.int false .i64 (ar .or .i64 (conv .i64 (ar .and .u8 (chr s 2) 7)) (ar .shl .i64 (conv .i64 (ar .and .u8 (chr s 0) 1)) 3))), .int true .i64 0, .int false .i64 (numU (s.extract 3 7))]), .bool true true]) []
 else .bad
 else .bad
 else .bad
 else .bad
 else .bad
 else
 bif (Nat.blt (1) (s.size)) then
 bif (cm .geq 2 ↑s.size) then
 .ret (.tup [.agg [.int true .i64 19, .int true .i64 4, .int true .i64 0, .int true .i64 0, .int true .i64 0], .bool true false]) []
 else
 bif (Nat.blt (2) (s.size)) then
 bif (Nat.blt (2) (s.size)) then
 bif (cm .gtr 7 ↑s.size) then
 .ret (.tup [(.agg [.int true .i64 19, .int true .i64 4, (.int false .i64 (ar .or .i64 (conv .i64 (ar .and .u8 (chr s 2) 7)) (ar .shl .i64 (conv .i64 (ar .and .u8 (chr s 0) 1)) 3))), .int true .i64 0, .int true .i64 0]), .bool true false]) []
 else
 bif (Nat.ble (7) (s.size)) then
 bif (Nat.ble ((s.extract 3 7).size) (8)) then
 .ret (.tup [(.agg [.int true .i64 19, .int true .i64 4, (.int false .i64 (ar .or .i64 (conv .i64 (ar .and .u8 (chr s 2) 7)) (ar .shl .i64 (conv .i64 (ar .and .u8 (chr s 0) 1)) 3))), .int true .i64 0, .int false .i64 (numU (s.extract 3 7))]), .bool true true]) []
 else .bad
 else .bad
 else .bad
 else .bad
 else .bad
 else .bad) := by kernel_rfl

theorem gn_19 (s : ByteArray) : (evalF (E26 false) Try.prog 26 [.int true .i64 19, .agg [.int true .i64 1, .str ⟨#[129]⟩, .int true .i64 0, .bool true false, .int true .i64 8, .bool true true, .bool true false], .str s] [] 1024).bare =
    (bif (preOk false s == false) then
 zG
 else .bad) := by kernel_rfl

theorem gy_20 (s : ByteArray) : (evalF (E26 true) Try.prog 26 [.int true .i64 20, .agg [.int true .i64 7, .str ⟨#[15, 144]⟩, .int true .i64 0, .bool true false, .int true .i64 4, .bool true false, .bool true false], .str s] [] 1024).bare =
    (bif (preOk false s == true) then
 bif (cm .gtr 3 ↑s.size) then
 zG
 else
 bif (cm .neq (ar .and .u8 (chr s 0) 8) 0) then
 bif (Nat.blt (2) (s.size)) then
 bif (cm .geq 3 ↑s.size) then
 .ret (.tup [.agg [.int true .i64 20, .int true .i64 8, .int true .i64 0, .int true .i64 0, .int false .i64 (ar .sub .i64 (conv .i64 (chr s 2)) 144)], .bool true false]) []
 else
 bif (Nat.blt (3) (s.size)) then
 bif (Nat.blt (3) (s.size)) then
 .ret (.tup [(.agg [.int true .i64 20, .int true .i64 8, (.int false .i64 (ar .or .i64 (conv .i64 (ar .and .u8 (chr s 3) 7)) (ar .shl .i64 (conv .i64 (ar .and .u8 (chr s 0) 1)) 3))), .int true .i64 0, .int false .i64 (ar .sub .i64 (conv .i64 (chr s 2)) 144)]), .bool true true]) []
 else .bad
 else .bad
 else .bad
 else
 bif (Nat.blt (2) (s.size)) then
 bif (cm .geq 3 ↑s.size) then
 .ret (.tup [.agg [.int true .i64 20, .int true .i64 4, .int true .i64 0, .int true .i64 0, .int false .i64 (ar .sub .i64 (conv .i64 (chr s 2)) 144)], .bool true false]) []
 else
 bif (Nat.blt (3) (s.size)) then
 bif (Nat.blt (3) (s.size)) then
 .ret (.tup [(.agg [.int true .i64 20, .int true .i64 4, (.int false .i64 (ar .or .i64 (conv .i64 (ar .and .u8 (chr s 3) 7)) (ar .shl .i64 (conv .i64 (ar .and .u8 (chr s 0) 1)) 3))), .int true .i64 0, .int false .i64 (ar .sub .i64 (conv .i64 (chr s 2)) 144)]), .bool true true]) []
 else .bad
 else .bad
 else .bad
 else .bad) := by kernel_rfl

theorem gn_20 (s : ByteArray) : (evalF (E26 false) Try.prog 26 [.int true .i64 20, .agg [.int true .i64 7, .str ⟨#[15, 144]⟩, .int true .i64 0, .bool true false, .int true .i64 4, .bool true false, .bool true false], .str s] [] 1024).bare =
    (bif (preOk false s == false) then
 zG
 else .bad) := by kernel_rfl

theorem gy_21 (s : ByteArray) : (evalF (E26 true) Try.prog 26 [.int true .i64 21, .agg [.int true .i64 0, .str ⟨#[15, 182]⟩, .int true .i64 0, .bool true true, .int true .i64 8, .bool true false, .bool true false], .str s] [] 1024).bare =
    (bif (preOk false s == true) then
 bif (cm .gtr 3 ↑s.size) then
 zG
 else
 bif (cm .neq (ar .and .u8 (chr s 0) 8) 0) then
 bif (Nat.blt (2) (s.size)) then
 bif (cm .geq 3 ↑s.size) then
 .ret (.tup [.agg [.int true .i64 21, .int true .i64 8, .int true .i64 0, .int true .i64 0, .int true .i64 0], .bool true false]) []
 else
 bif (Nat.blt (3) (s.size)) then
 bif (Nat.blt (3) (s.size)) then
 .ret (.tup [(.agg [.int true .i64 21, .int true .i64 8, (.int false .i64 (ar .or .i64 (conv .i64 (ar .and .u8 (ar .shr .u8 (chr s 3) 3) 7)) (ar .shl .i64 (conv .i64 (ar .and .u8 (chr s 0) 4)) 1))), (.int false .i64 (ar .or .i64 (conv .i64 (ar .and .u8 (chr s 3) 7)) (ar .shl .i64 (conv .i64 (ar .and .u8 (chr s 0) 1)) 3))), .int true .i64 0]), .bool true true]) []
 else .bad
 else .bad
 else .bad
 else
 bif (Nat.blt (2) (s.size)) then
 bif (cm .geq 3 ↑s.size) then
 .ret (.tup [.agg [.int true .i64 21, .int true .i64 4, .int true .i64 0, .int true .i64 0, .int true .i64 0], .bool true false]) []
 else
 bif (Nat.blt (3) (s.size)) then
 bif (Nat.blt (3) (s.size)) then
 .ret (.tup [(.agg [.int true .i64 21, .int true .i64 4, (.int false .i64 (ar .or .i64 (conv .i64 (ar .and .u8 (ar .shr .u8 (chr s 3) 3) 7)) (ar .shl .i64 (conv .i64 (ar .and .u8 (chr s 0) 4)) 1))), (.int false .i64 (ar .or .i64 (conv .i64 (ar .and .u8 (chr s 3) 7)) (ar .shl .i64 (conv .i64 (ar .and .u8 (chr s 0) 1)) 3))), .int true .i64 0]), .bool true true]) []
 else .bad
 else .bad
 else .bad
 else .bad) := by kernel_rfl

theorem gn_21 (s : ByteArray) : (evalF (E26 false) Try.prog 26 [.int true .i64 21, .agg [.int true .i64 0, .str ⟨#[15, 182]⟩, .int true .i64 0, .bool true true, .int true .i64 8, .bool true false, .bool true false], .str s] [] 1024).bare =
    (bif (preOk false s == false) then
 zG
 else .bad) := by kernel_rfl

theorem gy_22 (s : ByteArray) : (evalF (E26 true) Try.prog 26 [.int true .i64 22, .agg [.int true .i64 0, .str ⟨#[15, 183]⟩, .int true .i64 0, .bool true true, .int true .i64 8, .bool true false, .bool true false], .str s] [] 1024).bare =
    (bif (preOk false s == true) then
 bif (cm .gtr 3 ↑s.size) then
 zG
 else
 bif (cm .neq (ar .and .u8 (chr s 0) 8) 0) then
 bif (Nat.blt (2) (s.size)) then
 bif (cm .geq 3 ↑s.size) then
 .ret (.tup [.agg [.int true .i64 22, .int true .i64 8, .int true .i64 0, .int true .i64 0, .int true .i64 0], .bool true false]) []
 else
 bif (Nat.blt (3) (s.size)) then
 bif (Nat.blt (3) (s.size)) then
 .ret (.tup [(.agg [.int true .i64 22, .int true .i64 8, (.int false .i64 (ar .or .i64 (conv .i64 (ar .and .u8 (ar .shr .u8 (chr s 3) 3) 7)) (ar .shl .i64 (conv .i64 (ar .and .u8 (chr s 0) 4)) 1))), (.int false .i64 (ar .or .i64 (conv .i64 (ar .and .u8 (chr s 3) 7)) (ar .shl .i64 (conv .i64 (ar .and .u8 (chr s 0) 1)) 3))), .int true .i64 0]), .bool true true]) []
 else .bad
 else .bad
 else .bad
 else
 bif (Nat.blt (2) (s.size)) then
 bif (cm .geq 3 ↑s.size) then
 .ret (.tup [.agg [.int true .i64 22, .int true .i64 4, .int true .i64 0, .int true .i64 0, .int true .i64 0], .bool true false]) []
 else
 bif (Nat.blt (3) (s.size)) then
 bif (Nat.blt (3) (s.size)) then
 .ret (.tup [(.agg [.int true .i64 22, .int true .i64 4, (.int false .i64 (ar .or .i64 (conv .i64 (ar .and .u8 (ar .shr .u8 (chr s 3) 3) 7)) (ar .shl .i64 (conv .i64 (ar .and .u8 (chr s 0) 4)) 1))), (.int false .i64 (ar .or .i64 (conv .i64 (ar .and .u8 (chr s 3) 7)) (ar .shl .i64 (conv .i64 (ar .and .u8 (chr s 0) 1)) 3))), .int true .i64 0]), .bool true true]) []
 else .bad
 else .bad
 else .bad
 else .bad) := by kernel_rfl

theorem gn_22 (s : ByteArray) : (evalF (E26 false) Try.prog 26 [.int true .i64 22, .agg [.int true .i64 0, .str ⟨#[15, 183]⟩, .int true .i64 0, .bool true true, .int true .i64 8, .bool true false, .bool true false], .str s] [] 1024).bare =
    (bif (preOk false s == false) then
 zG
 else .bad) := by kernel_rfl

theorem gy_23 (s : ByteArray) : (evalF (E26 true) Try.prog 26 [.int true .i64 23, .agg [.int true .i64 0, .str ⟨#[15, 190]⟩, .int true .i64 0, .bool true true, .int true .i64 8, .bool true false, .bool true false], .str s] [] 1024).bare =
    (bif (preOk false s == true) then
 bif (cm .gtr 3 ↑s.size) then
 zG
 else
 bif (cm .neq (ar .and .u8 (chr s 0) 8) 0) then
 bif (Nat.blt (2) (s.size)) then
 bif (cm .geq 3 ↑s.size) then
 .ret (.tup [.agg [.int true .i64 23, .int true .i64 8, .int true .i64 0, .int true .i64 0, .int true .i64 0], .bool true false]) []
 else
 bif (Nat.blt (3) (s.size)) then
 bif (Nat.blt (3) (s.size)) then
 .ret (.tup [(.agg [.int true .i64 23, .int true .i64 8, (.int false .i64 (ar .or .i64 (conv .i64 (ar .and .u8 (ar .shr .u8 (chr s 3) 3) 7)) (ar .shl .i64 (conv .i64 (ar .and .u8 (chr s 0) 4)) 1))), (.int false .i64 (ar .or .i64 (conv .i64 (ar .and .u8 (chr s 3) 7)) (ar .shl .i64 (conv .i64 (ar .and .u8 (chr s 0) 1)) 3))), .int true .i64 0]), .bool true true]) []
 else .bad
 else .bad
 else .bad
 else
 bif (Nat.blt (2) (s.size)) then
 bif (cm .geq 3 ↑s.size) then
 .ret (.tup [.agg [.int true .i64 23, .int true .i64 4, .int true .i64 0, .int true .i64 0, .int true .i64 0], .bool true false]) []
 else
 bif (Nat.blt (3) (s.size)) then
 bif (Nat.blt (3) (s.size)) then
 .ret (.tup [(.agg [.int true .i64 23, .int true .i64 4, (.int false .i64 (ar .or .i64 (conv .i64 (ar .and .u8 (ar .shr .u8 (chr s 3) 3) 7)) (ar .shl .i64 (conv .i64 (ar .and .u8 (chr s 0) 4)) 1))), (.int false .i64 (ar .or .i64 (conv .i64 (ar .and .u8 (chr s 3) 7)) (ar .shl .i64 (conv .i64 (ar .and .u8 (chr s 0) 1)) 3))), .int true .i64 0]), .bool true true]) []
 else .bad
 else .bad
 else .bad
 else .bad) := by kernel_rfl

theorem gn_23 (s : ByteArray) : (evalF (E26 false) Try.prog 26 [.int true .i64 23, .agg [.int true .i64 0, .str ⟨#[15, 190]⟩, .int true .i64 0, .bool true true, .int true .i64 8, .bool true false, .bool true false], .str s] [] 1024).bare =
    (bif (preOk false s == false) then
 zG
 else .bad) := by kernel_rfl

theorem gy_24 (s : ByteArray) : (evalF (E26 true) Try.prog 26 [.int true .i64 24, .agg [.int true .i64 0, .str ⟨#[15, 191]⟩, .int true .i64 0, .bool true true, .int true .i64 8, .bool true false, .bool true false], .str s] [] 1024).bare =
    (bif (preOk false s == true) then
 bif (cm .gtr 3 ↑s.size) then
 zG
 else
 bif (cm .neq (ar .and .u8 (chr s 0) 8) 0) then
 bif (Nat.blt (2) (s.size)) then
 bif (cm .geq 3 ↑s.size) then
 .ret (.tup [.agg [.int true .i64 24, .int true .i64 8, .int true .i64 0, .int true .i64 0, .int true .i64 0], .bool true false]) []
 else
 bif (Nat.blt (3) (s.size)) then
 bif (Nat.blt (3) (s.size)) then
 .ret (.tup [(.agg [.int true .i64 24, .int true .i64 8, (.int false .i64 (ar .or .i64 (conv .i64 (ar .and .u8 (ar .shr .u8 (chr s 3) 3) 7)) (ar .shl .i64 (conv .i64 (ar .and .u8 (chr s 0) 4)) 1))), (.int false .i64 (ar .or .i64 (conv .i64 (ar .and .u8 (chr s 3) 7)) (ar .shl .i64 (conv .i64 (ar .and .u8 (chr s 0) 1)) 3))), .int true .i64 0]), .bool true true]) []
 else .bad
 else .bad
 else .bad
 else
 bif (Nat.blt (2) (s.size)) then
 bif (cm .geq 3 ↑s.size) then
 .ret (.tup [.agg [.int true .i64 24, .int true .i64 4, .int true .i64 0, .int true .i64 0, .int true .i64 0], .bool true false]) []
 else
 bif (Nat.blt (3) (s.size)) then
 bif (Nat.blt (3) (s.size)) then
 .ret (.tup [(.agg [.int true .i64 24, .int true .i64 4, (.int false .i64 (ar .or .i64 (conv .i64 (ar .and .u8 (ar .shr .u8 (chr s 3) 3) 7)) (ar .shl .i64 (conv .i64 (ar .and .u8 (chr s 0) 4)) 1))), (.int false .i64 (ar .or .i64 (conv .i64 (ar .and .u8 (chr s 3) 7)) (ar .shl .i64 (conv .i64 (ar .and .u8 (chr s 0) 1)) 3))), .int true .i64 0]), .bool true true]) []
 else .bad
 else .bad
 else .bad
 else .bad) := by kernel_rfl

theorem gn_24 (s : ByteArray) : (evalF (E26 false) Try.prog 26 [.int true .i64 24, .agg [.int true .i64 0, .str ⟨#[15, 191]⟩, .int true .i64 0, .bool true true, .int true .i64 8, .bool true false, .bool true false], .str s] [] 1024).bare =
    (bif (preOk false s == false) then
 zG
 else .bad) := by kernel_rfl

end Go.X
end

section
set_option linter.unusedVariables false
open Go Go.Ev Go.Proofs
namespace Go.X

theorem fact_13 {s : ByteArray} {w rd rs n : Int} (h : DX 13 s w rd rs n) : (w = 4 ∨ w = 8) ∧ small rd ∧ rs = 0 ∧ n = 0 ∧ inI n ∧ fitsX 0 n = true ∧ 3 ≤ s.size ∧ chr s 0 = rexI w 0 rd ∧ chr s 1 = 247 ∧ chr s 2 = modI 192 7 rd := by
  obtain ⟨he, hi, hs⟩ := h
  have hE : errX 13 w rd rs n = (bif (decide (w = 4) || decide (w = 8)) && ((true || decide (w = 0)) && (regX rd && (decide (rs = 0) && (false || decide (n = 0))))) then (bif ((true) || false) then 0 else 10) else 1) := by kernel_rfl
  rw [hE] at he
  obtain ⟨hA, hF⟩ := err0 he
  have hL : encL 13 w rd rs n = [rexI w 0 rd, 247, modI 192 7 rd] ++ tailL n 0 := by kernel_rfl
  rw [hL] at hs
  obtain ⟨h1, h2, h3⟩ := starts_tail hs
  rw [tail_length] at h2 h3
  simp [regX, condX] at hA hF
  have e0 : chr s 0 = rexI w 0 rd := h1.2 0 (by show 0 < 3; decide)
  have e1 : chr s 1 = 247 := h1.2 1 (by show 1 < 3; decide)
  have e2 : chr s 2 = modI 192 7 rd := h1.2 2 (by show 2 < 3; decide)
  exact ⟨by first | omega | (simp only [small]; omega), by first | omega | (simp only [small]; omega), by first | omega | (simp only [small]; omega), by first | omega | (simp only [small]; omega), hi, by first | rfl | (simp [fitsX]; omega), h2, e0, e1, e2⟩

attribute [local irreducible] evalF Lf.gives in
theorem guess_13 : GP 13 (.agg [.int true .i64 1, .str ⟨#[247]⟩, .int true .i64 7, .bool true false, .int true .i64 0, .bool true false, .bool true false]) := by
  intro s
  cases hp : preOk false s with
  | false =>
    refine GP_of false (gn_13 s) ?_
    rw [hp]
    refine GPl_no fun w rd rs n hd => ?_
    obtain ⟨hw, hrd, qs, qn, hi, hf, hz, e0, e1, e2⟩ := fact_13 hd
    have := pre0 hw (by decide : small 0) hrd (by omega) e0
    rw [hp] at this
    cases this
  | true =>
    refine GP_of true (gy_13 s) ?_
    rw [hp]
    refine GPl_cond (fun _ => ?_) (fun hc => by cases hc)
    repeat' refine GPl_cond (fun _ => ?_) (fun _ => ?_)
    all_goals simp only [cmz] at *
    all_goals first
        | (exfalso; omega)
        | (refine GPl_no fun w rd rs n hd => ?_; obtain ⟨hw, hrd, qs, qn, hi, hf, hz, e0, e1, e2⟩ := fact_13 hd; omega)
        | (refine GPl_yes (inI0) fun w rd rs n hd => ?_
           obtain ⟨hw, hrd, qs, qn, hi, hf, hz, e0, e1, e2⟩ := fact_13 hd
           obtain ⟨x0, x1, x2, x3⟩ := rex_facts hw (by decide : small 0) hrd
           rw [← e0] at x1 x2 x3
           obtain ⟨y0, y1⟩ := mod_facts (.inl rfl) (by decide : small 7) hrd
           rw [← e2] at y0 y1
           exact ⟨by omega, by rw [y0, x2]; exact (put_facts hrd).1, qs.symm, qn.symm⟩)

theorem fact_14 {s : ByteArray} {w rd rs n : Int} (h : DX 14 s w rd rs n) : (w = 4 ∨ w = 8) ∧ small rd ∧ rs = 0 ∧ n = 0 ∧ inI n ∧ fitsX 0 n = true ∧ 3 ≤ s.size ∧ chr s 0 = rexI w 0 rd ∧ chr s 1 = 247 ∧ chr s 2 = modI 192 6 rd := by
  obtain ⟨he, hi, hs⟩ := h
  have hE : errX 14 w rd rs n = (bif (decide (w = 4) || decide (w = 8)) && ((true || decide (w = 0)) && (regX rd && (decide (rs = 0) && (false || decide (n = 0))))) then (bif ((true) || false) then 0 else 10) else 1) := by kernel_rfl
  rw [hE] at he
  obtain ⟨hA, hF⟩ := err0 he
  have hL : encL 14 w rd rs n = [rexI w 0 rd, 247, modI 192 6 rd] ++ tailL n 0 := by kernel_rfl
  rw [hL] at hs
  obtain ⟨h1, h2, h3⟩ := starts_tail hs
  rw [tail_length] at h2 h3
  simp [regX, condX] at hA hF
  have e0 : chr s 0 = rexI w 0 rd := h1.2 0 (by show 0 < 3; decide)
  have e1 : chr s 1 = 247 := h1.2 1 (by show 1 < 3; decide)
  have e2 : chr s 2 = modI 192 6 rd := h1.2 2 (by show 2 < 3; decide)
  exact ⟨by first | omega | (simp only [small]; omega), by first | omega | (simp only [small]; omega), by first | omega | (simp only [small]; omega), by first | omega | (simp only [small]; omega), hi, by first | rfl | (simp [fitsX]; omega), h2, e0, e1, e2⟩

attribute [local irreducible] evalF Lf.gives in
theorem guess_14 : GP 14 (.agg [.int true .i64 1, .str ⟨#[247]⟩, .int true .i64 6, .bool true false, .int true .i64 0, .bool true false, .bool true false]) := by
  intro s
  cases hp : preOk false s with
  | false =>
    refine GP_of false (gn_14 s) ?_
    rw [hp]
    refine GPl_no fun w rd rs n hd => ?_
    obtain ⟨hw, hrd, qs, qn, hi, hf, hz, e0, e1, e2⟩ := fact_14 hd
    have := pre0 hw (by decide : small 0) hrd (by omega) e0
    rw [hp] at this
    cases this
  | true =>
    refine GP_of true (gy_14 s) ?_
    rw [hp]
    refine GPl_cond (fun _ => ?_) (fun hc => by cases hc)
    repeat' refine GPl_cond (fun _ => ?_) (fun _ => ?_)
    all_goals simp only [cmz] at *
    all_goals first
        | (exfalso; omega)
        | (refine GPl_no fun w rd rs n hd => ?_; obtain ⟨hw, hrd, qs, qn, hi, hf, hz, e0, e1, e2⟩ := fact_14 hd; omega)
        | (refine GPl_yes (inI0) fun w rd rs n hd => ?_
           obtain ⟨hw, hrd, qs, qn, hi, hf, hz, e0, e1, e2⟩ := fact_14 hd
           obtain ⟨x0, x1, x2, x3⟩ := rex_facts hw (by decide : small 0) hrd
           rw [← e0] at x1 x2 x3
           obtain ⟨y0, y1⟩ := mod_facts (.inl rfl) (by decide : small 6) hrd
           rw [← e2] at y0 y1
           exact ⟨by omega, by rw [y0, x2]; exact (put_facts hrd).1, qs.symm, qn.symm⟩)

theorem fact_15 {s : ByteArray} {w rd rs n : Int} (h : DX 15 s w rd rs n) : (w = 4 ∨ w = 8) ∧ small rd ∧ rs = 0 ∧ n = 0 ∧ inI n ∧ fitsX 0 n = true ∧ 3 ≤ s.size ∧ chr s 0 = rexI w 0 rd ∧ chr s 1 = 211 ∧ chr s 2 = modI 192 4 rd := by
  obtain ⟨he, hi, hs⟩ := h
  have hE : errX 15 w rd rs n = (bif (decide (w = 4) || decide (w = 8)) && ((true || decide (w = 0)) && (regX rd && (decide (rs = 0) && (false || decide (n = 0))))) then (bif ((true) || false) then 0 else 10) else 1) := by kernel_rfl
  rw [hE] at he
  obtain ⟨hA, hF⟩ := err0 he
  have hL : encL 15 w rd rs n = [rexI w 0 rd, 211, modI 192 4 rd] ++ tailL n 0 := by kernel_rfl
  rw [hL] at hs
  obtain ⟨h1, h2, h3⟩ := starts_tail hs
  rw [tail_length] at h2 h3
  simp [regX, condX] at hA hF
  have e0 : chr s 0 = rexI w 0 rd := h1.2 0 (by show 0 < 3; decide)
  have e1 : chr s 1 = 211 := h1.2 1 (by show 1 < 3; decide)
  have e2 : chr s 2 = modI 192 4 rd := h1.2 2 (by show 2 < 3; decide)
  exact ⟨by first | omega | (simp only [small]; omega), by first | omega | (simp only [small]; omega), by first | omega | (simp only [small]; omega), by first | omega | (simp only [small]; omega), hi, by first | rfl | (simp [fitsX]; omega), h2, e0, e1, e2⟩

attribute [local irreducible] evalF Lf.gives in
theorem guess_15 : GP 15 (.agg [.int true .i64 1, .str ⟨#[211]⟩, .int true .i64 4, .bool true false, .int true .i64 0, .bool true false, .bool true false]) := by
  intro s
  cases hp : preOk false s with
  | false =>
    refine GP_of false (gn_15 s) ?_
    rw [hp]
    refine GPl_no fun w rd rs n hd => ?_
    obtain ⟨hw, hrd, qs, qn, hi, hf, hz, e0, e1, e2⟩ := fact_15 hd
    have := pre0 hw (by decide : small 0) hrd (by omega) e0
    rw [hp] at this
    cases this
  | true =>
    refine GP_of true (gy_15 s) ?_
    rw [hp]
    refine GPl_cond (fun _ => ?_) (fun hc => by cases hc)
    repeat' refine GPl_cond (fun _ => ?_) (fun _ => ?_)
    all_goals simp only [cmz] at *
    all_goals first
        | (exfalso; omega)
        | (refine GPl_no fun w rd rs n hd => ?_; obtain ⟨hw, hrd, qs, qn, hi, hf, hz, e0, e1, e2⟩ := fact_15 hd; omega)
        | (refine GPl_yes (inI0) fun w rd rs n hd => ?_
           obtain ⟨hw, hrd, qs, qn, hi, hf, hz, e0, e1, e2⟩ := fact_15 hd
           obtain ⟨x0, x1, x2, x3⟩ := rex_facts hw (by decide : small 0) hrd
           rw [← e0] at x1 x2 x3
           obtain ⟨y0, y1⟩ := mod_facts (.inl rfl) (by decide : small 4) hrd
           rw [← e2] at y0 y1
           exact ⟨by omega, by rw [y0, x2]; exact (put_facts hrd).1, qs.symm, qn.symm⟩)

theorem fact_16 {s : ByteArray} {w rd rs n : Int} (h : DX 16 s w rd rs n) : (w = 4 ∨ w = 8) ∧ small rd ∧ rs = 0 ∧ n = 0 ∧ inI n ∧ fitsX 0 n = true ∧ 3 ≤ s.size ∧ chr s 0 = rexI w 0 rd ∧ chr s 1 = 211 ∧ chr s 2 = modI 192 5 rd := by
  obtain ⟨he, hi, hs⟩ := h
  have hE : errX 16 w rd rs n = (bif (decide (w = 4) || decide (w = 8)) && ((true || decide (w = 0)) && (regX rd && (decide (rs = 0) && (false || decide (n = 0))))) then (bif ((true) || false) then 0 else 10) else 1) := by kernel_rfl
  rw [hE] at he
  obtain ⟨hA, hF⟩ := err0 he
  have hL : encL 16 w rd rs n = [rexI w 0 rd, 211, modI 192 5 rd] ++ tailL n 0 := by kernel_rfl
  rw [hL] at hs
  obtain ⟨h1, h2, h3⟩ := starts_tail hs
  rw [tail_length] at h2 h3
  simp [regX, condX] at hA hF
  have e0 : chr s 0 = rexI w 0 rd := h1.2 0 (by show 0 < 3; decide)
  have e1 : chr s 1 = 211 := h1.2 1 (by show 1 < 3; decide)
  have e2 : chr s 2 = modI 192 5 rd := h1.2 2 (by show 2 < 3; decide)
  exact ⟨by first | omega | (simp only [small]; omega), by first | omega | (simp only [small]; omega), by first | omega | (simp only [small]; omega), by first | omega | (simp only [small]; omega), hi, by first | rfl | (simp [fitsX]; omega), h2, e0, e1, e2⟩

attribute [local irreducible] evalF Lf.gives in
theorem guess_16 : GP 16 (.agg [.int true .i64 1, .str ⟨#[211]⟩, .int true .i64 5, .bool true false, .int true .i64 0, .bool true false, .bool true false]) := by
  intro s
  cases hp : preOk false s with
  | false =>
    refine GP_of false (gn_16 s) ?_
    rw [hp]
    refine GPl_no fun w rd rs n hd => ?_
    obtain ⟨hw, hrd, qs, qn, hi, hf, hz, e0, e1, e2⟩ := fact_16 hd
    have := pre0 hw (by decide : small 0) hrd (by omega) e0
    rw [hp] at this
    cases this
  | true =>
    refine GP_of true (gy_16 s) ?_
    rw [hp]
    refine GPl_cond (fun _ => ?_) (fun hc => by cases hc)
    repeat' refine GPl_cond (fun _ => ?_) (fun _ => ?_)
    all_goals simp only [cmz] at *
    all_goals first
        | (exfalso; omega)
        | (refine GPl_no fun w rd rs n hd => ?_; obtain ⟨hw, hrd, qs, qn, hi, hf, hz, e0, e1, e2⟩ := fact_16 hd; omega)
        | (refine GPl_yes (inI0) fun w rd rs n hd => ?_
           obtain ⟨hw, hrd, qs, qn, hi, hf, hz, e0, e1, e2⟩ := fact_16 hd
           obtain ⟨x0, x1, x2, x3⟩ := rex_facts hw (by decide : small 0) hrd
           rw [← e0] at x1 x2 x3
           obtain ⟨y0, y1⟩ := mod_facts (.inl rfl) (by decide : small 5) hrd
           rw [← e2] at y0 y1
           exact ⟨by omega, by rw [y0, x2]; exact (put_facts hrd).1, qs.symm, qn.symm⟩)

theorem fact_17 {s : ByteArray} {w rd rs n : Int} (h : DX 17 s w rd rs n) : (w = 4 ∨ w = 8) ∧ small rd ∧ rs = 0 ∧ n = 0 ∧ inI n ∧ fitsX 0 n = true ∧ 3 ≤ s.size ∧ chr s 0 = rexI w 0 rd ∧ chr s 1 = 211 ∧ chr s 2 = modI 192 7 rd := by
  obtain ⟨he, hi, hs⟩ := h
  have hE : errX 17 w rd rs n = (bif (decide (w = 4) || decide (w = 8)) && ((true || decide (w = 0)) && (regX rd && (decide (rs = 0) && (false || decide (n = 0))))) then (bif ((true) || false) then 0 else 10) else 1) := by kernel_rfl
  rw [hE] at he
  obtain ⟨hA, hF⟩ := err0 he
  have hL : encL 17 w rd rs n = [rexI w 0 rd, 211, modI 192 7 rd] ++ tailL n 0 := by kernel_rfl
  rw [hL] at hs
  obtain ⟨h1, h2, h3⟩ := starts_tail hs
  rw [tail_length] at h2 h3
  simp [regX, condX] at hA hF
  have e0 : chr s 0 = rexI w 0 rd := h1.2 0 (by show 0 < 3; decide)
  have e1 : chr s 1 = 211 := h1.2 1 (by show 1 < 3; decide)
  have e2 : chr s 2 = modI 192 7 rd := h1.2 2 (by show 2 < 3; decide)
  exact ⟨by first | omega | (simp only [small]; omega), by first | omega | (simp only [small]; omega), by first | omega | (simp only [small]; omega), by first | omega | (simp only [small]; omega), hi, by first | rfl | (simp [fitsX]; omega), h2, e0, e1, e2⟩

attribute [local irreducible] evalF Lf.gives in
theorem guess_17 : GP 17 (.agg [.int true .i64 1, .str ⟨#[211]⟩, .int true .i64 7, .bool true false, .int true .i64 0, .bool true false, .bool true false]) := by
  intro s
  cases hp : preOk false s with
  | false =>
    refine GP_of false (gn_17 s) ?_
    rw [hp]
    refine GPl_no fun w rd rs n hd => ?_
    obtain ⟨hw, hrd, qs, qn, hi, hf, hz, e0, e1, e2⟩ := fact_17 hd
    have := pre0 hw (by decide : small 0) hrd (by omega) e0
    rw [hp] at this
    cases this
  | true =>
    refine GP_of true (gy_17 s) ?_
    rw [hp]
    refine GPl_cond (fun _ => ?_) (fun hc => by cases hc)
    repeat' refine GPl_cond (fun _ => ?_) (fun _ => ?_)
    all_goals simp only [cmz] at *
    all_goals first
        | (exfalso; omega)
        | (refine GPl_no fun w rd rs n hd => ?_; obtain ⟨hw, hrd, qs, qn, hi, hf, hz, e0, e1, e2⟩ := fact_17 hd; omega)
        | (refine GPl_yes (inI0) fun w rd rs n hd => ?_
           obtain ⟨hw, hrd, qs, qn, hi, hf, hz, e0, e1, e2⟩ := fact_17 hd
           obtain ⟨x0, x1, x2, x3⟩ := rex_facts hw (by decide : small 0) hrd
           rw [← e0] at x1 x2 x3
           obtain ⟨y0, y1⟩ := mod_facts (.inl rfl) (by decide : small 7) hrd
           rw [← e2] at y0 y1
           exact ⟨by omega, by rw [y0, x2]; exact (put_facts hrd).1, qs.symm, qn.symm⟩)

theorem fact_18 {s : ByteArray} {w rd rs n : Int} (h : DX 18 s w rd rs n) : (w = 4 ∨ w = 8) ∧ rs = 0 ∧ rd = 0 ∧ n = 0 ∧ inI n ∧ fitsX 0 n = true ∧ 2 ≤ s.size ∧ chr s 0 = rexI w 0 0 ∧ chr s 1 = 153 := by
  obtain ⟨he, hi, hs⟩ := h
  have hE : errX 18 w rd rs n = (bif (decide (w = 4) || decide (w = 8)) && ((true || decide (w = 0)) && (decide (rd = 0) && (decide (rs = 0) && decide (n = 0)))) then (bif ((true) || false) then 0 else 10) else 1) := by kernel_rfl
  rw [hE] at he
  obtain ⟨hA, hF⟩ := err0 he
  have hL : encL 18 w rd rs n = [rexI w 0 0, 153] ++ tailL n 0 := by kernel_rfl
  rw [hL] at hs
  obtain ⟨h1, h2, h3⟩ := starts_tail hs
  rw [tail_length] at h2 h3
  simp [regX, condX] at hA hF
  have e0 : chr s 0 = rexI w 0 0 := h1.2 0 (by show 0 < 2; decide)
  have e1 : chr s 1 = 153 := h1.2 1 (by show 1 < 2; decide)
  exact ⟨by first | omega | (simp only [small]; omega), by first | omega | (simp only [small]; omega), by first | omega | (simp only [small]; omega), by first | omega | (simp only [small]; omega), hi, by first | rfl | (simp [fitsX]; omega), h2, e0, e1⟩

attribute [local irreducible] evalF Lf.gives in
theorem guess_18 : GP 18 (.agg [.int true .i64 6, .str ⟨#[153]⟩, .int true .i64 0, .bool true false, .int true .i64 0, .bool true false, .bool true false]) := by
  intro s
  cases hp : preOk false s with
  | false =>
    refine GP_of false (gn_18 s) ?_
    rw [hp]
    refine GPl_no fun w rd rs n hd => ?_
    obtain ⟨hw, qs, qd, qn, hi, hf, hz, e0, e1⟩ := fact_18 hd
    have := pre0 hw (by decide : small 0) (by decide : small 0) (by omega) e0
    rw [hp] at this
    cases this
  | true =>
    refine GP_of true (gy_18 s) ?_
    rw [hp]
    refine GPl_cond (fun _ => ?_) (fun hc => by cases hc)
    repeat' refine GPl_cond (fun _ => ?_) (fun _ => ?_)
    all_goals simp only [cmz] at *
    all_goals first
        | (exfalso; omega)
        | (refine GPl_no fun w rd rs n hd => ?_; obtain ⟨hw, qs, qd, qn, hi, hf, hz, e0, e1⟩ := fact_18 hd; omega)
        | (refine GPl_yes (inI0) fun w rd rs n hd => ?_
           obtain ⟨hw, qs, qd, qn, hi, hf, hz, e0, e1⟩ := fact_18 hd
           obtain ⟨x0, x1, x2, x3⟩ := rex_facts hw (by decide : small 0) (by decide : small 0)
           rw [← e0] at x1 x2 x3
           exact ⟨by omega, qd.symm, qs.symm, qn.symm⟩)

theorem fact_19 {s : ByteArray} {w rd rs n : Int} (h : DX 19 s w rd rs n) : (w = 4 ∨ w = 8) ∧ w = 8 ∧ small rd ∧ rs = 0 ∧ inI n ∧ fitsX 4 n = true ∧ 7 ≤ s.size ∧ chr s 0 = rexI w 0 rd ∧ chr s 1 = 129 ∧ chr s 2 = modI 192 0 rd ∧ (∀ j, j < 4 → chr s (3 + j) = bat n j) := by
  obtain ⟨he, hi, hs⟩ := h
  have hE : errX 19 w rd rs n = (bif (decide (w = 4) || decide (w = 8)) && ((false || decide (w = 8)) && (regX rd && (decide (rs = 0) && (true || decide (n = 0))))) then (bif ((decide (-2147483648 ≤ n) && decide (n ≤ 2147483647)) || false) then 0 else 10) else 1) := by kernel_rfl
  rw [hE] at he
  obtain ⟨hA, hF⟩ := err0 he
  have hL : encL 19 w rd rs n = [rexI w 0 rd, 129, modI 192 0 rd] ++ tailL n 4 := by kernel_rfl
  rw [hL] at hs
  obtain ⟨h1, h2, h3⟩ := starts_tail hs
  rw [tail_length] at h2 h3
  simp [regX, condX] at hA hF
  have e0 : chr s 0 = rexI w 0 rd := h1.2 0 (by show 0 < 3; decide)
  have e1 : chr s 1 = 129 := h1.2 1 (by show 1 < 3; decide)
  have e2 : chr s 2 = modI 192 0 rd := h1.2 2 (by show 2 < 3; decide)
  exact ⟨by first | omega | (simp only [small]; omega), by first | omega | (simp only [small]; omega), by first | omega | (simp only [small]; omega), by first | omega | (simp only [small]; omega), hi, by first | rfl | (simp [fitsX]; omega), h2, e0, e1, e2, fun j hj => by rw [← tail_get n 4 j hj]; exact h3 j hj⟩

attribute [local irreducible] evalF Lf.gives in
theorem guess_19 : GP 19 (.agg [.int true .i64 1, .str ⟨#[129]⟩, .int true .i64 0, .bool true false, .int true .i64 8, .bool true true, .bool true false]) := by
  intro s
  cases hp : preOk false s with
  | false =>
    refine GP_of false (gn_19 s) ?_
    rw [hp]
    refine GPl_no fun w rd rs n hd => ?_
    obtain ⟨hw, qw, hrd, qs, hi, hf, hz, e0, e1, e2, ht⟩ := fact_19 hd
    have := pre0 hw (by decide : small 0) hrd (by omega) e0
    rw [hp] at this
    cases this
  | true =>
    refine GP_of true (gy_19 s) ?_
    rw [hp]
    refine GPl_cond (fun _ => ?_) (fun hc => by cases hc)
    repeat' refine GPl_cond (fun _ => ?_) (fun _ => ?_)
    all_goals simp only [cmz] at *
    all_goals first
        | (exfalso; omega)
        | (refine GPl_no fun w rd rs n hd => ?_; obtain ⟨hw, qw, hrd, qs, hi, hf, hz, e0, e1, e2, ht⟩ := fact_19 hd; omega)
        | (refine GPl_yes (numU_range _ (by simp only [ByteArray.size_extract]; omega)) fun w rd rs n hd => ?_
           obtain ⟨hw, qw, hrd, qs, hi, hf, hz, e0, e1, e2, ht⟩ := fact_19 hd
           obtain ⟨x0, x1, x2, x3⟩ := rex_facts hw (by decide : small 0) hrd
           rw [← e0] at x1 x2 x3
           obtain ⟨y0, y1⟩ := mod_facts (.inl rfl) (by decide : small 0) hrd
           rw [← e2] at y0 y1
           exact ⟨by omega, by rw [y0, x2]; exact (put_facts hrd).1, qs.symm, num_tail 3 4 (by decide) hz ht hi hf⟩)

theorem fact_20 {s : ByteArray} {w rd rs n : Int} (h : DX 20 s w rd rs n) : (w = 4 ∨ w = 8) ∧ w = 4 ∧ small rd ∧ rs = 0 ∧ small n ∧ inI n ∧ fitsX 0 n = true ∧ 4 ≤ s.size ∧ chr s 0 = rexI w 0 rd ∧ chr s 1 = 15 ∧ chr s 2 = 144 + n ∧ chr s 3 = modI 192 0 rd := by
  obtain ⟨he, hi, hs⟩ := h
  have hE : errX 20 w rd rs n = (bif (decide (w = 4) || decide (w = 8)) && ((false || decide (w = 4)) && (regX rd && (decide (rs = 0) && condX n))) then (bif ((true) || true) then 0 else 10) else 1) := by kernel_rfl
  rw [hE] at he
  obtain ⟨hA, hF⟩ := err0 he
  have hL : encL 20 w rd rs n = [rexI w 0 rd, 15, 144 + n, modI 192 0 rd] ++ tailL n 0 := by kernel_rfl
  rw [hL] at hs
  obtain ⟨h1, h2, h3⟩ := starts_tail hs
  rw [tail_length] at h2 h3
  simp [regX, condX] at hA hF
  have e0 : chr s 0 = rexI w 0 rd := h1.2 0 (by show 0 < 4; decide)
  have e1 : chr s 1 = 15 := h1.2 1 (by show 1 < 4; decide)
  have e2 : chr s 2 = 144 + n := h1.2 2 (by show 2 < 4; decide)
  have e3 : chr s 3 = modI 192 0 rd := h1.2 3 (by show 3 < 4; decide)
  exact ⟨by first | omega | (simp only [small]; omega), by first | omega | (simp only [small]; omega), by first | omega | (simp only [small]; omega), by first | omega | (simp only [small]; omega), by first | omega | (simp only [small]; omega), hi, by first | rfl | (simp [fitsX]; omega), h2, e0, e1, e2, e3⟩

attribute [local irreducible] evalF Lf.gives in
theorem guess_20 : GP 20 (.agg [.int true .i64 7, .str ⟨#[15, 144]⟩, .int true .i64 0, .bool true false, .int true .i64 4, .bool true false, .bool true false]) := by
  intro s
  cases hp : preOk false s with
  | false =>
    refine GP_of false (gn_20 s) ?_
    rw [hp]
    refine GPl_no fun w rd rs n hd => ?_
    obtain ⟨hw, qw, hrd, qs, hsn, hi, hf, hz, e0, e1, e2, e3⟩ := fact_20 hd
    have := pre0 hw (by decide : small 0) hrd (by omega) e0
    rw [hp] at this
    cases this
  | true =>
    refine GP_of true (gy_20 s) ?_
    rw [hp]
    refine GPl_cond (fun _ => ?_) (fun hc => by cases hc)
    repeat' refine GPl_cond (fun _ => ?_) (fun _ => ?_)
    all_goals simp only [cmz] at *
    all_goals first
        | (exfalso; omega)
        | (refine GPl_no fun w rd rs n hd => ?_; obtain ⟨hw, qw, hrd, qs, hsn, hi, hf, hz, e0, e1, e2, e3⟩ := fact_20 hd; omega)
        | (refine GPl_yes (more_inI (chr_range _ _) (by decide)) fun w rd rs n hd => ?_
           obtain ⟨hw, qw, hrd, qs, hsn, hi, hf, hz, e0, e1, e2, e3⟩ := fact_20 hd
           obtain ⟨x0, x1, x2, x3⟩ := rex_facts hw (by decide : small 0) hrd
           rw [← e0] at x1 x2 x3
           obtain ⟨y0, y1⟩ := mod_facts (.inl rfl) (by decide : small 0) hrd
           rw [← e3] at y0 y1
           exact ⟨by omega, by rw [y0, x2]; exact (put_facts hrd).1, qs.symm, by rw [e2]; exact more_cond (by decide) hsn⟩)

theorem fact_21 {s : ByteArray} {w rd rs n : Int} (h : DX 21 s w rd rs n) : (w = 4 ∨ w = 8) ∧ w = 8 ∧ small rd ∧ small rs ∧ n = 0 ∧ inI n ∧ fitsX 0 n = true ∧ 4 ≤ s.size ∧ chr s 0 = rexI w rd rs ∧ chr s 1 = 15 ∧ chr s 2 = 182 ∧ chr s 3 = modI 192 rd rs := by
  obtain ⟨he, hi, hs⟩ := h
  have hE : errX 21 w rd rs n = (bif (decide (w = 4) || decide (w = 8)) && ((false || decide (w = 8)) && (regX rd && (regX rs && decide (n = 0)))) then (bif ((true) || false) then 0 else 10) else 1) := by kernel_rfl
  rw [hE] at he
  obtain ⟨hA, hF⟩ := err0 he
  have hL : encL 21 w rd rs n = [rexI w rd rs, 15, 182, modI 192 rd rs] ++ tailL n 0 := by kernel_rfl
  rw [hL] at hs
  obtain ⟨h1, h2, h3⟩ := starts_tail hs
  rw [tail_length] at h2 h3
  simp [regX, condX] at hA hF
  have e0 : chr s 0 = rexI w rd rs := h1.2 0 (by show 0 < 4; decide)
  have e1 : chr s 1 = 15 := h1.2 1 (by show 1 < 4; decide)
  have e2 : chr s 2 = 182 := h1.2 2 (by show 2 < 4; decide)
  have e3 : chr s 3 = modI 192 rd rs := h1.2 3 (by show 3 < 4; decide)
  exact ⟨by first | omega | (simp only [small]; omega), by first | omega | (simp only [small]; omega), by first | omega | (simp only [small]; omega), by first | omega | (simp only [small]; omega), by first | omega | (simp only [small]; omega), hi, by first | rfl | (simp [fitsX]; omega), h2, e0, e1, e2, e3⟩

attribute [local irreducible] evalF Lf.gives in
theorem guess_21 : GP 21 (.agg [.int true .i64 0, .str ⟨#[15, 182]⟩, .int true .i64 0, .bool true true, .int true .i64 8, .bool true false, .bool true false]) := by
  intro s
  cases hp : preOk false s with
  | false =>
    refine GP_of false (gn_21 s) ?_
    rw [hp]
    refine GPl_no fun w rd rs n hd => ?_
    obtain ⟨hw, qw, hrd, hrs, qn, hi, hf, hz, e0, e1, e2, e3⟩ := fact_21 hd
    have := pre0 hw hrd hrs (by omega) e0
    rw [hp] at this
    cases this
  | true =>
    refine GP_of true (gy_21 s) ?_
    rw [hp]
    refine GPl_cond (fun _ => ?_) (fun hc => by cases hc)
    repeat' refine GPl_cond (fun _ => ?_) (fun _ => ?_)
    all_goals simp only [cmz] at *
    all_goals first
        | (exfalso; omega)
        | (refine GPl_no fun w rd rs n hd => ?_; obtain ⟨hw, qw, hrd, hrs, qn, hi, hf, hz, e0, e1, e2, e3⟩ := fact_21 hd; omega)
        | (refine GPl_yes (inI0) fun w rd rs n hd => ?_
           obtain ⟨hw, qw, hrd, hrs, qn, hi, hf, hz, e0, e1, e2, e3⟩ := fact_21 hd
           obtain ⟨x0, x1, x2, x3⟩ := rex_facts hw hrd hrs
           rw [← e0] at x1 x2 x3
           obtain ⟨y0, y1⟩ := mod_facts (.inl rfl) hrd hrs
           rw [← e3] at y0 y1
           exact ⟨by omega, by rw [y1, x3]; exact (put_facts hrd).2, by rw [y0, x2]; exact (put_facts hrs).1, qn.symm⟩)

theorem fact_22 {s : ByteArray} {w rd rs n : Int} (h : DX 22 s w rd rs n) : (w = 4 ∨ w = 8) ∧ w = 8 ∧ small rd ∧ small rs ∧ n = 0 ∧ inI n ∧ fitsX 0 n = true ∧ 4 ≤ s.size ∧ chr s 0 = rexI w rd rs ∧ chr s 1 = 15 ∧ chr s 2 = 183 ∧ chr s 3 = modI 192 rd rs := by
  obtain ⟨he, hi, hs⟩ := h
  have hE : errX 22 w rd rs n = (bif (decide (w = 4) || decide (w = 8)) && ((false || decide (w = 8)) && (regX rd && (regX rs && decide (n = 0)))) then (bif ((true) || false) then 0 else 10) else 1) := by kernel_rfl
  rw [hE] at he
  obtain ⟨hA, hF⟩ := err0 he
  have hL : encL 22 w rd rs n = [rexI w rd rs, 15, 183, modI 192 rd rs] ++ tailL n 0 := by kernel_rfl
  rw [hL] at hs
  obtain ⟨h1, h2, h3⟩ := starts_tail hs
  rw [tail_length] at h2 h3
  simp [regX, condX] at hA hF
  have e0 : chr s 0 = rexI w rd rs := h1.2 0 (by show 0 < 4; decide)
  have e1 : chr s 1 = 15 := h1.2 1 (by show 1 < 4; decide)
  have e2 : chr s 2 = 183 := h1.2 2 (by show 2 < 4; decide)
  have e3 : chr s 3 = modI 192 rd rs := h1.2 3 (by show 3 < 4; decide)
  exact ⟨by first | omega | (simp only [small]; omega), by first | omega | (simp only [small]; omega), by first | omega | (simp only [small]; omega), by first | omega | (simp only [small]; omega), by first | omega | (simp only [small]; omega), hi, by first | rfl | (simp [fitsX]; omega), h2, e0, e1, e2, e3⟩

attribute [local irreducible] evalF Lf.gives in
theorem guess_22 : GP 22 (.agg [.int true .i64 0, .str ⟨#[15, 183]⟩, .int true .i64 0, .bool true true, .int true .i64 8, .bool true false, .bool true false]) := by
  intro s
  cases hp : preOk false s with
  | false =>
    refine GP_of false (gn_22 s) ?_
    rw [hp]
    refine GPl_no fun w rd rs n hd => ?_
    obtain ⟨hw, qw, hrd, hrs, qn, hi, hf, hz, e0, e1, e2, e3⟩ := fact_22 hd
    have := pre0 hw hrd hrs (by omega) e0
    rw [hp] at this
    cases this
  | true =>
    refine GP_of true (gy_22 s) ?_
    rw [hp]
    refine GPl_cond (fun _ => ?_) (fun hc => by cases hc)
    repeat' refine GPl_cond (fun _ => ?_) (fun _ => ?_)
    all_goals simp only [cmz] at *
    all_goals first
        | (exfalso; omega)
        | (refine GPl_no fun w rd rs n hd => ?_; obtain ⟨hw, qw, hrd, hrs, qn, hi, hf, hz, e0, e1, e2, e3⟩ := fact_22 hd; omega)
        | (refine GPl_yes (inI0) fun w rd rs n hd => ?_
           obtain ⟨hw, qw, hrd, hrs, qn, hi, hf, hz, e0, e1, e2, e3⟩ := fact_22 hd
           obtain ⟨x0, x1, x2, x3⟩ := rex_facts hw hrd hrs
           rw [← e0] at x1 x2 x3
           obtain ⟨y0, y1⟩ := mod_facts (.inl rfl) hrd hrs
           rw [← e3] at y0 y1
           exact ⟨by omega, by rw [y1, x3]; exact (put_facts hrd).2, by rw [y0, x2]; exact (put_facts hrs).1, qn.symm⟩)

theorem fact_23 {s : ByteArray} {w rd rs n : Int} (h : DX 23 s w rd rs n) : (w = 4 ∨ w = 8) ∧ w = 8 ∧ small rd ∧ small rs ∧ n = 0 ∧ inI n ∧ fitsX 0 n = true ∧ 4 ≤ s.size ∧ chr s 0 = rexI w rd rs ∧ chr s 1 = 15 ∧ chr s 2 = 190 ∧ chr s 3 = modI 192 rd rs := by
  obtain ⟨he, hi, hs⟩ := h
  have hE : errX 23 w rd rs n = (bif (decide (w = 4) || decide (w = 8)) && ((false || decide (w = 8)) && (regX rd && (regX rs && decide (n = 0)))) then (bif ((true) || false) then 0 else 10) else 1) := by kernel_rfl
  rw [hE] at he
  obtain ⟨hA, hF⟩ := err0 he
  have hL : encL 23 w rd rs n = [rexI w rd rs, 15, 190, modI 192 rd rs] ++ tailL n 0 := by kernel_rfl
  rw [hL] at hs
  obtain ⟨h1, h2, h3⟩ := starts_tail hs
  rw [tail_length] at h2 h3
  simp [regX, condX] at hA hF
  have e0 : chr s 0 = rexI w rd rs := h1.2 0 (by show 0 < 4; decide)
  have e1 : chr s 1 = 15 := h1.2 1 (by show 1 < 4; decide)
  have e2 : chr s 2 = 190 := h1.2 2 (by show 2 < 4; decide)
  have e3 : chr s 3 = modI 192 rd rs := h1.2 3 (by show 3 < 4; decide)
  exact ⟨by first | omega | (simp only [small]; omega), by first | omega | (simp only [small]; omega), by first | omega | (simp only [small]; omega), by first | omega | (simp only [small]; omega), by first | omega | (simp only [small]; omega), hi, by first | rfl | (simp [fitsX]; omega), h2, e0, e1, e2, e3⟩

attribute [local irreducible] evalF Lf.gives in
theorem guess_23 : GP 23 (.agg [.int true .i64 0, .str ⟨#[15, 190]⟩, .int true .i64 0, .bool true true, .int true .i64 8, .bool true false, .bool true false]) := by
  intro s
  cases hp : preOk false s with
  | false =>
    refine GP_of false (gn_23 s) ?_
    rw [hp]
    refine GPl_no fun w rd rs n hd => ?_
    obtain ⟨hw, qw, hrd, hrs, qn, hi, hf, hz, e0, e1, e2, e3⟩ := fact_23 hd
    have := pre0 hw hrd hrs (by omega) e0
    rw [hp] at this
    cases this
  | true =>
    refine GP_of true (gy_23 s) ?_
    rw [hp]
    refine GPl_cond (fun _ => ?_) (fun hc => by cases hc)
    repeat' refine GPl_cond (fun _ => ?_) (fun _ => ?_)
    all_goals simp only [cmz] at *
    all_goals first
        | (exfalso; omega)
        | (refine GPl_no fun w rd rs n hd => ?_; obtain ⟨hw, qw, hrd, hrs, qn, hi, hf, hz, e0, e1, e2, e3⟩ := fact_23 hd; omega)
        | (refine GPl_yes (inI0) fun w rd rs n hd => ?_
           obtain ⟨hw, qw, hrd, hrs, qn, hi, hf, hz, e0, e1, e2, e3⟩ := fact_23 hd
           obtain ⟨x0, x1, x2, x3⟩ := rex_facts hw hrd hrs
           rw [← e0] at x1 x2 x3
           obtain ⟨y0, y1⟩ := mod_facts (.inl rfl) hrd hrs
           rw [← e3] at y0 y1
           exact ⟨by omega, by rw [y1, x3]; exact (put_facts hrd).2, by rw [y0, x2]; exact (put_facts hrs).1, qn.symm⟩)

theorem fact_24 {s : ByteArray} {w rd rs n : Int} (h : DX 24 s w rd rs n) : (w = 4 ∨ w = 8) ∧ w = 8 ∧ small rd ∧ small rs ∧ n = 0 ∧ inI n ∧ fitsX 0 n = true ∧ 4 ≤ s.size ∧ chr s 0 = rexI w rd rs ∧ chr s 1 = 15 ∧ chr s 2 = 191 ∧ chr s 3 = modI 192 rd rs := by
  obtain ⟨he, hi, hs⟩ := h
  have hE : errX 24 w rd rs n = (bif (decide (w = 4) || decide (w = 8)) && ((false || decide (w = 8)) && (regX rd && (regX rs && decide (n = 0)))) then (bif ((true) || false) then 0 else 10) else 1) := by kernel_rfl
  rw [hE] at he
  obtain ⟨hA, hF⟩ := err0 he
  have hL : encL 24 w rd rs n = [rexI w rd rs, 15, 191, modI 192 rd rs] ++ tailL n 0 := by kernel_rfl
  rw [hL] at hs
  obtain ⟨h1, h2, h3⟩ := starts_tail hs
  rw [tail_length] at h2 h3
  simp [regX, condX] at hA hF
  have e0 : chr s 0 = rexI w rd rs := h1.2 0 (by show 0 < 4; decide)
  have e1 : chr s 1 = 15 := h1.2 1 (by show 1 < 4; decide)
  have e2 : chr s 2 = 191 := h1.2 2 (by show 2 < 4; decide)
  have e3 : chr s 3 = modI 192 rd rs := h1.2 3 (by show 3 < 4; decide)
  exact ⟨by first | omega | (simp only [small]; omega), by first | omega | (simp only [small]; omega), by first | omega | (simp only [small]; omega), by first | omega | (simp only [small]; omega), by first | omega | (simp only [small]; omega), hi, by first | rfl | (simp [fitsX]; omega), h2, e0, e1, e2, e3⟩

attribute [local irreducible] evalF Lf.gives in
theorem guess_24 : GP 24 (.agg [.int true .i64 0, .str ⟨#[15, 191]⟩, .int true .i64 0, .bool true true, .int true .i64 8, .bool true false, .bool true false]) := by
  intro s
  cases hp : preOk false s with
  | false =>
    refine GP_of false (gn_24 s) ?_
    rw [hp]
    refine GPl_no fun w rd rs n hd => ?_
    obtain ⟨hw, qw, hrd, hrs, qn, hi, hf, hz, e0, e1, e2, e3⟩ := fact_24 hd
    have := pre0 hw hrd hrs (by omega) e0
    rw [hp] at this
    cases this
  | true =>
    refine GP_of true (gy_24 s) ?_
    rw [hp]
    refine GPl_cond (fun _ => ?_) (fun hc => by cases hc)
    repeat' refine GPl_cond (fun _ => ?_) (fun _ => ?_)
    all_goals simp only [cmz] at *
    all_goals first
        | (exfalso; omega)
        | (refine GPl_no fun w rd rs n hd => ?_; obtain ⟨hw, qw, hrd, hrs, qn, hi, hf, hz, e0, e1, e2, e3⟩ := fact_24 hd; omega)
        | (refine GPl_yes (inI0) fun w rd rs n hd => ?_
           obtain ⟨hw, qw, hrd, hrs, qn, hi, hf, hz, e0, e1, e2, e3⟩ := fact_24 hd
           obtain ⟨x0, x1, x2, x3⟩ := rex_facts hw hrd hrs
           rw [← e0] at x1 x2 x3
           obtain ⟨y0, y1⟩ := mod_facts (.inl rfl) hrd hrs
           rw [← e3] at y0 y1
           exact ⟨by omega, by rw [y1, x3]; exact (put_facts hrd).2, by rw [y0, x2]; exact (put_facts hrs).1, qn.symm⟩)

end Go.X
end

section
set_option linter.unusedVariables false
open Go Go.Ev Go.Proofs
namespace Go.X

theorem gy_25 (s : ByteArray) : (evalF (E26 true) Try.prog 26 [.int true .i64 25, .agg [.int true .i64 0, .str ⟨#[99]⟩, .int true .i64 0, .bool true true, .int true .i64 8, .bool true false, .bool true false], .str s] [] 1024).bare =
    (bif (preOk false s == true) then
 bif (cm .gtr 2 ↑s.size) then
 zG
 else
 bif (cm .neq (ar .and .u8 (chr s 0) 8) 0) then
 bif (Nat.blt (1) (s.size)) then
 bif (cm .geq 2 ↑s.size) then
 .ret (.tup [.agg [.int true .i64 25, .int true .i64 8, .int true .i64 0, .int true .i64 0, .int true .i64 0], .bool true false]) []
 else
 bif (Nat.blt (2) (s.size)) then
 bif (Nat.blt (2) (s.size)) then
 .ret (.tup [(.agg [.int true .i64 25, .int true .i64 8, (.int false .i64 (ar .or .i64 (conv .i64 (ar .and .u8 (ar .shr .u8 (chr s 2) 3) 7)) (ar .shl .i64 (conv .i64 (ar .and .u8 (chr s 0) 4)) 1))), (.int false .i64 (ar .or .i64 (conv .i64 (ar .and .u8 (chr s 2) 7)) (ar .shl .i64 (conv .i64 (ar .and .u8 (chr s 0) 1)) 3))), .int true .i64 0]), .bool true true]) []
 else .bad
 else .bad
 else .bad
 else
 bif (Nat.blt (1) (s.size)) then
 bif (cm .geq 2 ↑s.size) then
 .ret (.tup [.agg [.int true .i64 25, .int true .i64 4, .int true .i64 0, .int true .i64 0, .int true .i64 0], .bool true false]) []
 else
 bif (Nat.blt (2) (s.size)) then
 bif (Nat.blt (2) (s.size)) then
 .ret (.tup [(.agg [.int true .i64 25, .int true .i64 4, (.int false .i64 (ar .or .i64 (conv .i64 (ar .and .u8 (ar .shr .u8 (chr s 2) 3) 7)) (ar .shl .i64 (conv .i64 (ar .and .u8 (chr s 0) 4)) 1))), (.int false .i64 (ar .or .i64 (conv .i64 (ar .and .u8 (chr s 2) 7)) (ar .shl .i64 (conv .i64 (ar .and .u8 (chr s 0) 1)) 3))), .int true .i64 0]), .bool true true]) []
 else .bad
 else .bad
 else .bad
 else .bad) := by kernel_rfl

theorem gn_25 (s : ByteArray) : (evalF (E26 false) Try.prog 26 [.int true .i64 25, .agg [.int true .i64 0, .str ⟨#[99]⟩, .int true .i64 0, .bool true true, .int true .i64 8, .bool true false, .bool true false], .str s] [] 1024).bare =
    (bif (preOk false s == false) then
 zG
 else .bad) := by kernel_rfl

theorem gy_26 (s : ByteArray) : (evalF (E26 true) Try.prog 26 [.int true .i64 26, .agg [.int true .i64 2, .str ⟨#[139]⟩, .int true .i64 0, .bool true false, .int true .i64 8, .bool true false, .bool true false], .str s] [] 1024).bare =
    (bif (preOk false s == true) then
 bif (cm .gtr 2 ↑s.size) then
 zG
 else
 bif (cm .neq (ar .and .u8 (chr s 0) 8) 0) then
 bif (Nat.blt (1) (s.size)) then
 bif (cm .geq 2 ↑s.size) then
 .ret (.tup [.agg [.int true .i64 26, .int true .i64 8, .int true .i64 0, .int true .i64 0, .int true .i64 0], .bool true false]) []
 else
 bif (Nat.blt (2) (s.size)) then
 bif (Nat.blt (2) (s.size)) then
 bif (cm .gtr 7 ↑s.size) then
 .ret (.tup [(.agg [.int true .i64 26, .int true .i64 8, (.int false .i64 (ar .or .i64 (conv .i64 (ar .and .u8 (ar .shr .u8 (chr s 2) 3) 7)) (ar .shl .i64 (conv .i64 (ar .and .u8 (chr s 0) 4)) 1))), (.int false .i64 (ar .or .i64 (conv .i64 (ar .and .u8 (chr s 2) 7)) (ar .shl .i64 (conv .i64 (ar .and .u8 (chr s 0) 1)) 3))), .int true .i64 0]), .bool true false]) []
 else
 bif (Nat.ble (7) (s.size)) then
 bif (Nat.ble ((s.extract 3 7).size) (8)) then
 .ret (.tup [(.agg [.int true .i64 26, .int true .i64 8, (.int false .i64 (ar .or .i64 (conv .i64 (ar .and .u8 (ar .shr .u8 (chr s 2) 3) 7)) (ar .shl .i64 (conv .i64 (ar .and .u8 (chr s 0) 4)) 1))), (.int false .i64 (ar .or .i64 (conv .i64 (ar .and .u8 (chr s 2) 7)) (ar .shl .i64 (conv .i64 (ar .and .u8 (chr s 0) 1)) 3))), .int false .i64 (numU (s.extract 3 7))]), .bool true true]) []
 else .bad
 else .bad
 else .bad
 else .bad
 else .bad
 else
 bif (Nat.blt (1) (s.size)) then
 bif (cm .geq 2 ↑s.size) then
 .ret (.tup [.agg [.int true .i64 26, .int true .i64 4, .int true .i64 0, .int true .i64 0, .int true .i64 0], .bool true false]) []
 else
 bif (Nat.blt (2) (s.size)) then
 bif (Nat.blt (2) (s.size)) then
 bif (cm .gtr 7 ↑s.size) then
 .ret (.tup [(.agg [.int true .i64 26, .int true .i64 4, (.int false .i64 (ar .or .i64 (conv .i64 (ar .and .u8 (ar .shr .u8 (chr s 2) 3) 7)) (ar .shl .i64 (conv .i64 (ar .and .u8 (chr s 0) 4)) 1))), (.int false .i64 (ar .or .i64 (conv .i64 (ar .and .u8 (chr s 2) 7)) (ar .shl .i64 (conv .i64 (ar .and .u8 (chr s 0) 1)) 3))), .int true .i64 0]), .bool true false]) []
 else
 bif (Nat.ble (7) (s.size)) then
 bif (Nat.ble ((s.extract 3 7).size) (8)) then
 .ret (.tup [(.agg [.int true .i64 26, .int true .i64 4, (.int false .i64 (ar .or .i64 (conv .i64 (ar .and .u8 (ar .shr .u8 (chr s 2) 3) 7)) (ar .shl .i64 (conv .i64 (ar .and .u8 (chr s 0) 4)) 1))), (.int false .i64 (ar .or .i64 (conv .i64 (ar .and .u8 (chr s 2) 7)) (ar .shl .i64 (conv .i64 (ar .and .u8 (chr s 0) 1)) 3))), .int false .i64 (numU (s.extract 3 7))]), .bool true true]) []
 else .bad
 else .bad
 else .bad
 else .bad
 else .bad
 else .bad) := by kernel_rfl

theorem gn_26 (s : ByteArray) : (evalF (E26 false) Try.prog 26 [.int true .i64 26, .agg [.int true .i64 2, .str ⟨#[139]⟩, .int true .i64 0, .bool true false, .int true .i64 8, .bool true false, .bool true false], .str s] [] 1024).bare =
    (bif (preOk false s == false) then
 zG
 else .bad) := by kernel_rfl

theorem gy_27 (s : ByteArray) : (evalF (E26 true) Try.prog 26 [.int true .i64 27, .agg [.int true .i64 2, .str ⟨#[139]⟩, .int true .i64 0, .bool true false, .int true .i64 4, .bool true false, .bool true false], .str s] [] 1024).bare =
    (bif (preOk false s == true) then
 bif (cm .gtr 2 ↑s.size) then
 zG
 else
 bif (cm .neq (ar .and .u8 (chr s 0) 8) 0) then
 bif (Nat.blt (1) (s.size)) then
 bif (cm .geq 2 ↑s.size) then
 .ret (.tup [.agg [.int true .i64 27, .int true .i64 8, .int true .i64 0, .int true .i64 0, .int true .i64 0], .bool true false]) []
 else
 bif (Nat.blt (2) (s.size)) then
 bif (Nat.blt (2) (s.size)) then
 bif (cm .gtr 7 ↑s.size) then
 .ret (.tup [(.agg [.int true .i64 27, .int true .i64 8, (.int false .i64 (ar .or .i64 (conv .i64 (ar .and .u8 (ar .shr .u8 (chr s 2) 3) 7)) (ar .shl .i64 (conv .i64 (ar .and .u8 (chr s 0) 4)) 1))), (.int false .i64 (ar .or .i64 (conv .i64 (ar .and .u8 (chr s 2) 7)) (ar .shl .i64 (conv .i64 (ar .and .u8 (chr s 0) 1)) 3))), .int true .i64 0]), .bool true false]) []
 else
 bif (Nat.ble (7) (s.size)) then
 bif (Nat.ble ((s.extract 3 7).size) (8)) then
 .ret (.tup [(.agg [.int true .i64 27, .int true .i64 8, (.int false .i64 (ar .or .i64 (conv .i64 (ar .and .u8 (ar .shr .u8 (chr s 2) 3) 7)) (ar .shl .i64 (conv .i64 (ar .and .u8 (chr s 0) 4)) 1))), (.int false .i64 (ar .or .i64 (conv .i64 (ar .and .u8 (chr s 2) 7)) (ar .shl .i64 (conv .i64 (ar .and .u8 (chr s 0) 1)) 3))), .int false .i64 (numU (s.extract 3 7))]), .bool true true]) []
 else .bad
 else .bad
 else .bad
 else .bad
 else .bad
 else
 bif (Nat.blt (1) (s.size)) then
 bif (cm .geq 2 ↑s.size) then
 .ret (.tup [.agg [.int true .i64 27, .int true .i64 4, .int true .i64 0, .int true .i64 0, .int true .i64 0], .bool true false]) []
 else
 bif (Nat.blt (2) (s.size)) then
 bif (Nat.blt (2) (s.size)) then
 bif (cm .gtr 7 ↑s.size) then
 .ret (.tup [(.agg [.int true .i64 27, .int true .i64 4, (.int false .i64 (ar .or .i64 (conv .i64 (ar .and .u8 (ar .shr .u8 (chr s 2) 3) 7)) (ar .shl .i64 (conv .i64 (ar .and .u8 (chr s 0) 4)) 1))), (.int false .i64 (ar .or .i64 (conv .i64 (ar .and .u8 (chr s 2) 7)) (ar .shl .i64 (conv .i64 (ar .and .u8 (chr s 0) 1)) 3))), .int true .i64 0]), .bool true false]) []
 else
 bif (Nat.ble (7) (s.size)) then
 bif (Nat.ble ((s.extract 3 7).size) (8)) then
 .ret (.tup [(.agg [.int true .i64 27, .int true .i64 4, (.int false .i64 (ar .or .i64 (conv .i64 (ar .and .u8 (ar .shr .u8 (chr s 2) 3) 7)) (ar .shl .i64 (conv .i64 (ar .and .u8 (chr s 0) 4)) 1))), (.int false .i64 (ar .or .i64 (conv .i64 (ar .and .u8 (chr s 2) 7)) (ar .shl .i64 (conv .i64 (ar .and .u8 (chr s 0) 1)) 3))), .int false .i64 (numU (s.extract 3 7))]), .bool true true]) []
 else .bad
 else .bad
 else .bad
 else .bad
 else .bad
 else .bad) := by kernel_rfl

theorem gn_27 (s : ByteArray) : (evalF (E26 false) Try.prog 26 [.int true .i64 27, .agg [.int true .i64 2, .str ⟨#[139]⟩, .int true .i64 0, .bool true false, .int true .i64 4, .bool true false, .bool true false], .str s] [] 1024).bare =
    (bif (preOk false s == false) then
 zG
 else .bad) := by kernel_rfl

theorem gy_28 (s : ByteArray) : (evalF (E26 true) Try.prog 26 [.int true .i64 28, .agg [.int true .i64 2, .str ⟨#[99]⟩, .int true .i64 0, .bool true false, .int true .i64 8, .bool true false, .bool true false], .str s] [] 1024).bare =
    (bif (preOk false s == true) then
 bif (cm .gtr 2 ↑s.size) then
 zG
 else
 bif (cm .neq (ar .and .u8 (chr s 0) 8) 0) then
 bif (Nat.blt (1) (s.size)) then
 bif (cm .geq 2 ↑s.size) then
 .ret (.tup [.agg [.int true .i64 28, .int true .i64 8, .int true .i64 0, .int true .i64 0, .int true .i64 0], .bool true false]) []
 else
 bif (Nat.blt (2) (s.size)) then
 bif (Nat.blt (2) (s.size)) then
 bif (cm .gtr 7 ↑s.size) then
 .ret (.tup [(.agg [.int true .i64 28, .int true .i64 8, (.int false .i64 (ar .or .i64 (conv .i64 (ar .and .u8 (ar .shr .u8 (chr s 2) 3) 7)) (ar .shl .i64 (conv .i64 (ar .and .u8 (chr s 0) 4)) 1))), (.int false .i64 (ar .or .i64 (conv .i64 (ar .and .u8 (chr s 2) 7)) (ar .shl .i64 (conv .i64 (ar .and .u8 (chr s 0) 1)) 3))), .int true .i64 0]), .bool true false]) []
 else
 bif (Nat.ble (7) (s.size)) then
 bif (Nat.ble ((s.extract 3 7).size) (8)) then
 .ret (.tup [(.agg [.int true .i64 28, .int true .i64 8, (.int false .i64 (ar .or .i64 (conv .i64 (ar .and .u8 (ar .shr .u8 (chr s 2) 3) 7)) (ar .shl .i64 (conv .i64 (ar .and .u8 (chr s 0) 4)) 1))), (.int false .i64 (ar .or .i64 (conv .i64 (ar .and .u8 (chr s 2) 7)) (ar .shl .i64 (conv .i64 (ar .and .u8 (chr s 0) 1)) 3))), .int false .i64 (numU (s.extract 3 7))]), .bool true true]) []
 else .bad
 else .bad
 else .bad
 else .bad
 else .bad
 else
 bif (Nat.blt (1) (s.size)) then
 bif (cm .geq 2 ↑s.size) then
 .ret (.tup [.agg [.int true .i64 28, .int true .i64 4, .int true .i64 0, .int true .i64 0, .int true .i64 0], .bool true false]) []
 else
 bif (Nat.blt (2) (s.size)) then
 bif (Nat.blt (2) (s.size)) then
 bif (cm .gtr 7 ↑s.size) then
 .ret (.tup [(.agg [.int true .i64 28, .int true .i64 4, (.int false .i64 (ar .or .i64 (conv .i64 (ar .and .u8 (ar .shr .u8 (chr s 2) 3) 7)) (ar .shl .i64 (conv .i64 (ar .and .u8 (chr s 0) 4)) 1))), (.int false .i64 (ar .or .i64 (conv .i64 (ar .and .u8 (chr s 2) 7)) (ar .shl .i64 (conv .i64 (ar .and .u8 (chr s 0) 1)) 3))), .int true .i64 0]), .bool true false]) []
 else
 bif (Nat.ble (7) (s.size)) then
 bif (Nat.ble ((s.extract 3 7).size) (8)) then
 .ret (.tup [(.agg [.int true .i64 28, .int true .i64 4, (.int false .i64 (ar .or .i64 (conv .i64 (ar .and .u8 (ar .shr .u8 (chr s 2) 3) 7)) (ar .shl .i64 (conv .i64 (ar .and .u8 (chr s 0) 4)) 1))), (.int false .i64 (ar .or .i64 (conv .i64 (ar .and .u8 (chr s 2) 7)) (ar .shl .i64 (conv .i64 (ar .and .u8 (chr s 0) 1)) 3))), .int false .i64 (numU (s.extract 3 7))]), .bool true true]) []
 else .bad
 else .bad
 else .bad
 else .bad
 else .bad
 else .bad) := by kernel_rfl

theorem gn_28 (s : ByteArray) : (evalF (E26 false) Try.prog 26 [.int true .i64 28, .agg [.int true .i64 2, .str ⟨#[99]⟩, .int true .i64 0, .bool true false, .int true .i64 8, .bool true false, .bool true false], .str s] [] 1024).bare =
    (bif (preOk false s == false) then
 zG
 else .bad) := by kernel_rfl

theorem gy_29 (s : ByteArray) : (evalF (E26 true) Try.prog 26 [.int true .i64 29, .agg [.int true .i64 2, .str ⟨#[15, 191]⟩, .int true .i64 0, .bool true false, .int true .i64 8, .bool true false, .bool true false], .str s] [] 1024).bare =
    (bif (preOk false s == true) then
 bif (cm .gtr 3 ↑s.size) then
 zG
 else
 bif (cm .neq (ar .and .u8 (chr s 0) 8) 0) then
 bif (Nat.blt (2) (s.size)) then
 bif (cm .geq 3 ↑s.size) then
 .ret (.tup [.agg [.int true .i64 29, .int true .i64 8, .int true .i64 0, .int true .i64 0, .int true .i64 0], .bool true false]) []
 else
 bif (Nat.blt (3) (s.size)) then
 bif (Nat.blt (3) (s.size)) then
 bif (cm .gtr 8 ↑s.size) then
 .ret (.tup [(.agg [.int true .i64 29, .int true .i64 8, (.int false .i64 (ar .or .i64 (conv .i64 (ar .and .u8 (ar .shr .u8 (chr s 3) 3) 7)) (ar .shl .i64 (conv .i64 (ar .and .u8 (chr s 0) 4)) 1))), (.int false .i64 (ar .or .i64 (conv .i64 (ar .and .u8 (chr s 3) 7)) (ar .shl .i64 (conv .i64 (ar .and .u8 (chr s 0) 1)) 3))), .int true .i64 0]), .bool true false]) []
 else
 bif (Nat.ble (8) (s.size)) then
 bif (Nat.ble ((s.extract 4 8).size) (8)) then
 .ret (.tup [(.agg [.int true .i64 29, .int true .i64 8, (.int false .i64 (ar .or .i64 (conv .i64 (ar .and .u8 (ar .shr .u8 (chr s 3) 3) 7)) (ar .shl .i64 (conv .i64 (ar .and .u8 (chr s 0) 4)) 1))), (.int false .i64 (ar .or .i64 (conv .i64 (ar .and .u8 (chr s 3) 7)) (ar .shl .i64 (conv .i64 (ar .and .u8 (chr s 0) 1)) 3))), .int false .i64 (numU (s.extract 4 8))]), .bool true true]) []
 else .bad
 else .bad
 else .bad
 else .bad
 else .bad
 else
 bif (Nat.blt (2) (s.size)) then
 bif (cm .geq 3 ↑s.size) then
 .ret (.tup [.agg [.int true .i64 29, .int true .i64 4, .int true .i64 0, .int true .i64 0, .int true .i64 0], .bool true false]) []
 else
 bif (Nat.blt (3) (s.size)) then
 bif (Nat.blt (3) (s.size)) then
 bif (cm .gtr 8 ↑s.size) then
 .ret (.tup [(.agg [.int true .i64 29, .int true .i64 4, (.int false .i64 (ar .or .i64 (conv .i64 (ar .and .u8 (ar .shr .u8 (chr s 3) 3) 7)) (ar .shl .i64 (conv .i64 (ar .and .u8 (chr s 0) 4)) 1))), (.int false .i64 (ar .or .i64 (conv .i64 (ar .and .u8 (chr s 3) 7)) (ar .shl .i64 (conv .i64 (ar .and .u8 (chr s 0) 1)) 3))), .int true .i64 0]), .bool true false]) []
 else
 bif (Nat.ble (8) (s.size)) then
 bif (Nat.ble ((s.extract 4 8).size) (8)) then
 .ret (.tup [(.agg [.int true .i64 29, .int true .i64 4, (.int false .i64 (ar .or .i64 (conv .i64 (ar .and .u8 (ar .shr .u8 (chr s 3) 3) 7)) (ar .shl .i64 (conv .i64 (ar .and .u8 (chr s 0) 4)) 1))), (.int false .i64 (ar .or .i64 (conv .i64 (ar .and .u8 (chr s 3) 7)) (ar .shl .i64 (conv .i64 (ar .and .u8 (chr s 0) 1)) 3))), .int false .i64 (numU (s.extract 4 8))]), .bool true true]) []
 else .bad
 else .bad
 else .bad
 else .bad
 else .bad
 else .bad) := by kernel_rfl

theorem gn_29 (s : ByteArray) : (evalF (E26 false) Try.prog 26 [.int true .i64 29, .agg [.int true .i64 2, .str ⟨#[15, 191]⟩, .int true .i64 0, .bool true false, .int true .i64 8, .bool true false, .bool true false], .str s] [] 1024).bare =
    (bif (preOk false s == false) then
 zG
 else .bad) := by kernel_rfl

theorem gy_30 (s : ByteArray) : (evalF (E26 true) Try.prog 26 [.int true .i64 30, .agg [.int true .i64 2, .str ⟨#[15, 190]⟩, .int true .i64 0, .bool true false, .int true .i64 8, .bool true false, .bool true false], .str s] [] 1024).bare =
    (bif (preOk false s == true) then
 bif (cm .gtr 3 ↑s.size) then
 zG
 else
 bif (cm .neq (ar .and .u8 (chr s 0) 8) 0) then
 bif (Nat.blt (2) (s.size)) then
 bif (cm .geq 3 ↑s.size) then
 .ret (.tup [.agg [.int true .i64 30, .int true .i64 8, .int true .i64 0, .int true .i64 0, .int true .i64 0], .bool true false]) []
 else
 bif (Nat.blt (3) (s.size)) then
 bif (Nat.blt (3) (s.size)) then
 bif (cm .gtr 8 ↑s.size) then
 .ret (.tup [(.agg [.int true .i64 30, .int true .i64 8, (.int false .i64 (ar .or .i64 (conv .i64 (ar .and .u8 (ar .shr .u8 (chr s 3) 3) 7)) (ar .shl .i64 (conv .i64 (ar .and .u8 (chr s 0) 4)) 1))), (.int false .i64 (ar .or .i64 (conv .i64 (ar .and .u8 (chr s 3) 7)) (ar .shl .i64 (conv .i64 (ar .and .u8 (chr s 0) 1)) 3))), .int true .i64 0]), .bool true false]) []
 else
 bif (Nat.ble (8) (s.size)) then
 bif (Nat.ble ((s.extract 4 8).size) (8)) then
 .ret (.tup [(.agg [.int true .i64 30, .int true .i64 8, (.int false .i64 (ar .or .i64 (conv .i64 (ar .and .u8 (ar .shr .u8 (chr s 3) 3) 7)) (ar .shl .i64 (conv .i64 (ar .and .u8 (chr s 0) 4)) 1))), (.int false .i64 (ar .or .i64 (conv .i64 (ar .and .u8 (chr s 3) 7)) (ar .shl .i64 (conv .i64 (ar .and .u8 (chr s 0) 1)) 3))), .int false .i64 (numU (s.extract 4 8))]), .bool true true]) []
 else .bad
 else .bad
 else .bad
 else .bad
 else .bad
 else
 bif (Nat.blt (2) (s.size)) then
 bif (cm .geq 3 ↑s.size) then
 .ret (.tup [.agg [.int true .i64 30, .int true .i64 4, .int true .i64 0, .int true .i64 0, .int true .i64 0], .bool true false]) []
 else
 bif (Nat.blt (3) (s.size)) then
 bif (Nat.blt (3) (s.size)) then
 bif (cm .gtr 8 ↑s.size) then
 .ret (.tup [(.agg [.int true .i64 30, .int true .i64 4, (.int false .i64 (ar .or .i64 (conv .i64 (ar .and .u8 (ar .shr .u8 (chr s 3) 3) 7)) (ar .shl .i64 (conv .i64 (ar .and .u8 (chr s 0) 4)) 1))), (.int false .i64 (ar .or .i64 (conv .i64 (ar .and .u8 (chr s 3) 7)) (ar .shl .i64 (conv .i64 (ar .and .u8 (chr s 0) 1)) 3))), .int true .i64 0]), .bool true false]) []
 else
 bif (Nat.ble (8) (s.size)) then
 bif (Nat.ble ((s.extract 4 8).size) (8)) then
 .ret (.tup [(.agg [.int true .i64 30, .int true .i64 4, (.int false .i64 (ar .or .i64 (conv .i64 (ar .and .u8 (ar .shr .u8 (chr s 3) 3) 7)) (ar .shl .i64 (conv .i64 (ar .and .u8 (chr s 0) 4)) 1))), (.int false .i64 (ar .or .i64 (conv .i64 (ar .and .u8 (chr s 3) 7)) (ar .shl .i64 (conv .i64 (ar .and .u8 (chr s 0) 1)) 3))), .int false .i64 (numU (s.extract 4 8))]), .bool true true]) []
 else .bad
 else .bad
 else .bad
 else .bad
 else .bad
 else .bad) := by kernel_rfl

theorem gn_30 (s : ByteArray) : (evalF (E26 false) Try.prog 26 [.int true .i64 30, .agg [.int true .i64 2, .str ⟨#[15, 190]⟩, .int true .i64 0, .bool true false, .int true .i64 8, .bool true false, .bool true false], .str s] [] 1024).bare =
    (bif (preOk false s == false) then
 zG
 else .bad) := by kernel_rfl

theorem gy_31 (s : ByteArray) : (evalF (E26 true) Try.prog 26 [.int true .i64 31, .agg [.int true .i64 2, .str ⟨#[15, 183]⟩, .int true .i64 0, .bool true false, .int true .i64 8, .bool true false, .bool true false], .str s] [] 1024).bare =
    (bif (preOk false s == true) then
 bif (cm .gtr 3 ↑s.size) then
 zG
 else
 bif (cm .neq (ar .and .u8 (chr s 0) 8) 0) then
 bif (Nat.blt (2) (s.size)) then
 bif (cm .geq 3 ↑s.size) then
 .ret (.tup [.agg [.int true .i64 31, .int true .i64 8, .int true .i64 0, .int true .i64 0, .int true .i64 0], .bool true false]) []
 else
 bif (Nat.blt (3) (s.size)) then
 bif (Nat.blt (3) (s.size)) then
 bif (cm .gtr 8 ↑s.size) then
 .ret (.tup [(.agg [.int true .i64 31, .int true .i64 8, (.int false .i64 (ar .or .i64 (conv .i64 (ar .and .u8 (ar .shr .u8 (chr s 3) 3) 7)) (ar .shl .i64 (conv .i64 (ar .and .u8 (chr s 0) 4)) 1))), (.int false .i64 (ar .or .i64 (conv .i64 (ar .and .u8 (chr s 3) 7)) (ar .shl .i64 (conv .i64 (ar .and .u8 (chr s 0) 1)) 3))), .int true .i64 0]), .bool true false]) []
 else
 bif (Nat.ble (8) (s.size)) then
 bif (Nat.ble ((s.extract 4 8).size) (8)) then
 .ret (.tup [(.agg [.int true .i64 31, .int true .i64 8, (.int false .i64 (ar .or .i64 (conv .i64 (ar .and .u8 (ar .shr .u8 (chr s 3) 3) 7)) (ar .shl .i64 (conv .i64 (ar .and .u8 (chr s 0) 4)) 1))), (.int false .i64 (ar .or .i64 (conv .i64 (ar .and .u8 (chr s 3) 7)) (ar .shl .i64 (conv .i64 (ar .and .u8 (chr s 0) 1)) 3))), .int false .i64 (numU (s.extract 4 8))]), .bool true true]) []
 else .bad
 else .bad
 else .bad
 else .bad
 else .bad
 else
 bif (Nat.blt (2) (s.size)) then
 bif (cm .geq 3 ↑s.size) then
 .ret (.tup [.agg [.int true .i64 31, .int true .i64 4, .int true .i64 0, .int true .i64 0, .int true .i64 0], .bool true false]) []
 else
 bif (Nat.blt (3) (s.size)) then
 bif (Nat.blt (3) (s.size)) then
 bif (cm .gtr 8 ↑s.size) then
 .ret (.tup [(.agg [.int true .i64 31, .int true .i64 4, (.int false .i64 (ar .or .i64 (conv .i64 (ar .and .u8 (ar .shr .u8 (chr s 3) 3) 7)) (ar .shl .i64 (conv .i64 (ar .and .u8 (chr s 0) 4)) 1))), (.int false .i64 (ar .or .i64 (conv .i64 (ar .and .u8 (chr s 3) 7)) (ar .shl .i64 (conv .i64 (ar .and .u8 (chr s 0) 1)) 3))), .int true .i64 0]), .bool true false]) []
 else
 bif (Nat.ble (8) (s.size)) then
 bif (Nat.ble ((s.extract 4 8).size) (8)) then
 .ret (.tup [(.agg [.int true .i64 31, .int true .i64 4, (.int false .i64 (ar .or .i64 (conv .i64 (ar .and .u8 (ar .shr .u8 (chr s 3) 3) 7)) (ar .shl .i64 (conv .i64 (ar .and .u8 (chr s 0) 4)) 1))), (.int false .i64 (ar .or .i64 (conv .i64 (ar .and .u8 (chr s 3) 7)) (ar .shl .i64 (conv .i64 (ar .and .u8 (chr s 0) 1)) 3))), .int false .i64 (numU (s.extract 4 8))]), .bool true true]) []
 else .bad
 else .bad
 else .bad
 else .bad
 else .bad
 else .bad) := by kernel_rfl

theorem gn_31 (s : ByteArray) : (evalF (E26 false) Try.prog 26 [.int true .i64 31, .agg [.int true .i64 2, .str ⟨#[15, 183]⟩, .int true .i64 0, .bool true false, .int true .i64 8, .bool true false, .bool true false], .str s] [] 1024).bare =
    (bif (preOk false s == false) then
 zG
 else .bad) := by kernel_rfl

theorem gy_32 (s : ByteArray) : (evalF (E26 true) Try.prog 26 [.int true .i64 32, .agg [.int true .i64 2, .str ⟨#[15, 182]⟩, .int true .i64 0, .bool true false, .int true .i64 8, .bool true false, .bool true false], .str s] [] 1024).bare =
    (bif (preOk false s == true) then
 bif (cm .gtr 3 ↑s.size) then
 zG
 else
 bif (cm .neq (ar .and .u8 (chr s 0) 8) 0) then
 bif (Nat.blt (2) (s.size)) then
 bif (cm .geq 3 ↑s.size) then
 .ret (.tup [.agg [.int true .i64 32, .int true .i64 8, .int true .i64 0, .int true .i64 0, .int true .i64 0], .bool true false]) []
 else
 bif (Nat.blt (3) (s.size)) then
 bif (Nat.blt (3) (s.size)) then
 bif (cm .gtr 8 ↑s.size) then
 .ret (.tup [(.agg [.int true .i64 32, .int true .i64 8, (.int false .i64 (ar .or .i64 (conv .i64 (ar .and .u8 (ar .shr .u8 (chr s 3) 3) 7)) (ar .shl .i64 (conv .i64 (ar .and .u8 (chr s 0) 4)) 1))), (.int false .i64 (ar .or .i64 (conv .i64 (ar .and .u8 (chr s 3) 7)) (ar .shl .i64 (conv .i64 (ar .and .u8 (chr s 0) 1)) 3))), .int true .i64 0]), .bool true false]) []
 else
 bif (Nat.ble (8) (s.size)) then
 bif (Nat.ble ((s.extract 4 8).size) (8)) then
 .ret (.tup [(.agg [.int true .i64 32, .int true .i64 8, (.int false .i64 (ar .or .i64 (conv .i64 (ar .and .u8 (ar .shr .u8 (chr s 3) 3) 7)) (ar .shl .i64 (conv .i64 (ar .and .u8 (chr s 0) 4)) 1))), (.int false .i64 (ar .or .i64 (conv .i64 (ar .and .u8 (chr s 3) 7)) (ar .shl .i64 (conv .i64 (ar .and .u8 (chr s 0) 1)) 3))), .int false .i64 (numU (s.extract 4 8))]), .bool true true]) []
 else .bad
 else .bad
 else .bad
 else .bad
 else .bad
 else
 bif (Nat.blt (2) (s.size)) then
 bif (cm .geq 3 ↑s.size) then
 .ret (.tup [.agg [.int true .i64 32, .int true .i64 4, .int true .i64 0, .int true .i64 0, .int true .i64 0], .bool true false]) []
 else
 bif (Nat.blt (3) (s.size)) then
 bif (Nat.blt (3) (s.size)) then
 bif (cm .gtr 8 ↑s.size) then
 .ret (.tup [(.agg [.int true .i64 32, .int true .i64 4, (.int false .i64 (ar .or .i64 (conv .i64 (ar .and .u8 (ar .shr .u8 (chr s 3) 3) 7)) (ar .shl .i64 (conv .i64 (ar .and .u8 (chr s 0) 4)) 1))), (.int false .i64 (ar .or .i64 (conv .i64 (ar .and .u8 (chr s 3) 7)) (ar .shl .i64 (conv .i64 (ar .and .u8 (chr s 0) 1)) 3))), .int true .i64 0]), .bool true false]) []
 else
 bif (Nat.ble (8) (s.size)) then
 bif (Nat.ble ((s.extract 4 8).size) (8)) then
 .ret (.tup [(.agg [.int true .i64 32, .int true .i64 4, (.int false .i64 (ar .or .i64 (conv .i64 (ar .and .u8 (ar .shr .u8 (chr s 3) 3) 7)) (ar .shl .i64 (conv .i64 (ar .and .u8 (chr s 0) 4)) 1))), (.int false .i64 (ar .or .i64 (conv .i64 (ar .and .u8 (chr s 3) 7)) (ar .shl .i64 (conv .i64 (ar .and .u8 (chr s 0) 1)) 3))), .int false .i64 (numU (s.extract 4 8))]), .bool true true]) []
 else .bad
 else .bad
 else .bad
 else .bad
 else .bad
 else .bad) := by kernel_rfl

theorem gn_32 (s : ByteArray) : (evalF (E26 false) Try.prog 26 [.int true .i64 32, .agg [.int true .i64 2, .str ⟨#[15, 182]⟩, .int true .i64 0, .bool true false, .int true .i64 8, .bool true false, .bool true false], .str s] [] 1024).bare =
    (bif (preOk false s == false) then
 zG
 else .bad) := by kernel_rfl

theorem gy_33 (s : ByteArray) : (evalF (E26 true) Try.prog 26 [.int true .i64 33, .agg [.int true .i64 2, .str ⟨#[137]⟩, .int true .i64 0, .bool true false, .int true .i64 8, .bool true false, .bool true false], .str s] [] 1024).bare =
    (bif (preOk false s == true) then
 bif (cm .gtr 2 ↑s.size) then
 zG
 else
 bif (cm .neq (ar .and .u8 (chr s 0) 8) 0) then
 bif (Nat.blt (1) (s.size)) then
 bif (cm .geq 2 ↑s.size) then
 .ret (.tup [.agg [.int true .i64 33, .int true .i64 8, .int true .i64 0, .int true .i64 0, .int true .i64 0], .bool true false]) []
 else
 bif (Nat.blt (2) (s.size)) then
 bif (Nat.blt (2) (s.size)) then
 bif (cm .gtr 7 ↑s.size) then
 .ret (.tup [(.agg [.int true .i64 33, .int true .i64 8, (.int false .i64 (ar .or .i64 (conv .i64 (ar .and .u8 (ar .shr .u8 (chr s 2) 3) 7)) (ar .shl .i64 (conv .i64 (ar .and .u8 (chr s 0) 4)) 1))), (.int false .i64 (ar .or .i64 (conv .i64 (ar .and .u8 (chr s 2) 7)) (ar .shl .i64 (conv .i64 (ar .and .u8 (chr s 0) 1)) 3))), .int true .i64 0]), .bool true false]) []
 else
 bif (Nat.ble (7) (s.size)) then
 bif (Nat.ble ((s.extract 3 7).size) (8)) then
 .ret (.tup [(.agg [.int true .i64 33, .int true .i64 8, (.int false .i64 (ar .or .i64 (conv .i64 (ar .and .u8 (ar .shr .u8 (chr s 2) 3) 7)) (ar .shl .i64 (conv .i64 (ar .and .u8 (chr s 0) 4)) 1))), (.int false .i64 (ar .or .i64 (conv .i64 (ar .and .u8 (chr s 2) 7)) (ar .shl .i64 (conv .i64 (ar .and .u8 (chr s 0) 1)) 3))), .int false .i64 (numU (s.extract 3 7))]), .bool true true]) []
 else .bad
 else .bad
 else .bad
 else .bad
 else .bad
 else
 bif (Nat.blt (1) (s.size)) then
 bif (cm .geq 2 ↑s.size) then
 .ret (.tup [.agg [.int true .i64 33, .int true .i64 4, .int true .i64 0, .int true .i64 0, .int true .i64 0], .bool true false]) []
 else
 bif (Nat.blt (2) (s.size)) then
 bif (Nat.blt (2) (s.size)) then
 bif (cm .gtr 7 ↑s.size) then
 .ret (.tup [(.agg [.int true .i64 33, .int true .i64 4, (.int false .i64 (ar .or .i64 (conv .i64 (ar .and .u8 (ar .shr .u8 (chr s 2) 3) 7)) (ar .shl .i64 (conv .i64 (ar .and .u8 (chr s 0) 4)) 1))), (.int false .i64 (ar .or .i64 (conv .i64 (ar .and .u8 (chr s 2) 7)) (ar .shl .i64 (conv .i64 (ar .and .u8 (chr s 0) 1)) 3))), .int true .i64 0]), .bool true false]) []
 else
 bif (Nat.ble (7) (s.size)) then
 bif (Nat.ble ((s.extract 3 7).size) (8)) then
 .ret (.tup [(.agg [.int true .i64 33, .int true .i64 4, (.int false .i64 (ar .or .i64 (conv .i64 (ar .and .u8 (ar .shr .u8 (chr s 2) 3) 7)) (ar .shl .i64 (conv .i64 (ar .and .u8 (chr s 0) 4)) 1))), (.int false .i64 (ar .or .i64 (conv .i64 (ar .and .u8 (chr s 2) 7)) (ar .shl .i64 (conv .i64 (ar .and .u8 (chr s 0) 1)) 3))), .int false .i64 (numU (s.extract 3 7))]), .bool true true]) []
 else .bad
 else .bad
 else .bad
 else .bad
 else .bad
 else .bad) := by kernel_rfl

theorem gn_33 (s : ByteArray) : (evalF (E26 false) Try.prog 26 [.int true .i64 33, .agg [.int true .i64 2, .str ⟨#[137]⟩, .int true .i64 0, .bool true false, .int true .i64 8, .bool true false, .bool true false], .str s] [] 1024).bare =
    (bif (preOk false s == false) then
 zG
 else .bad) := by kernel_rfl

theorem gy_34 (s : ByteArray) : (evalF (E26 true) Try.prog 26 [.int true .i64 34, .agg [.int true .i64 2, .str ⟨#[137]⟩, .int true .i64 0, .bool true false, .int true .i64 4, .bool true false, .bool true false], .str s] [] 1024).bare =
    (bif (preOk false s == true) then
 bif (cm .gtr 2 ↑s.size) then
 zG
 else
 bif (cm .neq (ar .and .u8 (chr s 0) 8) 0) then
 bif (Nat.blt (1) (s.size)) then
 bif (cm .geq 2 ↑s.size) then
 .ret (.tup [.agg [.int true .i64 34, .int true .i64 8, .int true .i64 0, .int true .i64 0, .int true .i64 0], .bool true false]) []
 else
 bif (Nat.blt (2) (s.size)) then
 bif (Nat.blt (2) (s.size)) then
 bif (cm .gtr 7 ↑s.size) then
 .ret (.tup [(.agg [.int true .i64 34, .int true .i64 8, (.int false .i64 (ar .or .i64 (conv .i64 (ar .and .u8 (ar .shr .u8 (chr s 2) 3) 7)) (ar .shl .i64 (conv .i64 (ar .and .u8 (chr s 0) 4)) 1))), (.int false .i64 (ar .or .i64 (conv .i64 (ar .and .u8 (chr s 2) 7)) (ar .shl .i64 (conv .i64 (ar .and .u8 (chr s 0) 1)) 3))), .int true .i64 0]), .bool true false]) []
 else
 bif (Nat.ble (7) (s.size)) then
 bif (Nat.ble ((s.extract 3 7).size) (8)) then
 .ret (.tup [(.agg [.int true .i64 34, .int true .i64 8, (.int false .i64 (ar .or .i64 (conv .i64 (ar .and .u8 (ar .shr .u8 (chr s 2) 3) 7)) (ar .shl .i64 (conv .i64 (ar .and .u8 (chr s 0) 4)) 1))), (.int false .i64 (ar .or .i64 (conv .i64 (ar .and .u8 (chr s 2) 7)) (ar .shl .i64 (conv .i64 (ar .and .u8 (chr s 0) 1)) 3))), .int false .i64 (numU (s.extract 3 7))]), .bool true true]) []
 else .bad
 else .bad
 else .bad
 else .bad
 else .bad
 else
 bif (Nat.blt (1) (s.size)) then
 bif (cm .geq 2 ↑s.size) then
 .ret (.tup [.agg [.int true .i64 34, .int true .i64 4, .int true .i64 0, .int true .i64 0, .int true .i64 0], .bool true false]) []
 else
 bif (Nat.blt (2) (s.size)) then
 bif (Nat.blt (2) (s.size)) then
 bif (cm .gtr 7 ↑s.size) then
 .ret (.tup [(.agg [.int true .i64 34, .int true .i64 4, (.int false .i64 (ar .or .i64 (conv .i64 (ar .and .u8 (ar .shr .u8 (chr s 2) 3) 7)) (ar .shl .i64 (conv .i64 (ar .and .u8 (chr s 0) 4)) 1))), (.int false .i64 (ar .or .i64 (conv .i64 (ar .and .u8 (chr s 2) 7)) (ar .shl .i64 (conv .i64 (ar .and .u8 (chr s 0) 1)) 3))), .int true .i64 0]), .bool true false]) []
 else
 bif (Nat.ble (7) (s.size)) then
 bif (Nat.ble ((s.extract 3 7).size) (8)) then
 .ret (.tup [(.agg [.int true .i64 34, .int true .i64 4, (.int false .i64 (ar .or .i64 (conv .i64 (ar .and .u8 (ar .shr .u8 (chr s 2) 3) 7)) (ar .shl .i64 (conv .i64 (ar .and .u8 (chr s 0) 4)) 1))), (.int false .i64 (ar .or .i64 (conv .i64 (ar .and .u8 (chr s 2) 7)) (ar .shl .i64 (conv .i64 (ar .and .u8 (chr s 0) 1)) 3))), .int false .i64 (numU (s.extract 3 7))]), .bool true true]) []
 else .bad
 else .bad
 else .bad
 else .bad
 else .bad
 else .bad) := by kernel_rfl

theorem gn_34 (s : ByteArray) : (evalF (E26 false) Try.prog 26 [.int true .i64 34, .agg [.int true .i64 2, .str ⟨#[137]⟩, .int true .i64 0, .bool true false, .int true .i64 4, .bool true false, .bool true false], .str s] [] 1024).bare =
    (bif (preOk false s == false) then
 zG
 else .bad) := by kernel_rfl

theorem gy_35 (s : ByteArray) : (evalF (E26 true) Try.prog 26 [.int true .i64 35, .agg [.int true .i64 2, .str ⟨#[137]⟩, .int true .i64 0, .bool true false, .int true .i64 4, .bool true false, .bool true true], .str s] [] 1024).bare =
    (bif (preOk true s == true) then
 bif (cm .gtr 3 ↑s.size) then
 zG
 else
 bif (cm .neq (ar .and .u8 (chr s 1) 8) 0) then
 bif (Nat.blt (2) (s.size)) then
 bif (cm .geq 3 ↑s.size) then
 .ret (.tup [.agg [.int true .i64 35, .int true .i64 8, .int true .i64 0, .int true .i64 0, .int true .i64 0], .bool true false]) []
 else
 bif (Nat.blt (3) (s.size)) then
 bif (Nat.blt (3) (s.size)) then
 bif (cm .gtr 8 ↑s.size) then
 .ret (.tup [(.agg [.int true .i64 35, .int true .i64 8, (.int false .i64 (ar .or .i64 (conv .i64 (ar .and .u8 (ar .shr .u8 (chr s 3) 3) 7)) (ar .shl .i64 (conv .i64 (ar .and .u8 (chr s 1) 4)) 1))), (.int false .i64 (ar .or .i64 (conv .i64 (ar .and .u8 (chr s 3) 7)) (ar .shl .i64 (conv .i64 (ar .and .u8 (chr s 1) 1)) 3))), .int true .i64 0]), .bool true false]) []
 else
 bif (Nat.ble (8) (s.size)) then
 bif (Nat.ble ((s.extract 4 8).size) (8)) then
 .ret (.tup [(.agg [.int true .i64 35, .int true .i64 8, (.int false .i64 (ar .or .i64 (conv .i64 (ar .and .u8 (ar .shr .u8 (chr s 3) 3) 7)) (ar .shl .i64 (conv .i64 (ar .and .u8 (chr s 1) 4)) 1))), (.int false .i64 (ar .or .i64 (conv .i64 (ar .and .u8 (chr s 3) 7)) (ar .shl .i64 (conv .i64 (ar .and .u8 (chr s 1) 1)) 3))), .int false .i64 (numU (s.extract 4 8))]), .bool true true]) []
 else .bad
 else .bad
 else .bad
 else .bad
 else .bad
 else
 bif (Nat.blt (2) (s.size)) then
 bif (cm .geq 3 ↑s.size) then
 .ret (.tup [.agg [.int true .i64 35, .int true .i64 4, .int true .i64 0, .int true .i64 0, .int true .i64 0], .bool true false]) []
 else
 bif (Nat.blt (3) (s.size)) then
 bif (Nat.blt (3) (s.size)) then
 bif (cm .gtr 8 ↑s.size) then
 .ret (.tup [(.agg [.int true .i64 35, .int true .i64 4, (.int false .i64 (ar .or .i64 (conv .i64 (ar .and .u8 (ar .shr .u8 (chr s 3) 3) 7)) (ar .shl .i64 (conv .i64 (ar .and .u8 (chr s 1) 4)) 1))), (.int false .i64 (ar .or .i64 (conv .i64 (ar .and .u8 (chr s 3) 7)) (ar .shl .i64 (conv .i64 (ar .and .u8 (chr s 1) 1)) 3))), .int true .i64 0]), .bool true false]) []
 else
 bif (Nat.ble (8) (s.size)) then
 bif (Nat.ble ((s.extract 4 8).size) (8)) then
 .ret (.tup [(.agg [.int true .i64 35, .int true .i64 4, (.int false .i64 (ar .or .i64 (conv .i64 (ar .and .u8 (ar .shr .u8 (chr s 3) 3) 7)) (ar .shl .i64 (conv .i64 (ar .and .u8 (chr s 1) 4)) 1))), (.int false .i64 (ar .or .i64 (conv .i64 (ar .and .u8 (chr s 3) 7)) (ar .shl .i64 (conv .i64 (ar .and .u8 (chr s 1) 1)) 3))), .int false .i64 (numU (s.extract 4 8))]), .bool true true]) []
 else .bad
 else .bad
 else .bad
 else .bad
 else .bad
 else .bad) := by kernel_rfl

theorem gn_35 (s : ByteArray) : (evalF (E26 false) Try.prog 26 [.int true .i64 35, .agg [.int true .i64 2, .str ⟨#[137]⟩, .int true .i64 0, .bool true false, .int true .i64 4, .bool true false, .bool true true], .str s] [] 1024).bare =
    (bif (preOk true s == false) then
 zG
 else .bad) := by kernel_rfl

theorem gy_36 (s : ByteArray) : (evalF (E26 true) Try.prog 26 [.int true .i64 36, .agg [.int true .i64 2, .str ⟨#[136]⟩, .int true .i64 0, .bool true false, .int true .i64 4, .bool true false, .bool true false], .str s] [] 1024).bare =
    (bif (preOk false s == true) then
 bif (cm .gtr 2 ↑s.size) then
 zG
 else
 bif (cm .neq (ar .and .u8 (chr s 0) 8) 0) then
 bif (Nat.blt (1) (s.size)) then
 bif (cm .geq 2 ↑s.size) then
 .ret (.tup [.agg [.int true .i64 36, .int true .i64 8, .int true .i64 0, .int true .i64 0, .int true .i64 0], .bool true false]) []
 else
 bif (Nat.blt (2) (s.size)) then
 bif (Nat.blt (2) (s.size)) then
 bif (cm .gtr 7 ↑s.size) then
 .ret (.tup [(.agg [.int true .i64 36, .int true .i64 8, (.int false .i64 (ar .or .i64 (conv .i64 (ar .and .u8 (ar .shr .u8 (chr s 2) 3) 7)) (ar .shl .i64 (conv .i64 (ar .and .u8 (chr s 0) 4)) 1))), (.int false .i64 (ar .or .i64 (conv .i64 (ar .and .u8 (chr s 2) 7)) (ar .shl .i64 (conv .i64 (ar .and .u8 (chr s 0) 1)) 3))), .int true .i64 0]), .bool true false]) []
 else
 bif (Nat.ble (7) (s.size)) then
 bif (Nat.ble ((s.extract 3 7).size) (8)) then
 .ret (.tup [(.agg [.int true .i64 36, .int true .i64 8, (.int false .i64 (ar .or .i64 (conv .i64 (ar .and .u8 (ar .shr .u8 (chr s 2) 3) 7)) (ar .shl .i64 (conv .i64 (ar .and .u8 (chr s 0) 4)) 1))), (.int false .i64 (ar .or .i64 (conv .i64 (ar .and .u8 (chr s 2) 7)) (ar .shl .i64 (conv .i64 (ar .and .u8 (chr s 0) 1)) 3))), .int false .i64 (numU (s.extract 3 7))]), .bool true true]) []
 else .bad
 else .bad
 else .bad
 else .bad
 else .bad
 else
 bif (Nat.blt (1) (s.size)) then
 bif (cm .geq 2 ↑s.size) then
 .ret (.tup [.agg [.int true .i64 36, .int true .i64 4, .int true .i64 0, .int true .i64 0, .int true .i64 0], .bool true false]) []
 else
 bif (Nat.blt (2) (s.size)) then
 bif (Nat.blt (2) (s.size)) then
 bif (cm .gtr 7 ↑s.size) then
 .ret (.tup [(.agg [.int true .i64 36, .int true .i64 4, (.int false .i64 (ar .or .i64 (conv .i64 (ar .and .u8 (ar .shr .u8 (chr s 2) 3) 7)) (ar .shl .i64 (conv .i64 (ar .and .u8 (chr s 0) 4)) 1))), (.int false .i64 (ar .or .i64 (conv .i64 (ar .and .u8 (chr s 2) 7)) (ar .shl .i64 (conv .i64 (ar .and .u8 (chr s 0) 1)) 3))), .int true .i64 0]), .bool true false]) []
 else
 bif (Nat.ble (7) (s.size)) then
 bif (Nat.ble ((s.extract 3 7).size) (8)) then
 .ret (.tup [(.agg [.int true .i64 36, .int true .i64 4, (.int false .i64 (ar .or .i64 (conv .i64 (ar .and .u8 (ar .shr .u8 (chr s 2) 3) 7)) (ar .shl .i64 (conv .i64 (ar .and .u8 (chr s 0) 4)) 1))), (.int false .i64 (ar .or .i64 (conv .i64 (ar .and .u8 (chr s 2) 7)) (ar .shl .i64 (conv .i64 (ar .and .u8 (chr s 0) 1)) 3))), .int false .i64 (numU (s.extract 3 7))]), .bool true true]) []
 else .bad
 else .bad
 else .bad
 else .bad
 else .bad
 else .bad) := by kernel_rfl

theorem gn_36 (s : ByteArray) : (evalF (E26 false) Try.prog 26 [.int true .i64 36, .agg [.int true .i64 2, .str ⟨#[136]⟩, .int true .i64 0, .bool true false, .int true .i64 4, .bool true false, .bool true false], .str s] [] 1024).bare =
    (bif (preOk false s == false) then
 zG
 else .bad) := by kernel_rfl

end Go.X
end
