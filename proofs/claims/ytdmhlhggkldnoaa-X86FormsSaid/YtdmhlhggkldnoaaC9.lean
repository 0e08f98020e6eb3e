/-
  x86: guess finds what the bytes begin with, op by op.
-/
import Derived.Test.YtdmhlhggkldnoaaC7
import Derived.Test.YtdmhlhggkldnoaaC8
set_option linter.unusedSimpArgs false
set_option linter.unusedVariables false
section
set_option linter.unusedVariables false
open Go Go.Ev Go.Proofs
namespace Go.X

theorem fact_25 {s : ByteArray} {w rd rs n : Int} (h : DX 25 s w rd rs n) : (w = 4 ∨ w = 8) ∧ w = 8 ∧ small rd ∧ small rs ∧ n = 0 ∧ inI n ∧ fitsX 0 n = true ∧ 3 ≤ s.size ∧ chr s 0 = rexI w rd rs ∧ chr s 1 = 99 ∧ chr s 2 = modI 192 rd rs := by
  obtain ⟨he, hi, hs⟩ := h
  have hE : errX 25 w rd rs n = (bif (decide (w = 4) || decide (w = 8)) && ((false || decide (w = 8)) && (regX rd && (regX rs && decide (n = 0)))) then (bif ((true) || false) then 0 else 10) else 1) := by kernel_rfl
  rw [hE] at he
  obtain ⟨hA, hF⟩ := err0 he
  have hL : encL 25 w rd rs n = [rexI w rd rs, 99, modI 192 rd rs] ++ tailL n 0 := by kernel_rfl
  rw [hL] at hs
  obtain ⟨h1, h2, h3⟩ := starts_tail hs
  rw [tail_length] at h2 h3
  simp [regX, condX] at hA hF
  have e0 : chr s 0 = rexI w rd rs := h1.2 0 (by show 0 < 3; decide)
  have e1 : chr s 1 = 99 := h1.2 1 (by show 1 < 3; decide)
  have e2 : chr s 2 = modI 192 rd rs := h1.2 2 (by show 2 < 3; decide)
  exact ⟨by first | omega | (simp only [small]; omega), by first | omega | (simp only [small]; omega), by first | omega | (simp only [small]; omega), by first | omega | (simp only [small]; omega), by first | omega | (simp only [small]; omega), hi, by first | rfl | (simp [fitsX]; omega), h2, e0, e1, e2⟩

attribute [local irreducible] evalF Lf.gives in
theorem guess_25 : GP 25 (.agg [.int true .i64 0, .str ⟨#[99]⟩, .int true .i64 0, .bool true true, .int true .i64 8, .bool true false, .bool true false]) := by
  intro s
  cases hp : preOk false s with
  | false =>
    refine GP_of false (gn_25 s) ?_
    rw [hp]
    refine GPl_no fun w rd rs n hd => ?_
    obtain ⟨hw, qw, hrd, hrs, qn, hi, hf, hz, e0, e1, e2⟩ := fact_25 hd
    have := pre0 hw hrd hrs (by omega) e0
    rw [hp] at this
    cases this
  | true =>
    refine GP_of true (gy_25 s) ?_
    rw [hp]
    refine GPl_cond (fun _ => ?_) (fun hc => by cases hc)
    repeat' refine GPl_cond (fun _ => ?_) (fun _ => ?_)
    all_goals simp only [cmz] at *
    all_goals first
        | (exfalso; omega)
        | (refine GPl_no fun w rd rs n hd => ?_; obtain ⟨hw, qw, hrd, hrs, qn, hi, hf, hz, e0, e1, e2⟩ := fact_25 hd; omega)
        | (refine GPl_yes (inI0) fun w rd rs n hd => ?_
           obtain ⟨hw, qw, hrd, hrs, qn, hi, hf, hz, e0, e1, e2⟩ := fact_25 hd
           obtain ⟨x0, x1, x2, x3⟩ := rex_facts hw hrd hrs
           rw [← e0] at x1 x2 x3
           obtain ⟨y0, y1⟩ := mod_facts (.inl rfl) hrd hrs
           rw [← e2] at y0 y1
           exact ⟨by omega, by rw [y1, x3]; exact (put_facts hrd).2, by rw [y0, x2]; exact (put_facts hrs).1, qn.symm⟩)

theorem fact_26 {s : ByteArray} {w rd rs n : Int} (h : DX 26 s w rd rs n) : (w = 4 ∨ w = 8) ∧ w = 8 ∧ small rd ∧ small rs ∧ inI n ∧ fitsX 4 n = true ∧ 7 ≤ s.size ∧ chr s 0 = rexI w rd rs ∧ chr s 1 = 139 ∧ chr s 2 = modI 128 rd rs ∧ (∀ j, j < 4 → chr s (3 + j) = bat n j) := by
  obtain ⟨he, hi, hs⟩ := h
  have hE : errX 26 w rd rs n = (bif (decide (w = 4) || decide (w = 8)) && ((false || decide (w = 8)) && (regX rd && (regX rs && !decide (rs % 8 = 4)))) then (bif ((decide (-2147483648 ≤ n) && decide (n ≤ 2147483647)) || false) then 0 else 10) else 1) := by kernel_rfl
  rw [hE] at he
  obtain ⟨hA, hF⟩ := err0 he
  have hL : encL 26 w rd rs n = [rexI w rd rs, 139, modI 128 rd rs] ++ tailL n 4 := by kernel_rfl
  rw [hL] at hs
  obtain ⟨h1, h2, h3⟩ := starts_tail hs
  rw [tail_length] at h2 h3
  simp [regX, condX] at hA hF
  have e0 : chr s 0 = rexI w rd rs := h1.2 0 (by show 0 < 3; decide)
  have e1 : chr s 1 = 139 := h1.2 1 (by show 1 < 3; decide)
  have e2 : chr s 2 = modI 128 rd rs := h1.2 2 (by show 2 < 3; decide)
  exact ⟨by first | omega | (simp only [small]; omega), by first | omega | (simp only [small]; omega), by first | omega | (simp only [small]; omega), by first | omega | (simp only [small]; omega), hi, by first | rfl | (simp [fitsX]; omega), h2, e0, e1, e2, fun j hj => by rw [← tail_get n 4 j hj]; exact h3 j hj⟩

attribute [local irreducible] evalF Lf.gives in
theorem guess_26 : GP 26 (.agg [.int true .i64 2, .str ⟨#[139]⟩, .int true .i64 0, .bool true false, .int true .i64 8, .bool true false, .bool true false]) := by
  intro s
  cases hp : preOk false s with
  | false =>
    refine GP_of false (gn_26 s) ?_
    rw [hp]
    refine GPl_no fun w rd rs n hd => ?_
    obtain ⟨hw, qw, hrd, hrs, hi, hf, hz, e0, e1, e2, ht⟩ := fact_26 hd
    have := pre0 hw hrd hrs (by omega) e0
    rw [hp] at this
    cases this
  | true =>
    refine GP_of true (gy_26 s) ?_
    rw [hp]
    refine GPl_cond (fun _ => ?_) (fun hc => by cases hc)
    repeat' refine GPl_cond (fun _ => ?_) (fun _ => ?_)
    all_goals simp only [cmz] at *
    all_goals first
        | (exfalso; omega)
        | (refine GPl_no fun w rd rs n hd => ?_; obtain ⟨hw, qw, hrd, hrs, hi, hf, hz, e0, e1, e2, ht⟩ := fact_26 hd; omega)
        | (refine GPl_yes (numU_range _ (by simp only [ByteArray.size_extract]; omega)) fun w rd rs n hd => ?_
           obtain ⟨hw, qw, hrd, hrs, hi, hf, hz, e0, e1, e2, ht⟩ := fact_26 hd
           obtain ⟨x0, x1, x2, x3⟩ := rex_facts hw hrd hrs
           rw [← e0] at x1 x2 x3
           obtain ⟨y0, y1⟩ := mod_facts (.inr rfl) hrd hrs
           rw [← e2] at y0 y1
           exact ⟨by omega, by rw [y1, x3]; exact (put_facts hrd).2, by rw [y0, x2]; exact (put_facts hrs).1, num_tail 3 4 (by decide) hz ht hi hf⟩)

theorem fact_27 {s : ByteArray} {w rd rs n : Int} (h : DX 27 s w rd rs n) : (w = 4 ∨ w = 8) ∧ w = 4 ∧ small rd ∧ small rs ∧ inI n ∧ fitsX 4 n = true ∧ 7 ≤ s.size ∧ chr s 0 = rexI w rd rs ∧ chr s 1 = 139 ∧ chr s 2 = modI 128 rd rs ∧ (∀ j, j < 4 → chr s (3 + j) = bat n j) := by
  obtain ⟨he, hi, hs⟩ := h
  have hE : errX 27 w rd rs n = (bif (decide (w = 4) || decide (w = 8)) && ((false || decide (w = 4)) && (regX rd && (regX rs && !decide (rs % 8 = 4)))) then (bif ((decide (-2147483648 ≤ n) && decide (n ≤ 2147483647)) || false) then 0 else 10) else 1) := by kernel_rfl
  rw [hE] at he
  obtain ⟨hA, hF⟩ := err0 he
  have hL : encL 27 w rd rs n = [rexI w rd rs, 139, modI 128 rd rs] ++ tailL n 4 := by kernel_rfl
  rw [hL] at hs
  obtain ⟨h1, h2, h3⟩ := starts_tail hs
  rw [tail_length] at h2 h3
  simp [regX, condX] at hA hF
  have e0 : chr s 0 = rexI w rd rs := h1.2 0 (by show 0 < 3; decide)
  have e1 : chr s 1 = 139 := h1.2 1 (by show 1 < 3; decide)
  have e2 : chr s 2 = modI 128 rd rs := h1.2 2 (by show 2 < 3; decide)
  exact ⟨by first | omega | (simp only [small]; omega), by first | omega | (simp only [small]; omega), by first | omega | (simp only [small]; omega), by first | omega | (simp only [small]; omega), hi, by first | rfl | (simp [fitsX]; omega), h2, e0, e1, e2, fun j hj => by rw [← tail_get n 4 j hj]; exact h3 j hj⟩

attribute [local irreducible] evalF Lf.gives in
theorem guess_27 : GP 27 (.agg [.int true .i64 2, .str ⟨#[139]⟩, .int true .i64 0, .bool true false, .int true .i64 4, .bool true false, .bool true false]) := by
  intro s
  cases hp : preOk false s with
  | false =>
    refine GP_of false (gn_27 s) ?_
    rw [hp]
    refine GPl_no fun w rd rs n hd => ?_
    obtain ⟨hw, qw, hrd, hrs, hi, hf, hz, e0, e1, e2, ht⟩ := fact_27 hd
    have := pre0 hw hrd hrs (by omega) e0
    rw [hp] at this
    cases this
  | true =>
    refine GP_of true (gy_27 s) ?_
    rw [hp]
    refine GPl_cond (fun _ => ?_) (fun hc => by cases hc)
    repeat' refine GPl_cond (fun _ => ?_) (fun _ => ?_)
    all_goals simp only [cmz] at *
    all_goals first
        | (exfalso; omega)
        | (refine GPl_no fun w rd rs n hd => ?_; obtain ⟨hw, qw, hrd, hrs, hi, hf, hz, e0, e1, e2, ht⟩ := fact_27 hd; omega)
        | (refine GPl_yes (numU_range _ (by simp only [ByteArray.size_extract]; omega)) fun w rd rs n hd => ?_
           obtain ⟨hw, qw, hrd, hrs, hi, hf, hz, e0, e1, e2, ht⟩ := fact_27 hd
           obtain ⟨x0, x1, x2, x3⟩ := rex_facts hw hrd hrs
           rw [← e0] at x1 x2 x3
           obtain ⟨y0, y1⟩ := mod_facts (.inr rfl) hrd hrs
           rw [← e2] at y0 y1
           exact ⟨by omega, by rw [y1, x3]; exact (put_facts hrd).2, by rw [y0, x2]; exact (put_facts hrs).1, num_tail 3 4 (by decide) hz ht hi hf⟩)

theorem fact_28 {s : ByteArray} {w rd rs n : Int} (h : DX 28 s w rd rs n) : (w = 4 ∨ w = 8) ∧ w = 8 ∧ small rd ∧ small rs ∧ inI n ∧ fitsX 4 n = true ∧ 7 ≤ s.size ∧ chr s 0 = rexI w rd rs ∧ chr s 1 = 99 ∧ chr s 2 = modI 128 rd rs ∧ (∀ j, j < 4 → chr s (3 + j) = bat n j) := by
  obtain ⟨he, hi, hs⟩ := h
  have hE : errX 28 w rd rs n = (bif (decide (w = 4) || decide (w = 8)) && ((false || decide (w = 8)) && (regX rd && (regX rs && !decide (rs % 8 = 4)))) then (bif ((decide (-2147483648 ≤ n) && decide (n ≤ 2147483647)) || false) then 0 else 10) else 1) := by kernel_rfl
  rw [hE] at he
  obtain ⟨hA, hF⟩ := err0 he
  have hL : encL 28 w rd rs n = [rexI w rd rs, 99, modI 128 rd rs] ++ tailL n 4 := by kernel_rfl
  rw [hL] at hs
  obtain ⟨h1, h2, h3⟩ := starts_tail hs
  rw [tail_length] at h2 h3
  simp [regX, condX] at hA hF
  have e0 : chr s 0 = rexI w rd rs := h1.2 0 (by show 0 < 3; decide)
  have e1 : chr s 1 = 99 := h1.2 1 (by show 1 < 3; decide)
  have e2 : chr s 2 = modI 128 rd rs := h1.2 2 (by show 2 < 3; decide)
  exact ⟨by first | omega | (simp only [small]; omega), by first | omega | (simp only [small]; omega), by first | omega | (simp only [small]; omega), by first | omega | (simp only [small]; omega), hi, by first | rfl | (simp [fitsX]; omega), h2, e0, e1, e2, fun j hj => by rw [← tail_get n 4 j hj]; exact h3 j hj⟩

attribute [local irreducible] evalF Lf.gives in
theorem guess_28 : GP 28 (.agg [.int true .i64 2, .str ⟨#[99]⟩, .int true .i64 0, .bool true false, .int true .i64 8, .bool true false, .bool true false]) := by
  intro s
  cases hp : preOk false s with
  | false =>
    refine GP_of false (gn_28 s) ?_
    rw [hp]
    refine GPl_no fun w rd rs n hd => ?_
    obtain ⟨hw, qw, hrd, hrs, hi, hf, hz, e0, e1, e2, ht⟩ := fact_28 hd
    have := pre0 hw hrd hrs (by omega) e0
    rw [hp] at this
    cases this
  | true =>
    refine GP_of true (gy_28 s) ?_
    rw [hp]
    refine GPl_cond (fun _ => ?_) (fun hc => by cases hc)
    repeat' refine GPl_cond (fun _ => ?_) (fun _ => ?_)
    all_goals simp only [cmz] at *
    all_goals first
        | (exfalso; omega)
        | (refine GPl_no fun w rd rs n hd => ?_; obtain ⟨hw, qw, hrd, hrs, hi, hf, hz, e0, e1, e2, ht⟩ := fact_28 hd; omega)
        | (refine GPl_yes (numU_range _ (by simp only [ByteArray.size_extract]; omega)) fun w rd rs n hd => ?_
           obtain ⟨hw, qw, hrd, hrs, hi, hf, hz, e0, e1, e2, ht⟩ := fact_28 hd
           obtain ⟨x0, x1, x2, x3⟩ := rex_facts hw hrd hrs
           rw [← e0] at x1 x2 x3
           obtain ⟨y0, y1⟩ := mod_facts (.inr rfl) hrd hrs
           rw [← e2] at y0 y1
           exact ⟨by omega, by rw [y1, x3]; exact (put_facts hrd).2, by rw [y0, x2]; exact (put_facts hrs).1, num_tail 3 4 (by decide) hz ht hi hf⟩)

theorem fact_29 {s : ByteArray} {w rd rs n : Int} (h : DX 29 s w rd rs n) : (w = 4 ∨ w = 8) ∧ w = 8 ∧ small rd ∧ small rs ∧ inI n ∧ fitsX 4 n = true ∧ 8 ≤ s.size ∧ chr s 0 = rexI w rd rs ∧ chr s 1 = 15 ∧ chr s 2 = 191 ∧ chr s 3 = modI 128 rd rs ∧ (∀ j, j < 4 → chr s (4 + j) = bat n j) := by
  obtain ⟨he, hi, hs⟩ := h
  have hE : errX 29 w rd rs n = (bif (decide (w = 4) || decide (w = 8)) && ((false || decide (w = 8)) && (regX rd && (regX rs && !decide (rs % 8 = 4)))) then (bif ((decide (-2147483648 ≤ n) && decide (n ≤ 2147483647)) || false) then 0 else 10) else 1) := by kernel_rfl
  rw [hE] at he
  obtain ⟨hA, hF⟩ := err0 he
  have hL : encL 29 w rd rs n = [rexI w rd rs, 15, 191, modI 128 rd rs] ++ tailL n 4 := by kernel_rfl
  rw [hL] at hs
  obtain ⟨h1, h2, h3⟩ := starts_tail hs
  rw [tail_length] at h2 h3
  simp [regX, condX] at hA hF
  have e0 : chr s 0 = rexI w rd rs := h1.2 0 (by show 0 < 4; decide)
  have e1 : chr s 1 = 15 := h1.2 1 (by show 1 < 4; decide)
  have e2 : chr s 2 = 191 := h1.2 2 (by show 2 < 4; decide)
  have e3 : chr s 3 = modI 128 rd rs := h1.2 3 (by show 3 < 4; decide)
  exact ⟨by first | omega | (simp only [small]; omega), by first | omega | (simp only [small]; omega), by first | omega | (simp only [small]; omega), by first | omega | (simp only [small]; omega), hi, by first | rfl | (simp [fitsX]; omega), h2, e0, e1, e2, e3, fun j hj => by rw [← tail_get n 4 j hj]; exact h3 j hj⟩

attribute [local irreducible] evalF Lf.gives in
theorem guess_29 : GP 29 (.agg [.int true .i64 2, .str ⟨#[15, 191]⟩, .int true .i64 0, .bool true false, .int true .i64 8, .bool true false, .bool true false]) := by
  intro s
  cases hp : preOk false s with
  | false =>
    refine GP_of false (gn_29 s) ?_
    rw [hp]
    refine GPl_no fun w rd rs n hd => ?_
    obtain ⟨hw, qw, hrd, hrs, hi, hf, hz, e0, e1, e2, e3, ht⟩ := fact_29 hd
    have := pre0 hw hrd hrs (by omega) e0
    rw [hp] at this
    cases this
  | true =>
    refine GP_of true (gy_29 s) ?_
    rw [hp]
    refine GPl_cond (fun _ => ?_) (fun hc => by cases hc)
    repeat' refine GPl_cond (fun _ => ?_) (fun _ => ?_)
    all_goals simp only [cmz] at *
    all_goals first
        | (exfalso; omega)
        | (refine GPl_no fun w rd rs n hd => ?_; obtain ⟨hw, qw, hrd, hrs, hi, hf, hz, e0, e1, e2, e3, ht⟩ := fact_29 hd; omega)
        | (refine GPl_yes (numU_range _ (by simp only [ByteArray.size_extract]; omega)) fun w rd rs n hd => ?_
           obtain ⟨hw, qw, hrd, hrs, hi, hf, hz, e0, e1, e2, e3, ht⟩ := fact_29 hd
           obtain ⟨x0, x1, x2, x3⟩ := rex_facts hw hrd hrs
           rw [← e0] at x1 x2 x3
           obtain ⟨y0, y1⟩ := mod_facts (.inr rfl) hrd hrs
           rw [← e3] at y0 y1
           exact ⟨by omega, by rw [y1, x3]; exact (put_facts hrd).2, by rw [y0, x2]; exact (put_facts hrs).1, num_tail 4 4 (by decide) hz ht hi hf⟩)

theorem fact_30 {s : ByteArray} {w rd rs n : Int} (h : DX 30 s w rd rs n) : (w = 4 ∨ w = 8) ∧ w = 8 ∧ small rd ∧ small rs ∧ inI n ∧ fitsX 4 n = true ∧ 8 ≤ s.size ∧ chr s 0 = rexI w rd rs ∧ chr s 1 = 15 ∧ chr s 2 = 190 ∧ chr s 3 = modI 128 rd rs ∧ (∀ j, j < 4 → chr s (4 + j) = bat n j) := by
  obtain ⟨he, hi, hs⟩ := h
  have hE : errX 30 w rd rs n = (bif (decide (w = 4) || decide (w = 8)) && ((false || decide (w = 8)) && (regX rd && (regX rs && !decide (rs % 8 = 4)))) then (bif ((decide (-2147483648 ≤ n) && decide (n ≤ 2147483647)) || false) then 0 else 10) else 1) := by kernel_rfl
  rw [hE] at he
  obtain ⟨hA, hF⟩ := err0 he
  have hL : encL 30 w rd rs n = [rexI w rd rs, 15, 190, modI 128 rd rs] ++ tailL n 4 := by kernel_rfl
  rw [hL] at hs
  obtain ⟨h1, h2, h3⟩ := starts_tail hs
  rw [tail_length] at h2 h3
  simp [regX, condX] at hA hF
  have e0 : chr s 0 = rexI w rd rs := h1.2 0 (by show 0 < 4; decide)
  have e1 : chr s 1 = 15 := h1.2 1 (by show 1 < 4; decide)
  have e2 : chr s 2 = 190 := h1.2 2 (by show 2 < 4; decide)
  have e3 : chr s 3 = modI 128 rd rs := h1.2 3 (by show 3 < 4; decide)
  exact ⟨by first | omega | (simp only [small]; omega), by first | omega | (simp only [small]; omega), by first | omega | (simp only [small]; omega), by first | omega | (simp only [small]; omega), hi, by first | rfl | (simp [fitsX]; omega), h2, e0, e1, e2, e3, fun j hj => by rw [← tail_get n 4 j hj]; exact h3 j hj⟩

attribute [local irreducible] evalF Lf.gives in
theorem guess_30 : GP 30 (.agg [.int true .i64 2, .str ⟨#[15, 190]⟩, .int true .i64 0, .bool true false, .int true .i64 8, .bool true false, .bool true false]) := by
  intro s
  cases hp : preOk false s with
  | false =>
    refine GP_of false (gn_30 s) ?_
    rw [hp]
    refine GPl_no fun w rd rs n hd => ?_
    obtain ⟨hw, qw, hrd, hrs, hi, hf, hz, e0, e1, e2, e3, ht⟩ := fact_30 hd
    have := pre0 hw hrd hrs (by omega) e0
    rw [hp] at this
    cases this
  | true =>
    refine GP_of true (gy_30 s) ?_
    rw [hp]
    refine GPl_cond (fun _ => ?_) (fun hc => by cases hc)
    repeat' refine GPl_cond (fun _ => ?_) (fun _ => ?_)
    all_goals simp only [cmz] at *
    all_goals first
        | (exfalso; omega)
        | (refine GPl_no fun w rd rs n hd => ?_; obtain ⟨hw, qw, hrd, hrs, hi, hf, hz, e0, e1, e2, e3, ht⟩ := fact_30 hd; omega)
        | (refine GPl_yes (numU_range _ (by simp only [ByteArray.size_extract]; omega)) fun w rd rs n hd => ?_
           obtain ⟨hw, qw, hrd, hrs, hi, hf, hz, e0, e1, e2, e3, ht⟩ := fact_30 hd
           obtain ⟨x0, x1, x2, x3⟩ := rex_facts hw hrd hrs
           rw [← e0] at x1 x2 x3
           obtain ⟨y0, y1⟩ := mod_facts (.inr rfl) hrd hrs
           rw [← e3] at y0 y1
           exact ⟨by omega, by rw [y1, x3]; exact (put_facts hrd).2, by rw [y0, x2]; exact (put_facts hrs).1, num_tail 4 4 (by decide) hz ht hi hf⟩)

theorem fact_31 {s : ByteArray} {w rd rs n : Int} (h : DX 31 s w rd rs n) : (w = 4 ∨ w = 8) ∧ w = 8 ∧ small rd ∧ small rs ∧ inI n ∧ fitsX 4 n = true ∧ 8 ≤ s.size ∧ chr s 0 = rexI w rd rs ∧ chr s 1 = 15 ∧ chr s 2 = 183 ∧ chr s 3 = modI 128 rd rs ∧ (∀ j, j < 4 → chr s (4 + j) = bat n j) := by
  obtain ⟨he, hi, hs⟩ := h
  have hE : errX 31 w rd rs n = (bif (decide (w = 4) || decide (w = 8)) && ((false || decide (w = 8)) && (regX rd && (regX rs && !decide (rs % 8 = 4)))) then (bif ((decide (-2147483648 ≤ n) && decide (n ≤ 2147483647)) || false) then 0 else 10) else 1) := by kernel_rfl
  rw [hE] at he
  obtain ⟨hA, hF⟩ := err0 he
  have hL : encL 31 w rd rs n = [rexI w rd rs, 15, 183, modI 128 rd rs] ++ tailL n 4 := by kernel_rfl
  rw [hL] at hs
  obtain ⟨h1, h2, h3⟩ := starts_tail hs
  rw [tail_length] at h2 h3
  simp [regX, condX] at hA hF
  have e0 : chr s 0 = rexI w rd rs := h1.2 0 (by show 0 < 4; decide)
  have e1 : chr s 1 = 15 := h1.2 1 (by show 1 < 4; decide)
  have e2 : chr s 2 = 183 := h1.2 2 (by show 2 < 4; decide)
  have e3 : chr s 3 = modI 128 rd rs := h1.2 3 (by show 3 < 4; decide)
  exact ⟨by first | omega | (simp only [small]; omega), by first | omega | (simp only [small]; omega), by first | omega | (simp only [small]; omega), by first | omega | (simp only [small]; omega), hi, by first | rfl | (simp [fitsX]; omega), h2, e0, e1, e2, e3, fun j hj => by rw [← tail_get n 4 j hj]; exact h3 j hj⟩

attribute [local irreducible] evalF Lf.gives in
theorem guess_31 : GP 31 (.agg [.int true .i64 2, .str ⟨#[15, 183]⟩, .int true .i64 0, .bool true false, .int true .i64 8, .bool true false, .bool true false]) := by
  intro s
  cases hp : preOk false s with
  | false =>
    refine GP_of false (gn_31 s) ?_
    rw [hp]
    refine GPl_no fun w rd rs n hd => ?_
    obtain ⟨hw, qw, hrd, hrs, hi, hf, hz, e0, e1, e2, e3, ht⟩ := fact_31 hd
    have := pre0 hw hrd hrs (by omega) e0
    rw [hp] at this
    cases this
  | true =>
    refine GP_of true (gy_31 s) ?_
    rw [hp]
    refine GPl_cond (fun _ => ?_) (fun hc => by cases hc)
    repeat' refine GPl_cond (fun _ => ?_) (fun _ => ?_)
    all_goals simp only [cmz] at *
    all_goals first
        | (exfalso; omega)
        | (refine GPl_no fun w rd rs n hd => ?_; obtain ⟨hw, qw, hrd, hrs, hi, hf, hz, e0, e1, e2, e3, ht⟩ := fact_31 hd; omega)
        | (refine GPl_yes (numU_range _ (by simp only [ByteArray.size_extract]; omega)) fun w rd rs n hd => ?_
           obtain ⟨hw, qw, hrd, hrs, hi, hf, hz, e0, e1, e2, e3, ht⟩ := fact_31 hd
           obtain ⟨x0, x1, x2, x3⟩ := rex_facts hw hrd hrs
           rw [← e0] at x1 x2 x3
           obtain ⟨y0, y1⟩ := mod_facts (.inr rfl) hrd hrs
           rw [← e3] at y0 y1
           exact ⟨by omega, by rw [y1, x3]; exact (put_facts hrd).2, by rw [y0, x2]; exact (put_facts hrs).1, num_tail 4 4 (by decide) hz ht hi hf⟩)

theorem fact_32 {s : ByteArray} {w rd rs n : Int} (h : DX 32 s w rd rs n) : (w = 4 ∨ w = 8) ∧ w = 8 ∧ small rd ∧ small rs ∧ inI n ∧ fitsX 4 n = true ∧ 8 ≤ s.size ∧ chr s 0 = rexI w rd rs ∧ chr s 1 = 15 ∧ chr s 2 = 182 ∧ chr s 3 = modI 128 rd rs ∧ (∀ j, j < 4 → chr s (4 + j) = bat n j) := by
  obtain ⟨he, hi, hs⟩ := h
  have hE : errX 32 w rd rs n = (bif (decide (w = 4) || decide (w = 8)) && ((false || decide (w = 8)) && (regX rd && (regX rs && !decide (rs % 8 = 4)))) then (bif ((decide (-2147483648 ≤ n) && decide (n ≤ 2147483647)) || false) then 0 else 10) else 1) := by kernel_rfl
  rw [hE] at he
  obtain ⟨hA, hF⟩ := err0 he
  have hL : encL 32 w rd rs n = [rexI w rd rs, 15, 182, modI 128 rd rs] ++ tailL n 4 := by kernel_rfl
  rw [hL] at hs
  obtain ⟨h1, h2, h3⟩ := starts_tail hs
  rw [tail_length] at h2 h3
  simp [regX, condX] at hA hF
  have e0 : chr s 0 = rexI w rd rs := h1.2 0 (by show 0 < 4; decide)
  have e1 : chr s 1 = 15 := h1.2 1 (by show 1 < 4; decide)
  have e2 : chr s 2 = 182 := h1.2 2 (by show 2 < 4; decide)
  have e3 : chr s 3 = modI 128 rd rs := h1.2 3 (by show 3 < 4; decide)
  exact ⟨by first | omega | (simp only [small]; omega), by first | omega | (simp only [small]; omega), by first | omega | (simp only [small]; omega), by first | omega | (simp only [small]; omega), hi, by first | rfl | (simp [fitsX]; omega), h2, e0, e1, e2, e3, fun j hj => by rw [← tail_get n 4 j hj]; exact h3 j hj⟩

attribute [local irreducible] evalF Lf.gives in
theorem guess_32 : GP 32 (.agg [.int true .i64 2, .str ⟨#[15, 182]⟩, .int true .i64 0, .bool true false, .int true .i64 8, .bool true false, .bool true false]) := by
  intro s
  cases hp : preOk false s with
  | false =>
    refine GP_of false (gn_32 s) ?_
    rw [hp]
    refine GPl_no fun w rd rs n hd => ?_
    obtain ⟨hw, qw, hrd, hrs, hi, hf, hz, e0, e1, e2, e3, ht⟩ := fact_32 hd
    have := pre0 hw hrd hrs (by omega) e0
    rw [hp] at this
    cases this
  | true =>
    refine GP_of true (gy_32 s) ?_
    rw [hp]
    refine GPl_cond (fun _ => ?_) (fun hc => by cases hc)
    repeat' refine GPl_cond (fun _ => ?_) (fun _ => ?_)
    all_goals simp only [cmz] at *
    all_goals first
        | (exfalso; omega)
        | (refine GPl_no fun w rd rs n hd => ?_; obtain ⟨hw, qw, hrd, hrs, hi, hf, hz, e0, e1, e2, e3, ht⟩ := fact_32 hd; omega)
        | (refine GPl_yes (numU_range _ (by simp only [ByteArray.size_extract]; omega)) fun w rd rs n hd => ?_
           obtain ⟨hw, qw, hrd, hrs, hi, hf, hz, e0, e1, e2, e3, ht⟩ := fact_32 hd
           obtain ⟨x0, x1, x2, x3⟩ := rex_facts hw hrd hrs
           rw [← e0] at x1 x2 x3
           obtain ⟨y0, y1⟩ := mod_facts (.inr rfl) hrd hrs
           rw [← e3] at y0 y1
           exact ⟨by omega, by rw [y1, x3]; exact (put_facts hrd).2, by rw [y0, x2]; exact (put_facts hrs).1, num_tail 4 4 (by decide) hz ht hi hf⟩)

theorem fact_33 {s : ByteArray} {w rd rs n : Int} (h : DX 33 s w rd rs n) : (w = 4 ∨ w = 8) ∧ w = 8 ∧ small rd ∧ small rs ∧ inI n ∧ fitsX 4 n = true ∧ 7 ≤ s.size ∧ chr s 0 = rexI w rd rs ∧ chr s 1 = 137 ∧ chr s 2 = modI 128 rd rs ∧ (∀ j, j < 4 → chr s (3 + j) = bat n j) := by
  obtain ⟨he, hi, hs⟩ := h
  have hE : errX 33 w rd rs n = (bif (decide (w = 4) || decide (w = 8)) && ((false || decide (w = 8)) && (regX rd && (regX rs && !decide (rs % 8 = 4)))) then (bif ((decide (-2147483648 ≤ n) && decide (n ≤ 2147483647)) || false) then 0 else 10) else 1) := by kernel_rfl
  rw [hE] at he
  obtain ⟨hA, hF⟩ := err0 he
  have hL : encL 33 w rd rs n = [rexI w rd rs, 137, modI 128 rd rs] ++ tailL n 4 := by kernel_rfl
  rw [hL] at hs
  obtain ⟨h1, h2, h3⟩ := starts_tail hs
  rw [tail_length] at h2 h3
  simp [regX, condX] at hA hF
  have e0 : chr s 0 = rexI w rd rs := h1.2 0 (by show 0 < 3; decide)
  have e1 : chr s 1 = 137 := h1.2 1 (by show 1 < 3; decide)
  have e2 : chr s 2 = modI 128 rd rs := h1.2 2 (by show 2 < 3; decide)
  exact ⟨by first | omega | (simp only [small]; omega), by first | omega | (simp only [small]; omega), by first | omega | (simp only [small]; omega), by first | omega | (simp only [small]; omega), hi, by first | rfl | (simp [fitsX]; omega), h2, e0, e1, e2, fun j hj => by rw [← tail_get n 4 j hj]; exact h3 j hj⟩

attribute [local irreducible] evalF Lf.gives in
theorem guess_33 : GP 33 (.agg [.int true .i64 2, .str ⟨#[137]⟩, .int true .i64 0, .bool true false, .int true .i64 8, .bool true false, .bool true false]) := by
  intro s
  cases hp : preOk false s with
  | false =>
    refine GP_of false (gn_33 s) ?_
    rw [hp]
    refine GPl_no fun w rd rs n hd => ?_
    obtain ⟨hw, qw, hrd, hrs, hi, hf, hz, e0, e1, e2, ht⟩ := fact_33 hd
    have := pre0 hw hrd hrs (by omega) e0
    rw [hp] at this
    cases this
  | true =>
    refine GP_of true (gy_33 s) ?_
    rw [hp]
    refine GPl_cond (fun _ => ?_) (fun hc => by cases hc)
    repeat' refine GPl_cond (fun _ => ?_) (fun _ => ?_)
    all_goals simp only [cmz] at *
    all_goals first
        | (exfalso; omega)
        | (refine GPl_no fun w rd rs n hd => ?_; obtain ⟨hw, qw, hrd, hrs, hi, hf, hz, e0, e1, e2, ht⟩ := fact_33 hd; omega)
        | (refine GPl_yes (numU_range _ (by simp only [ByteArray.size_extract]; omega)) fun w rd rs n hd => ?_
           obtain ⟨hw, qw, hrd, hrs, hi, hf, hz, e0, e1, e2, ht⟩ := fact_33 hd
           obtain ⟨x0, x1, x2, x3⟩ := rex_facts hw hrd hrs
           rw [← e0] at x1 x2 x3
           obtain ⟨y0, y1⟩ := mod_facts (.inr rfl) hrd hrs
           rw [← e2] at y0 y1
           exact ⟨by omega, by rw [y1, x3]; exact (put_facts hrd).2, by rw [y0, x2]; exact (put_facts hrs).1, num_tail 3 4 (by decide) hz ht hi hf⟩)

theorem fact_34 {s : ByteArray} {w rd rs n : Int} (h : DX 34 s w rd rs n) : (w = 4 ∨ w = 8) ∧ w = 4 ∧ small rd ∧ small rs ∧ inI n ∧ fitsX 4 n = true ∧ 7 ≤ s.size ∧ chr s 0 = rexI w rd rs ∧ chr s 1 = 137 ∧ chr s 2 = modI 128 rd rs ∧ (∀ j, j < 4 → chr s (3 + j) = bat n j) := by
  obtain ⟨he, hi, hs⟩ := h
  have hE : errX 34 w rd rs n = (bif (decide (w = 4) || decide (w = 8)) && ((false || decide (w = 4)) && (regX rd && (regX rs && !decide (rs % 8 = 4)))) then (bif ((decide (-2147483648 ≤ n) && decide (n ≤ 2147483647)) || false) then 0 else 10) else 1) := by kernel_rfl
  rw [hE] at he
  obtain ⟨hA, hF⟩ := err0 he
  have hL : encL 34 w rd rs n = [rexI w rd rs, 137, modI 128 rd rs] ++ tailL n 4 := by kernel_rfl
  rw [hL] at hs
  obtain ⟨h1, h2, h3⟩ := starts_tail hs
  rw [tail_length] at h2 h3
  simp [regX, condX] at hA hF
  have e0 : chr s 0 = rexI w rd rs := h1.2 0 (by show 0 < 3; decide)
  have e1 : chr s 1 = 137 := h1.2 1 (by show 1 < 3; decide)
  have e2 : chr s 2 = modI 128 rd rs := h1.2 2 (by show 2 < 3; decide)
  exact ⟨by first | omega | (simp only [small]; omega), by first | omega | (simp only [small]; omega), by first | omega | (simp only [small]; omega), by first | omega | (simp only [small]; omega), hi, by first | rfl | (simp [fitsX]; omega), h2, e0, e1, e2, fun j hj => by rw [← tail_get n 4 j hj]; exact h3 j hj⟩

attribute [local irreducible] evalF Lf.gives in
theorem guess_34 : GP 34 (.agg [.int true .i64 2, .str ⟨#[137]⟩, .int true .i64 0, .bool true false, .int true .i64 4, .bool true false, .bool true false]) := by
  intro s
  cases hp : preOk false s with
  | false =>
    refine GP_of false (gn_34 s) ?_
    rw [hp]
    refine GPl_no fun w rd rs n hd => ?_
    obtain ⟨hw, qw, hrd, hrs, hi, hf, hz, e0, e1, e2, ht⟩ := fact_34 hd
    have := pre0 hw hrd hrs (by omega) e0
    rw [hp] at this
    cases this
  | true =>
    refine GP_of true (gy_34 s) ?_
    rw [hp]
    refine GPl_cond (fun _ => ?_) (fun hc => by cases hc)
    repeat' refine GPl_cond (fun _ => ?_) (fun _ => ?_)
    all_goals simp only [cmz] at *
    all_goals first
        | (exfalso; omega)
        | (refine GPl_no fun w rd rs n hd => ?_; obtain ⟨hw, qw, hrd, hrs, hi, hf, hz, e0, e1, e2, ht⟩ := fact_34 hd; omega)
        | (refine GPl_yes (numU_range _ (by simp only [ByteArray.size_extract]; omega)) fun w rd rs n hd => ?_
           obtain ⟨hw, qw, hrd, hrs, hi, hf, hz, e0, e1, e2, ht⟩ := fact_34 hd
           obtain ⟨x0, x1, x2, x3⟩ := rex_facts hw hrd hrs
           rw [← e0] at x1 x2 x3
           obtain ⟨y0, y1⟩ := mod_facts (.inr rfl) hrd hrs
           rw [← e2] at y0 y1
           exact ⟨by omega, by rw [y1, x3]; exact (put_facts hrd).2, by rw [y0, x2]; exact (put_facts hrs).1, num_tail 3 4 (by decide) hz ht hi hf⟩)

theorem fact_35 {s : ByteArray} {w rd rs n : Int} (h : DX 35 s w rd rs n) : (w = 4 ∨ w = 8) ∧ w = 4 ∧ small rd ∧ small rs ∧ inI n ∧ fitsX 4 n = true ∧ 8 ≤ s.size ∧ chr s 0 = 102 ∧ chr s 1 = rexI w rd rs ∧ chr s 2 = 137 ∧ chr s 3 = modI 128 rd rs ∧ (∀ j, j < 4 → chr s (4 + j) = bat n j) := by
  obtain ⟨he, hi, hs⟩ := h
  have hE : errX 35 w rd rs n = (bif (decide (w = 4) || decide (w = 8)) && ((false || decide (w = 4)) && (regX rd && (regX rs && !decide (rs % 8 = 4)))) then (bif ((decide (-2147483648 ≤ n) && decide (n ≤ 2147483647)) || false) then 0 else 10) else 1) := by kernel_rfl
  rw [hE] at he
  obtain ⟨hA, hF⟩ := err0 he
  have hL : encL 35 w rd rs n = [102, rexI w rd rs, 137, modI 128 rd rs] ++ tailL n 4 := by kernel_rfl
  rw [hL] at hs
  obtain ⟨h1, h2, h3⟩ := starts_tail hs
  rw [tail_length] at h2 h3
  simp [regX, condX] at hA hF
  have e0 : chr s 0 = 102 := h1.2 0 (by show 0 < 4; decide)
  have e1 : chr s 1 = rexI w rd rs := h1.2 1 (by show 1 < 4; decide)
  have e2 : chr s 2 = 137 := h1.2 2 (by show 2 < 4; decide)
  have e3 : chr s 3 = modI 128 rd rs := h1.2 3 (by show 3 < 4; decide)
  exact ⟨by first | omega | (simp only [small]; omega), by first | omega | (simp only [small]; omega), by first | omega | (simp only [small]; omega), by first | omega | (simp only [small]; omega), hi, by first | rfl | (simp [fitsX]; omega), h2, e0, e1, e2, e3, fun j hj => by rw [← tail_get n 4 j hj]; exact h3 j hj⟩

attribute [local irreducible] evalF Lf.gives in
theorem guess_35 : GP 35 (.agg [.int true .i64 2, .str ⟨#[137]⟩, .int true .i64 0, .bool true false, .int true .i64 4, .bool true false, .bool true true]) := by
  intro s
  cases hp : preOk true s with
  | false =>
    refine GP_of false (gn_35 s) ?_
    rw [hp]
    refine GPl_no fun w rd rs n hd => ?_
    obtain ⟨hw, qw, hrd, hrs, hi, hf, hz, e0, e1, e2, e3, ht⟩ := fact_35 hd
    have := pre1 hw hrd hrs (by omega) e0 e1
    rw [hp] at this
    cases this
  | true =>
    refine GP_of true (gy_35 s) ?_
    rw [hp]
    refine GPl_cond (fun _ => ?_) (fun hc => by cases hc)
    repeat' refine GPl_cond (fun _ => ?_) (fun _ => ?_)
    all_goals simp only [cmz] at *
    all_goals first
        | (exfalso; omega)
        | (refine GPl_no fun w rd rs n hd => ?_; obtain ⟨hw, qw, hrd, hrs, hi, hf, hz, e0, e1, e2, e3, ht⟩ := fact_35 hd; omega)
        | (refine GPl_yes (numU_range _ (by simp only [ByteArray.size_extract]; omega)) fun w rd rs n hd => ?_
           obtain ⟨hw, qw, hrd, hrs, hi, hf, hz, e0, e1, e2, e3, ht⟩ := fact_35 hd
           obtain ⟨x0, x1, x2, x3⟩ := rex_facts hw hrd hrs
           rw [← e1] at x1 x2 x3
           obtain ⟨y0, y1⟩ := mod_facts (.inr rfl) hrd hrs
           rw [← e3] at y0 y1
           exact ⟨by omega, by rw [y1, x3]; exact (put_facts hrd).2, by rw [y0, x2]; exact (put_facts hrs).1, num_tail 4 4 (by decide) hz ht hi hf⟩)

theorem fact_36 {s : ByteArray} {w rd rs n : Int} (h : DX 36 s w rd rs n) : (w = 4 ∨ w = 8) ∧ w = 4 ∧ small rd ∧ small rs ∧ inI n ∧ fitsX 4 n = true ∧ 7 ≤ s.size ∧ chr s 0 = rexI w rd rs ∧ chr s 1 = 136 ∧ chr s 2 = modI 128 rd rs ∧ (∀ j, j < 4 → chr s (3 + j) = bat n j) := by
  obtain ⟨he, hi, hs⟩ := h
  have hE : errX 36 w rd rs n = (bif (decide (w = 4) || decide (w = 8)) && ((false || decide (w = 4)) && (regX rd && (regX rs && !decide (rs % 8 = 4)))) then (bif ((decide (-2147483648 ≤ n) && decide (n ≤ 2147483647)) || false) then 0 else 10) else 1) := by kernel_rfl
  rw [hE] at he
  obtain ⟨hA, hF⟩ := err0 he
  have hL : encL 36 w rd rs n = [rexI w rd rs, 136, modI 128 rd rs] ++ tailL n 4 := by kernel_rfl
  rw [hL] at hs
  obtain ⟨h1, h2, h3⟩ := starts_tail hs
  rw [tail_length] at h2 h3
  simp [regX, condX] at hA hF
  have e0 : chr s 0 = rexI w rd rs := h1.2 0 (by show 0 < 3; decide)
  have e1 : chr s 1 = 136 := h1.2 1 (by show 1 < 3; decide)
  have e2 : chr s 2 = modI 128 rd rs := h1.2 2 (by show 2 < 3; decide)
  exact ⟨by first | omega | (simp only [small]; omega), by first | omega | (simp only [small]; omega), by first | omega | (simp only [small]; omega), by first | omega | (simp only [small]; omega), hi, by first | rfl | (simp [fitsX]; omega), h2, e0, e1, e2, fun j hj => by rw [← tail_get n 4 j hj]; exact h3 j hj⟩

attribute [local irreducible] evalF Lf.gives in
theorem guess_36 : GP 36 (.agg [.int true .i64 2, .str ⟨#[136]⟩, .int true .i64 0, .bool true false, .int true .i64 4, .bool true false, .bool true false]) := by
  intro s
  cases hp : preOk false s with
  | false =>
    refine GP_of false (gn_36 s) ?_
    rw [hp]
    refine GPl_no fun w rd rs n hd => ?_
    obtain ⟨hw, qw, hrd, hrs, hi, hf, hz, e0, e1, e2, ht⟩ := fact_36 hd
    have := pre0 hw hrd hrs (by omega) e0
    rw [hp] at this
    cases this
  | true =>
    refine GP_of true (gy_36 s) ?_
    rw [hp]
    refine GPl_cond (fun _ => ?_) (fun hc => by cases hc)
    repeat' refine GPl_cond (fun _ => ?_) (fun _ => ?_)
    all_goals simp only [cmz] at *
    all_goals first
        | (exfalso; omega)
        | (refine GPl_no fun w rd rs n hd => ?_; obtain ⟨hw, qw, hrd, hrs, hi, hf, hz, e0, e1, e2, ht⟩ := fact_36 hd; omega)
        | (refine GPl_yes (numU_range _ (by simp only [ByteArray.size_extract]; omega)) fun w rd rs n hd => ?_
           obtain ⟨hw, qw, hrd, hrs, hi, hf, hz, e0, e1, e2, ht⟩ := fact_36 hd
           obtain ⟨x0, x1, x2, x3⟩ := rex_facts hw hrd hrs
           rw [← e0] at x1 x2 x3
           obtain ⟨y0, y1⟩ := mod_facts (.inr rfl) hrd hrs
           rw [← e2] at y0 y1
           exact ⟨by omega, by rw [y1, x3]; exact (put_facts hrd).2, by rw [y0, x2]; exact (put_facts hrs).1, num_tail 3 4 (by decide) hz ht hi hf⟩)

end Go.X
end

section
set_option linter.unusedVariables false
open Go Go.Ev Go.Proofs
namespace Go.X

theorem gy_37 (s : ByteArray) : (evalF (E26 true) Try.prog 26 [.int true .i64 37, .agg [.int true .i64 2, .str ⟨#[141]⟩, .int true .i64 0, .bool true false, .int true .i64 8, .bool true false, .bool true false], .str s] [] 1024).bare =
    (bif (preOk false s == true) then
 bif (cm .gtr 2 ↑s.size) then
 zG
 else
 bif (cm .neq (ar .and .u8 (chr s 0) 8) 0) then
 bif (Nat.blt (1) (s.size)) then
 bif (cm .geq 2 ↑s.size) then
 .ret (.tup [.agg [.int true .i64 37, .int true .i64 8, .int true .i64 0, .int true .i64 0, .int true .i64 0], .bool true false]) []
 else
 bif (Nat.blt (2) (s.size)) then
 bif (Nat.blt (2) (s.size)) then
 bif (cm .gtr 7 ↑s.size) then
 .ret (.tup [(.agg [.int true .i64 37, .int true .i64 8, (.int false .i64 (ar .or .i64 (conv .i64 (ar .and .u8 (ar .shr .u8 (chr s 2) 3) 7)) (ar .shl .i64 (conv .i64 (ar .and .u8 (chr s 0) 4)) 1))), (.int false .i64 (ar .or .i64 (conv .i64 (ar .and .u8 (chr s 2) 7)) (ar .shl .i64 (conv .i64 (ar .and .u8 (chr s 0) 1)) 3))), .int true .i64 0]), .bool true false]) []
 else
 bif (Nat.ble (7) (s.size)) then
 bif (Nat.ble ((s.extract 3 7).size) (8)) then
 .ret (.tup [(.agg [.int true .i64 37, .int true .i64 8, (.int false .i64 (ar .or .i64 (conv .i64 (ar .and .u8 (ar .shr .u8 (chr s 2) 3) 7)) (ar .shl .i64 (conv .i64 (ar .and .u8 (chr s 0) 4)) 1))), (.int false .i64 (ar .or .i64 (conv .i64 (ar .and .u8 (chr s 2) 7)) (ar .shl .i64 (conv .i64 (ar .and .u8 (chr s 0) 1)) 3))), .int false .i64 (numU (s.extract 3 7))]), .bool true true]) []
 else .bad
 else .bad
 else .bad
 else .bad
 else .bad
 else
 bif (Nat.blt (1) (s.size)) then
 bif (cm .geq 2 ↑s.size) then
 .ret (.tup [.agg [.int true .i64 37, .int true .i64 4, .int true .i64 0, .int true .i64 0, .int true .i64 0], .bool true false]) []
 else
 bif (Nat.blt (2) (s.size)) then
 bif (Nat.blt (2) (s.size)) then
 bif (cm .gtr 7 ↑s.size) then
 .ret (.tup [(.agg [.int true .i64 37, .int true .i64 4, (.int false .i64 (ar .or .i64 (conv .i64 (ar .and .u8 (ar .shr .u8 (chr s 2) 3) 7)) (ar .shl .i64 (conv .i64 (ar .and .u8 (chr s 0) 4)) 1))), (.int false .i64 (ar .or .i64 (conv .i64 (ar .and .u8 (chr s 2) 7)) (ar .shl .i64 (conv .i64 (ar .and .u8 (chr s 0) 1)) 3))), .int true .i64 0]), .bool true false]) []
 else
 bif (Nat.ble (7) (s.size)) then
 bif (Nat.ble ((s.extract 3 7).size) (8)) then
 .ret (.tup [(.agg [.int true .i64 37, .int true .i64 4, (.int false .i64 (ar .or .i64 (conv .i64 (ar .and .u8 (ar .shr .u8 (chr s 2) 3) 7)) (ar .shl .i64 (conv .i64 (ar .and .u8 (chr s 0) 4)) 1))), (.int false .i64 (ar .or .i64 (conv .i64 (ar .and .u8 (chr s 2) 7)) (ar .shl .i64 (conv .i64 (ar .and .u8 (chr s 0) 1)) 3))), .int false .i64 (numU (s.extract 3 7))]), .bool true true]) []
 else .bad
 else .bad
 else .bad
 else .bad
 else .bad
 else .bad) := by kernel_rfl

theorem gn_37 (s : ByteArray) : (evalF (E26 false) Try.prog 26 [.int true .i64 37, .agg [.int true .i64 2, .str ⟨#[141]⟩, .int true .i64 0, .bool true false, .int true .i64 8, .bool true false, .bool true false], .str s] [] 1024).bare =
    (bif (preOk false s == false) then
 zG
 else .bad) := by kernel_rfl

theorem gy_38 (s : ByteArray) : (evalF (E26 true) Try.prog 26 [.int true .i64 38, .agg [.int true .i64 4, .str ⟨#[80]⟩, .int true .i64 0, .bool true false, .int true .i64 4, .bool true false, .bool true false], .str s] [] 1024).bare =
    (bif (preOk false s == true) then
 bif (cm .gtr 2 ↑s.size) then
 zG
 else
 bif (cm .neq (ar .and .u8 (chr s 0) 8) 0) then
 bif (Nat.blt (1) (s.size)) then
 .ret (.tup [(.agg [.int true .i64 38, .int true .i64 8, (.int false .i64 (ar .or .i64 (ar .sub .i64 (conv .i64 (chr s 1)) 80) (ar .shl .i64 (conv .i64 (ar .and .u8 (chr s 0) 1)) 3))), .int true .i64 0, .int true .i64 0]), .bool true true]) []
 else .bad
 else
 bif (Nat.blt (1) (s.size)) then
 .ret (.tup [(.agg [.int true .i64 38, .int true .i64 4, (.int false .i64 (ar .or .i64 (ar .sub .i64 (conv .i64 (chr s 1)) 80) (ar .shl .i64 (conv .i64 (ar .and .u8 (chr s 0) 1)) 3))), .int true .i64 0, .int true .i64 0]), .bool true true]) []
 else .bad
 else .bad) := by kernel_rfl

theorem gn_38 (s : ByteArray) : (evalF (E26 false) Try.prog 26 [.int true .i64 38, .agg [.int true .i64 4, .str ⟨#[80]⟩, .int true .i64 0, .bool true false, .int true .i64 4, .bool true false, .bool true false], .str s] [] 1024).bare =
    (bif (preOk false s == false) then
 zG
 else .bad) := by kernel_rfl

theorem gy_39 (s : ByteArray) : (evalF (E26 true) Try.prog 26 [.int true .i64 39, .agg [.int true .i64 4, .str ⟨#[88]⟩, .int true .i64 0, .bool true false, .int true .i64 4, .bool true false, .bool true false], .str s] [] 1024).bare =
    (bif (preOk false s == true) then
 bif (cm .gtr 2 ↑s.size) then
 zG
 else
 bif (cm .neq (ar .and .u8 (chr s 0) 8) 0) then
 bif (Nat.blt (1) (s.size)) then
 .ret (.tup [(.agg [.int true .i64 39, .int true .i64 8, (.int false .i64 (ar .or .i64 (ar .sub .i64 (conv .i64 (chr s 1)) 88) (ar .shl .i64 (conv .i64 (ar .and .u8 (chr s 0) 1)) 3))), .int true .i64 0, .int true .i64 0]), .bool true true]) []
 else .bad
 else
 bif (Nat.blt (1) (s.size)) then
 .ret (.tup [(.agg [.int true .i64 39, .int true .i64 4, (.int false .i64 (ar .or .i64 (ar .sub .i64 (conv .i64 (chr s 1)) 88) (ar .shl .i64 (conv .i64 (ar .and .u8 (chr s 0) 1)) 3))), .int true .i64 0, .int true .i64 0]), .bool true true]) []
 else .bad
 else .bad) := by kernel_rfl

theorem gn_39 (s : ByteArray) : (evalF (E26 false) Try.prog 26 [.int true .i64 39, .agg [.int true .i64 4, .str ⟨#[88]⟩, .int true .i64 0, .bool true false, .int true .i64 4, .bool true false, .bool true false], .str s] [] 1024).bare =
    (bif (preOk false s == false) then
 zG
 else .bad) := by kernel_rfl

theorem gy_40 (s : ByteArray) : (evalF (E26 true) Try.prog 26 [.int true .i64 40, .agg [.int true .i64 8, .str ⟨#[232]⟩, .int true .i64 0, .bool true false, .int true .i64 4, .bool true false, .bool true false], .str s] [] 1024).bare =
    (bif (cm .gtr 1 ↑s.size) then
 zG
 else
 bif (Nat.blt (0) (s.size)) then
 bif (cm .gtr 5 ↑s.size) then
 .ret (.tup [.agg [.int true .i64 40, .int true .i64 4, .int true .i64 0, .int true .i64 0, .int true .i64 0], .bool true false]) []
 else
 bif (Nat.ble (5) (s.size)) then
 bif (Nat.ble ((s.extract 1 5).size) (8)) then
 .ret (.tup [.agg [.int true .i64 40, .int true .i64 4, .int true .i64 0, .int true .i64 0, .int false .i64 (numU (s.extract 1 5))], .bool true true]) []
 else .bad
 else .bad
 else .bad) := by kernel_rfl

theorem gy_41 (s : ByteArray) : (evalF (E26 true) Try.prog 26 [.int true .i64 41, .agg [.int true .i64 5, .str ⟨#[195]⟩, .int true .i64 0, .bool true false, .int true .i64 4, .bool true false, .bool true false], .str s] [] 1024).bare =
    (bif (cm .gtr 1 ↑s.size) then
 zG
 else
 bif (Nat.blt (0) (s.size)) then
 .ret (.tup [.agg [.int true .i64 41, .int true .i64 4, .int true .i64 0, .int true .i64 0, .int true .i64 0], .bool true true]) []
 else .bad) := by kernel_rfl

theorem gy_42 (s : ByteArray) : (evalF (E26 true) Try.prog 26 [.int true .i64 42, .agg [.int true .i64 8, .str ⟨#[233]⟩, .int true .i64 0, .bool true false, .int true .i64 4, .bool true false, .bool true false], .str s] [] 1024).bare =
    (bif (cm .gtr 1 ↑s.size) then
 zG
 else
 bif (Nat.blt (0) (s.size)) then
 bif (cm .gtr 5 ↑s.size) then
 .ret (.tup [.agg [.int true .i64 42, .int true .i64 4, .int true .i64 0, .int true .i64 0, .int true .i64 0], .bool true false]) []
 else
 bif (Nat.ble (5) (s.size)) then
 bif (Nat.ble ((s.extract 1 5).size) (8)) then
 .ret (.tup [.agg [.int true .i64 42, .int true .i64 4, .int true .i64 0, .int true .i64 0, .int false .i64 (numU (s.extract 1 5))], .bool true true]) []
 else .bad
 else .bad
 else .bad) := by kernel_rfl

theorem gy_43 (s : ByteArray) : (evalF (E26 true) Try.prog 26 [.int true .i64 43, .agg [.int true .i64 9, .str ⟨#[235]⟩, .int true .i64 0, .bool true false, .int true .i64 4, .bool true false, .bool true false], .str s] [] 1024).bare =
    (bif (cm .gtr 1 ↑s.size) then
 zG
 else
 bif (Nat.blt (0) (s.size)) then
 bif (cm .gtr 2 ↑s.size) then
 .ret (.tup [.agg [.int true .i64 43, .int true .i64 4, .int true .i64 0, .int true .i64 0, .int true .i64 0], .bool true false]) []
 else
 bif (Nat.ble (2) (s.size)) then
 bif (Nat.ble ((s.extract 1 2).size) (8)) then
 .ret (.tup [.agg [.int true .i64 43, .int true .i64 4, .int true .i64 0, .int true .i64 0, .int false .i64 (numU (s.extract 1 2))], .bool true true]) []
 else .bad
 else .bad
 else .bad) := by kernel_rfl

theorem gy_44 (s : ByteArray) : (evalF (E26 true) Try.prog 26 [.int true .i64 44, .agg [.int true .i64 10, .str ⟨#[15, 128]⟩, .int true .i64 0, .bool true false, .int true .i64 4, .bool true false, .bool true false], .str s] [] 1024).bare =
    (bif (cm .gtr 2 ↑s.size) then
 zG
 else
 bif (Nat.blt (1) (s.size)) then
 bif (cm .gtr 6 ↑s.size) then
 .ret (.tup [.agg [.int true .i64 44, .int true .i64 4, .int false .i64 (ar .sub .i64 (conv .i64 (chr s 1)) 128), .int true .i64 0, .int true .i64 0], .bool true false]) []
 else
 bif (Nat.ble (6) (s.size)) then
 bif (Nat.ble ((s.extract 2 6).size) (8)) then
 .ret (.tup [.agg [.int true .i64 44, .int true .i64 4, .int false .i64 (ar .sub .i64 (conv .i64 (chr s 1)) 128), .int true .i64 0, .int false .i64 (numU (s.extract 2 6))], .bool true true]) []
 else .bad
 else .bad
 else .bad) := by kernel_rfl

theorem gy_45 (s : ByteArray) : (evalF (E26 true) Try.prog 26 [.int true .i64 45, .agg [.int true .i64 11, .str ⟨#[112]⟩, .int true .i64 0, .bool true false, .int true .i64 4, .bool true false, .bool true false], .str s] [] 1024).bare =
    (bif (cm .gtr 1 ↑s.size) then
 zG
 else
 bif (Nat.blt (0) (s.size)) then
 bif (cm .gtr 2 ↑s.size) then
 .ret (.tup [.agg [.int true .i64 45, .int true .i64 4, .int false .i64 (ar .sub .i64 (conv .i64 (chr s 0)) 112), .int true .i64 0, .int true .i64 0], .bool true false]) []
 else
 bif (Nat.ble (2) (s.size)) then
 bif (Nat.ble ((s.extract 1 2).size) (8)) then
 .ret (.tup [.agg [.int true .i64 45, .int true .i64 4, .int false .i64 (ar .sub .i64 (conv .i64 (chr s 0)) 112), .int true .i64 0, .int false .i64 (numU (s.extract 1 2))], .bool true true]) []
 else .bad
 else .bad
 else .bad) := by kernel_rfl

theorem gy_46 (s : ByteArray) : (evalF (E26 true) Try.prog 26 [.int true .i64 46, .agg [.int true .i64 5, .str ⟨#[15, 5]⟩, .int true .i64 0, .bool true false, .int true .i64 4, .bool true false, .bool true false], .str s] [] 1024).bare =
    (bif (cm .gtr 2 ↑s.size) then
 zG
 else
 bif (Nat.blt (1) (s.size)) then
 .ret (.tup [.agg [.int true .i64 46, .int true .i64 4, .int true .i64 0, .int true .i64 0, .int true .i64 0], .bool true true]) []
 else .bad) := by kernel_rfl

end Go.X
end

section
set_option linter.unusedVariables false
open Go Go.Ev Go.Proofs
namespace Go.X

theorem fact_37 {s : ByteArray} {w rd rs n : Int} (h : DX 37 s w rd rs n) : (w = 4 ∨ w = 8) ∧ w = 8 ∧ small rd ∧ small rs ∧ inI n ∧ fitsX 4 n = true ∧ 7 ≤ s.size ∧ chr s 0 = rexI w rd rs ∧ chr s 1 = 141 ∧ chr s 2 = modI 128 rd rs ∧ (∀ j, j < 4 → chr s (3 + j) = bat n j) := by
  obtain ⟨he, hi, hs⟩ := h
  have hE : errX 37 w rd rs n = (bif (decide (w = 4) || decide (w = 8)) && ((false || decide (w = 8)) && (regX rd && (regX rs && !decide (rs % 8 = 4)))) then (bif ((decide (-2147483648 ≤ n) && decide (n ≤ 2147483647)) || false) then 0 else 10) else 1) := by kernel_rfl
  rw [hE] at he
  obtain ⟨hA, hF⟩ := err0 he
  have hL : encL 37 w rd rs n = [rexI w rd rs, 141, modI 128 rd rs] ++ tailL n 4 := by kernel_rfl
  rw [hL] at hs
  obtain ⟨h1, h2, h3⟩ := starts_tail hs
  rw [tail_length] at h2 h3
  simp [regX, condX] at hA hF
  have e0 : chr s 0 = rexI w rd rs := h1.2 0 (by show 0 < 3; decide)
  have e1 : chr s 1 = 141 := h1.2 1 (by show 1 < 3; decide)
  have e2 : chr s 2 = modI 128 rd rs := h1.2 2 (by show 2 < 3; decide)
  exact ⟨by first | omega | (simp only [small]; omega), by first | omega | (simp only [small]; omega), by first | omega | (simp only [small]; omega), by first | omega | (simp only [small]; omega), hi, by first | rfl | (simp [fitsX]; omega), h2, e0, e1, e2, fun j hj => by rw [← tail_get n 4 j hj]; exact h3 j hj⟩

attribute [local irreducible] evalF Lf.gives in
theorem guess_37 : GP 37 (.agg [.int true .i64 2, .str ⟨#[141]⟩, .int true .i64 0, .bool true false, .int true .i64 8, .bool true false, .bool true false]) := by
  intro s
  cases hp : preOk false s with
  | false =>
    refine GP_of false (gn_37 s) ?_
    rw [hp]
    refine GPl_no fun w rd rs n hd => ?_
    obtain ⟨hw, qw, hrd, hrs, hi, hf, hz, e0, e1, e2, ht⟩ := fact_37 hd
    have := pre0 hw hrd hrs (by omega) e0
    rw [hp] at this
    cases this
  | true =>
    refine GP_of true (gy_37 s) ?_
    rw [hp]
    refine GPl_cond (fun _ => ?_) (fun hc => by cases hc)
    repeat' refine GPl_cond (fun _ => ?_) (fun _ => ?_)
    all_goals simp only [cmz] at *
    all_goals first
        | (exfalso; omega)
        | (refine GPl_no fun w rd rs n hd => ?_; obtain ⟨hw, qw, hrd, hrs, hi, hf, hz, e0, e1, e2, ht⟩ := fact_37 hd; omega)
        | (refine GPl_yes (numU_range _ (by simp only [ByteArray.size_extract]; omega)) fun w rd rs n hd => ?_
           obtain ⟨hw, qw, hrd, hrs, hi, hf, hz, e0, e1, e2, ht⟩ := fact_37 hd
           obtain ⟨x0, x1, x2, x3⟩ := rex_facts hw hrd hrs
           rw [← e0] at x1 x2 x3
           obtain ⟨y0, y1⟩ := mod_facts (.inr rfl) hrd hrs
           rw [← e2] at y0 y1
           exact ⟨by omega, by rw [y1, x3]; exact (put_facts hrd).2, by rw [y0, x2]; exact (put_facts hrs).1, num_tail 3 4 (by decide) hz ht hi hf⟩)

theorem fact_38 {s : ByteArray} {w rd rs n : Int} (h : DX 38 s w rd rs n) : (w = 4 ∨ w = 8) ∧ w = 4 ∧ small rd ∧ rs = 0 ∧ n = 0 ∧ inI n ∧ fitsX 0 n = true ∧ 2 ≤ s.size ∧ chr s 0 = rexI w 0 rd ∧ chr s 1 = 80 + rd % 8 := by
  obtain ⟨he, hi, hs⟩ := h
  have hE : errX 38 w rd rs n = (bif (decide (w = 4) || decide (w = 8)) && ((false || decide (w = 4)) && (regX rd && (decide (rs = 0) && decide (n = 0)))) then (bif ((true) || false) then 0 else 10) else 1) := by kernel_rfl
  rw [hE] at he
  obtain ⟨hA, hF⟩ := err0 he
  have hL : encL 38 w rd rs n = [rexI w 0 rd, 80 + rd % 8] ++ tailL n 0 := by kernel_rfl
  rw [hL] at hs
  obtain ⟨h1, h2, h3⟩ := starts_tail hs
  rw [tail_length] at h2 h3
  simp [regX, condX] at hA hF
  have e0 : chr s 0 = rexI w 0 rd := h1.2 0 (by show 0 < 2; decide)
  have e1 : chr s 1 = 80 + rd % 8 := h1.2 1 (by show 1 < 2; decide)
  exact ⟨by first | omega | (simp only [small]; omega), by first | omega | (simp only [small]; omega), by first | omega | (simp only [small]; omega), by first | omega | (simp only [small]; omega), by first | omega | (simp only [small]; omega), hi, by first | rfl | (simp [fitsX]; omega), h2, e0, e1⟩

attribute [local irreducible] evalF Lf.gives in
theorem guess_38 : GP 38 (.agg [.int true .i64 4, .str ⟨#[80]⟩, .int true .i64 0, .bool true false, .int true .i64 4, .bool true false, .bool true false]) := by
  intro s
  cases hp : preOk false s with
  | false =>
    refine GP_of false (gn_38 s) ?_
    rw [hp]
    refine GPl_no fun w rd rs n hd => ?_
    obtain ⟨hw, qw, hrd, qs, qn, hi, hf, hz, e0, e1⟩ := fact_38 hd
    have := pre0 hw (by decide : small 0) hrd (by omega) e0
    rw [hp] at this
    cases this
  | true =>
    refine GP_of true (gy_38 s) ?_
    rw [hp]
    refine GPl_cond (fun _ => ?_) (fun hc => by cases hc)
    repeat' refine GPl_cond (fun _ => ?_) (fun _ => ?_)
    all_goals simp only [cmz] at *
    all_goals first
        | (exfalso; omega)
        | (refine GPl_no fun w rd rs n hd => ?_; obtain ⟨hw, qw, hrd, qs, qn, hi, hf, hz, e0, e1⟩ := fact_38 hd; omega)
        | (refine GPl_yes (inI0) fun w rd rs n hd => ?_
           obtain ⟨hw, qw, hrd, qs, qn, hi, hf, hz, e0, e1⟩ := fact_38 hd
           obtain ⟨x0, x1, x2, x3⟩ := rex_facts hw (by decide : small 0) hrd
           rw [← e0] at x1 x2 x3
           exact ⟨by omega, by rw [x2, e1]; exact more_reg (by decide) hrd, qs.symm, qn.symm⟩)

theorem fact_39 {s : ByteArray} {w rd rs n : Int} (h : DX 39 s w rd rs n) : (w = 4 ∨ w = 8) ∧ w = 4 ∧ small rd ∧ rs = 0 ∧ n = 0 ∧ inI n ∧ fitsX 0 n = true ∧ 2 ≤ s.size ∧ chr s 0 = rexI w 0 rd ∧ chr s 1 = 88 + rd % 8 := by
  obtain ⟨he, hi, hs⟩ := h
  have hE : errX 39 w rd rs n = (bif (decide (w = 4) || decide (w = 8)) && ((false || decide (w = 4)) && (regX rd && (decide (rs = 0) && decide (n = 0)))) then (bif ((true) || false) then 0 else 10) else 1) := by kernel_rfl
  rw [hE] at he
  obtain ⟨hA, hF⟩ := err0 he
  have hL : encL 39 w rd rs n = [rexI w 0 rd, 88 + rd % 8] ++ tailL n 0 := by kernel_rfl
  rw [hL] at hs
  obtain ⟨h1, h2, h3⟩ := starts_tail hs
  rw [tail_length] at h2 h3
  simp [regX, condX] at hA hF
  have e0 : chr s 0 = rexI w 0 rd := h1.2 0 (by show 0 < 2; decide)
  have e1 : chr s 1 = 88 + rd % 8 := h1.2 1 (by show 1 < 2; decide)
  exact ⟨by first | omega | (simp only [small]; omega), by first | omega | (simp only [small]; omega), by first | omega | (simp only [small]; omega), by first | omega | (simp only [small]; omega), by first | omega | (simp only [small]; omega), hi, by first | rfl | (simp [fitsX]; omega), h2, e0, e1⟩

attribute [local irreducible] evalF Lf.gives in
theorem guess_39 : GP 39 (.agg [.int true .i64 4, .str ⟨#[88]⟩, .int true .i64 0, .bool true false, .int true .i64 4, .bool true false, .bool true false]) := by
  intro s
  cases hp : preOk false s with
  | false =>
    refine GP_of false (gn_39 s) ?_
    rw [hp]
    refine GPl_no fun w rd rs n hd => ?_
    obtain ⟨hw, qw, hrd, qs, qn, hi, hf, hz, e0, e1⟩ := fact_39 hd
    have := pre0 hw (by decide : small 0) hrd (by omega) e0
    rw [hp] at this
    cases this
  | true =>
    refine GP_of true (gy_39 s) ?_
    rw [hp]
    refine GPl_cond (fun _ => ?_) (fun hc => by cases hc)
    repeat' refine GPl_cond (fun _ => ?_) (fun _ => ?_)
    all_goals simp only [cmz] at *
    all_goals first
        | (exfalso; omega)
        | (refine GPl_no fun w rd rs n hd => ?_; obtain ⟨hw, qw, hrd, qs, qn, hi, hf, hz, e0, e1⟩ := fact_39 hd; omega)
        | (refine GPl_yes (inI0) fun w rd rs n hd => ?_
           obtain ⟨hw, qw, hrd, qs, qn, hi, hf, hz, e0, e1⟩ := fact_39 hd
           obtain ⟨x0, x1, x2, x3⟩ := rex_facts hw (by decide : small 0) hrd
           rw [← e0] at x1 x2 x3
           exact ⟨by omega, by rw [x2, e1]; exact more_reg (by decide) hrd, qs.symm, qn.symm⟩)

theorem fact_40 {s : ByteArray} {w rd rs n : Int} (h : DX 40 s w rd rs n) : (w = 4 ∨ w = 8) ∧ w = 4 ∧ rs = 0 ∧ rd = 0 ∧ inI n ∧ fitsX 4 n = true ∧ 5 ≤ s.size ∧ chr s 0 = 232 ∧ (∀ j, j < 4 → chr s (1 + j) = bat n j) := by
  obtain ⟨he, hi, hs⟩ := h
  have hE : errX 40 w rd rs n = (bif (decide (w = 4) || decide (w = 8)) && ((false || decide (w = 4)) && (decide (rd = 0) && decide (rs = 0))) then (bif ((decide (-2147483648 ≤ n) && decide (n ≤ 2147483647)) || false) then 0 else 10) else 1) := by kernel_rfl
  rw [hE] at he
  obtain ⟨hA, hF⟩ := err0 he
  have hL : encL 40 w rd rs n = [232] ++ tailL n 4 := by kernel_rfl
  rw [hL] at hs
  obtain ⟨h1, h2, h3⟩ := starts_tail hs
  rw [tail_length] at h2 h3
  simp [regX, condX] at hA hF
  have e0 : chr s 0 = 232 := h1.2 0 (by show 0 < 1; decide)
  exact ⟨by first | omega | (simp only [small]; omega), by first | omega | (simp only [small]; omega), by first | omega | (simp only [small]; omega), by first | omega | (simp only [small]; omega), hi, by first | rfl | (simp [fitsX]; omega), h2, e0, fun j hj => by rw [← tail_get n 4 j hj]; exact h3 j hj⟩

attribute [local irreducible] evalF Lf.gives in
theorem guess_40 : GP 40 (.agg [.int true .i64 8, .str ⟨#[232]⟩, .int true .i64 0, .bool true false, .int true .i64 4, .bool true false, .bool true false]) := by
  intro s
  refine GP_of true (gy_40 s) ?_
  repeat' refine GPl_cond (fun _ => ?_) (fun _ => ?_)
  all_goals simp only [cmz] at *
  all_goals first
      | (exfalso; omega)
      | (refine GPl_no fun w rd rs n hd => ?_; obtain ⟨hw, qw, qs, qd, hi, hf, hz, e0, ht⟩ := fact_40 hd; omega)
      | (refine GPl_yes (numU_range _ (by simp only [ByteArray.size_extract]; omega)) fun w rd rs n hd => ?_
         obtain ⟨hw, qw, qs, qd, hi, hf, hz, e0, ht⟩ := fact_40 hd
         exact ⟨by omega, qd.symm, qs.symm, num_tail 1 4 (by decide) hz ht hi hf⟩)

theorem fact_41 {s : ByteArray} {w rd rs n : Int} (h : DX 41 s w rd rs n) : (w = 4 ∨ w = 8) ∧ w = 4 ∧ rs = 0 ∧ rd = 0 ∧ n = 0 ∧ inI n ∧ fitsX 0 n = true ∧ 1 ≤ s.size ∧ chr s 0 = 195 := by
  obtain ⟨he, hi, hs⟩ := h
  have hE : errX 41 w rd rs n = (bif (decide (w = 4) || decide (w = 8)) && ((false || decide (w = 4)) && (decide (rd = 0) && (decide (rs = 0) && decide (n = 0)))) then (bif ((true) || false) then 0 else 10) else 1) := by kernel_rfl
  rw [hE] at he
  obtain ⟨hA, hF⟩ := err0 he
  have hL : encL 41 w rd rs n = [195] ++ tailL n 0 := by kernel_rfl
  rw [hL] at hs
  obtain ⟨h1, h2, h3⟩ := starts_tail hs
  rw [tail_length] at h2 h3
  simp [regX, condX] at hA hF
  have e0 : chr s 0 = 195 := h1.2 0 (by show 0 < 1; decide)
  exact ⟨by first | omega | (simp only [small]; omega), by first | omega | (simp only [small]; omega), by first | omega | (simp only [small]; omega), by first | omega | (simp only [small]; omega), by first | omega | (simp only [small]; omega), hi, by first | rfl | (simp [fitsX]; omega), h2, e0⟩

attribute [local irreducible] evalF Lf.gives in
theorem guess_41 : GP 41 (.agg [.int true .i64 5, .str ⟨#[195]⟩, .int true .i64 0, .bool true false, .int true .i64 4, .bool true false, .bool true false]) := by
  intro s
  refine GP_of true (gy_41 s) ?_
  repeat' refine GPl_cond (fun _ => ?_) (fun _ => ?_)
  all_goals simp only [cmz] at *
  all_goals first
      | (exfalso; omega)
      | (refine GPl_no fun w rd rs n hd => ?_; obtain ⟨hw, qw, qs, qd, qn, hi, hf, hz, e0⟩ := fact_41 hd; omega)
      | (refine GPl_yes (inI0) fun w rd rs n hd => ?_
         obtain ⟨hw, qw, qs, qd, qn, hi, hf, hz, e0⟩ := fact_41 hd
         exact ⟨by omega, qd.symm, qs.symm, qn.symm⟩)

theorem fact_42 {s : ByteArray} {w rd rs n : Int} (h : DX 42 s w rd rs n) : (w = 4 ∨ w = 8) ∧ w = 4 ∧ rs = 0 ∧ rd = 0 ∧ inI n ∧ fitsX 4 n = true ∧ 5 ≤ s.size ∧ chr s 0 = 233 ∧ (∀ j, j < 4 → chr s (1 + j) = bat n j) := by
  obtain ⟨he, hi, hs⟩ := h
  have hE : errX 42 w rd rs n = (bif (decide (w = 4) || decide (w = 8)) && ((false || decide (w = 4)) && (decide (rd = 0) && decide (rs = 0))) then (bif ((decide (-2147483648 ≤ n) && decide (n ≤ 2147483647)) || false) then 0 else 10) else 1) := by kernel_rfl
  rw [hE] at he
  obtain ⟨hA, hF⟩ := err0 he
  have hL : encL 42 w rd rs n = [233] ++ tailL n 4 := by kernel_rfl
  rw [hL] at hs
  obtain ⟨h1, h2, h3⟩ := starts_tail hs
  rw [tail_length] at h2 h3
  simp [regX, condX] at hA hF
  have e0 : chr s 0 = 233 := h1.2 0 (by show 0 < 1; decide)
  exact ⟨by first | omega | (simp only [small]; omega), by first | omega | (simp only [small]; omega), by first | omega | (simp only [small]; omega), by first | omega | (simp only [small]; omega), hi, by first | rfl | (simp [fitsX]; omega), h2, e0, fun j hj => by rw [← tail_get n 4 j hj]; exact h3 j hj⟩

attribute [local irreducible] evalF Lf.gives in
theorem guess_42 : GP 42 (.agg [.int true .i64 8, .str ⟨#[233]⟩, .int true .i64 0, .bool true false, .int true .i64 4, .bool true false, .bool true false]) := by
  intro s
  refine GP_of true (gy_42 s) ?_
  repeat' refine GPl_cond (fun _ => ?_) (fun _ => ?_)
  all_goals simp only [cmz] at *
  all_goals first
      | (exfalso; omega)
      | (refine GPl_no fun w rd rs n hd => ?_; obtain ⟨hw, qw, qs, qd, hi, hf, hz, e0, ht⟩ := fact_42 hd; omega)
      | (refine GPl_yes (numU_range _ (by simp only [ByteArray.size_extract]; omega)) fun w rd rs n hd => ?_
         obtain ⟨hw, qw, qs, qd, hi, hf, hz, e0, ht⟩ := fact_42 hd
         exact ⟨by omega, qd.symm, qs.symm, num_tail 1 4 (by decide) hz ht hi hf⟩)

theorem fact_43 {s : ByteArray} {w rd rs n : Int} (h : DX 43 s w rd rs n) : (w = 4 ∨ w = 8) ∧ w = 4 ∧ rs = 0 ∧ rd = 0 ∧ inI n ∧ fitsX 1 n = true ∧ 2 ≤ s.size ∧ chr s 0 = 235 ∧ (∀ j, j < 1 → chr s (1 + j) = bat n j) := by
  obtain ⟨he, hi, hs⟩ := h
  have hE : errX 43 w rd rs n = (bif (decide (w = 4) || decide (w = 8)) && ((false || decide (w = 4)) && (decide (rd = 0) && decide (rs = 0))) then (bif ((decide (-128 ≤ n) && decide (n ≤ 127)) || false) then 0 else 10) else 1) := by kernel_rfl
  rw [hE] at he
  obtain ⟨hA, hF⟩ := err0 he
  have hL : encL 43 w rd rs n = [235] ++ tailL n 1 := by kernel_rfl
  rw [hL] at hs
  obtain ⟨h1, h2, h3⟩ := starts_tail hs
  rw [tail_length] at h2 h3
  simp [regX, condX] at hA hF
  have e0 : chr s 0 = 235 := h1.2 0 (by show 0 < 1; decide)
  exact ⟨by first | omega | (simp only [small]; omega), by first | omega | (simp only [small]; omega), by first | omega | (simp only [small]; omega), by first | omega | (simp only [small]; omega), hi, by first | rfl | (simp [fitsX]; omega), h2, e0, fun j hj => by rw [← tail_get n 1 j hj]; exact h3 j hj⟩

attribute [local irreducible] evalF Lf.gives in
theorem guess_43 : GP 43 (.agg [.int true .i64 9, .str ⟨#[235]⟩, .int true .i64 0, .bool true false, .int true .i64 4, .bool true false, .bool true false]) := by
  intro s
  refine GP_of true (gy_43 s) ?_
  repeat' refine GPl_cond (fun _ => ?_) (fun _ => ?_)
  all_goals simp only [cmz] at *
  all_goals first
      | (exfalso; omega)
      | (refine GPl_no fun w rd rs n hd => ?_; obtain ⟨hw, qw, qs, qd, hi, hf, hz, e0, ht⟩ := fact_43 hd; omega)
      | (refine GPl_yes (numU_range _ (by simp only [ByteArray.size_extract]; omega)) fun w rd rs n hd => ?_
         obtain ⟨hw, qw, qs, qd, hi, hf, hz, e0, ht⟩ := fact_43 hd
         exact ⟨by omega, qd.symm, qs.symm, num_tail 1 1 (by decide) hz ht hi hf⟩)

theorem fact_44 {s : ByteArray} {w rd rs n : Int} (h : DX 44 s w rd rs n) : (w = 4 ∨ w = 8) ∧ w = 4 ∧ rs = 0 ∧ small rd ∧ inI n ∧ fitsX 4 n = true ∧ 6 ≤ s.size ∧ chr s 0 = 15 ∧ chr s 1 = 128 + rd ∧ (∀ j, j < 4 → chr s (2 + j) = bat n j) := by
  obtain ⟨he, hi, hs⟩ := h
  have hE : errX 44 w rd rs n = (bif (decide (w = 4) || decide (w = 8)) && ((false || decide (w = 4)) && (condX rd && decide (rs = 0))) then (bif ((decide (-2147483648 ≤ n) && decide (n ≤ 2147483647)) || false) then 0 else 10) else 1) := by kernel_rfl
  rw [hE] at he
  obtain ⟨hA, hF⟩ := err0 he
  have hL : encL 44 w rd rs n = [15, 128 + rd] ++ tailL n 4 := by kernel_rfl
  rw [hL] at hs
  obtain ⟨h1, h2, h3⟩ := starts_tail hs
  rw [tail_length] at h2 h3
  simp [regX, condX] at hA hF
  have e0 : chr s 0 = 15 := h1.2 0 (by show 0 < 2; decide)
  have e1 : chr s 1 = 128 + rd := h1.2 1 (by show 1 < 2; decide)
  exact ⟨by first | omega | (simp only [small]; omega), by first | omega | (simp only [small]; omega), by first | omega | (simp only [small]; omega), by first | omega | (simp only [small]; omega), hi, by first | rfl | (simp [fitsX]; omega), h2, e0, e1, fun j hj => by rw [← tail_get n 4 j hj]; exact h3 j hj⟩

attribute [local irreducible] evalF Lf.gives in
theorem guess_44 : GP 44 (.agg [.int true .i64 10, .str ⟨#[15, 128]⟩, .int true .i64 0, .bool true false, .int true .i64 4, .bool true false, .bool true false]) := by
  intro s
  refine GP_of true (gy_44 s) ?_
  repeat' refine GPl_cond (fun _ => ?_) (fun _ => ?_)
  all_goals simp only [cmz] at *
  all_goals first
      | (exfalso; omega)
      | (refine GPl_no fun w rd rs n hd => ?_; obtain ⟨hw, qw, qs, hrd, hi, hf, hz, e0, e1, ht⟩ := fact_44 hd; omega)
      | (refine GPl_yes (numU_range _ (by simp only [ByteArray.size_extract]; omega)) fun w rd rs n hd => ?_
         obtain ⟨hw, qw, qs, hrd, hi, hf, hz, e0, e1, ht⟩ := fact_44 hd
         exact ⟨by omega, by rw [e1]; exact more_cond (by decide) hrd, qs.symm, num_tail 2 4 (by decide) hz ht hi hf⟩)

theorem fact_45 {s : ByteArray} {w rd rs n : Int} (h : DX 45 s w rd rs n) : (w = 4 ∨ w = 8) ∧ w = 4 ∧ rs = 0 ∧ small rd ∧ inI n ∧ fitsX 1 n = true ∧ 2 ≤ s.size ∧ chr s 0 = 112 + rd ∧ (∀ j, j < 1 → chr s (1 + j) = bat n j) := by
  obtain ⟨he, hi, hs⟩ := h
  have hE : errX 45 w rd rs n = (bif (decide (w = 4) || decide (w = 8)) && ((false || decide (w = 4)) && (condX rd && decide (rs = 0))) then (bif ((decide (-128 ≤ n) && decide (n ≤ 127)) || false) then 0 else 10) else 1) := by kernel_rfl
  rw [hE] at he
  obtain ⟨hA, hF⟩ := err0 he
  have hL : encL 45 w rd rs n = [112 + rd] ++ tailL n 1 := by kernel_rfl
  rw [hL] at hs
  obtain ⟨h1, h2, h3⟩ := starts_tail hs
  rw [tail_length] at h2 h3
  simp [regX, condX] at hA hF
  have e0 : chr s 0 = 112 + rd := h1.2 0 (by show 0 < 1; decide)
  exact ⟨by first | omega | (simp only [small]; omega), by first | omega | (simp only [small]; omega), by first | omega | (simp only [small]; omega), by first | omega | (simp only [small]; omega), hi, by first | rfl | (simp [fitsX]; omega), h2, e0, fun j hj => by rw [← tail_get n 1 j hj]; exact h3 j hj⟩

attribute [local irreducible] evalF Lf.gives in
theorem guess_45 : GP 45 (.agg [.int true .i64 11, .str ⟨#[112]⟩, .int true .i64 0, .bool true false, .int true .i64 4, .bool true false, .bool true false]) := by
  intro s
  refine GP_of true (gy_45 s) ?_
  repeat' refine GPl_cond (fun _ => ?_) (fun _ => ?_)
  all_goals simp only [cmz] at *
  all_goals first
      | (exfalso; omega)
      | (refine GPl_no fun w rd rs n hd => ?_; obtain ⟨hw, qw, qs, hrd, hi, hf, hz, e0, ht⟩ := fact_45 hd; omega)
      | (refine GPl_yes (numU_range _ (by simp only [ByteArray.size_extract]; omega)) fun w rd rs n hd => ?_
         obtain ⟨hw, qw, qs, hrd, hi, hf, hz, e0, ht⟩ := fact_45 hd
         exact ⟨by omega, by rw [e0]; exact more_cond (by decide) hrd, qs.symm, num_tail 1 1 (by decide) hz ht hi hf⟩)

theorem fact_46 {s : ByteArray} {w rd rs n : Int} (h : DX 46 s w rd rs n) : (w = 4 ∨ w = 8) ∧ w = 4 ∧ rs = 0 ∧ rd = 0 ∧ n = 0 ∧ inI n ∧ fitsX 0 n = true ∧ 2 ≤ s.size ∧ chr s 0 = 15 ∧ chr s 1 = 5 := by
  obtain ⟨he, hi, hs⟩ := h
  have hE : errX 46 w rd rs n = (bif (decide (w = 4) || decide (w = 8)) && ((false || decide (w = 4)) && (decide (rd = 0) && (decide (rs = 0) && decide (n = 0)))) then (bif ((true) || false) then 0 else 10) else 1) := by kernel_rfl
  rw [hE] at he
  obtain ⟨hA, hF⟩ := err0 he
  have hL : encL 46 w rd rs n = [15, 5] ++ tailL n 0 := by kernel_rfl
  rw [hL] at hs
  obtain ⟨h1, h2, h3⟩ := starts_tail hs
  rw [tail_length] at h2 h3
  simp [regX, condX] at hA hF
  have e0 : chr s 0 = 15 := h1.2 0 (by show 0 < 2; decide)
  have e1 : chr s 1 = 5 := h1.2 1 (by show 1 < 2; decide)
  exact ⟨by first | omega | (simp only [small]; omega), by first | omega | (simp only [small]; omega), by first | omega | (simp only [small]; omega), by first | omega | (simp only [small]; omega), by first | omega | (simp only [small]; omega), hi, by first | rfl | (simp [fitsX]; omega), h2, e0, e1⟩

attribute [local irreducible] evalF Lf.gives in
theorem guess_46 : GP 46 (.agg [.int true .i64 5, .str ⟨#[15, 5]⟩, .int true .i64 0, .bool true false, .int true .i64 4, .bool true false, .bool true false]) := by
  intro s
  refine GP_of true (gy_46 s) ?_
  repeat' refine GPl_cond (fun _ => ?_) (fun _ => ?_)
  all_goals simp only [cmz] at *
  all_goals first
      | (exfalso; omega)
      | (refine GPl_no fun w rd rs n hd => ?_; obtain ⟨hw, qw, qs, qd, qn, hi, hf, hz, e0, e1⟩ := fact_46 hd; omega)
      | (refine GPl_yes (inI0) fun w rd rs n hd => ?_
         obtain ⟨hw, qw, qs, qd, qn, hi, hf, hz, e0, e1⟩ := fact_46 hd
         exact ⟨by omega, qd.symm, qs.symm, qn.symm⟩)

end Go.X
end

section
set_option linter.unusedVariables false
open Go Go.Ev Go.Proofs
namespace Go.X

def formC (op : Int) : SV := .agg [.int true .i64 (nth shapes 0 (op - 1).toNat), .str (nth codes .empty (op - 1).toNat), .int true .i64 (nth mids 0 (op - 1).toNat), .bool true (nth turns false (op - 1).toNat), .int true .i64 (nth ws 0 (op - 1).toNat), .bool true (nth imms false (op - 1).toNat), .bool true (nth aheads false (op - 1).toNat)]

attribute [local irreducible] evalF Lf.gives in
theorem guess_all (k : Int) (h1 : 1 ≤ k) (h2 : k ≤ 46) : GP k (formC k) := by
  have : k = 1 ∨ k = 2 ∨ k = 3 ∨ k = 4 ∨ k = 5 ∨ k = 6 ∨ k = 7 ∨ k = 8 ∨ k = 9 ∨ k = 10 ∨ k = 11 ∨ k = 12 ∨ k = 13 ∨ k = 14 ∨ k = 15 ∨ k = 16 ∨ k = 17 ∨ k = 18 ∨ k = 19 ∨ k = 20 ∨ k = 21 ∨ k = 22 ∨ k = 23 ∨ k = 24 ∨ k = 25 ∨ k = 26 ∨ k = 27 ∨ k = 28 ∨ k = 29 ∨ k = 30 ∨ k = 31 ∨ k = 32 ∨ k = 33 ∨ k = 34 ∨ k = 35 ∨ k = 36 ∨ k = 37 ∨ k = 38 ∨ k = 39 ∨ k = 40 ∨ k = 41 ∨ k = 42 ∨ k = 43 ∨ k = 44 ∨ k = 45 ∨ k = 46 := by omega
  rcases this with rfl | rfl | rfl | rfl | rfl | rfl | rfl | rfl | rfl | rfl | rfl | rfl | rfl | rfl | rfl | rfl | rfl | rfl | rfl | rfl | rfl | rfl | rfl | rfl | rfl | rfl | rfl | rfl | rfl | rfl | rfl | rfl | rfl | rfl | rfl | rfl | rfl | rfl | rfl | rfl | rfl | rfl | rfl | rfl | rfl | rfl
  · exact guess_1
  · exact guess_2
  · exact guess_3
  · exact guess_4
  · exact guess_5
  · exact guess_6
  · exact guess_7
  · exact guess_8
  · exact guess_9
  · exact guess_10
  · exact guess_11
  · exact guess_12
  · exact guess_13
  · exact guess_14
  · exact guess_15
  · exact guess_16
  · exact guess_17
  · exact guess_18
  · exact guess_19
  · exact guess_20
  · exact guess_21
  · exact guess_22
  · exact guess_23
  · exact guess_24
  · exact guess_25
  · exact guess_26
  · exact guess_27
  · exact guess_28
  · exact guess_29
  · exact guess_30
  · exact guess_31
  · exact guess_32
  · exact guess_33
  · exact guess_34
  · exact guess_35
  · exact guess_36
  · exact guess_37
  · exact guess_38
  · exact guess_39
  · exact guess_40
  · exact guess_41
  · exact guess_42
  · exact guess_43
  · exact guess_44
  · exact guess_45
  · exact guess_46

structure GV where
  o : Int
  w : Int
  rd : Int
  rs : Int
  n : Int
  ok : Bool
def GVok (k : Int) (s : ByteArray) (v : GV) : Prop := Q k s v.o v.w v.rd v.rs v.n v.ok ∧ ∃ p, (evalF (E26 p) Try.prog 26 [.int true .i64 k, formC k, .str s] [] 1024).leaf.gives (tupG v.o v.w v.rd v.rs v.n v.ok)
attribute [local irreducible] evalF Lf.gives in
theorem gv_ex (k : Int) (s : ByteArray) (h1 : 1 ≤ k) (h2 : k ≤ 46) : ∃ v, GVok k s v := by
  obtain ⟨p, o, w, rd, rs, n, ok, hq, hg⟩ := guess_all k h1 h2 s
  exact ⟨⟨o, w, rd, rs, n, ok⟩, hq, p, hg⟩
open Classical in
noncomputable def gv (k : Int) (s : ByteArray) : GV := if h : 1 ≤ k ∧ k ≤ 46 then Classical.choose (gv_ex k s h.1 h.2) else ⟨0, 0, 0, 0, 0, false⟩
theorem gv_ok (k : Int) (s : ByteArray) (h1 : 1 ≤ k) (h2 : k ≤ 46) : GVok k s (gv k s) := by
  unfold gv
  rw [dif_pos ⟨h1, h2⟩]
  exact Classical.choose_spec (gv_ex k s h1 h2)

noncomputable def gvT (k : Int) (s : ByteArray) : SV := .tup [.agg [.int false .i64 (gv k s).o, .int false .i64 (gv k s).w, .int false .i64 (gv k s).rd, .int false .i64 (gv k s).rs, .int false .i64 (gv k s).n], .bool false (gv k s).ok]
noncomputable def g26 : List SV → Heap → Option R
  | [.int _ .i64 op, .agg [.int _ .i64 sh, .str c, .int _ .i64 m, .bool _ tu, .int _ .i64 w, .bool _ im, .bool _ ah], .str s], [] =>
    some ⟨[decide (1 ≤ op), decide (op ≤ 46), decide (sh = nth shapes 0 (op - 1).toNat), decide (c = nth codes .empty (op - 1).toNat), decide (m = nth mids 0 (op - 1).toNat), decide (tu = nth turns false (op - 1).toNat),
      decide (w = nth ws 0 (op - 1).toNat), decide (im = nth imms false (op - 1).toNat), decide (ah = nth aheads false (op - 1).toNat)], gvT op s, []⟩
  | _, _ => none

theorem fn26 : Try.prog.funcs[26]? = some Try.f26 := by kernel_rfl
theorem b26 : Try.f26.body = some (bodyOf Try.f26) := by kernel_rfl
theorem n26 : (Try.f26.name == "runtime.NumGoroutine") = false := by kernel_rfl

attribute [local irreducible] evalF Lf.gives gv in
theorem spec26 : SpecOk Try.prog 26 (specOf g26) := spec_okB false mixed fn26 b26 n26 g26 fun a0 H0 r hg hn => by
  unfold g26 at hg
  split at hg
  · rename_i _ op _ sh c _ m _ tu _ w _ im _ ah s
    simp only [Option.some.injEq] at hg
    subst hg
    simp only [allB, Bool.and_true, Bool.and_eq_true, decide_eq_true_eq] at hn
    obtain ⟨h1, h2, rfl, rfl, rfl, rfl, rfl, rfl, rfl⟩ := hn
    obtain ⟨hq, p, hg⟩ := gv_ok op s h1 h2
    refine ⟨E26 p, [.int true .i64 op, formC op, .str s], e26_calls p, loops_noLoop (e26_loop p) _ _, fun _ => by simp [formC, SV.alL, SV.al], fun σ => by simp only [denL, den, formC], gives_giv hg⟩
  · cases hg

end Go.X
end

section
set_option linter.unusedVariables false
open Go Go.Ev Go.Proofs
namespace Go.X

theorem toList_loop (bs : ByteArray) (n : Nat) : ∀ i r, bs.size - i = n → ByteArray.toList.loop bs i r = r.reverse ++ bs.data.toList.drop i := by
  induction n with
  | zero =>
    intro i r h
    rw [ByteArray.toList.loop, if_neg (by omega)]
    rw [List.drop_eq_nil_of_le (by simp; have : bs.data.size = bs.size := rfl; omega), List.append_nil]
  | succ n ih =>
    intro i r h
    rw [ByteArray.toList.loop, if_pos (by omega), ih (i + 1) _ (by omega)]
    have hi : i < bs.data.toList.length := by simp; have : bs.data.size = bs.size := rfl; omega
    rw [List.drop_eq_getElem_cons hi]
    have e : bs.get! i = bs.data.toList[i] := by
      have hs : i < bs.data.size := by simpa using hi
      rw [Array.getElem_toList]
      exact getElem!_pos bs.data i hs
    rw [e]
    simp

theorem toList_data (s : ByteArray) : s.toList = s.data.toList := by
  unfold ByteArray.toList
  rw [toList_loop s s.size 0 [] (by omega)]
  simp

theorem seq_iff (s t : ByteArray) : seq s t = true ↔ s = t := by
  unfold seq
  rw [toList_data, toList_data, beq_iff_eq]
  constructor
  · intro h
    exact ByteArray.ext (Array.toList_inj.1 h)
  · rintro rfl
    rfl
theorem seq_eq (s t : ByteArray) : seq s t = decide (s = t) := by
  by_cases h : s = t
  · rw [decide_eq_true h]; exact (seq_iff s t).2 h
  · rw [decide_eq_false h]
    cases hb : seq s t with
    | false => rfl
    | true => exact absurd ((seq_iff s t).1 hb) h

theorem S_size (l : List Int) : (S l).size = l.length := by simp [S, ByteArray.size]
def bytesOk (l : List Int) : Prop := ∀ b, b ∈ l → 0 ≤ b ∧ b < 256
theorem S_chr {l : List Int} (h : bytesOk l) (j : Nat) (hj : j < l.length) : chr (S l) j = l.getD j 0 := by
  unfold chr S
  have hb := h l[j] (List.getElem_mem hj)
  simp [Array.getD_eq_getD_getElem?, List.getD, hj]
  omega

theorem ba_ext {s t : ByteArray} (hs : s.size = t.size) (h : ∀ j, j < s.size → chr s j = chr t j) : s = t := by
  apply ByteArray.ext
  apply Array.ext
  · exact hs
  · intro i h1 h2
    have := h i h1
    unfold chr at this
    rw [Array.getD_eq_getD_getElem?, Array.getElem?_eq_getElem h1, Array.getD_eq_getD_getElem?, Array.getElem?_eq_getElem h2] at this
    simp only [Option.getD_some] at this
    exact UInt8.toNat_inj.1 (by omega)

/-- to begin with some bytes -/
theorem starts_iff {s : ByteArray} {l : List Int} (h : bytesOk l) : starts s l ↔ (S l).size ≤ s.size ∧ s.extract 0 (S l).size = S l := by
  constructor
  · rintro ⟨h1, h2⟩
    rw [S_size]
    refine ⟨h1, ba_ext ?_ fun j hj => ?_⟩
    · rw [S_size, ByteArray.size_extract]; omega
    · rw [ByteArray.size_extract] at hj
      rw [chr_extract s 0 l.length j h1 (by omega), Nat.zero_add, h2 j (by omega), S_chr h j (by omega)]
  · rintro ⟨h1, h2⟩
    rw [S_size] at h1 h2
    refine ⟨h1, fun j hj => ?_⟩
    rw [← S_chr h j hj, ← h2, chr_extract s 0 l.length j h1 (by omega), Nat.zero_add]

theorem rexI_rng {w m l : Int} (hw : w = 4 ∨ w = 8) : 0 ≤ rexI w m l ∧ rexI w m l < 256 := by
  unfold rexI
  cases cm .eql w 8 <;> cases cm .geq m 8 <;> cases cm .geq l 8 <;> simp
theorem modI_rng {d m l : Int} (hd : d = 192 ∨ d = 128) : 0 ≤ modI d m l ∧ modI d m l < 256 := by
  unfold modI
  rcases hd with rfl | rfl <;> omega
theorem tail_rng {n : Int} {m : Nat} {b : Int} (h : b ∈ tailL n m) : 0 ≤ b ∧ b < 256 := by
  simp only [tailL, List.mem_map] at h
  obtain ⟨j, _, rfl⟩ := h
  exact bat_range n j

theorem rng_1 {w rd rs n : Int} (he : errX 1 w rd rs n = 0) : bytesOk (encL 1 w rd rs n) := by
  have hE : errX 1 w rd rs n = (bif (decide (w = 4) || decide (w = 8)) && ((true || decide (w = 0)) && (regX rd && (regX rs && decide (n = 0)))) then (bif ((true) || false) then 0 else 10) else 1) := by kernel_rfl
  rw [hE] at he
  obtain ⟨hA, hF⟩ := err0 he
  have hL : encL 1 w rd rs n = [rexI w rs rd, 137, modI 192 rs rd] ++ tailL n 0 := by kernel_rfl
  simp [regX, condX] at hA
  have hw : w = 4 ∨ w = 8 := by omega
  rw [hL]
  intro b hb
  rcases List.mem_append.1 hb with hb | hb
  · simp only [List.mem_cons, List.not_mem_nil, or_false] at hb
    rcases hb with rfl | rfl | rfl
    · exact rexI_rng hw
    · omega
    · exact modI_rng (.inl rfl)
  · exact tail_rng hb

theorem rng_2 {w rd rs n : Int} (he : errX 2 w rd rs n = 0) : bytesOk (encL 2 w rd rs n) := by
  have hE : errX 2 w rd rs n = (bif (decide (w = 4) || decide (w = 8)) && ((false || decide (w = 8)) && (regX rd && (decide (rs = 0) && (true || decide (n = 0))))) then (bif ((decide (-2147483648 ≤ n) && decide (n ≤ 2147483647)) || false) then 0 else 10) else 1) := by kernel_rfl
  rw [hE] at he
  obtain ⟨hA, hF⟩ := err0 he
  have hL : encL 2 w rd rs n = [rexI w 0 rd, 199, modI 192 0 rd] ++ tailL n 4 := by kernel_rfl
  simp [regX, condX] at hA
  have hw : w = 4 ∨ w = 8 := by omega
  rw [hL]
  intro b hb
  rcases List.mem_append.1 hb with hb | hb
  · simp only [List.mem_cons, List.not_mem_nil, or_false] at hb
    rcases hb with rfl | rfl | rfl
    · exact rexI_rng hw
    · omega
    · exact modI_rng (.inl rfl)
  · exact tail_rng hb

theorem rng_3 {w rd rs n : Int} (he : errX 3 w rd rs n = 0) : bytesOk (encL 3 w rd rs n) := by
  have hE : errX 3 w rd rs n = (bif (decide (w = 4) || decide (w = 8)) && ((false || decide (w = 8)) && (regX rd && decide (rs = 0))) then (bif ((true) || false) then 0 else 10) else 1) := by kernel_rfl
  rw [hE] at he
  obtain ⟨hA, hF⟩ := err0 he
  have hL : encL 3 w rd rs n = [rexI w 0 rd, 184 + rd % 8] ++ tailL n 8 := by kernel_rfl
  simp [regX, condX] at hA
  have hw : w = 4 ∨ w = 8 := by omega
  rw [hL]
  intro b hb
  rcases List.mem_append.1 hb with hb | hb
  · simp only [List.mem_cons, List.not_mem_nil, or_false] at hb
    rcases hb with rfl | rfl
    · exact rexI_rng hw
    · omega
  · exact tail_rng hb

theorem rng_4 {w rd rs n : Int} (he : errX 4 w rd rs n = 0) : bytesOk (encL 4 w rd rs n) := by
  have hE : errX 4 w rd rs n = (bif (decide (w = 4) || decide (w = 8)) && ((true || decide (w = 0)) && (regX rd && (regX rs && decide (n = 0)))) then (bif ((true) || false) then 0 else 10) else 1) := by kernel_rfl
  rw [hE] at he
  obtain ⟨hA, hF⟩ := err0 he
  have hL : encL 4 w rd rs n = [rexI w rs rd, 1, modI 192 rs rd] ++ tailL n 0 := by kernel_rfl
  simp [regX, condX] at hA
  have hw : w = 4 ∨ w = 8 := by omega
  rw [hL]
  intro b hb
  rcases List.mem_append.1 hb with hb | hb
  · simp only [List.mem_cons, List.not_mem_nil, or_false] at hb
    rcases hb with rfl | rfl | rfl
    · exact rexI_rng hw
    · omega
    · exact modI_rng (.inl rfl)
  · exact tail_rng hb

theorem rng_5 {w rd rs n : Int} (he : errX 5 w rd rs n = 0) : bytesOk (encL 5 w rd rs n) := by
  have hE : errX 5 w rd rs n = (bif (decide (w = 4) || decide (w = 8)) && ((true || decide (w = 0)) && (regX rd && (regX rs && decide (n = 0)))) then (bif ((true) || false) then 0 else 10) else 1) := by kernel_rfl
  rw [hE] at he
  obtain ⟨hA, hF⟩ := err0 he
  have hL : encL 5 w rd rs n = [rexI w rs rd, 41, modI 192 rs rd] ++ tailL n 0 := by kernel_rfl
  simp [regX, condX] at hA
  have hw : w = 4 ∨ w = 8 := by omega
  rw [hL]
  intro b hb
  rcases List.mem_append.1 hb with hb | hb
  · simp only [List.mem_cons, List.not_mem_nil, or_false] at hb
    rcases hb with rfl | rfl | rfl
    · exact rexI_rng hw
    · omega
    · exact modI_rng (.inl rfl)
  · exact tail_rng hb

theorem rng_6 {w rd rs n : Int} (he : errX 6 w rd rs n = 0) : bytesOk (encL 6 w rd rs n) := by
  have hE : errX 6 w rd rs n = (bif (decide (w = 4) || decide (w = 8)) && ((true || decide (w = 0)) && (regX rd && (regX rs && decide (n = 0)))) then (bif ((true) || false) then 0 else 10) else 1) := by kernel_rfl
  rw [hE] at he
  obtain ⟨hA, hF⟩ := err0 he
  have hL : encL 6 w rd rs n = [rexI w rs rd, 33, modI 192 rs rd] ++ tailL n 0 := by kernel_rfl
  simp [regX, condX] at hA
  have hw : w = 4 ∨ w = 8 := by omega
  rw [hL]
  intro b hb
  rcases List.mem_append.1 hb with hb | hb
  · simp only [List.mem_cons, List.not_mem_nil, or_false] at hb
    rcases hb with rfl | rfl | rfl
    · exact rexI_rng hw
    · omega
    · exact modI_rng (.inl rfl)
  · exact tail_rng hb

theorem rng_7 {w rd rs n : Int} (he : errX 7 w rd rs n = 0) : bytesOk (encL 7 w rd rs n) := by
  have hE : errX 7 w rd rs n = (bif (decide (w = 4) || decide (w = 8)) && ((true || decide (w = 0)) && (regX rd && (regX rs && decide (n = 0)))) then (bif ((true) || false) then 0 else 10) else 1) := by kernel_rfl
  rw [hE] at he
  obtain ⟨hA, hF⟩ := err0 he
  have hL : encL 7 w rd rs n = [rexI w rs rd, 9, modI 192 rs rd] ++ tailL n 0 := by kernel_rfl
  simp [regX, condX] at hA
  have hw : w = 4 ∨ w = 8 := by omega
  rw [hL]
  intro b hb
  rcases List.mem_append.1 hb with hb | hb
  · simp only [List.mem_cons, List.not_mem_nil, or_false] at hb
    rcases hb with rfl | rfl | rfl
    · exact rexI_rng hw
    · omega
    · exact modI_rng (.inl rfl)
  · exact tail_rng hb

theorem rng_8 {w rd rs n : Int} (he : errX 8 w rd rs n = 0) : bytesOk (encL 8 w rd rs n) := by
  have hE : errX 8 w rd rs n = (bif (decide (w = 4) || decide (w = 8)) && ((true || decide (w = 0)) && (regX rd && (regX rs && decide (n = 0)))) then (bif ((true) || false) then 0 else 10) else 1) := by kernel_rfl
  rw [hE] at he
  obtain ⟨hA, hF⟩ := err0 he
  have hL : encL 8 w rd rs n = [rexI w rs rd, 49, modI 192 rs rd] ++ tailL n 0 := by kernel_rfl
  simp [regX, condX] at hA
  have hw : w = 4 ∨ w = 8 := by omega
  rw [hL]
  intro b hb
  rcases List.mem_append.1 hb with hb | hb
  · simp only [List.mem_cons, List.not_mem_nil, or_false] at hb
    rcases hb with rfl | rfl | rfl
    · exact rexI_rng hw
    · omega
    · exact modI_rng (.inl rfl)
  · exact tail_rng hb

theorem rng_9 {w rd rs n : Int} (he : errX 9 w rd rs n = 0) : bytesOk (encL 9 w rd rs n) := by
  have hE : errX 9 w rd rs n = (bif (decide (w = 4) || decide (w = 8)) && ((true || decide (w = 0)) && (regX rd && (regX rs && decide (n = 0)))) then (bif ((true) || false) then 0 else 10) else 1) := by kernel_rfl
  rw [hE] at he
  obtain ⟨hA, hF⟩ := err0 he
  have hL : encL 9 w rd rs n = [rexI w rs rd, 57, modI 192 rs rd] ++ tailL n 0 := by kernel_rfl
  simp [regX, condX] at hA
  have hw : w = 4 ∨ w = 8 := by omega
  rw [hL]
  intro b hb
  rcases List.mem_append.1 hb with hb | hb
  · simp only [List.mem_cons, List.not_mem_nil, or_false] at hb
    rcases hb with rfl | rfl | rfl
    · exact rexI_rng hw
    · omega
    · exact modI_rng (.inl rfl)
  · exact tail_rng hb

theorem rng_10 {w rd rs n : Int} (he : errX 10 w rd rs n = 0) : bytesOk (encL 10 w rd rs n) := by
  have hE : errX 10 w rd rs n = (bif (decide (w = 4) || decide (w = 8)) && ((true || decide (w = 0)) && (regX rd && (regX rs && decide (n = 0)))) then (bif ((true) || false) then 0 else 10) else 1) := by kernel_rfl
  rw [hE] at he
  obtain ⟨hA, hF⟩ := err0 he
  have hL : encL 10 w rd rs n = [rexI w rd rs, 15, 175, modI 192 rd rs] ++ tailL n 0 := by kernel_rfl
  simp [regX, condX] at hA
  have hw : w = 4 ∨ w = 8 := by omega
  rw [hL]
  intro b hb
  rcases List.mem_append.1 hb with hb | hb
  · simp only [List.mem_cons, List.not_mem_nil, or_false] at hb
    rcases hb with rfl | rfl | rfl | rfl
    · exact rexI_rng hw
    · omega
    · omega
    · exact modI_rng (.inl rfl)
  · exact tail_rng hb

theorem rng_11 {w rd rs n : Int} (he : errX 11 w rd rs n = 0) : bytesOk (encL 11 w rd rs n) := by
  have hE : errX 11 w rd rs n = (bif (decide (w = 4) || decide (w = 8)) && ((true || decide (w = 0)) && (regX rd && (decide (rs = 0) && (false || decide (n = 0))))) then (bif ((true) || false) then 0 else 10) else 1) := by kernel_rfl
  rw [hE] at he
  obtain ⟨hA, hF⟩ := err0 he
  have hL : encL 11 w rd rs n = [rexI w 0 rd, 247, modI 192 3 rd] ++ tailL n 0 := by kernel_rfl
  simp [regX, condX] at hA
  have hw : w = 4 ∨ w = 8 := by omega
  rw [hL]
  intro b hb
  rcases List.mem_append.1 hb with hb | hb
  · simp only [List.mem_cons, List.not_mem_nil, or_false] at hb
    rcases hb with rfl | rfl | rfl
    · exact rexI_rng hw
    · omega
    · exact modI_rng (.inl rfl)
  · exact tail_rng hb

theorem rng_12 {w rd rs n : Int} (he : errX 12 w rd rs n = 0) : bytesOk (encL 12 w rd rs n) := by
  have hE : errX 12 w rd rs n = (bif (decide (w = 4) || decide (w = 8)) && ((true || decide (w = 0)) && (regX rd && (decide (rs = 0) && (false || decide (n = 0))))) then (bif ((true) || false) then 0 else 10) else 1) := by kernel_rfl
  rw [hE] at he
  obtain ⟨hA, hF⟩ := err0 he
  have hL : encL 12 w rd rs n = [rexI w 0 rd, 247, modI 192 2 rd] ++ tailL n 0 := by kernel_rfl
  simp [regX, condX] at hA
  have hw : w = 4 ∨ w = 8 := by omega
  rw [hL]
  intro b hb
  rcases List.mem_append.1 hb with hb | hb
  · simp only [List.mem_cons, List.not_mem_nil, or_false] at hb
    rcases hb with rfl | rfl | rfl
    · exact rexI_rng hw
    · omega
    · exact modI_rng (.inl rfl)
  · exact tail_rng hb

theorem rng_13 {w rd rs n : Int} (he : errX 13 w rd rs n = 0) : bytesOk (encL 13 w rd rs n) := by
  have hE : errX 13 w rd rs n = (bif (decide (w = 4) || decide (w = 8)) && ((true || decide (w = 0)) && (regX rd && (decide (rs = 0) && (false || decide (n = 0))))) then (bif ((true) || false) then 0 else 10) else 1) := by kernel_rfl
  rw [hE] at he
  obtain ⟨hA, hF⟩ := err0 he
  have hL : encL 13 w rd rs n = [rexI w 0 rd, 247, modI 192 7 rd] ++ tailL n 0 := by kernel_rfl
  simp [regX, condX] at hA
  have hw : w = 4 ∨ w = 8 := by omega
  rw [hL]
  intro b hb
  rcases List.mem_append.1 hb with hb | hb
  · simp only [List.mem_cons, List.not_mem_nil, or_false] at hb
    rcases hb with rfl | rfl | rfl
    · exact rexI_rng hw
    · omega
    · exact modI_rng (.inl rfl)
  · exact tail_rng hb

theorem rng_14 {w rd rs n : Int} (he : errX 14 w rd rs n = 0) : bytesOk (encL 14 w rd rs n) := by
  have hE : errX 14 w rd rs n = (bif (decide (w = 4) || decide (w = 8)) && ((true || decide (w = 0)) && (regX rd && (decide (rs = 0) && (false || decide (n = 0))))) then (bif ((true) || false) then 0 else 10) else 1) := by kernel_rfl
  rw [hE] at he
  obtain ⟨hA, hF⟩ := err0 he
  have hL : encL 14 w rd rs n = [rexI w 0 rd, 247, modI 192 6 rd] ++ tailL n 0 := by kernel_rfl
  simp [regX, condX] at hA
  have hw : w = 4 ∨ w = 8 := by omega
  rw [hL]
  intro b hb
  rcases List.mem_append.1 hb with hb | hb
  · simp only [List.mem_cons, List.not_mem_nil, or_false] at hb
    rcases hb with rfl | rfl | rfl
    · exact rexI_rng hw
    · omega
    · exact modI_rng (.inl rfl)
  · exact tail_rng hb

theorem rng_15 {w rd rs n : Int} (he : errX 15 w rd rs n = 0) : bytesOk (encL 15 w rd rs n) := by
  have hE : errX 15 w rd rs n = (bif (decide (w = 4) || decide (w = 8)) && ((true || decide (w = 0)) && (regX rd && (decide (rs = 0) && (false || decide (n = 0))))) then (bif ((true) || false) then 0 else 10) else 1) := by kernel_rfl
  rw [hE] at he
  obtain ⟨hA, hF⟩ := err0 he
  have hL : encL 15 w rd rs n = [rexI w 0 rd, 211, modI 192 4 rd] ++ tailL n 0 := by kernel_rfl
  simp [regX, condX] at hA
  have hw : w = 4 ∨ w = 8 := by omega
  rw [hL]
  intro b hb
  rcases List.mem_append.1 hb with hb | hb
  · simp only [List.mem_cons, List.not_mem_nil, or_false] at hb
    rcases hb with rfl | rfl | rfl
    · exact rexI_rng hw
    · omega
    · exact modI_rng (.inl rfl)
  · exact tail_rng hb

theorem rng_16 {w rd rs n : Int} (he : errX 16 w rd rs n = 0) : bytesOk (encL 16 w rd rs n) := by
  have hE : errX 16 w rd rs n = (bif (decide (w = 4) || decide (w = 8)) && ((true || decide (w = 0)) && (regX rd && (decide (rs = 0) && (false || decide (n = 0))))) then (bif ((true) || false) then 0 else 10) else 1) := by kernel_rfl
  rw [hE] at he
  obtain ⟨hA, hF⟩ := err0 he
  have hL : encL 16 w rd rs n = [rexI w 0 rd, 211, modI 192 5 rd] ++ tailL n 0 := by kernel_rfl
  simp [regX, condX] at hA
  have hw : w = 4 ∨ w = 8 := by omega
  rw [hL]
  intro b hb
  rcases List.mem_append.1 hb with hb | hb
  · simp only [List.mem_cons, List.not_mem_nil, or_false] at hb
    rcases hb with rfl | rfl | rfl
    · exact rexI_rng hw
    · omega
    · exact modI_rng (.inl rfl)
  · exact tail_rng hb

theorem rng_17 {w rd rs n : Int} (he : errX 17 w rd rs n = 0) : bytesOk (encL 17 w rd rs n) := by
  have hE : errX 17 w rd rs n = (bif (decide (w = 4) || decide (w = 8)) && ((true || decide (w = 0)) && (regX rd && (decide (rs = 0) && (false || decide (n = 0))))) then (bif ((true) || false) then 0 else 10) else 1) := by kernel_rfl
  rw [hE] at he
  obtain ⟨hA, hF⟩ := err0 he
  have hL : encL 17 w rd rs n = [rexI w 0 rd, 211, modI 192 7 rd] ++ tailL n 0 := by kernel_rfl
  simp [regX, condX] at hA
  have hw : w = 4 ∨ w = 8 := by omega
  rw [hL]
  intro b hb
  rcases List.mem_append.1 hb with hb | hb
  · simp only [List.mem_cons, List.not_mem_nil, or_false] at hb
    rcases hb with rfl | rfl | rfl
    · exact rexI_rng hw
    · omega
    · exact modI_rng (.inl rfl)
  · exact tail_rng hb

theorem rng_18 {w rd rs n : Int} (he : errX 18 w rd rs n = 0) : bytesOk (encL 18 w rd rs n) := by
  have hE : errX 18 w rd rs n = (bif (decide (w = 4) || decide (w = 8)) && ((true || decide (w = 0)) && (decide (rd = 0) && (decide (rs = 0) && decide (n = 0)))) then (bif ((true) || false) then 0 else 10) else 1) := by kernel_rfl
  rw [hE] at he
  obtain ⟨hA, hF⟩ := err0 he
  have hL : encL 18 w rd rs n = [rexI w 0 0, 153] ++ tailL n 0 := by kernel_rfl
  simp [regX, condX] at hA
  have hw : w = 4 ∨ w = 8 := by omega
  rw [hL]
  intro b hb
  rcases List.mem_append.1 hb with hb | hb
  · simp only [List.mem_cons, List.not_mem_nil, or_false] at hb
    rcases hb with rfl | rfl
    · exact rexI_rng hw
    · omega
  · exact tail_rng hb

theorem rng_19 {w rd rs n : Int} (he : errX 19 w rd rs n = 0) : bytesOk (encL 19 w rd rs n) := by
  have hE : errX 19 w rd rs n = (bif (decide (w = 4) || decide (w = 8)) && ((false || decide (w = 8)) && (regX rd && (decide (rs = 0) && (true || decide (n = 0))))) then (bif ((decide (-2147483648 ≤ n) && decide (n ≤ 2147483647)) || false) then 0 else 10) else 1) := by kernel_rfl
  rw [hE] at he
  obtain ⟨hA, hF⟩ := err0 he
  have hL : encL 19 w rd rs n = [rexI w 0 rd, 129, modI 192 0 rd] ++ tailL n 4 := by kernel_rfl
  simp [regX, condX] at hA
  have hw : w = 4 ∨ w = 8 := by omega
  rw [hL]
  intro b hb
  rcases List.mem_append.1 hb with hb | hb
  · simp only [List.mem_cons, List.not_mem_nil, or_false] at hb
    rcases hb with rfl | rfl | rfl
    · exact rexI_rng hw
    · omega
    · exact modI_rng (.inl rfl)
  · exact tail_rng hb

theorem rng_20 {w rd rs n : Int} (he : errX 20 w rd rs n = 0) : bytesOk (encL 20 w rd rs n) := by
  have hE : errX 20 w rd rs n = (bif (decide (w = 4) || decide (w = 8)) && ((false || decide (w = 4)) && (regX rd && (decide (rs = 0) && condX n))) then (bif ((true) || true) then 0 else 10) else 1) := by kernel_rfl
  rw [hE] at he
  obtain ⟨hA, hF⟩ := err0 he
  have hL : encL 20 w rd rs n = [rexI w 0 rd, 15, 144 + n, modI 192 0 rd] ++ tailL n 0 := by kernel_rfl
  simp [regX, condX] at hA
  have hw : w = 4 ∨ w = 8 := by omega
  rw [hL]
  intro b hb
  rcases List.mem_append.1 hb with hb | hb
  · simp only [List.mem_cons, List.not_mem_nil, or_false] at hb
    rcases hb with rfl | rfl | rfl | rfl
    · exact rexI_rng hw
    · omega
    · omega
    · exact modI_rng (.inl rfl)
  · exact tail_rng hb

theorem rng_21 {w rd rs n : Int} (he : errX 21 w rd rs n = 0) : bytesOk (encL 21 w rd rs n) := by
  have hE : errX 21 w rd rs n = (bif (decide (w = 4) || decide (w = 8)) && ((false || decide (w = 8)) && (regX rd && (regX rs && decide (n = 0)))) then (bif ((true) || false) then 0 else 10) else 1) := by kernel_rfl
  rw [hE] at he
  obtain ⟨hA, hF⟩ := err0 he
  have hL : encL 21 w rd rs n = [rexI w rd rs, 15, 182, modI 192 rd rs] ++ tailL n 0 := by kernel_rfl
  simp [regX, condX] at hA
  have hw : w = 4 ∨ w = 8 := by omega
  rw [hL]
  intro b hb
  rcases List.mem_append.1 hb with hb | hb
  · simp only [List.mem_cons, List.not_mem_nil, or_false] at hb
    rcases hb with rfl | rfl | rfl | rfl
    · exact rexI_rng hw
    · omega
    · omega
    · exact modI_rng (.inl rfl)
  · exact tail_rng hb

theorem rng_22 {w rd rs n : Int} (he : errX 22 w rd rs n = 0) : bytesOk (encL 22 w rd rs n) := by
  have hE : errX 22 w rd rs n = (bif (decide (w = 4) || decide (w = 8)) && ((false || decide (w = 8)) && (regX rd && (regX rs && decide (n = 0)))) then (bif ((true) || false) then 0 else 10) else 1) := by kernel_rfl
  rw [hE] at he
  obtain ⟨hA, hF⟩ := err0 he
  have hL : encL 22 w rd rs n = [rexI w rd rs, 15, 183, modI 192 rd rs] ++ tailL n 0 := by kernel_rfl
  simp [regX, condX] at hA
  have hw : w = 4 ∨ w = 8 := by omega
  rw [hL]
  intro b hb
  rcases List.mem_append.1 hb with hb | hb
  · simp only [List.mem_cons, List.not_mem_nil, or_false] at hb
    rcases hb with rfl | rfl | rfl | rfl
    · exact rexI_rng hw
    · omega
    · omega
    · exact modI_rng (.inl rfl)
  · exact tail_rng hb

theorem rng_23 {w rd rs n : Int} (he : errX 23 w rd rs n = 0) : bytesOk (encL 23 w rd rs n) := by
  have hE : errX 23 w rd rs n = (bif (decide (w = 4) || decide (w = 8)) && ((false || decide (w = 8)) && (regX rd && (regX rs && decide (n = 0)))) then (bif ((true) || false) then 0 else 10) else 1) := by kernel_rfl
  rw [hE] at he
  obtain ⟨hA, hF⟩ := err0 he
  have hL : encL 23 w rd rs n = [rexI w rd rs, 15, 190, modI 192 rd rs] ++ tailL n 0 := by kernel_rfl
  simp [regX, condX] at hA
  have hw : w = 4 ∨ w = 8 := by omega
  rw [hL]
  intro b hb
  rcases List.mem_append.1 hb with hb | hb
  · simp only [List.mem_cons, List.not_mem_nil, or_false] at hb
    rcases hb with rfl | rfl | rfl | rfl
    · exact rexI_rng hw
    · omega
    · omega
    · exact modI_rng (.inl rfl)
  · exact tail_rng hb

theorem rng_24 {w rd rs n : Int} (he : errX 24 w rd rs n = 0) : bytesOk (encL 24 w rd rs n) := by
  have hE : errX 24 w rd rs n = (bif (decide (w = 4) || decide (w = 8)) && ((false || decide (w = 8)) && (regX rd && (regX rs && decide (n = 0)))) then (bif ((true) || false) then 0 else 10) else 1) := by kernel_rfl
  rw [hE] at he
  obtain ⟨hA, hF⟩ := err0 he
  have hL : encL 24 w rd rs n = [rexI w rd rs, 15, 191, modI 192 rd rs] ++ tailL n 0 := by kernel_rfl
  simp [regX, condX] at hA
  have hw : w = 4 ∨ w = 8 := by omega
  rw [hL]
  intro b hb
  rcases List.mem_append.1 hb with hb | hb
  · simp only [List.mem_cons, List.not_mem_nil, or_false] at hb
    rcases hb with rfl | rfl | rfl | rfl
    · exact rexI_rng hw
    · omega
    · omega
    · exact modI_rng (.inl rfl)
  · exact tail_rng hb

theorem rng_25 {w rd rs n : Int} (he : errX 25 w rd rs n = 0) : bytesOk (encL 25 w rd rs n) := by
  have hE : errX 25 w rd rs n = (bif (decide (w = 4) || decide (w = 8)) && ((false || decide (w = 8)) && (regX rd && (regX rs && decide (n = 0)))) then (bif ((true) || false) then 0 else 10) else 1) := by kernel_rfl
  rw [hE] at he
  obtain ⟨hA, hF⟩ := err0 he
  have hL : encL 25 w rd rs n = [rexI w rd rs, 99, modI 192 rd rs] ++ tailL n 0 := by kernel_rfl
  simp [regX, condX] at hA
  have hw : w = 4 ∨ w = 8 := by omega
  rw [hL]
  intro b hb
  rcases List.mem_append.1 hb with hb | hb
  · simp only [List.mem_cons, List.not_mem_nil, or_false] at hb
    rcases hb with rfl | rfl | rfl
    · exact rexI_rng hw
    · omega
    · exact modI_rng (.inl rfl)
  · exact tail_rng hb

theorem rng_26 {w rd rs n : Int} (he : errX 26 w rd rs n = 0) : bytesOk (encL 26 w rd rs n) := by
  have hE : errX 26 w rd rs n = (bif (decide (w = 4) || decide (w = 8)) && ((false || decide (w = 8)) && (regX rd && (regX rs && !decide (rs % 8 = 4)))) then (bif ((decide (-2147483648 ≤ n) && decide (n ≤ 2147483647)) || false) then 0 else 10) else 1) := by kernel_rfl
  rw [hE] at he
  obtain ⟨hA, hF⟩ := err0 he
  have hL : encL 26 w rd rs n = [rexI w rd rs, 139, modI 128 rd rs] ++ tailL n 4 := by kernel_rfl
  simp [regX, condX] at hA
  have hw : w = 4 ∨ w = 8 := by omega
  rw [hL]
  intro b hb
  rcases List.mem_append.1 hb with hb | hb
  · simp only [List.mem_cons, List.not_mem_nil, or_false] at hb
    rcases hb with rfl | rfl | rfl
    · exact rexI_rng hw
    · omega
    · exact modI_rng (.inr rfl)
  · exact tail_rng hb

theorem rng_27 {w rd rs n : Int} (he : errX 27 w rd rs n = 0) : bytesOk (encL 27 w rd rs n) := by
  have hE : errX 27 w rd rs n = (bif (decide (w = 4) || decide (w = 8)) && ((false || decide (w = 4)) && (regX rd && (regX rs && !decide (rs % 8 = 4)))) then (bif ((decide (-2147483648 ≤ n) && decide (n ≤ 2147483647)) || false) then 0 else 10) else 1) := by kernel_rfl
  rw [hE] at he
  obtain ⟨hA, hF⟩ := err0 he
  have hL : encL 27 w rd rs n = [rexI w rd rs, 139, modI 128 rd rs] ++ tailL n 4 := by kernel_rfl
  simp [regX, condX] at hA
  have hw : w = 4 ∨ w = 8 := by omega
  rw [hL]
  intro b hb
  rcases List.mem_append.1 hb with hb | hb
  · simp only [List.mem_cons, List.not_mem_nil, or_false] at hb
    rcases hb with rfl | rfl | rfl
    · exact rexI_rng hw
    · omega
    · exact modI_rng (.inr rfl)
  · exact tail_rng hb

theorem rng_28 {w rd rs n : Int} (he : errX 28 w rd rs n = 0) : bytesOk (encL 28 w rd rs n) := by
  have hE : errX 28 w rd rs n = (bif (decide (w = 4) || decide (w = 8)) && ((false || decide (w = 8)) && (regX rd && (regX rs && !decide (rs % 8 = 4)))) then (bif ((decide (-2147483648 ≤ n) && decide (n ≤ 2147483647)) || false) then 0 else 10) else 1) := by kernel_rfl
  rw [hE] at he
  obtain ⟨hA, hF⟩ := err0 he
  have hL : encL 28 w rd rs n = [rexI w rd rs, 99, modI 128 rd rs] ++ tailL n 4 := by kernel_rfl
  simp [regX, condX] at hA
  have hw : w = 4 ∨ w = 8 := by omega
  rw [hL]
  intro b hb
  rcases List.mem_append.1 hb with hb | hb
  · simp only [List.mem_cons, List.not_mem_nil, or_false] at hb
    rcases hb with rfl | rfl | rfl
    · exact rexI_rng hw
    · omega
    · exact modI_rng (.inr rfl)
  · exact tail_rng hb

theorem rng_29 {w rd rs n : Int} (he : errX 29 w rd rs n = 0) : bytesOk (encL 29 w rd rs n) := by
  have hE : errX 29 w rd rs n = (bif (decide (w = 4) || decide (w = 8)) && ((false || decide (w = 8)) && (regX rd && (regX rs && !decide (rs % 8 = 4)))) then (bif ((decide (-2147483648 ≤ n) && decide (n ≤ 2147483647)) || false) then 0 else 10) else 1) := by kernel_rfl
  rw [hE] at he
  obtain ⟨hA, hF⟩ := err0 he
  have hL : encL 29 w rd rs n = [rexI w rd rs, 15, 191, modI 128 rd rs] ++ tailL n 4 := by kernel_rfl
  simp [regX, condX] at hA
  have hw : w = 4 ∨ w = 8 := by omega
  rw [hL]
  intro b hb
  rcases List.mem_append.1 hb with hb | hb
  · simp only [List.mem_cons, List.not_mem_nil, or_false] at hb
    rcases hb with rfl | rfl | rfl | rfl
    · exact rexI_rng hw
    · omega
    · omega
    · exact modI_rng (.inr rfl)
  · exact tail_rng hb

theorem rng_30 {w rd rs n : Int} (he : errX 30 w rd rs n = 0) : bytesOk (encL 30 w rd rs n) := by
  have hE : errX 30 w rd rs n = (bif (decide (w = 4) || decide (w = 8)) && ((false || decide (w = 8)) && (regX rd && (regX rs && !decide (rs % 8 = 4)))) then (bif ((decide (-2147483648 ≤ n) && decide (n ≤ 2147483647)) || false) then 0 else 10) else 1) := by kernel_rfl
  rw [hE] at he
  obtain ⟨hA, hF⟩ := err0 he
  have hL : encL 30 w rd rs n = [rexI w rd rs, 15, 190, modI 128 rd rs] ++ tailL n 4 := by kernel_rfl
  simp [regX, condX] at hA
  have hw : w = 4 ∨ w = 8 := by omega
  rw [hL]
  intro b hb
  rcases List.mem_append.1 hb with hb | hb
  · simp only [List.mem_cons, List.not_mem_nil, or_false] at hb
    rcases hb with rfl | rfl | rfl | rfl
    · exact rexI_rng hw
    · omega
    · omega
    · exact modI_rng (.inr rfl)
  · exact tail_rng hb

theorem rng_31 {w rd rs n : Int} (he : errX 31 w rd rs n = 0) : bytesOk (encL 31 w rd rs n) := by
  have hE : errX 31 w rd rs n = (bif (decide (w = 4) || decide (w = 8)) && ((false || decide (w = 8)) && (regX rd && (regX rs && !decide (rs % 8 = 4)))) then (bif ((decide (-2147483648 ≤ n) && decide (n ≤ 2147483647)) || false) then 0 else 10) else 1) := by kernel_rfl
  rw [hE] at he
  obtain ⟨hA, hF⟩ := err0 he
  have hL : encL 31 w rd rs n = [rexI w rd rs, 15, 183, modI 128 rd rs] ++ tailL n 4 := by kernel_rfl
  simp [regX, condX] at hA
  have hw : w = 4 ∨ w = 8 := by omega
  rw [hL]
  intro b hb
  rcases List.mem_append.1 hb with hb | hb
  · simp only [List.mem_cons, List.not_mem_nil, or_false] at hb
    rcases hb with rfl | rfl | rfl | rfl
    · exact rexI_rng hw
    · omega
    · omega
    · exact modI_rng (.inr rfl)
  · exact tail_rng hb

theorem rng_32 {w rd rs n : Int} (he : errX 32 w rd rs n = 0) : bytesOk (encL 32 w rd rs n) := by
  have hE : errX 32 w rd rs n = (bif (decide (w = 4) || decide (w = 8)) && ((false || decide (w = 8)) && (regX rd && (regX rs && !decide (rs % 8 = 4)))) then (bif ((decide (-2147483648 ≤ n) && decide (n ≤ 2147483647)) || false) then 0 else 10) else 1) := by kernel_rfl
  rw [hE] at he
  obtain ⟨hA, hF⟩ := err0 he
  have hL : encL 32 w rd rs n = [rexI w rd rs, 15, 182, modI 128 rd rs] ++ tailL n 4 := by kernel_rfl
  simp [regX, condX] at hA
  have hw : w = 4 ∨ w = 8 := by omega
  rw [hL]
  intro b hb
  rcases List.mem_append.1 hb with hb | hb
  · simp only [List.mem_cons, List.not_mem_nil, or_false] at hb
    rcases hb with rfl | rfl | rfl | rfl
    · exact rexI_rng hw
    · omega
    · omega
    · exact modI_rng (.inr rfl)
  · exact tail_rng hb

theorem rng_33 {w rd rs n : Int} (he : errX 33 w rd rs n = 0) : bytesOk (encL 33 w rd rs n) := by
  have hE : errX 33 w rd rs n = (bif (decide (w = 4) || decide (w = 8)) && ((false || decide (w = 8)) && (regX rd && (regX rs && !decide (rs % 8 = 4)))) then (bif ((decide (-2147483648 ≤ n) && decide (n ≤ 2147483647)) || false) then 0 else 10) else 1) := by kernel_rfl
  rw [hE] at he
  obtain ⟨hA, hF⟩ := err0 he
  have hL : encL 33 w rd rs n = [rexI w rd rs, 137, modI 128 rd rs] ++ tailL n 4 := by kernel_rfl
  simp [regX, condX] at hA
  have hw : w = 4 ∨ w = 8 := by omega
  rw [hL]
  intro b hb
  rcases List.mem_append.1 hb with hb | hb
  · simp only [List.mem_cons, List.not_mem_nil, or_false] at hb
    rcases hb with rfl | rfl | rfl
    · exact rexI_rng hw
    · omega
    · exact modI_rng (.inr rfl)
  · exact tail_rng hb

theorem rng_34 {w rd rs n : Int} (he : errX 34 w rd rs n = 0) : bytesOk (encL 34 w rd rs n) := by
  have hE : errX 34 w rd rs n = (bif (decide (w = 4) || decide (w = 8)) && ((false || decide (w = 4)) && (regX rd && (regX rs && !decide (rs % 8 = 4)))) then (bif ((decide (-2147483648 ≤ n) && decide (n ≤ 2147483647)) || false) then 0 else 10) else 1) := by kernel_rfl
  rw [hE] at he
  obtain ⟨hA, hF⟩ := err0 he
  have hL : encL 34 w rd rs n = [rexI w rd rs, 137, modI 128 rd rs] ++ tailL n 4 := by kernel_rfl
  simp [regX, condX] at hA
  have hw : w = 4 ∨ w = 8 := by omega
  rw [hL]
  intro b hb
  rcases List.mem_append.1 hb with hb | hb
  · simp only [List.mem_cons, List.not_mem_nil, or_false] at hb
    rcases hb with rfl | rfl | rfl
    · exact rexI_rng hw
    · omega
    · exact modI_rng (.inr rfl)
  · exact tail_rng hb

theorem rng_35 {w rd rs n : Int} (he : errX 35 w rd rs n = 0) : bytesOk (encL 35 w rd rs n) := by
  have hE : errX 35 w rd rs n = (bif (decide (w = 4) || decide (w = 8)) && ((false || decide (w = 4)) && (regX rd && (regX rs && !decide (rs % 8 = 4)))) then (bif ((decide (-2147483648 ≤ n) && decide (n ≤ 2147483647)) || false) then 0 else 10) else 1) := by kernel_rfl
  rw [hE] at he
  obtain ⟨hA, hF⟩ := err0 he
  have hL : encL 35 w rd rs n = [102, rexI w rd rs, 137, modI 128 rd rs] ++ tailL n 4 := by kernel_rfl
  simp [regX, condX] at hA
  have hw : w = 4 ∨ w = 8 := by omega
  rw [hL]
  intro b hb
  rcases List.mem_append.1 hb with hb | hb
  · simp only [List.mem_cons, List.not_mem_nil, or_false] at hb
    rcases hb with rfl | rfl | rfl | rfl
    · omega
    · exact rexI_rng hw
    · omega
    · exact modI_rng (.inr rfl)
  · exact tail_rng hb

theorem rng_36 {w rd rs n : Int} (he : errX 36 w rd rs n = 0) : bytesOk (encL 36 w rd rs n) := by
  have hE : errX 36 w rd rs n = (bif (decide (w = 4) || decide (w = 8)) && ((false || decide (w = 4)) && (regX rd && (regX rs && !decide (rs % 8 = 4)))) then (bif ((decide (-2147483648 ≤ n) && decide (n ≤ 2147483647)) || false) then 0 else 10) else 1) := by kernel_rfl
  rw [hE] at he
  obtain ⟨hA, hF⟩ := err0 he
  have hL : encL 36 w rd rs n = [rexI w rd rs, 136, modI 128 rd rs] ++ tailL n 4 := by kernel_rfl
  simp [regX, condX] at hA
  have hw : w = 4 ∨ w = 8 := by omega
  rw [hL]
  intro b hb
  rcases List.mem_append.1 hb with hb | hb
  · simp only [List.mem_cons, List.not_mem_nil, or_false] at hb
    rcases hb with rfl | rfl | rfl
    · exact rexI_rng hw
    · omega
    · exact modI_rng (.inr rfl)
  · exact tail_rng hb

theorem rng_37 {w rd rs n : Int} (he : errX 37 w rd rs n = 0) : bytesOk (encL 37 w rd rs n) := by
  have hE : errX 37 w rd rs n = (bif (decide (w = 4) || decide (w = 8)) && ((false || decide (w = 8)) && (regX rd && (regX rs && !decide (rs % 8 = 4)))) then (bif ((decide (-2147483648 ≤ n) && decide (n ≤ 2147483647)) || false) then 0 else 10) else 1) := by kernel_rfl
  rw [hE] at he
  obtain ⟨hA, hF⟩ := err0 he
  have hL : encL 37 w rd rs n = [rexI w rd rs, 141, modI 128 rd rs] ++ tailL n 4 := by kernel_rfl
  simp [regX, condX] at hA
  have hw : w = 4 ∨ w = 8 := by omega
  rw [hL]
  intro b hb
  rcases List.mem_append.1 hb with hb | hb
  · simp only [List.mem_cons, List.not_mem_nil, or_false] at hb
    rcases hb with rfl | rfl | rfl
    · exact rexI_rng hw
    · omega
    · exact modI_rng (.inr rfl)
  · exact tail_rng hb

theorem rng_38 {w rd rs n : Int} (he : errX 38 w rd rs n = 0) : bytesOk (encL 38 w rd rs n) := by
  have hE : errX 38 w rd rs n = (bif (decide (w = 4) || decide (w = 8)) && ((false || decide (w = 4)) && (regX rd && (decide (rs = 0) && decide (n = 0)))) then (bif ((true) || false) then 0 else 10) else 1) := by kernel_rfl
  rw [hE] at he
  obtain ⟨hA, hF⟩ := err0 he
  have hL : encL 38 w rd rs n = [rexI w 0 rd, 80 + rd % 8] ++ tailL n 0 := by kernel_rfl
  simp [regX, condX] at hA
  have hw : w = 4 ∨ w = 8 := by omega
  rw [hL]
  intro b hb
  rcases List.mem_append.1 hb with hb | hb
  · simp only [List.mem_cons, List.not_mem_nil, or_false] at hb
    rcases hb with rfl | rfl
    · exact rexI_rng hw
    · omega
  · exact tail_rng hb

theorem rng_39 {w rd rs n : Int} (he : errX 39 w rd rs n = 0) : bytesOk (encL 39 w rd rs n) := by
  have hE : errX 39 w rd rs n = (bif (decide (w = 4) || decide (w = 8)) && ((false || decide (w = 4)) && (regX rd && (decide (rs = 0) && decide (n = 0)))) then (bif ((true) || false) then 0 else 10) else 1) := by kernel_rfl
  rw [hE] at he
  obtain ⟨hA, hF⟩ := err0 he
  have hL : encL 39 w rd rs n = [rexI w 0 rd, 88 + rd % 8] ++ tailL n 0 := by kernel_rfl
  simp [regX, condX] at hA
  have hw : w = 4 ∨ w = 8 := by omega
  rw [hL]
  intro b hb
  rcases List.mem_append.1 hb with hb | hb
  · simp only [List.mem_cons, List.not_mem_nil, or_false] at hb
    rcases hb with rfl | rfl
    · exact rexI_rng hw
    · omega
  · exact tail_rng hb

theorem rng_40 {w rd rs n : Int} (he : errX 40 w rd rs n = 0) : bytesOk (encL 40 w rd rs n) := by
  have hE : errX 40 w rd rs n = (bif (decide (w = 4) || decide (w = 8)) && ((false || decide (w = 4)) && (decide (rd = 0) && decide (rs = 0))) then (bif ((decide (-2147483648 ≤ n) && decide (n ≤ 2147483647)) || false) then 0 else 10) else 1) := by kernel_rfl
  rw [hE] at he
  obtain ⟨hA, hF⟩ := err0 he
  have hL : encL 40 w rd rs n = [232] ++ tailL n 4 := by kernel_rfl
  simp [regX, condX] at hA
  have hw : w = 4 ∨ w = 8 := by omega
  rw [hL]
  intro b hb
  rcases List.mem_append.1 hb with hb | hb
  · simp only [List.mem_cons, List.not_mem_nil, or_false] at hb
    rcases hb with rfl
    · omega
  · exact tail_rng hb

theorem rng_41 {w rd rs n : Int} (he : errX 41 w rd rs n = 0) : bytesOk (encL 41 w rd rs n) := by
  have hE : errX 41 w rd rs n = (bif (decide (w = 4) || decide (w = 8)) && ((false || decide (w = 4)) && (decide (rd = 0) && (decide (rs = 0) && decide (n = 0)))) then (bif ((true) || false) then 0 else 10) else 1) := by kernel_rfl
  rw [hE] at he
  obtain ⟨hA, hF⟩ := err0 he
  have hL : encL 41 w rd rs n = [195] ++ tailL n 0 := by kernel_rfl
  simp [regX, condX] at hA
  have hw : w = 4 ∨ w = 8 := by omega
  rw [hL]
  intro b hb
  rcases List.mem_append.1 hb with hb | hb
  · simp only [List.mem_cons, List.not_mem_nil, or_false] at hb
    rcases hb with rfl
    · omega
  · exact tail_rng hb

theorem rng_42 {w rd rs n : Int} (he : errX 42 w rd rs n = 0) : bytesOk (encL 42 w rd rs n) := by
  have hE : errX 42 w rd rs n = (bif (decide (w = 4) || decide (w = 8)) && ((false || decide (w = 4)) && (decide (rd = 0) && decide (rs = 0))) then (bif ((decide (-2147483648 ≤ n) && decide (n ≤ 2147483647)) || false) then 0 else 10) else 1) := by kernel_rfl
  rw [hE] at he
  obtain ⟨hA, hF⟩ := err0 he
  have hL : encL 42 w rd rs n = [233] ++ tailL n 4 := by kernel_rfl
  simp [regX, condX] at hA
  have hw : w = 4 ∨ w = 8 := by omega
  rw [hL]
  intro b hb
  rcases List.mem_append.1 hb with hb | hb
  · simp only [List.mem_cons, List.not_mem_nil, or_false] at hb
    rcases hb with rfl
    · omega
  · exact tail_rng hb

theorem rng_43 {w rd rs n : Int} (he : errX 43 w rd rs n = 0) : bytesOk (encL 43 w rd rs n) := by
  have hE : errX 43 w rd rs n = (bif (decide (w = 4) || decide (w = 8)) && ((false || decide (w = 4)) && (decide (rd = 0) && decide (rs = 0))) then (bif ((decide (-128 ≤ n) && decide (n ≤ 127)) || false) then 0 else 10) else 1) := by kernel_rfl
  rw [hE] at he
  obtain ⟨hA, hF⟩ := err0 he
  have hL : encL 43 w rd rs n = [235] ++ tailL n 1 := by kernel_rfl
  simp [regX, condX] at hA
  have hw : w = 4 ∨ w = 8 := by omega
  rw [hL]
  intro b hb
  rcases List.mem_append.1 hb with hb | hb
  · simp only [List.mem_cons, List.not_mem_nil, or_false] at hb
    rcases hb with rfl
    · omega
  · exact tail_rng hb

theorem rng_44 {w rd rs n : Int} (he : errX 44 w rd rs n = 0) : bytesOk (encL 44 w rd rs n) := by
  have hE : errX 44 w rd rs n = (bif (decide (w = 4) || decide (w = 8)) && ((false || decide (w = 4)) && (condX rd && decide (rs = 0))) then (bif ((decide (-2147483648 ≤ n) && decide (n ≤ 2147483647)) || false) then 0 else 10) else 1) := by kernel_rfl
  rw [hE] at he
  obtain ⟨hA, hF⟩ := err0 he
  have hL : encL 44 w rd rs n = [15, 128 + rd] ++ tailL n 4 := by kernel_rfl
  simp [regX, condX] at hA
  have hw : w = 4 ∨ w = 8 := by omega
  rw [hL]
  intro b hb
  rcases List.mem_append.1 hb with hb | hb
  · simp only [List.mem_cons, List.not_mem_nil, or_false] at hb
    rcases hb with rfl | rfl
    · omega
    · omega
  · exact tail_rng hb

theorem rng_45 {w rd rs n : Int} (he : errX 45 w rd rs n = 0) : bytesOk (encL 45 w rd rs n) := by
  have hE : errX 45 w rd rs n = (bif (decide (w = 4) || decide (w = 8)) && ((false || decide (w = 4)) && (condX rd && decide (rs = 0))) then (bif ((decide (-128 ≤ n) && decide (n ≤ 127)) || false) then 0 else 10) else 1) := by kernel_rfl
  rw [hE] at he
  obtain ⟨hA, hF⟩ := err0 he
  have hL : encL 45 w rd rs n = [112 + rd] ++ tailL n 1 := by kernel_rfl
  simp [regX, condX] at hA
  have hw : w = 4 ∨ w = 8 := by omega
  rw [hL]
  intro b hb
  rcases List.mem_append.1 hb with hb | hb
  · simp only [List.mem_cons, List.not_mem_nil, or_false] at hb
    rcases hb with rfl
    · omega
  · exact tail_rng hb

theorem rng_46 {w rd rs n : Int} (he : errX 46 w rd rs n = 0) : bytesOk (encL 46 w rd rs n) := by
  have hE : errX 46 w rd rs n = (bif (decide (w = 4) || decide (w = 8)) && ((false || decide (w = 4)) && (decide (rd = 0) && (decide (rs = 0) && decide (n = 0)))) then (bif ((true) || false) then 0 else 10) else 1) := by kernel_rfl
  rw [hE] at he
  obtain ⟨hA, hF⟩ := err0 he
  have hL : encL 46 w rd rs n = [15, 5] ++ tailL n 0 := by kernel_rfl
  simp [regX, condX] at hA
  have hw : w = 4 ∨ w = 8 := by omega
  rw [hL]
  intro b hb
  rcases List.mem_append.1 hb with hb | hb
  · simp only [List.mem_cons, List.not_mem_nil, or_false] at hb
    rcases hb with rfl | rfl
    · omega
    · omega
  · exact tail_rng hb

theorem enc_rng {k w rd rs n : Int} (he : errX k w rd rs n = 0) : bytesOk (encL k w rd rs n) := by
  have hk : 1 ≤ k ∧ k ≤ 46 := by
    by_cases h : 1 ≤ k ∧ k ≤ 46
    · exact h
    · have : (decide (k < 1) || decide (46 < k)) = true := by simp; omega
      unfold errX at he
      rw [this] at he
      cases he
  obtain ⟨h1, h2⟩ := hk
  have : k = 1 ∨ k = 2 ∨ k = 3 ∨ k = 4 ∨ k = 5 ∨ k = 6 ∨ k = 7 ∨ k = 8 ∨ k = 9 ∨ k = 10 ∨ k = 11 ∨ k = 12 ∨ k = 13 ∨ k = 14 ∨ k = 15 ∨ k = 16 ∨ k = 17 ∨ k = 18 ∨ k = 19 ∨ k = 20 ∨ k = 21 ∨ k = 22 ∨ k = 23 ∨ k = 24 ∨ k = 25 ∨ k = 26 ∨ k = 27 ∨ k = 28 ∨ k = 29 ∨ k = 30 ∨ k = 31 ∨ k = 32 ∨ k = 33 ∨ k = 34 ∨ k = 35 ∨ k = 36 ∨ k = 37 ∨ k = 38 ∨ k = 39 ∨ k = 40 ∨ k = 41 ∨ k = 42 ∨ k = 43 ∨ k = 44 ∨ k = 45 ∨ k = 46 := by omega
  rcases this with rfl | rfl | rfl | rfl | rfl | rfl | rfl | rfl | rfl | rfl | rfl | rfl | rfl | rfl | rfl | rfl | rfl | rfl | rfl | rfl | rfl | rfl | rfl | rfl | rfl | rfl | rfl | rfl | rfl | rfl | rfl | rfl | rfl | rfl | rfl | rfl | rfl | rfl | rfl | rfl | rfl | rfl | rfl | rfl | rfl | rfl
  · exact rng_1 he
  · exact rng_2 he
  · exact rng_3 he
  · exact rng_4 he
  · exact rng_5 he
  · exact rng_6 he
  · exact rng_7 he
  · exact rng_8 he
  · exact rng_9 he
  · exact rng_10 he
  · exact rng_11 he
  · exact rng_12 he
  · exact rng_13 he
  · exact rng_14 he
  · exact rng_15 he
  · exact rng_16 he
  · exact rng_17 he
  · exact rng_18 he
  · exact rng_19 he
  · exact rng_20 he
  · exact rng_21 he
  · exact rng_22 he
  · exact rng_23 he
  · exact rng_24 he
  · exact rng_25 he
  · exact rng_26 he
  · exact rng_27 he
  · exact rng_28 he
  · exact rng_29 he
  · exact rng_30 he
  · exact rng_31 he
  · exact rng_32 he
  · exact rng_33 he
  · exact rng_34 he
  · exact rng_35 he
  · exact rng_36 he
  · exact rng_37 he
  · exact rng_38 he
  · exact rng_39 he
  · exact rng_40 he
  · exact rng_41 he
  · exact rng_42 he
  · exact rng_43 he
  · exact rng_44 he
  · exact rng_45 he
  · exact rng_46 he

theorem hit_iff {k w rd rs n : Int} {s : ByteArray} (he : errX k w rd rs n = 0) (hn : inI n) : DX k s w rd rs n ↔ (strX k w rd rs n).size ≤ s.size ∧ s.extract 0 (strX k w rd rs n).size = strX k w rd rs n := by
  rw [strX_ok he, ← starts_iff (enc_rng he)]
  exact ⟨fun h => h.2.2, fun h => ⟨he, hn, h⟩⟩

/-- what both Decodes say: the first op that has an instruction whose bytes stand there -/
structure DV where
  o : Int
  w : Int
  rd : Int
  rs : Int
  n : Int
  len : Int
  ok : Bool
def hitX (k : Int) (s : ByteArray) : Prop := ∃ w rd rs n, DX k s w rd rs n
theorem dx_unique {k : Int} {s : ByteArray} (h1 : 1 ≤ k) (h2 : k ≤ 46) {w rd rs n w' rd' rs' n' : Int} (h : DX k s w rd rs n) (h' : DX k s w' rd' rs' n') : w = w' ∧ rd = rd' ∧ rs = rs' ∧ n = n' := by
  obtain ⟨⟨_, hq⟩, _⟩ := gv_ok k s h1 h2
  obtain ⟨_, a1, a2, a3, a4⟩ := hq _ _ _ _ h
  obtain ⟨_, b1, b2, b3, b4⟩ := hq _ _ _ _ h'
  exact ⟨a1 ▸ b1, a2 ▸ b2, a3 ▸ b3, a4 ▸ b4⟩
def isDec (s : ByteArray) (v : DV) : Prop := 1 ≤ v.o ∧ v.o ≤ 46 ∧ DX v.o s v.w v.rd v.rs v.n ∧ v.len = ((strX v.o v.w v.rd v.rs v.n).size : Int) ∧ v.ok = true ∧ ∀ j, 1 ≤ j → j < v.o → ¬ hitX j s
theorem isDec_unique {s : ByteArray} {v v' : DV} (h : isDec s v) (h' : isDec s v') : v = v' := by
  obtain ⟨a1, a2, a3, a4, a5, a6⟩ := h
  obtain ⟨b1, b2, b3, b4, b5, b6⟩ := h'
  have ho : v.o = v'.o := by
    by_cases hlt : v.o < v'.o
    · exact absurd ⟨_, _, _, _, a3⟩ (b6 v.o a1 hlt)
    · by_cases hgt : v'.o < v.o
      · exact absurd ⟨_, _, _, _, b3⟩ (a6 v'.o b1 hgt)
      · omega
  obtain ⟨o, w, rd, rs, n, len, ok⟩ := v
  obtain ⟨o', w', rd', rs', n', len', ok'⟩ := v'
  simp only at *
  subst ho
  obtain ⟨rfl, rfl, rfl, rfl⟩ := dx_unique a1 a2 a3 b3
  subst a4 b4 a5 b5
  rfl
open Classical in
noncomputable def decX (s : ByteArray) : DV := if h : ∃ v, isDec s v then Classical.choose h else ⟨0, 0, 0, 0, 0, 0, false⟩
theorem decX_is {s : ByteArray} {v : DV} (h : isDec s v) : decX s = v := by
  have hx : ∃ v, isDec s v := ⟨v, h⟩
  unfold decX
  rw [dif_pos hx]
  exact isDec_unique (Classical.choose_spec hx) h
theorem decX_none {s : ByteArray} (h : ∀ j, 1 ≤ j → j ≤ 46 → ¬ hitX j s) : decX s = ⟨0, 0, 0, 0, 0, 0, false⟩ := by
  unfold decX
  rw [dif_neg]
  rintro ⟨v, h1, h2, h3, _⟩
  exact h v.o h1 h2 ⟨_, _, _, _, h3⟩
/-- there is one, or there is none -/
theorem decX_cases (s : ByteArray) : isDec s (decX s) ∨ (decX s = ⟨0, 0, 0, 0, 0, 0, false⟩ ∧ ∀ j, 1 ≤ j → j ≤ 46 → ¬ hitX j s) := by
  by_cases h : ∃ v, isDec s v
  · obtain ⟨v, hv⟩ := h
    exact .inl (decX_is hv ▸ hv)
  · right
    have hn : ∀ j : Nat, ∀ i : Int, 1 ≤ i → i ≤ 46 → i ≤ j → ¬ hitX i s := by
      intro j
      induction j with
      | zero => intro i h1 _ h3; omega
      | succ j ih =>
        intro i h1 h2 h3 hh
        by_cases hi : i ≤ j
        · exact ih i h1 h2 hi hh
        · obtain ⟨w, rd, rs, n, hd⟩ := hh
          exact h ⟨⟨i, w, rd, rs, n, ((strX i w rd rs n).size : Int), true⟩, h1, h2, hd, rfl, rfl, fun q q1 (q2 : q < i) => ih q q1 (by omega) (by omega)⟩
    have hn' : ∀ j, 1 ≤ j → j ≤ 46 → ¬ hitX j s := fun j h1 h2 => hn 46 j h1 h2 h2
    exact ⟨decX_none hn', hn'⟩

end Go.X
end

section
set_option linter.unusedVariables false
open Go Go.Ev Go.Proofs
namespace Go.X

/-- two columns are the same -/
noncomputable def eqC {α : Type} (a b : Nat → α) : Bool := @decide (a = b) (Classical.propDecidable _)
theorem eqC_spec {α : Type} {a b : Nat → α} (h : eqC a b = true) : a = b := @of_decide_eq_true _ (Classical.propDecidable _) h
theorem eqC_self {α : Type} (a : Nat → α) : eqC a a = true := @decide_eq_true _ (Classical.propDecidable _) rfl

noncomputable def E10 : Env := inlA Try.prog (envOf [(26, specOf g26), (13, specOf g13), (7, specOf g7)] noLoop) [27, 43] [] 2
theorem e10_calls : CallsOk E10 Try.prog := (inlA_calls ((SpecsOk.cons spec26 (SpecsOk.cons ok13 (SpecsOk.cons spec7 SpecsOk.nil))).calls noLoop) mixed named27 namedNil 2).1
theorem e10_loop : E10.loop = noLoop := rfl
def v10 (s : ByteArray) (k : Int) : List SV := [.str s, .ptr 1024 0 0, .sl 1072 46, .int false .i64 46, .int false .i64 k]
def z5 : Blk := .cells [.int false .i64 0, .int false .i64 0, .int false .i64 0, .int false .i64 0, .int false .i64 0]
def h10 : Heap := [(1024, z5), (1072, .tab 46 cols true)]
def lk10 : Lp := ⟨45, [0, 2, 11, 12, 13], 2000, fun _ _ => none⟩
noncomputable def decT (s : ByteArray) : SV := .tup [.agg [.int false .i64 (decX s).o, .int false .i64 (decX s).w, .int false .i64 (decX s).rd, .int false .i64 (decX s).rs, .int false .i64 (decX s).n], .int false .i64 (decX s).len, .int false .i64 (bif (decX s).ok then 0 else 11)]
noncomputable def get10 : List SV → Heap → Option Tr
  | [.str s, .ptr k1 r1 p1, .sl k2 m2, .int _ .i64 N, .int _ .i64 k], [(j1, .cells [.int _ .i64 a0, .int _ .i64 a1, .int _ .i64 a2, .int _ .i64 a3, .int _ .i64 a4]), (j2, .tab n2 [.ints .i64 c0, .strs c1, .ints .i64 c2, .bools c3, .ints .i64 c4, .bools c5, .bools c6] rw)] =>
    match rw with
    | true => some (Tr.needs [Nat.beq k1 1024, Nat.beq r1 0, Nat.beq p1 0, Nat.beq k2 1072, Nat.beq m2 46, decide (N = 46), decide (k = 0), Nat.beq j1 1024, Nat.beq j2 1072, Nat.beq n2 46,
        decide (a0 = 0), decide (a1 = 0), decide (a2 = 0), decide (a3 = 0), decide (a4 = 0), eqC c0 (nth shapes 0), eqC c1 (nth codes .empty), eqC c2 (nth mids 0), eqC c3 (nth turns false), eqC c4 (nth ws 0), eqC c5 (nth imms false), eqC c6 (nth aheads false)]
        (.node (decX s).ok (.ret (decT s) []) (exitT lk10 0 [.any, .ptr 1024 0 0, .any, .any, .any] [(1024, z5)])))
    | false => none
  | _, _ => none
noncomputable def lp10 : Lp := { lk10 with get := get10 }
noncomputable def E10L : Env := ⟨E10.call, loopEnv [(0, lp10)]⟩

theorem r10 (s : ByteArray) (k : Int) : (evalB E10 Try.prog Try.f10.results.toList (loopOf Try.f10 0) 1 lp10 (v10 s k) h10).view [0, 2, 11, 12, 13] =
    (bif (cm .lss k 46) then
 bif (decide (0 ≤ k)) then
 bif (decide (k < 46)) then
 bif (Nat.blt (k.toNat) (46)) then
 bif (Nat.blt (k.toNat) (46)) then
 bif (decide (1 ≤ ar .add .i64 1 k)) then
 bif (decide (ar .add .i64 1 k ≤ 46)) then
 bif (decide (nth shapes 0 k.toNat = nth shapes 0 (ar .add .i64 1 k - 1).toNat)) then
 bif (decide (nth codes ByteArray.empty k.toNat = nth codes ByteArray.empty (ar .add .i64 1 k - 1).toNat)) then
 bif (decide (nth mids 0 k.toNat = nth mids 0 (ar .add .i64 1 k - 1).toNat)) then
 bif (decide (nth turns false k.toNat = nth turns false (ar .add .i64 1 k - 1).toNat)) then
 bif (decide (nth ws 0 k.toNat = nth ws 0 (ar .add .i64 1 k - 1).toNat)) then
 bif (decide (nth imms false k.toNat = nth imms false (ar .add .i64 1 k - 1).toNat)) then
 bif (decide (nth aheads false k.toNat = nth aheads false (ar .add .i64 1 k - 1).toNat)) then
 bif (!(gv (ar .add .i64 1 k) s).ok) then
 .norm 45 [.str (s), .ptr 1024 0 0, .sl 1072 46, .int false .i64 46, .int false .i64 (ar .add .i64 k 1)] [(1024, .cells [.int false .i64 0, .int false .i64 0, .int false .i64 0, .int false .i64 0, .int false .i64 0]), (1072, .tab 46 [.ints .i64 (nth shapes 0), .strs (nth codes ByteArray.empty), .ints .i64 (nth mids 0), .bools (nth turns false), .ints .i64 (nth ws 0), .bools (nth imms false), .bools (nth aheads false)] true), (2064, .cells [.int false .i64 (nth shapes 0 k.toNat), .str (nth codes ByteArray.empty k.toNat), .int false .i64 (nth mids 0 k.toNat), .bool false (nth turns false k.toNat), .int false .i64 (nth ws 0 k.toNat), .bool false (nth imms false k.toNat), .bool false (nth aheads false k.toNat)]), (2240, .cells [.int false .i64 ((gv (ar .add .i64 1 k) s).o), .int false .i64 ((gv (ar .add .i64 1 k) s).w), .int false .i64 ((gv (ar .add .i64 1 k) s).rd), .int false .i64 ((gv (ar .add .i64 1 k) s).rs), .int false .i64 ((gv (ar .add .i64 1 k) s).n)])]
 else
 bif (bif cm .eql (errX (gv (ar .add .i64 1 k) s).o (gv (ar .add .i64 1 k) s).w (gv (ar .add .i64 1 k) s).rd (gv (ar .add .i64 1 k) s).rs (gv (ar .add .i64 1 k) s).n) 0 then allB [bif cm .geq (↑s.size : Int) (↑(strX (gv (ar .add .i64 1 k) s).o (gv (ar .add .i64 1 k) s).w (gv (ar .add .i64 1 k) s).rd (gv (ar .add .i64 1 k) s).rs (gv (ar .add .i64 1 k) s).n).size : Int) then allB [decide (0 ≤ (↑(strX (gv (ar .add .i64 1 k) s).o (gv (ar .add .i64 1 k) s).w (gv (ar .add .i64 1 k) s).rd (gv (ar .add .i64 1 k) s).rs (gv (ar .add .i64 1 k) s).n).size : Int)), (↑(strX (gv (ar .add .i64 1 k) s).o (gv (ar .add .i64 1 k) s).w (gv (ar .add .i64 1 k) s).rd (gv (ar .add .i64 1 k) s).rs (gv (ar .add .i64 1 k) s).n).size : Int).toNat.ble s.size] else true] else true) then
 bif (bif cm .eql (errX (gv (ar .add .i64 1 k) s).o (gv (ar .add .i64 1 k) s).w (gv (ar .add .i64 1 k) s).rd (gv (ar .add .i64 1 k) s).rs (gv (ar .add .i64 1 k) s).n) 0 then bif cm .geq (↑s.size : Int) (↑(strX (gv (ar .add .i64 1 k) s).o (gv (ar .add .i64 1 k) s).w (gv (ar .add .i64 1 k) s).rd (gv (ar .add .i64 1 k) s).rs (gv (ar .add .i64 1 k) s).n).size : Int) then seq (s.extract 0 (↑(strX (gv (ar .add .i64 1 k) s).o (gv (ar .add .i64 1 k) s).w (gv (ar .add .i64 1 k) s).rd (gv (ar .add .i64 1 k) s).rs (gv (ar .add .i64 1 k) s).n).size : Int).toNat) (strX (gv (ar .add .i64 1 k) s).o (gv (ar .add .i64 1 k) s).w (gv (ar .add .i64 1 k) s).rd (gv (ar .add .i64 1 k) s).rs (gv (ar .add .i64 1 k) s).n) else false else false) then
 .ret (.tup [.agg [.int false .i64 ((gv (ar .add .i64 1 k) s).o), .int false .i64 ((gv (ar .add .i64 1 k) s).w), .int false .i64 ((gv (ar .add .i64 1 k) s).rd), .int false .i64 ((gv (ar .add .i64 1 k) s).rs), .int false .i64 ((gv (ar .add .i64 1 k) s).n)], (.int false .i64 ((↑(strX (gv (ar .add .i64 1 k) s).o (gv (ar .add .i64 1 k) s).w (gv (ar .add .i64 1 k) s).rd (gv (ar .add .i64 1 k) s).rs (gv (ar .add .i64 1 k) s).n).size : Int))), .int true .i64 0]) [(1024, .cells [.int false .i64 ((gv (ar .add .i64 1 k) s).o), .int false .i64 ((gv (ar .add .i64 1 k) s).w), .int false .i64 ((gv (ar .add .i64 1 k) s).rd), .int false .i64 ((gv (ar .add .i64 1 k) s).rs), .int false .i64 ((gv (ar .add .i64 1 k) s).n)]), (1072, .tab 46 [.ints .i64 (nth shapes 0), .strs (nth codes ByteArray.empty), .ints .i64 (nth mids 0), .bools (nth turns false), .ints .i64 (nth ws 0), .bools (nth imms false), .bools (nth aheads false)] true), (2064, .cells [.int false .i64 (nth shapes 0 k.toNat), .str (nth codes ByteArray.empty k.toNat), .int false .i64 (nth mids 0 k.toNat), .bool false (nth turns false k.toNat), .int false .i64 (nth ws 0 k.toNat), .bool false (nth imms false k.toNat), .bool false (nth aheads false k.toNat)]), (2240, .cells [.int false .i64 ((gv (ar .add .i64 1 k) s).o), .int false .i64 ((gv (ar .add .i64 1 k) s).w), .int false .i64 ((gv (ar .add .i64 1 k) s).rd), .int false .i64 ((gv (ar .add .i64 1 k) s).rs), .int false .i64 ((gv (ar .add .i64 1 k) s).n)])]
 else
 .norm 45 [.str (s), .ptr 1024 0 0, .sl 1072 46, .int false .i64 46, .int false .i64 (ar .add .i64 k 1)] [(1024, .cells [.int false .i64 0, .int false .i64 0, .int false .i64 0, .int false .i64 0, .int false .i64 0]), (1072, .tab 46 [.ints .i64 (nth shapes 0), .strs (nth codes ByteArray.empty), .ints .i64 (nth mids 0), .bools (nth turns false), .ints .i64 (nth ws 0), .bools (nth imms false), .bools (nth aheads false)] true), (2064, .cells [.int false .i64 (nth shapes 0 k.toNat), .str (nth codes ByteArray.empty k.toNat), .int false .i64 (nth mids 0 k.toNat), .bool false (nth turns false k.toNat), .int false .i64 (nth ws 0 k.toNat), .bool false (nth imms false k.toNat), .bool false (nth aheads false k.toNat)]), (2240, .cells [.int false .i64 ((gv (ar .add .i64 1 k) s).o), .int false .i64 ((gv (ar .add .i64 1 k) s).w), .int false .i64 ((gv (ar .add .i64 1 k) s).rd), .int false .i64 ((gv (ar .add .i64 1 k) s).rs), .int false .i64 ((gv (ar .add .i64 1 k) s).n)])]
 else .bad
 else .bad
 else .bad
 else .bad
 else .bad
 else .bad
 else .bad
 else .bad
 else .bad
 else .bad
 else .bad
 else .bad
 else .bad
 else .bad
 else
 .exit 0 45 [.str (s), .ptr 1024 0 0, .sl 1072 46, .int false .i64 46, .int false .i64 (k)] [(1024, .cells [.int false .i64 0, .int false .i64 0, .int false .i64 0, .int false .i64 0, .int false .i64 0]), (1072, .tab 46 [.ints .i64 (nth shapes 0), .strs (nth codes ByteArray.empty), .ints .i64 (nth mids 0), .bools (nth turns false), .ints .i64 (nth ws 0), .bools (nth imms false), .bools (nth aheads false)] true)]) := by kernel_rfl

theorem t10 (s : ByteArray) : (evalF E10L Try.prog 10 [.str s] [] 1024).bare =
    (bif (eqC (nth shapes 0) (nth shapes 0)) then
 bif (eqC (nth codes ByteArray.empty) (nth codes ByteArray.empty)) then
 bif (eqC (nth mids 0) (nth mids 0)) then
 bif (eqC (nth turns false) (nth turns false)) then
 bif (eqC (nth ws 0) (nth ws 0)) then
 bif (eqC (nth imms false) (nth imms false)) then
 bif (eqC (nth aheads false) (nth aheads false)) then
 bif ((decX s).ok) then
 .ret (.tup [.agg [.int false .i64 ((decX s).o), .int false .i64 ((decX s).w), .int false .i64 ((decX s).rd), .int false .i64 ((decX s).rs), .int false .i64 ((decX s).n)], .int false .i64 ((decX s).len), .int false .i64 (bif (decX s).ok then 0 else 11)]) []
 else
 .ret (.tup [.agg [.int true .i64 0, .int true .i64 0, .int true .i64 0, .int true .i64 0, .int true .i64 0], .int true .i64 0, .int true .i64 11]) []
 else .bad
 else .bad
 else .bad
 else .bad
 else .bad
 else .bad
 else .bad) := by kernel_rfl

end Go.X
end

section
set_option linter.unusedVariables false
open Go Go.Ev Go.Proofs
namespace Go.X

structure X10 where
  s : ByteArray
  k : Nat
def ok10 (x : X10) : Prop := x.k ≤ 46 ∧ ∀ j : Int, 1 ≤ j → j ≤ x.k → ¬ hitX j x.s
def vs10 (x : X10) : List SV := v10 x.s x.k
noncomputable def out10 (x : X10) : Vw := bif (decX x.s).ok then .ret (decT x.s) [] else .exit 0 45 [.any, .ptr 1024 0 0, .any, .any, .any] [(1024, z5)]

theorem entry10 (l : List SV) (H : Heap) (T : Tr) (h : lp10.get l H = some T) (hb : T.leaf ≠ .bad) : ∃ x r, ok10 x ∧ WkV r lp10.nm l H (vs10 x) ((fun _ => h10) x) ∧ T.leaf = toLf lp10 (out10 x) := by
  replace h : get10 l H = some T := h
  unfold get10 at h
  split at h
  · rename_i s k1 r1 p1 k2 m2 _ N _ k j1 _ a0 _ a1 _ a2 _ a3 _ a4 j2 n2 c0 c1 c2 c3 c4 c5 c6 rw
    split at h
    · simp only [Option.some.injEq] at h
      subst h
      obtain ⟨hn, he⟩ := needs_ne hb
      rw [he]
      simp only [allB, Bool.and_eq_true, Bool.and_true, decide_eq_true_eq, Nat.beq_eq] at hn
      obtain ⟨rfl, rfl, rfl, rfl, rfl, rfl, rfl, rfl, rfl, rfl, rfl, rfl, rfl, rfl, rfl, q0, q1, q2, q3, q4, q5, q6⟩ := hn
      obtain rfl := eqC_spec q0
      obtain rfl := eqC_spec q1
      obtain rfl := eqC_spec q2
      obtain rfl := eqC_spec q3
      obtain rfl := eqC_spec q4
      obtain rfl := eqC_spec q5
      obtain rfl := eqC_spec q6
      refine ⟨⟨s, 0⟩, [], ⟨Nat.zero_le _, fun j h1 h2 => by have : j ≤ 0 := h2; omega⟩, ?_, ?_⟩
      · refine ⟨rfl, ?_, ⟨?_, ?_, trivial⟩, rfl, rfl⟩
        · exact ⟨rfl, ⟨rfl, rfl, rfl⟩, ⟨rfl, rfl⟩, ⟨rfl, rfl⟩, ⟨rfl, rfl⟩, trivial⟩
        · simp [rmap, rlook, Ev.look, wkB, simL, sim, z5]
        · exact ⟨Nat.le_refl _, fun h => h, wkCs_refl _ _⟩
      · simp only [Tr.leaf, exitT_leaf, out10, toLf_cond]
        rfl
    · cases h
  · cases h

theorem k_facts {k : Nat} (h : k < 46) : ar .add .i64 1 (k : Int) = (k : Int) + 1 ∧ ((k : Int) + 1 - 1).toNat = k := by
  constructor
  · simp only [ar, IntKind.wrap_i64]; omega
  · omega

attribute [local irreducible] evalB Tr.view gv decX strX errX in
theorem round10 (x : X10) (hx : ok10 x) : Round lp10 ok10 (fun x => 46 - x.k) vs10 (fun _ => h10) out10 x ((evalB E10 Try.prog Try.f10.results.toList (loopOf Try.f10 0) (0 + 1) lp10 (vs10 x) h10).view lp10.ks) := by
  obtain ⟨s, k⟩ := x
  obtain ⟨h0, h1⟩ := hx
  simp only at h0 h1
  have hr := r10 s k
  rw [show evalB E10 Try.prog Try.f10.results.toList (loopOf Try.f10 0) (0 + 1) lp10 (vs10 ⟨s, k⟩) h10 = evalB E10 Try.prog Try.f10.results.toList (loopOf Try.f10 0) 1 lp10 (v10 s k) h10 from rfl, show lp10.ks = [0, 2, 11, 12, 13] from rfl, hr]
  by_cases h : k < 46
  · obtain ⟨e0, e00⟩ := k_facts h
    have e1 : cm .lss (k : Int) 46 = true := by rw [cm_lss']; exact decide_eq_true (by omega)
    have e2 : decide (0 ≤ (k : Int)) = true := decide_eq_true (by omega)
    have e3 : decide ((k : Int) < 46) = true := decide_eq_true (by omega)
    have e4 : Nat.blt k 46 = true := by rw [Nat.blt_eq]; omega
    have e5 : decide (1 ≤ (k : Int) + 1) = true := decide_eq_true (by omega)
    have e6 : decide ((k : Int) + 1 ≤ 46) = true := decide_eq_true (by omega)
    simp only [e0, e00, e1, e2, e3, e4, e5, e6, cond_true, Int.toNat_natCast, decide_true]
    obtain ⟨⟨g1, g2⟩, _⟩ := gv_ok ((k : Int) + 1) s (by omega) (by omega)
    have hnext : ∀ H2, ¬ hitX ((k : Int) + 1) s → Round lp10 ok10 (fun x => 46 - x.k) vs10 (fun _ => h10) out10 ⟨s, k⟩ (.norm 45 [.str s, .ptr 1024 0 0, .sl 1072 46, .int false .i64 46, .int false .i64 (ar .add .i64 k 1)] ((1024, z5) :: (1072, .tab 46 cols true) :: H2)) := by
      intro H2 hno
      rw [addOne (show k < 9223372036854775807 by omega)]
      refine ⟨rfl, ⟨s, k + 1⟩, [], ⟨h, fun j hj1 hj2 => ?_⟩, by show 46 - (k + 1) < 46 - k; omega, rfl, ?_⟩
      · by_cases hj : j ≤ k
        · exact h1 j hj1 hj
        · have : (j : Int) ≤ ((k + 1 : Nat) : Int) := hj2
          obtain rfl : j = (k : Int) + 1 := by omega
          exact hno
      · refine ⟨rfl, ?_, ⟨?_, ?_, trivial⟩, rfl, rfl⟩
        · exact ⟨rfl, ⟨rfl, rfl, rfl⟩, ⟨rfl, rfl⟩, ⟨rfl, rfl⟩, ⟨rfl, rfl⟩, trivial⟩
        · simp [rmap, rlook, Ev.look, wkB, simL, sim, z5]
        · exact ⟨Nat.le_refl _, fun h => h, wkCs_refl _ _⟩
    refine Round_cond (fun hk => ?_) (fun hk => ?_)
    · refine hnext _ ?_
      rintro ⟨w, rd, rs, n, hd⟩
      have := (g2 _ _ _ _ hd).1
      rw [this] at hk
      cases hk
    · have hok : (gv ((k : Int) + 1) s).ok = true := by simpa using hk
      obtain ⟨ho, hi⟩ := g1 hok
      rw [ho]
      generalize gv ((k : Int) + 1) s = v at *
      have key : (bif cm .eql (errX ((k : Int) + 1) v.w v.rd v.rs v.n) 0 then bif cm .geq (s.size : Int) ((strX ((k : Int) + 1) v.w v.rd v.rs v.n).size : Int) then seq (s.extract 0 (strX ((k : Int) + 1) v.w v.rd v.rs v.n).size) (strX ((k : Int) + 1) v.w v.rd v.rs v.n) else false else false) = true ↔ DX ((k : Int) + 1) s v.w v.rd v.rs v.n := by
        rw [cm_eql', cm_geq', seq_eq]
        by_cases he : errX ((k : Int) + 1) v.w v.rd v.rs v.n = 0
        · rw [hit_iff he hi, decide_eq_true he, cond_true]
          by_cases hz : (strX ((k : Int) + 1) v.w v.rd v.rs v.n).size ≤ s.size
          · rw [decide_eq_true (show ((strX ((k : Int) + 1) v.w v.rd v.rs v.n).size : Int) ≤ s.size by omega), cond_true]
            simp [hz]
          · rw [decide_eq_false (show ¬ ((strX ((k : Int) + 1) v.w v.rd v.rs v.n).size : Int) ≤ s.size by omega), cond_false]
            simp [hz]
        · rw [decide_eq_false he, cond_false]
          constructor
          · intro h; cases h
          · intro h; exact absurd h.1 he
      have need : (bif cm .eql (errX ((k : Int) + 1) v.w v.rd v.rs v.n) 0 then allB [bif cm .geq (s.size : Int) ((strX ((k : Int) + 1) v.w v.rd v.rs v.n).size : Int) then allB [decide ((0 : Int) ≤ ((strX ((k : Int) + 1) v.w v.rd v.rs v.n).size : Int)), Nat.ble (strX ((k : Int) + 1) v.w v.rd v.rs v.n).size s.size] else true] else true) = true := by
        rw [cm_geq']
        cases cm .eql (errX ((k : Int) + 1) v.w v.rd v.rs v.n) 0 with
        | false => rfl
        | true =>
          by_cases hz : ((strX ((k : Int) + 1) v.w v.rd v.rs v.n).size : Int) ≤ s.size
          · rw [decide_eq_true hz]
            simp [allB]
            omega
          · rw [decide_eq_false hz]
            simp [allB]
      rw [need, cond_true]
      refine Round_cond (fun hh => ?_) (fun hh => ?_)
      · have hd := key.1 hh
        have hdec : decX s = ⟨(k : Int) + 1, v.w, v.rd, v.rs, v.n, ((strX ((k : Int) + 1) v.w v.rd v.rs v.n).size : Int), true⟩ :=
          decX_is ⟨by show (1 : Int) ≤ (k : Int) + 1; omega, by show (k : Int) + 1 ≤ 46; omega, hd, rfl, rfl, fun j hj1 (hj2 : j < (k : Int) + 1) => h1 j hj1 (by omega)⟩
        refine ⟨decT s, [], [], ?_, rfl, ?_, trivial, rfl⟩
        · simp only [out10, hdec, cond_true]
        · simp [decT, hdec, sim, simL]
      · refine hnext _ ?_
        rintro ⟨w, rd, rs, n, hd⟩
        obtain ⟨_, a1, a2, a3, a4⟩ := g2 _ _ _ _ hd
        rw [← a1, ← a2, ← a3, ← a4] at hd
        rw [key.2 hd] at hh
        cases hh
  · obtain rfl : k = 46 := by omega
    have e1 : cm .lss ((46 : Nat) : Int) 46 = false := rfl
    simp only [e1, cond_false]
    have hno := decX_none (s := s) fun j hj1 hj2 => h1 j hj1 (by omega)
    refine ⟨rfl, _, _, [], by simp only [out10, hno, cond_false]; rfl, ?_⟩
    refine ⟨rfl, ?_, ⟨?_, trivial⟩, rfl, rfl⟩
    · exact ⟨trivial, ⟨rfl, rfl, rfl⟩, trivial, trivial, trivial, trivial⟩
    · simp [rmap, rlook, Ev.look, wkB, simL, sim, z5]

theorem e10l_calls : CallsOk E10L Try.prog := fun f args H nm r h hn => e10_calls f args H nm r h hn
attribute [local irreducible] evalB Tr.view in
theorem loop10 : LoopOk E10L Try.prog Try.f10 0 (loopOf Try.f10 0) :=
  loop_okE mixed (fun S => rfl) (by decide) ok10 (fun x => 46 - x.k) vs10 (fun _ => h10) out10 entry10 fun x hx => ⟨E10, e10_calls, loops_noLoop e10_loop _ _, round10 x hx⟩
theorem fn10 : Try.prog.funcs[10]? = some Try.f10 := by kernel_rfl
theorem b10 : Try.f10.body = some (bodyOf Try.f10) := by kernel_rfl
theorem n10 : (Try.f10.name == "runtime.NumGoroutine") = false := by kernel_rfl
theorem nl10 : Code.loops (bodyOf Try.f10) = 1 := by kernel_rfl
theorem nth10 : nthLoop (bodyOf Try.f10) 0 = some (loopOf Try.f10 0) := by kernel_rfl
theorem loops10 : LoopsOk E10L Try.prog Try.f10 (bodyOf Try.f10) 0 := loops1 nl10 fun a ha => by
  rw [nth10] at ha
  simp only [Option.some.injEq] at ha
  subst ha
  exact loop10

noncomputable def g10 : List SV → Heap → Option R
  | [.str s], [] => some ⟨[], decT s, []⟩
  | _, _ => none
theorem gives_ret {v s : SV} {H : Heap} (h : ∀ σ σ', den σ' v = den σ s) : (Lf.ret v H).gives s := h
attribute [local irreducible] evalF Lf.gives decX in
theorem spec10 : SpecOk Try.prog 10 (specOf g10) := spec_okA false e10l_calls mixed fn10 b10 n10 loops10 g10 fun a0 H0 r hg hn => by
  unfold g10 at hg
  split at hg
  · rename_i s
    simp only [Option.some.injEq] at hg
    subst hg
    refine ⟨_, id, fun _ => rfl, gives_giv (gives_tree (t10 s) ?_)⟩
    simp only [eqC_self, cond_true]
    refine gives_cond (fun h => ?_) (fun h => ?_)
    · exact gives_ret fun σ σ' => by simp only [decT, den, denL]
    · have hno : decX s = ⟨0, 0, 0, 0, 0, 0, false⟩ := by
        rcases decX_cases s with hd | hd
        · rw [hd.2.2.2.2.1] at h; cases h
        · exact hd.1
      exact gives_ret fun σ σ' => by simp only [decT, hno, den, denL, cond_false]
  · cases hg

end Go.X
end
