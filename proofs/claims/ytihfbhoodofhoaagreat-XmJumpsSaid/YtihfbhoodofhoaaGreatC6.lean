/-
  x86: what Encode says, whatever it is given: one tree over its table, evaluated op by op, understood shape by shape.
-/
import Derived.Test.YtihfbhoodofhoaaGreatC4
import Derived.Test.YtihfbhoodofhoaaGreatB5
set_option linter.unusedSimpArgs false
set_option linter.unusedVariables false
section
set_option linter.unusedVariables false
open Go Go.Ev Go.Proofs
namespace Go.X

/-! how the text asks -/
def regT (x : Int) : Bool := bif cm .geq x 0 then cm .lss x 16 else false
def condT (x : Int) : Bool := bif cm .geq x 2 then bif cm .leq x 7 then true else bif cm .geq x 12 then cm .leq x 15 else false else bif cm .geq x 12 then cm .leq x 15 else false
def namT (sh : Int) (im : Bool) (rd rs n : Int) : Bool :=
  if sh = 0 then bif regT rd then bif regT rs then cm .eql n 0 else false else false
  else if sh = 1 then bif regT rd then bif cm .eql rs 0 then bif im then true else cm .eql n 0 else false else false
  else if sh = 2 then bif regT rd then bif regT rs then cm .neq (ar .and .i64 rs 7) 4 else false else false
  else if sh = 3 then bif regT rd then cm .eql rs 0 else false
  else if sh = 4 then bif regT rd then bif cm .eql rs 0 then cm .eql n 0 else false else false
  else if sh = 7 then bif regT rd then bif cm .eql rs 0 then condT n else false else false
  else if sh = 8 ∨ sh = 9 then bif cm .eql rd 0 then cm .eql rs 0 else false
  else if sh = 10 ∨ sh = 11 then bif condT rd then cm .eql rs 0 else false
  else bif cm .eql rd 0 then bif cm .eql rs 0 then cm .eql n 0 else false else false

theorem bif_and (a b : Bool) : (bif a then b else false) = (a && b) := by cases a <;> rfl
theorem regT_eq (x : Int) : regT x = regX x := by simp only [regT, regX, cm_geq', cm_lss', bif_and]
theorem condT_eq (x : Int) : condT x = condX x := by
  simp only [condT, condX, cm_geq', cm_leq']
  cases decide (2 ≤ x) <;> cases decide (x ≤ 7) <;> cases decide (12 ≤ x) <;> rfl
theorem namT_eq (sh : Int) (im : Bool) (rd rs n : Int) : namT sh im rd rs n = namedX sh im rd rs n := by
  have hi : (bif im then true else decide (n = 0)) = (im || decide (n = 0)) := by cases im <;> rfl
  simp only [namT, namedX, regT_eq, condT_eq, bif_and, cm_eql', cm_neq', and7, hi]

def wnT (v w : Int) (r : Bool) : Bool := if v = 0 then r else bif cm .neq w v then true else r
def w48T (w : Int) (r : Bool) : Bool := bif cm .neq w 4 then bif cm .neq w 8 then true else r else r
theorem w48_eq (v w : Int) (r : Bool) : w48T w (wnT v w (!r)) = !((decide (w = 4) || decide (w = 8)) && ((decide (v = 0) || decide (w = v)) && r)) := by
  simp only [w48T, wnT, cm_neq']
  by_cases hv : v = 0
  · rw [if_pos hv, decide_eq_true hv]
    cases decide (w = 4) <;> cases decide (w = 8) <;> cases r <;> rfl
  · rw [if_neg hv, decide_eq_false hv]
    cases decide (w = 4) <;> cases decide (w = 8) <;> cases decide (w = v) <;> cases r <;> rfl

def lastA : List Int → Int → List Int
  | [], _ => []
  | [a], k => [ar .add .u8 a (conv .u8 k)]
  | a :: l, k => a :: lastA l k
def encA (op w rd rs n : Int) : List Int :=
  let c := codeL op
  let t := tailL n (longX (shX op) (imX op))
  if shX op = 0 then (bif nth turns false (op - 1).toNat then rexA w rd rs :: (c ++ (modA 192 rd rs :: t)) else rexA w rs rd :: (c ++ (modA 192 rs rd :: t)))
  else if shX op = 1 then rexA w (nth mids 0 (op - 1).toNat) rd :: (c ++ (modA 192 (nth mids 0 (op - 1).toNat) rd :: t))
  else if shX op = 2 then (bif nth aheads false (op - 1).toNat then [102] else []) ++ (rexA w rd rs :: (c ++ (modA 128 rd rs :: t)))
  else if shX op = 3 ∨ shX op = 4 then rexA w 0 rd :: (lastA c (ar .and .i64 rd 7) ++ t)
  else if shX op = 6 then rexA w 0 0 :: (c ++ t)
  else if shX op = 7 then rexA w 0 rd :: (lastA c n ++ (modA 192 0 rd :: t))
  else if shX op = 10 ∨ shX op = 11 then lastA c rd ++ t
  else c ++ t
def retE (s : ByteArray) (e : Int) : Lf := .ret (.tup [.str s, .int true .i64 e]) []
def fitT (L : Nat) (n : Int) (x : Lf) : Lf :=
  if L = 4 then bif (bif !(bif cm .geq n (-2147483648) then cm .leq n 2147483647 else false) then true else false) then retE ⟨#[]⟩ 10 else x
  else if L = 1 then bif (bif !(bif cm .geq n (-128) then cm .leq n 127 else false) then true else false) then retE ⟨#[]⟩ 10 else x
  else x
def needT (sh w : Int) (x : Lf) : Lf := if sh = 5 ∨ 8 ≤ sh then x else bif (bif cm .eql w 8 then true else true) then x else .bad
def tE (op w rd rs n : Int) : Lf :=
  bif w48T w (wnT (wX op) w (!namT (shX op) (imX op) rd rs n)) then retE ⟨#[]⟩ 1
  else fitT (longX (shX op) (imX op)) n (needT (shX op) w (retE (S (encA op w rd rs n)) 0))

theorem fitT_eq (L : Nat) (n : Int) (x : Lf) (h : L = 0 ∨ L = 1 ∨ L = 4 ∨ L = 8) : fitT L n x = bif fitsX L n then x else retE ⟨#[]⟩ 10 := by
  rcases h with rfl | rfl | rfl | rfl <;> simp only [fitT, fitsX, cm_geq', cm_leq'] <;> simp
  · cases decide (-128 ≤ n) <;> cases decide (n ≤ 127) <;> rfl
  · cases decide (-2147483648 ≤ n) <;> cases decide (n ≤ 2147483647) <;> rfl
theorem needT_eq (sh w : Int) (x : Lf) : needT sh w x = x := by
  unfold needT
  split
  · rfl
  · cases cm .eql w 8 <;> rfl

/-- a table's rows, one by one -/
theorem each46 {p : Int → Bool} (h : ((List.range 46).all fun i => p (Int.ofNat (i + 1))) = true) {k : Int} (h1 : 1 ≤ k) (h2 : k ≤ 46) : p k = true := by
  have := List.all_eq_true.1 h (k - 1).toNat (List.mem_range.2 (by omega))
  rwa [show Int.ofNat ((k - 1).toNat + 1) = k by simp only [Int.ofNat_eq_natCast]; omega] at this
theorem ops46 {P : Int → Prop} (h : ∀ i : Nat, i < 46 → P (Int.ofNat (i + 1))) {k : Int} (h1 : 1 ≤ k) (h2 : k ≤ 46) : P k := by
  have := h (k - 1).toNat (by omega)
  rwa [show Int.ofNat ((k - 1).toNat + 1) = k by simp only [Int.ofNat_eq_natCast]; omega] at this
def tabsP (k : Int) : Bool := decide (0 ≤ shX k ∧ shX k ≤ 11) && (decide (0 ≤ nth mids 0 (k - 1).toNat ∧ nth mids 0 (k - 1).toNat < 8) && ((!decide (shX k = 3 ∨ shX k = 4) || [184, 80, 88].any fun c => codeL k == [c]) &&
    ((!decide (shX k = 7) || codeL k == [15, 144]) && ((!decide (shX k = 10) || codeL k == [15, 128]) && (!decide (shX k = 11) || codeL k == [112]))))) && decide (wX k = 0 ∨ wX k = 4 ∨ wX k = 8)
theorem tabs_chk : ((List.range 46).all fun i => tabsP (Int.ofNat (i + 1))) = true := by kernel_rfl
theorem tabs {k : Int} (h1 : 1 ≤ k) (h2 : k ≤ 46) : (0 ≤ shX k ∧ shX k ≤ 11) ∧ (0 ≤ nth mids 0 (k - 1).toNat ∧ nth mids 0 (k - 1).toNat < 8) ∧ (shX k = 3 ∨ shX k = 4 → ∃ c ∈ [(184 : Int), 80, 88], codeL k = [c]) ∧ (shX k = 7 → codeL k = [15, 144]) ∧ (shX k = 10 → codeL k = [15, 128]) ∧ (shX k = 11 → codeL k = [112]) ∧ (wX k = 0 ∨ wX k = 4 ∨ wX k = 8) := by
  have := each46 (p := tabsP) tabs_chk h1 h2
  simp only [tabsP, Bool.and_eq_true, decide_eq_true_eq, Bool.or_eq_true, Bool.not_eq_true', decide_eq_false_iff_not, List.any_eq_true, beq_iff_eq] at this
  obtain ⟨⟨h1, h2, h3, h4, h5, h6⟩, h7⟩ := this
  exact ⟨h1, h2, fun h => h3.resolve_left (fun g => g h), fun h => h4.resolve_left (fun g => g h), fun h => h5.resolve_left (fun g => g h), fun h => h6.resolve_left (fun g => g h), h7⟩
theorem long_is (sh : Int) (im : Bool) : longX sh im = 0 ∨ longX sh im = 1 ∨ longX sh im = 4 ∨ longX sh im = 8 := by
  unfold longX
  split
  · simp
  split
  · simp
  split
  · simp
  cases im <;> simp

theorem err_eq {op : Int} (h1 : 1 ≤ op) (h2 : op ≤ 46) (w rd rs n : Int) : errX op w rd rs n =
    bif (decide (w = 4) || decide (w = 8)) && ((decide (wX op = 0) || decide (w = wX op)) && namedX (shX op) (imX op) rd rs n) then (bif fitsX (longX (shX op) (imX op)) n || decide (shX op = 7) then 0 else 10) else 1 := by
  unfold errX
  rw [decide_eq_false (show ¬ op < 1 by omega), decide_eq_false (show ¬ 46 < op by omega)]
  rfl
theorem err0 {A F : Bool} (h : (bif A then (bif F then 0 else 10) else (1 : Int)) = 0) : A = true ∧ F = true := by
  cases A <;> cases F <;> simp at h ⊢
/-- an instruction that may be -/
theorem err_op {op w rd rs n : Int} (h : errX op w rd rs n = 0) : 1 ≤ op ∧ op ≤ 46 := by
  by_cases hk : 1 ≤ op ∧ op ≤ 46
  · exact hk
  · have : (decide (op < 1) || decide (46 < op)) = true := by simp; omega
    unfold errX at h
    rw [this] at h
    cases h
theorem err_ok {op w rd rs n : Int} (h : errX op w rd rs n = 0) : (w = 4 ∨ w = 8) ∧ (wX op = 0 ∨ w = wX op) ∧ namedX (shX op) (imX op) rd rs n = true ∧ (fitsX (longX (shX op) (imX op)) n = true ∨ shX op = 7) := by
  obtain ⟨h1, h2⟩ := err_op h
  rw [err_eq h1 h2] at h
  obtain ⟨hA, hF⟩ := err0 h
  simp only [Bool.and_eq_true, Bool.or_eq_true, decide_eq_true_eq] at hA hF
  exact ⟨hA.1, hA.2.1, hA.2.2, hF⟩
theorem rex_mid {w m l : Int} (h : m < 8) : rexI w m l = rexI w 0 l := by
  simp only [rexI, cm_geq', decide_eq_false (show ¬ (8 : Int) ≤ m by omega)]
  rfl
theorem reg_small {x : Int} (h : regX x = true) : small x := by
  simp only [regX, Bool.and_eq_true, decide_eq_true_eq] at h
  exact h
theorem cond_small {x : Int} (h : condX x = true) : small x := by
  simp only [condX, Bool.and_eq_true, Bool.or_eq_true, decide_eq_true_eq] at h
  simp only [small]; omega
theorem small0 : small 0 := by decide

theorem encA_eq {op w rd rs n : Int} (h : errX op w rd rs n = 0) : encA op w rd rs n = encL op w rd rs n := by
  obtain ⟨h1, h2⟩ := err_op h
  obtain ⟨hw, _, hn, _⟩ := err_ok h
  obtain ⟨⟨s0, s1⟩, ⟨m0, m1⟩, t34, t7, t10, t11, _⟩ := tabs h1 h2
  unfold encA encL
  unfold namedX at hn
  by_cases k0 : shX op = 0
  · simp only [if_pos k0, Bool.and_eq_true] at hn ⊢
    have hd := reg_small hn.1
    have hs := reg_small hn.2.1
    rw [rexA_eq hw hd hs, rexA_eq hw hs hd, modA_eq (.inl rfl) hd hs, modA_eq (.inl rfl) hs hd]
  by_cases k1 : shX op = 1
  · simp only [if_neg k0, if_pos k1, Bool.and_eq_true] at hn ⊢
    have hd := reg_small hn.1
    have hm : small (nth mids 0 (op - 1).toNat) := ⟨m0, by omega⟩
    rw [rexA_eq hw hm hd, modA_eq (.inl rfl) hm hd, rex_mid m1]
  by_cases k2 : shX op = 2
  · simp only [if_neg k0, if_neg k1, if_pos k2, Bool.and_eq_true] at hn ⊢
    have hd := reg_small hn.1
    have hs := reg_small hn.2.1
    rw [rexA_eq hw hd hs, modA_eq (.inr rfl) hd hs]
  by_cases k34 : shX op = 3 ∨ shX op = 4
  · obtain ⟨c, hc, e⟩ := t34 k34
    have hd : small rd := by
      rcases k34 with k | k <;> simp [k] at hn <;> exact reg_small hn.1
    simp only [if_neg k0, if_neg k1, if_neg k2, if_pos k34, e, lastA, lastL]
    rw [rexA_eq hw small0 hd, addReg hc hd]
  have k3 : shX op ≠ 3 := fun k => k34 (.inl k)
  have k4 : shX op ≠ 4 := fun k => k34 (.inr k)
  by_cases k6 : shX op = 6
  · simp only [if_neg k0, if_neg k1, if_neg k2, if_neg k34, if_pos k6]
    rw [rexA_eq hw small0 small0]
  by_cases k7 : shX op = 7
  · simp only [if_neg k0, if_neg k1, if_neg k2, if_neg k34, if_neg k3, if_neg k4, if_neg k6, if_pos k7, Bool.and_eq_true, t7 k7, lastA, lastL] at hn ⊢
    have hd := reg_small hn.1
    rw [rexA_eq hw small0 hd, modA_eq (.inl rfl) small0 hd, addCond (by decide) (cond_small hn.2.2)]
  by_cases kc : shX op = 10 ∨ shX op = 11
  · have k8 : ¬ (shX op = 8 ∨ shX op = 9) := by omega
    simp only [if_neg k0, if_neg k1, if_neg k2, if_neg k34, if_neg k3, if_neg k4, if_neg k6, if_neg k7, if_neg k8, if_pos kc, Bool.and_eq_true] at hn ⊢
    have hd := cond_small hn.1
    rcases kc with k | k
    · rw [t10 k]; simp only [lastA, lastL]; rw [addCond (by decide) hd]
    · rw [t11 k]; simp only [lastA, lastL]; rw [addCond (by decide) hd]
  · simp only [if_neg k0, if_neg k1, if_neg k2, if_neg k34, if_neg k6, if_neg k7, if_neg kc]

theorem tE_gives {op w rd rs n : Int} (h1 : 1 ≤ op) (h2 : op ≤ 46) : (tE op w rd rs n).gives (.tup [.str (strX op w rd rs n), .int false .i64 (errX op w rd rs n)]) := by
  have hE := err_eq h1 h2 w rd rs n
  have h7 : shX op = 7 → fitsX (longX (shX op) (imX op)) n = true := by
    have : (!decide (shX op = 7) || decide (longX (shX op) (imX op) = 0)) = true := each46 (p := fun op => !decide (shX op = 7) || decide (longX (shX op) (imX op) = 0)) (by kernel_rfl) h1 h2
    simp only [Bool.or_eq_true, Bool.not_eq_true', decide_eq_false_iff_not, decide_eq_true_eq] at this
    intro h
    rw [this.resolve_left (fun g => g h)]
    rfl
  unfold tE
  rw [namT_eq, w48_eq, fitT_eq _ _ _ (long_is _ _), needT_eq]
  generalize hA : ((decide (w = 4) || decide (w = 8)) && ((decide (wX op = 0) || decide (w = wX op)) && namedX (shX op) (imX op) rd rs n)) = A at hE
  cases A with
  | false =>
    have he : errX op w rd rs n = 1 := by rw [hE]; rfl
    exact givesE (strX_bad he (by decide)) he.symm
  | true =>
    cases hF : fitsX (longX (shX op) (imX op)) n with
    | false =>
      have : ¬ shX op = 7 := fun k => by rw [h7 k] at hF; cases hF
      have he : errX op w rd rs n = 10 := by rw [hE, hF, decide_eq_false this]; rfl
      exact givesE (strX_bad he (by decide)) he.symm
    | true =>
      have he : errX op w rd rs n = 0 := by rw [hE, hF]; rfl
      exact givesE (by rw [strX_ok he, encA_eq he]) he.symm

def enc7P (k : Int) : Prop := ∀ (w rd rs n : Int), (T7 k w rd rs n).bare = tE k w rd rs n
end Go.X
end

section
set_option linter.unusedVariables false
open Go Go.Ev Go.Proofs
namespace Go.X

theorem e70 : enc7P (Int.ofNat (0 + 1)) := fun w rd rs n => by kernel_rfl
theorem e71 : enc7P (Int.ofNat (1 + 1)) := fun w rd rs n => by kernel_rfl
theorem e72 : enc7P (Int.ofNat (2 + 1)) := fun w rd rs n => by kernel_rfl
theorem e73 : enc7P (Int.ofNat (3 + 1)) := fun w rd rs n => by kernel_rfl
theorem e74 : enc7P (Int.ofNat (4 + 1)) := fun w rd rs n => by kernel_rfl
theorem e75 : enc7P (Int.ofNat (5 + 1)) := fun w rd rs n => by kernel_rfl
theorem e76 : enc7P (Int.ofNat (6 + 1)) := fun w rd rs n => by kernel_rfl
theorem e77 : enc7P (Int.ofNat (7 + 1)) := fun w rd rs n => by kernel_rfl
theorem e78 : enc7P (Int.ofNat (8 + 1)) := fun w rd rs n => by kernel_rfl
theorem e79 : enc7P (Int.ofNat (9 + 1)) := fun w rd rs n => by kernel_rfl
theorem e710 : enc7P (Int.ofNat (10 + 1)) := fun w rd rs n => by kernel_rfl
theorem e711 : enc7P (Int.ofNat (11 + 1)) := fun w rd rs n => by kernel_rfl

end Go.X
end

section
set_option linter.unusedVariables false
open Go Go.Ev Go.Proofs
namespace Go.X

theorem e712 : enc7P (Int.ofNat (12 + 1)) := fun w rd rs n => by kernel_rfl
theorem e713 : enc7P (Int.ofNat (13 + 1)) := fun w rd rs n => by kernel_rfl
theorem e714 : enc7P (Int.ofNat (14 + 1)) := fun w rd rs n => by kernel_rfl
theorem e715 : enc7P (Int.ofNat (15 + 1)) := fun w rd rs n => by kernel_rfl
theorem e716 : enc7P (Int.ofNat (16 + 1)) := fun w rd rs n => by kernel_rfl
theorem e717 : enc7P (Int.ofNat (17 + 1)) := fun w rd rs n => by kernel_rfl
theorem e718 : enc7P (Int.ofNat (18 + 1)) := fun w rd rs n => by kernel_rfl
theorem e719 : enc7P (Int.ofNat (19 + 1)) := fun w rd rs n => by kernel_rfl
theorem e720 : enc7P (Int.ofNat (20 + 1)) := fun w rd rs n => by kernel_rfl
theorem e721 : enc7P (Int.ofNat (21 + 1)) := fun w rd rs n => by kernel_rfl
theorem e722 : enc7P (Int.ofNat (22 + 1)) := fun w rd rs n => by kernel_rfl
theorem e723 : enc7P (Int.ofNat (23 + 1)) := fun w rd rs n => by kernel_rfl

end Go.X
end

section
set_option linter.unusedVariables false
open Go Go.Ev Go.Proofs
namespace Go.X

theorem e724 : enc7P (Int.ofNat (24 + 1)) := fun w rd rs n => by kernel_rfl
theorem e725 : enc7P (Int.ofNat (25 + 1)) := fun w rd rs n => by kernel_rfl
theorem e726 : enc7P (Int.ofNat (26 + 1)) := fun w rd rs n => by kernel_rfl
theorem e727 : enc7P (Int.ofNat (27 + 1)) := fun w rd rs n => by kernel_rfl
theorem e728 : enc7P (Int.ofNat (28 + 1)) := fun w rd rs n => by kernel_rfl
theorem e729 : enc7P (Int.ofNat (29 + 1)) := fun w rd rs n => by kernel_rfl
theorem e730 : enc7P (Int.ofNat (30 + 1)) := fun w rd rs n => by kernel_rfl
theorem e731 : enc7P (Int.ofNat (31 + 1)) := fun w rd rs n => by kernel_rfl
theorem e732 : enc7P (Int.ofNat (32 + 1)) := fun w rd rs n => by kernel_rfl
theorem e733 : enc7P (Int.ofNat (33 + 1)) := fun w rd rs n => by kernel_rfl
theorem e734 : enc7P (Int.ofNat (34 + 1)) := fun w rd rs n => by kernel_rfl
theorem e735 : enc7P (Int.ofNat (35 + 1)) := fun w rd rs n => by kernel_rfl
theorem e736 : enc7P (Int.ofNat (36 + 1)) := fun w rd rs n => by kernel_rfl
theorem e737 : enc7P (Int.ofNat (37 + 1)) := fun w rd rs n => by kernel_rfl
theorem e738 : enc7P (Int.ofNat (38 + 1)) := fun w rd rs n => by kernel_rfl
theorem e739 : enc7P (Int.ofNat (39 + 1)) := fun w rd rs n => by kernel_rfl
theorem e740 : enc7P (Int.ofNat (40 + 1)) := fun w rd rs n => by kernel_rfl
theorem e741 : enc7P (Int.ofNat (41 + 1)) := fun w rd rs n => by kernel_rfl
theorem e742 : enc7P (Int.ofNat (42 + 1)) := fun w rd rs n => by kernel_rfl
theorem e743 : enc7P (Int.ofNat (43 + 1)) := fun w rd rs n => by kernel_rfl
theorem e744 : enc7P (Int.ofNat (44 + 1)) := fun w rd rs n => by kernel_rfl
theorem e745 : enc7P (Int.ofNat (45 + 1)) := fun w rd rs n => by kernel_rfl
theorem e7_all : ∀ i : Nat, i < 46 → enc7P (Int.ofNat (i + 1))
  | 0, _ => e70
  | 1, _ => e71
  | 2, _ => e72
  | 3, _ => e73
  | 4, _ => e74
  | 5, _ => e75
  | 6, _ => e76
  | 7, _ => e77
  | 8, _ => e78
  | 9, _ => e79
  | 10, _ => e710
  | 11, _ => e711
  | 12, _ => e712
  | 13, _ => e713
  | 14, _ => e714
  | 15, _ => e715
  | 16, _ => e716
  | 17, _ => e717
  | 18, _ => e718
  | 19, _ => e719
  | 20, _ => e720
  | 21, _ => e721
  | 22, _ => e722
  | 23, _ => e723
  | 24, _ => e724
  | 25, _ => e725
  | 26, _ => e726
  | 27, _ => e727
  | 28, _ => e728
  | 29, _ => e729
  | 30, _ => e730
  | 31, _ => e731
  | 32, _ => e732
  | 33, _ => e733
  | 34, _ => e734
  | 35, _ => e735
  | 36, _ => e736
  | 37, _ => e737
  | 38, _ => e738
  | 39, _ => e739
  | 40, _ => e740
  | 41, _ => e741
  | 42, _ => e742
  | 43, _ => e743
  | 44, _ => e744
  | 45, _ => e745
  | m + 46, h => absurd h (by omega)
theorem t7_0 (op : Int) (w : Int) (rd : Int) (rs : Int) (n : Int) : ((evalF E7 Tryz.prog 84 [.agg [.int false .i64 op, .int false .i64 w, .int false .i64 rd, .int false .i64 rs, .int false .i64 n]] [] 1024).cutL).bare =
    (bif (bif cm .lss op 1 then true else cm .gtr op 46) then retE ⟨#[]⟩ 1 else .bad) := by kernel_rfl
theorem err_bad {op : Int} (h : op < 1 ∨ 46 < op) (w rd rs n : Int) : errX op w rd rs n = 1 := by
  have : (decide (op < 1) || decide (46 < op)) = true := by simpa using h
  unfold errX
  rw [this]
  rfl

attribute [local irreducible] evalF Lf.gives in
theorem enc7_0 (op w rd rs n : Int) (h : op < 1 ∨ 46 < op) : (evalF E7 Tryz.prog 84 [.agg [.int false .i64 op, .int false .i64 w, .int false .i64 rd, .int false .i64 rs, .int false .i64 n]] [] 1024).leaf.gives (.tup [.str (strX op w rd rs n), .int false .i64 (errX op w rd rs n)]) := by
  have he := err_bad h w rd rs n
  refine gives_cutL (gives_tree (t7_0 op w rd rs n) ?_)
  refine gives_cond (fun h1 => ?_) (fun h1 => ?_)
  · exact givesE (strX_bad he (by decide)) he.symm
  · exfalso
    simp [cm_lss', cm_gtr'] at h1
    omega

attribute [local irreducible] evalF Lf.gives strX errX in
theorem spec7 : SpecOk Tryz.prog 84 (specOf g7) := spec_okA false e7_calls mixed fn7 b7 n7 loops7 g7 fun a0 H0 r hg hn => by
  unfold g7 at hg
  split at hg
  · rename_i op w rd rs n
    simp only [Option.some.injEq] at hg
    subst hg
    by_cases h : op < 1 ∨ 46 < op
    · exact ⟨_, id, fun _ => rfl, gives_giv (enc7_0 op w rd rs n h)⟩
    · refine ⟨[.agg [.int true .i64 op, .int false .i64 w, .int false .i64 rd, .int false .i64 rs, .int false .i64 n]], id, fun σ => ?_, gives_giv (gives_tree (ops46 (P := enc7P) e7_all (by omega) (by omega) w rd rs n) (tE_gives (by omega) (by omega)))⟩
      simp only [denL, den]
  · cases hg

end Go.X
end

section
set_option linter.unusedVariables false
open Go Go.Ev Go.Proofs
namespace Go.X

/-- number's loop -/
def accU (s : ByteArray) : Nat → Int
  | 0 => 0
  | k + 1 => ar .or .u64 (accU s k) (ar .shl .u64 (conv .u64 (chr s k)) (ar .mul .i64 8 (k : Int)))
def v42 (s : ByteArray) (u : Int) (k : Nat) : List SV := [.str s, .int false .u64 u, .int false .i64 s.size, .int false .i64 k]
def lk42 : Lp := ⟨31, [0, 3, 7, 8], 2000, fun _ _ => none⟩
def get42 : List SV → Heap → Option Tr
  | [.str s, .int _ .u64 u, .int _ .i64 N, .int _ .i64 k], [] =>
    some (Tr.needs [decide (u = 0), decide (k = 0), decide (N = s.size), Nat.ble s.size 8] (exitT lk42 0 [.str s, .int false .u64 (accU s s.size), .any, .any] []))
  | _, _ => none
def lp42 : Lp := { lk42 with get := get42 }
theorem r42 (s : ByteArray) (u : Int) (k : Nat) : (evalB E1 Tryz.prog Tryz.f108.results.toList (loopOf Tryz.f108 0) 1 lp42 (v42 s u k) []).view [0, 3, 7, 8] =
    (bif (cm .lss ↑k ↑s.size) then
      bif (decide (0 ≤ (k : Int))) then
        bif (Nat.blt ((k : Int).toNat) (s.size)) then
          bif (decide (0 ≤ ar .mul .i64 8 ↑k)) then
            .norm 31 [.str (s), (.int false .u64 (ar .or .u64 u (ar .shl .u64 (conv .u64 (chr s (k : Int).toNat)) (ar .mul .i64 8 ↑k)))), .int false .i64 (↑s.size), .int false .i64 (ar .add .i64 (↑k) 1)] []
          else .bad
        else .bad
      else .bad
    else
      .exit 0 31 [.str (s), .int false .u64 (u), .int false .i64 (↑s.size), .int false .i64 (↑k)] []) := by kernel_rfl

structure X42 where
  s : ByteArray
  k : Nat
def ok42 (x : X42) : Prop := x.k ≤ x.s.size ∧ x.s.size ≤ 8
def vs42 (x : X42) : List SV := v42 x.s (accU x.s x.k) x.k
def out42 (x : X42) : Vw := .exit 0 31 [.str x.s, .int false .u64 (accU x.s x.s.size), .any, .any] []

theorem entry42 (l : List SV) (H : Heap) (T : Tr) (h : lp42.get l H = some T) (hb : T.leaf ≠ .bad) : ∃ x r, ok42 x ∧ WkV r lp42.nm l H (vs42 x) ((fun _ => []) x) ∧ T.leaf = toLf lp42 (out42 x) := by
  replace h : get42 l H = some T := h
  unfold get42 at h
  split at h
  · rename_i s _ u _ N _ k
    simp only [Option.some.injEq] at h
    subst h
    obtain ⟨hn, he⟩ := needs_ne hb
    rw [he]
    simp only [allB, Bool.and_eq_true, Bool.and_true, decide_eq_true_eq, Nat.ble_eq] at hn
    obtain ⟨rfl, rfl, rfl, h8⟩ := hn
    refine ⟨⟨s, 0⟩, [], ⟨Nat.zero_le _, h8⟩, ?_, ?_⟩
    · exact ⟨rfl, ⟨rfl, ⟨rfl, rfl⟩, ⟨rfl, rfl⟩, ⟨rfl, rfl⟩, trivial⟩, trivial, rfl, rfl⟩
    · simp only [exitT_leaf, out42]
      rfl
  · cases h

attribute [local irreducible] evalB Tr.view in
theorem round42 (x : X42) (hx : ok42 x) : Round lp42 ok42 (fun x => x.s.size - x.k) vs42 (fun _ => []) out42 x ((evalB E1 Tryz.prog Tryz.f108.results.toList (loopOf Tryz.f108 0) (0 + 1) lp42 (vs42 x) []).view lp42.ks) := by
  obtain ⟨s, k⟩ := x
  obtain ⟨h0, h1⟩ := hx
  simp only at h0 h1
  have hr := r42 s (accU s k) k
  rw [show evalB E1 Tryz.prog Tryz.f108.results.toList (loopOf Tryz.f108 0) (0 + 1) lp42 (vs42 ⟨s, k⟩) [] = evalB E1 Tryz.prog Tryz.f108.results.toList (loopOf Tryz.f108 0) 1 lp42 (v42 s (accU s k) k) [] from rfl, show lp42.ks = [0, 3, 7, 8] from rfl, hr]
  by_cases h : k < s.size
  · have e1 : cm .lss (k : Int) s.size = true := decide_eq_true (by omega)
    have e2 : decide (0 ≤ ar .mul .i64 8 (k : Int)) = true := by rw [mul8 (by omega)]; exact decide_eq_true (Int.natCast_nonneg _)
    have e3 : Nat.blt (k : Int).toNat s.size = true := by rw [Nat.blt_eq]; omega
    have e4 : decide (0 ≤ (k : Int)) = true := decide_eq_true (Int.natCast_nonneg _)
    simp only [e1, e2, e3, e4, cond_true, addOne (show k < 9223372036854775807 by omega)]
    exact ⟨rfl, ⟨s, k + 1⟩, [], ⟨h, h1⟩, by show s.size - (k + 1) < s.size - k; omega, rfl, rfl, ⟨rfl, ⟨rfl, rfl⟩, ⟨rfl, rfl⟩, ⟨rfl, rfl⟩, trivial⟩, trivial, rfl, rfl⟩
  · obtain rfl : k = s.size := by omega
    have e1 : cm .lss (s.size : Int) s.size = false := decide_eq_false (by omega)
    simp only [e1, cond_false]
    exact ⟨rfl, _, _, [], rfl, rfl, ⟨rfl, ⟨rfl, rfl⟩, trivial, trivial, trivial⟩, trivial, rfl, rfl⟩

noncomputable def E42 : Env := ⟨E1.call, loopEnv [(0, lp42)]⟩
theorem e42_calls : CallsOk E42 Tryz.prog := fun f args H nm r h hn => e1_calls f args H nm r h hn
attribute [local irreducible] evalB Tr.view in
theorem loop42 : LoopOk E42 Tryz.prog Tryz.f108 0 (loopOf Tryz.f108 0) :=
  loop_okE mixed (fun S => rfl) (by decide) ok42 (fun x => x.s.size - x.k) vs42 (fun _ => []) out42 entry42 fun x hx => ⟨E1, e1_calls, loops_noLoop e1_loop _ _, round42 x hx⟩
theorem fn42 : Tryz.prog.funcs[108]? = some Tryz.f108 := by kernel_rfl
theorem b42 : Tryz.f108.body = some (bodyOf Tryz.f108) := by kernel_rfl
theorem n42 : (Tryz.f108.name == "runtime.NumGoroutine") = false := by kernel_rfl
theorem nl42 : Code.loops (bodyOf Tryz.f108) = 1 := by kernel_rfl
theorem nth42 : nthLoop (bodyOf Tryz.f108) 0 = some (loopOf Tryz.f108 0) := by kernel_rfl
theorem loops42 : LoopsOk E42 Tryz.prog Tryz.f108 (bodyOf Tryz.f108) 0 := loops1 nl42 fun a ha => by
  rw [nth42] at ha
  simp only [Option.some.injEq] at ha
  subst ha
  exact loop42

/-- the same, the highest byte first -/
def accD (s : ByteArray) : Nat → Int
  | 0 => 0
  | j + 1 => ar .or .u64 (ar .shl .u64 (accD s j) 8) (conv .u64 (chr s (s.size - 1 - j)))
def v44 (s : ByteArray) (u : Int) (k : Int) : List SV := [.str s, .int false .u64 u, .int false .i64 k]
def lk44 : Lp := ⟨30, [0, 3, 4], 2000, fun _ _ => none⟩
def get44 : List SV → Heap → Option Tr
  | [.str s, .int _ .u64 u, .int _ .i64 k], [] =>
    some (Tr.needs [decide (u = 0), decide (k = ar .sub .i64 s.size 1), Nat.ble s.size 8] (exitT lk44 0 [.str s, .int false .u64 (accD s s.size), .any] []))
  | _, _ => none
def lp44 : Lp := { lk44 with get := get44 }
theorem r44 (s : ByteArray) (u : Int) (k : Int) : (evalB E1 Tryz.prog Tryz.f79.results.toList (loopOf Tryz.f79 0) 1 lp44 (v44 s u k) []).view [0, 3, 4] =
    (bif (cm .geq k 0) then
      bif (decide (0 ≤ k)) then
        bif (Nat.blt (k.toNat) (s.size)) then
          .norm 30 [.str (s), .int false .u64 (ar .or .u64 (ar .shl .u64 u 8) (conv .u64 (chr s k.toNat))), .int false .i64 (ar .sub .i64 k 1)] []
        else .bad
      else .bad
    else
      .exit 0 30 [.str (s), .int false .u64 (u), .int false .i64 (k)] []) := by kernel_rfl
def vs44 (x : X42) : List SV := v44 x.s (accD x.s x.k) (x.s.size - 1 - x.k)
def out44 (x : X42) : Vw := .exit 0 30 [.str x.s, .int false .u64 (accD x.s x.s.size), .any] []
theorem subOne {i : Int} (h : -9223372036854775808 < i) (h2 : i ≤ 9223372036854775807) : ar .sub .i64 i 1 = i - 1 := by
  simp only [ar, IntKind.wrap_i64]; omega

theorem entry44 (l : List SV) (H : Heap) (T : Tr) (h : lp44.get l H = some T) (hb : T.leaf ≠ .bad) : ∃ x r, ok42 x ∧ WkV r lp44.nm l H (vs44 x) ((fun _ => []) x) ∧ T.leaf = toLf lp44 (out44 x) := by
  replace h : get44 l H = some T := h
  unfold get44 at h
  split at h
  · rename_i s _ u _ k
    simp only [Option.some.injEq] at h
    subst h
    obtain ⟨hn, he⟩ := needs_ne hb
    rw [he]
    simp only [allB, Bool.and_eq_true, Bool.and_true, decide_eq_true_eq, Nat.ble_eq] at hn
    obtain ⟨rfl, rfl, h8⟩ := hn
    rw [subOne (by omega) (by omega)]
    refine ⟨⟨s, 0⟩, [], ⟨Nat.zero_le _, h8⟩, ?_, ?_⟩
    · refine ⟨rfl, ⟨rfl, ⟨rfl, rfl⟩, ⟨rfl, ?_⟩, trivial⟩, trivial, rfl, rfl⟩
      simp
    · simp only [exitT_leaf, out44]
      rfl
  · cases h

attribute [local irreducible] evalB Tr.view in
theorem round44 (x : X42) (hx : ok42 x) : Round lp44 ok42 (fun x => x.s.size - x.k) vs44 (fun _ => []) out44 x ((evalB E1 Tryz.prog Tryz.f79.results.toList (loopOf Tryz.f79 0) (0 + 1) lp44 (vs44 x) []).view lp44.ks) := by
  obtain ⟨s, k⟩ := x
  obtain ⟨h0, h1⟩ := hx
  simp only at h0 h1
  have hr := r44 s (accD s k) (s.size - 1 - k)
  rw [show evalB E1 Tryz.prog Tryz.f79.results.toList (loopOf Tryz.f79 0) (0 + 1) lp44 (vs44 ⟨s, k⟩) [] = evalB E1 Tryz.prog Tryz.f79.results.toList (loopOf Tryz.f79 0) 1 lp44 (v44 s (accD s k) (s.size - 1 - k)) [] from rfl, show lp44.ks = [0, 3, 4] from rfl, hr]
  by_cases h : k < s.size
  · have e1 : cm .geq ((s.size : Int) - 1 - k) 0 = true := decide_eq_true (by omega)
    have e3 : Nat.blt ((s.size : Int) - 1 - k).toNat s.size = true := by rw [Nat.blt_eq]; omega
    have e4 : decide (0 ≤ ((s.size : Int) - 1 - k)) = true := decide_eq_true (by omega)
    have e5 : ((s.size : Int) - 1 - k).toNat = s.size - 1 - k := by omega
    simp only [e1, e3, e4, cond_true, subOne (show -9223372036854775808 < ((s.size : Int) - 1 - k) by omega) (by omega)]
    refine ⟨rfl, ⟨s, k + 1⟩, [], ⟨h, h1⟩, by show s.size - (k + 1) < s.size - k; omega, rfl, rfl, ⟨rfl, ⟨rfl, ?_⟩, ⟨rfl, ?_⟩, trivial⟩, trivial, rfl, rfl⟩
    · simp only [accD, e5]
    · simp only [Int.natCast_add]; omega
  · obtain rfl : k = s.size := by omega
    have e1 : cm .geq ((s.size : Int) - 1 - s.size) 0 = false := decide_eq_false (by omega)
    simp only [e1, cond_false]
    exact ⟨rfl, _, _, [], rfl, rfl, ⟨rfl, ⟨rfl, rfl⟩, trivial, trivial⟩, trivial, rfl, rfl⟩

noncomputable def E44 : Env := ⟨E1.call, loopEnv [(0, lp44)]⟩
theorem e44_calls : CallsOk E44 Tryz.prog := fun f args H nm r h hn => e1_calls f args H nm r h hn
attribute [local irreducible] evalB Tr.view in
theorem loop44 : LoopOk E44 Tryz.prog Tryz.f79 0 (loopOf Tryz.f79 0) :=
  loop_okE mixed (fun S => rfl) (by decide) ok42 (fun x => x.s.size - x.k) vs44 (fun _ => []) out44 entry44 fun x hx => ⟨E1, e1_calls, loops_noLoop e1_loop _ _, round44 x hx⟩
theorem fn44 : Tryz.prog.funcs[79]? = some Tryz.f79 := by kernel_rfl
theorem b44 : Tryz.f79.body = some (bodyOf Tryz.f79) := by kernel_rfl
theorem n44 : (Tryz.f79.name == "runtime.NumGoroutine") = false := by kernel_rfl
theorem nl44 : Code.loops (bodyOf Tryz.f79) = 1 := by kernel_rfl
theorem nth44 : nthLoop (bodyOf Tryz.f79) 0 = some (loopOf Tryz.f79 0) := by kernel_rfl
theorem loops44 : LoopsOk E44 Tryz.prog Tryz.f79 (bodyOf Tryz.f79) 0 := loops1 nl44 fun a ha => by
  rw [nth44] at ha
  simp only [Option.some.injEq] at ha
  subst ha
  exact loop44

/-- the reference's bytes of a number -/
def batR (n : Int) (t : Nat) : Int := conv .u8 (ar .shr .u64 (conv .u64 n) (ar .mul .i64 8 (t : Int)))
def v23 (n : Int) (m : Nat) (k : Nat) : List SV := [.int false .i64 n, .int false .i64 m, .sl 1500 m, .int false .i64 k]
def h23 (m : Nat) (g : Nat → Int) : Heap := [(1500, .tab m [.ints .u8 g] true)]
def lk23 : Lp := ⟨25, [0, 1, 5, 6], 2000, fun _ _ => none⟩
/-- so many of them are written -/
def some23 (n : Int) (k : Nat) : Nat → Int := fun t => bif Nat.blt t k then batR n t else 0
def get23 : List SV → Heap → Option Tr
  | [.int _ .i64 n, .int _ .i64 M, .sl kb m, .int _ .i64 k], [(kb', .tab m' [.ints .u8 g] true)] =>
    some (Tr.needs [Nat.beq kb kb', Nat.beq m m', decide (k = 0), decide (M = m), Nat.ble m 8, Nat.ble 1024 kb, (List.range 8).all fun t => decide (g t = 0)] (exitT lk23 0 [.any, .any, .sl 1500 m, .any] (h23 m (batR n))))
  | _, _ => none
def lp23 : Lp := { lk23 with get := get23 }
theorem r23 (n : Int) (m : Nat) (k : Nat) (g : Nat → Int) : (evalB E1 Tryz.prog Tryz.f57.results.toList (loopOf Tryz.f57 0) 1 lp23 (v23 n m k) (h23 m g)).view [0, 1, 5, 6] =
    (bif (cm .lss ↑k ↑m) then
      bif (decide (0 ≤ ar .mul .i64 8 ↑k)) then
        bif (decide (0 ≤ (k : Int))) then
          bif (decide ((k : Int) < ↑m)) then
            bif (Nat.blt ((k : Int).toNat) (m)) then
              bif (Nat.blt ((k : Int).toNat) (m)) then
                .norm 25 [.int false .i64 (n), .int false .i64 (↑m), .sl 1500 (m), .int false .i64 (ar .add .i64 (↑k) 1)] [(1500, .tab (m) [.ints .u8 (upd g (k : Int).toNat (conv .u8 (ar .shr .u64 (conv .u64 n) (ar .mul .i64 8 ↑k))))] true)]
              else .bad
            else .bad
          else .bad
        else .bad
      else .bad
    else
      .exit 0 25 [.int false .i64 (n), .int false .i64 (↑m), .sl 1500 (m), .int false .i64 (↑k)] [(1500, .tab (m) [.ints .u8 (g)] true)]) := by kernel_rfl
structure X23 where
  n : Int
  m : Nat
  k : Nat
def ok23 (x : X23) : Prop := x.k ≤ x.m ∧ x.m ≤ 8
def vs23 (x : X23) : List SV := v23 x.n x.m x.k
def hp23 (x : X23) : Heap := h23 x.m (some23 x.n x.k)
def out23 (x : X23) : Vw := .exit 0 25 [.any, .any, .sl 1500 x.m, .any] (h23 x.m (batR x.n))

theorem entry23 (l : List SV) (H : Heap) (T : Tr) (h : lp23.get l H = some T) (hb : T.leaf ≠ .bad) : ∃ x r, ok23 x ∧ WkV r lp23.nm l H (vs23 x) (hp23 x) ∧ T.leaf = toLf lp23 (out23 x) := by
  replace h : get23 l H = some T := h
  unfold get23 at h
  split at h
  · rename_i _ n _ M kb m _ k kb' m' g
    simp only [Option.some.injEq] at h
    subst h
    obtain ⟨hn, he⟩ := needs_ne hb
    rw [he]
    simp only [allB, Bool.and_eq_true, Bool.and_true, decide_eq_true_eq, Nat.ble_eq, Nat.beq_eq] at hn
    obtain ⟨rfl, rfl, rfl, rfl, h8, hkb, hg⟩ := hn
    refine ⟨⟨n, m, 0⟩, [(1500, .old kb)], ⟨Nat.zero_le _, h8⟩, ?_, ?_⟩
    · refine ⟨rfl, ⟨⟨rfl, rfl⟩, ⟨rfl, rfl⟩, ?_, ⟨rfl, rfl⟩, trivial⟩, ⟨?_, trivial⟩, rfl, rfl⟩
      · exact ⟨rfl, rfl⟩
      · simp [rmap, rlook, Ev.look, wkB, wkCs, wkC]
        intro r hr
        have := List.all_eq_true.1 hg r (List.mem_range.2 (by omega))
        simp only [decide_eq_true_eq] at this
        rw [this]
        simp [some23]
        have hb : Nat.blt r 0 = false := rfl
        rw [hb]; rfl
    · simp only [exitT_leaf, out23]
      rfl
  · cases h

theorem upd_same {α : Type} (g : Nat → α) (r : Nat) (v : α) : upd g r v r = v := by simp [upd, Nat.beq_refl]
theorem upd_other {α : Type} (g : Nat → α) {r i : Nat} (v : α) (h : i ≠ r) : upd g r v i = g i := by
  have : Nat.beq i r = false := by
    cases hb : Nat.beq i r with
    | true => exact absurd (Nat.eq_of_beq_eq_true hb) h
    | false => rfl
  simp [upd, this]
theorem some23_lt {n : Int} {k t : Nat} (h : t < k) : some23 n k t = batR n t := by
  have : Nat.blt t k = true := by rw [Nat.blt_eq]; exact h
  simp [some23, this]

attribute [local irreducible] evalB Tr.view in
theorem round23 (x : X23) (hx : ok23 x) : Round lp23 ok23 (fun x => x.m - x.k) vs23 hp23 out23 x ((evalB E1 Tryz.prog Tryz.f57.results.toList (loopOf Tryz.f57 0) (0 + 1) lp23 (vs23 x) (hp23 x)).view lp23.ks) := by
  obtain ⟨n, m, k⟩ := x
  obtain ⟨h0, h1⟩ := hx
  simp only at h0 h1
  have hr := r23 n m k (some23 n k)
  rw [show evalB E1 Tryz.prog Tryz.f57.results.toList (loopOf Tryz.f57 0) (0 + 1) lp23 (vs23 ⟨n, m, k⟩) (hp23 ⟨n, m, k⟩) = evalB E1 Tryz.prog Tryz.f57.results.toList (loopOf Tryz.f57 0) 1 lp23 (v23 n m k) (h23 m (some23 n k)) from rfl, show lp23.ks = [0, 1, 5, 6] from rfl, hr]
  by_cases h : k < m
  · have e1 : cm .lss (k : Int) m = true := decide_eq_true (by omega)
    have e2 : decide (0 ≤ ar .mul .i64 8 (k : Int)) = true := by rw [mul8 (by omega)]; exact decide_eq_true (Int.natCast_nonneg _)
    have e3 : Nat.blt (k : Int).toNat m = true := by rw [Nat.blt_eq]; omega
    have e4 : decide (0 ≤ (k : Int)) = true := decide_eq_true (Int.natCast_nonneg _)
    have e5 : decide ((k : Int) < m) = true := decide_eq_true (by omega)
    simp only [e1, e2, e3, e4, e5, cond_true, addOne (show k < 9223372036854775807 by omega)]
    refine ⟨rfl, ⟨n, m, k + 1⟩, [], ⟨h, h1⟩, by show m - (k + 1) < m - k; omega, rfl, rfl, ⟨⟨rfl, rfl⟩, ⟨rfl, rfl⟩, ⟨rfl, rfl⟩, ⟨rfl, rfl⟩, trivial⟩, ⟨?_, trivial⟩, rfl, rfl⟩
    simp [rmap, rlook, Ev.look, wkB, wkCs, wkC]
    intro r hr
    by_cases hk : r = k
    · subst hk
      rw [upd_same, some23_lt (by omega)]
      rfl
    · rw [upd_other _ _ hk]
      simp only [some23]
      have : Nat.blt r (k + 1) = Nat.blt r k := by
        rw [Bool.eq_iff_iff, Nat.blt_eq, Nat.blt_eq]; omega
      rw [this]
  · obtain rfl : k = m := by omega
    have e1 : cm .lss (k : Int) k = false := decide_eq_false (by omega)
    simp only [e1, cond_false]
    refine ⟨rfl, _, _, [], rfl, rfl, ⟨trivial, trivial, ⟨rfl, rfl⟩, trivial, trivial⟩, ⟨?_, trivial⟩, rfl, rfl⟩
    simp [rmap, rlook, Ev.look, wkB, wkCs, wkC]
    intro r hr
    rw [some23_lt hr]

noncomputable def E23 : Env := ⟨E1.call, loopEnv [(0, lp23)]⟩
theorem e23_calls : CallsOk E23 Tryz.prog := fun f args H nm r h hn => e1_calls f args H nm r h hn
attribute [local irreducible] evalB Tr.view in
theorem loop23 : LoopOk E23 Tryz.prog Tryz.f57 0 (loopOf Tryz.f57 0) :=
  loop_okE mixed (fun S => rfl) (by decide) ok23 (fun x => x.m - x.k) vs23 hp23 out23 entry23 fun x hx => ⟨E1, e1_calls, loops_noLoop e1_loop _ _, round23 x hx⟩
theorem fn23 : Tryz.prog.funcs[57]? = some Tryz.f57 := by kernel_rfl
theorem b23 : Tryz.f57.body = some (bodyOf Tryz.f57) := by kernel_rfl
theorem n23 : (Tryz.f57.name == "runtime.NumGoroutine") = false := by kernel_rfl
theorem nl23 : Code.loops (bodyOf Tryz.f57) = 1 := by kernel_rfl
theorem nth23 : nthLoop (bodyOf Tryz.f57) 0 = some (loopOf Tryz.f57 0) := by kernel_rfl
theorem loops23 : LoopsOk E23 Tryz.prog Tryz.f57 (bodyOf Tryz.f57) 0 := loops1 nl23 fun a ha => by
  rw [nth23] at ha
  simp only [Option.some.injEq] at ha
  subst ha
  exact loop23

end Go.X
end

section
set_option linter.unusedVariables false
open Go Go.Ev Go.Proofs
namespace Go.X

def endN (u : Int) (k : Nat) : Int := ar .shr .i64 (conv .i64 (ar .shl .u64 u (ar .sub .i64 64 (ar .mul .i64 8 (k : Int))))) (ar .sub .i64 64 (ar .mul .i64 8 (k : Int)))
def numU (s : ByteArray) : Int := endN (accU s s.size) s.size
def numD (s : ByteArray) : Int := endN (accD s s.size) s.size

theorem t42 (s : ByteArray) : (evalF E42 Tryz.prog 108 [.str s] [] 1024).bare =
    (bif (decide ((s.size : Int) = s.size)) then
      bif (Nat.ble (s.size) (8)) then
        bif (decide (0 ≤ ar .sub .i64 64 (ar .mul .i64 8 ↑s.size))) then
          bif (decide (0 ≤ ar .sub .i64 64 (ar .mul .i64 8 ↑s.size))) then
            .ret (.int false .i64 (numU s)) []
          else .bad
        else .bad
      else .bad
    else .bad) := by kernel_rfl
theorem t44 (s : ByteArray) : (evalF E44 Tryz.prog 79 [.str s] [] 1024).bare =
    (bif (decide (ar .sub .i64 (↑s.size) 1 = ar .sub .i64 (↑s.size) 1)) then
      bif (Nat.ble (s.size) (8)) then
        bif (decide (0 ≤ ar .sub .i64 64 (ar .mul .i64 8 ↑s.size))) then
          bif (decide (0 ≤ ar .sub .i64 64 (ar .mul .i64 8 ↑s.size))) then
            .ret (.int false .i64 (numD s)) []
          else .bad
        else .bad
      else .bad
    else .bad) := by kernel_rfl
theorem t23 (n : Int) (m : Nat) : (evalF E23 Tryz.prog 57 [.int false .i64 n, .int false .i64 m] [] 1024).bare =
    (bif (decide (0 ≤ (m : Int))) then
      bif (decide ((m : Int) ≤ m)) then
        bif (Nat.ble (m * 1) (140737488355328)) then
          bif (Nat.ble (m) (140737488355328)) then
            bif (Nat.beq (m) (m)) then
              bif (decide ((m : Int) = ↑m)) then
                bif (Nat.ble (m) (8)) then
                  bif (Nat.ble (m) (m)) then
                    .ret (.str (strOf (batR n) m)) []
                  else .bad
                else .bad
              else .bad
            else .bad
          else .bad
        else .bad
      else .bad
    else .bad) := by kernel_rfl
theorem t24 (w : Int) (m : Int) (l : Int) : (evalF E1 Tryz.prog 58 [.int false .i64 w, .int false .i64 m, .int false .i64 l] [] 1024).bare =
    (bif (cm .eql w 8) then
      bif (cm .geq m 8) then
        bif (cm .geq l 8) then
          .ret (.str (strOf (nth [conv .u8 (ar .add .i64 (ar .add .i64 (ar .add .i64 64 8) 4) 1)] 0) 1)) []
        else
          .ret (.str (strOf (nth [conv .u8 (ar .add .i64 (ar .add .i64 64 8) 4)] 0) 1)) []
      else
        bif (cm .geq l 8) then
          .ret (.str (strOf (nth [conv .u8 (ar .add .i64 (ar .add .i64 64 8) 1)] 0) 1)) []
        else
          .ret (.str (strOf (nth [conv .u8 (ar .add .i64 64 8)] 0) 1)) []
    else
      bif (cm .geq m 8) then
        bif (cm .geq l 8) then
          .ret (.str (strOf (nth [conv .u8 (ar .add .i64 (ar .add .i64 64 4) 1)] 0) 1)) []
        else
          .ret (.str (strOf (nth [conv .u8 (ar .add .i64 64 4)] 0) 1)) []
      else
        bif (cm .geq l 8) then
          .ret (.str (strOf (nth [conv .u8 (ar .add .i64 64 1)] 0) 1)) []
        else
          .ret (.str (strOf (nth [conv .u8 64] 0) 1)) []) := by kernel_rfl

def g42 : List SV → Heap → Option R
  | [.str s], [] => some ⟨[Nat.ble s.size 8], .int false .i64 (numU s), []⟩
  | _, _ => none
def g44 : List SV → Heap → Option R
  | [.str s], [] => some ⟨[Nat.ble s.size 8], .int false .i64 (numD s), []⟩
  | _, _ => none
def g23 : List SV → Heap → Option R
  | [.int false .i64 n, .int false .i64 m], [] => some ⟨[decide (0 ≤ m), decide (m ≤ 8)], .str (strOf (batR n) m.toNat), []⟩
  | _, _ => none
def g24 : List SV → Heap → Option R
  | [.int false .i64 w, .int false .i64 m, .int false .i64 l], [] => some ⟨[], .str (strOf (nth [rexI w m l] 0) 1), []⟩
  | _, _ => none

theorem fn24 : Tryz.prog.funcs[58]? = some Tryz.f58 := by kernel_rfl
theorem b24 : Tryz.f58.body = some (bodyOf Tryz.f58) := by kernel_rfl
theorem n24 : (Tryz.f58.name == "runtime.NumGoroutine") = false := by kernel_rfl

theorem gives_int {l : Bool} {k : IntKind} {n : Int} {H : Heap} : (Lf.ret (.int l k n) H).gives (.int false k n) := fun σ σ' => rfl
theorem gives_str {s : ByteArray} {H : Heap} : (Lf.ret (.str s) H).gives (.str s) := fun σ σ' => rfl

theorem low8 {k : Nat} (h : k ≤ 8) : decide (0 ≤ ar .sub .i64 64 (ar .mul .i64 8 (k : Int))) = true := by
  rw [mul8 (by omega)]
  simp only [ar, IntKind.wrap_i64]
  exact decide_eq_true (by omega)

attribute [local irreducible] evalF Lf.gives numU in
theorem spec42 : SpecOk Tryz.prog 108 (specOf g42) := spec_okA false e42_calls mixed fn42 b42 n42 loops42 g42 fun a0 H0 r hg hn => by
  unfold g42 at hg
  split at hg
  · rename_i s
    simp only [Option.some.injEq] at hg
    subst hg
    simp only [allB, Bool.and_true, Nat.ble_eq] at hn
    refine ⟨_, id, fun _ => rfl, gives_giv (gives_tree (t42 s) ?_)⟩
    have e1 : decide ((s.size : Int) = s.size) = true := decide_eq_true rfl
    have e2 : Nat.ble s.size 8 = true := by rw [Nat.ble_eq]; exact hn
    simp only [decide_true, e2, low8 hn, cond_true]
    exact gives_int
  · cases hg

attribute [local irreducible] evalF Lf.gives numD in
theorem spec44 : SpecOk Tryz.prog 79 (specOf g44) := spec_okA false e44_calls mixed fn44 b44 n44 loops44 g44 fun a0 H0 r hg hn => by
  unfold g44 at hg
  split at hg
  · rename_i s
    simp only [Option.some.injEq] at hg
    subst hg
    simp only [allB, Bool.and_true, Nat.ble_eq] at hn
    refine ⟨_, id, fun _ => rfl, gives_giv (gives_tree (t44 s) ?_)⟩
    have e1 : decide (ar .sub .i64 (s.size : Int) 1 = ar .sub .i64 s.size 1) = true := decide_eq_true rfl
    have e2 : Nat.ble s.size 8 = true := by rw [Nat.ble_eq]; exact hn
    simp only [decide_true, e2, low8 hn, cond_true]
    exact gives_int
  · cases hg

attribute [local irreducible] evalF Lf.gives in
theorem spec23 : SpecOk Tryz.prog 57 (specOf g23) := spec_okA false e23_calls mixed fn23 b23 n23 loops23 g23 fun a0 H0 r hg hn => by
  unfold g23 at hg
  split at hg
  · rename_i n m
    simp only [Option.some.injEq] at hg
    subst hg
    simp only [allB, Bool.and_true, Bool.and_eq_true, decide_eq_true_eq] at hn
    obtain ⟨h0, h1⟩ := hn
    obtain ⟨k, rfl⟩ : ∃ k : Nat, m = k := ⟨m.toNat, by omega⟩
    refine ⟨_, id, fun _ => rfl, gives_giv (gives_tree (t23 n k) ?_)⟩
    have e1 : decide (0 ≤ (k : Int)) = true := decide_eq_true h0
    have e2 : decide ((k : Int) ≤ k) = true := decide_eq_true (by omega)
    have e3 : Nat.ble (k * 1) 140737488355328 = true := by
      have : 1 = 1 := by kernel_rfl
      rw [this, Nat.ble_eq]; omega
    have e4 : Nat.ble k 140737488355328 = true := by rw [Nat.ble_eq]; omega
    have e5 : Nat.beq k k = true := Nat.beq_refl k
    have e6 : decide ((k : Int) = k) = true := decide_eq_true rfl
    have e7 : Nat.ble k 8 = true := by rw [Nat.ble_eq]; omega
    have e8 : Nat.ble k k = true := by rw [Nat.ble_eq]; omega
    simp only [decide_true, e1, e2, e3, e4, e5, e7, e8, cond_true, Int.toNat_natCast]
    exact gives_str
  · cases hg

attribute [local irreducible] evalF in
theorem spec24 : SpecOk Tryz.prog 58 (specOf g24) := spec_okA false e1_calls mixed fn24 b24 n24 (loops_noLoop e1_loop _ _) g24 fun a0 H0 r hg hn => by
  unfold g24 at hg
  split at hg
  · rename_i w m l
    simp only [Option.some.injEq] at hg
    subst hg
    refine ⟨_, id, fun _ => rfl, gives_giv (gives_tree (t24 w m l) ?_)⟩
    simp only [rexI]
    cases cm .eql w 8 <;> cases cm .geq m 8 <;> cases cm .geq l 8 <;> exact fun σ σ' => rfl
  · cases hg

/-- the environment of the reference's Encode -/
def ps8 : List Nat := [52, 53, 54, 55, 56, 59, 71]
theorem named8 : named Tryz.prog ps8 = true := by kernel_rfl
noncomputable def E8 : Env := inlA Tryz.prog (envOf [(57, specOf g23), (58, specOf g24)] noLoop) ps8 [] 3
theorem namedNil : named Tryz.prog [] = true := rfl
theorem e8_calls : CallsOk E8 Tryz.prog := (inlA_calls ((SpecsOk.cons spec23 (SpecsOk.cons spec24 SpecsOk.nil)).calls noLoop) mixed named8 namedNil 3).1
theorem e8_loop : E8.loop = noLoop := rfl

end Go.X
end

section
set_option linter.unusedVariables false
open Go Go.Ev Go.Proofs
namespace Go.Rv

theorem mixed : Tryz.prog.follows .mixedOrders = true := X.mixed
theorem namedNil : named Tryz.prog [] = true := rfl
theorem cm_eql' (a b : Int) : cm .eql a b = decide (a = b) := X.cm_eql' a b
theorem cm_lss' (a b : Int) : cm .lss a b = decide (a < b) := rfl
theorem cm_leq' (a b : Int) : cm .leq a b = decide (a ≤ b) := rfl
theorem cm_gtr' (a b : Int) : cm .gtr a b = decide (b < a) := rfl
theorem cm_geq' (a b : Int) : cm .geq a b = decide (b ≤ a) := rfl

theorem addOne {i : Nat} (h : i < 9223372036854775807) : ar .add .i64 (i : Int) 1 = ((i + 1 : Nat) : Int) := by simp only [ar, IntKind.wrap_i64]; omega

end Go.Rv
end
