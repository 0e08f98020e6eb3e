/-
  x86: begins sees an op's bytes; read's contract.
-/
import Derived.Test.YtdmhlhggkldnoaaC10
set_option linter.unusedSimpArgs false
set_option linter.unusedVariables false
section
set_option linter.unusedVariables false
open Go Go.Ev Go.Proofs
namespace Go.X

theorem ext_is {s b : ByteArray} (a : Nat) (h : a + b.size ≤ s.size) (hc : ∀ j, j < b.size → chr s (a + j) = chr b j) : s.extract a (a + b.size) = b := by
  refine ba_ext ?_ fun j hj => ?_
  · rw [ByteArray.size_extract]; omega
  · rw [ByteArray.size_extract] at hj
    rw [chr_extract s a _ j h (by omega), hc j (by omega)]
theorem and248_chk : ([(184 : Int), 80, 88].all fun c => all16 fun m => ar .and .u8 (c + m % 8) 248 == c) = true := by kernel_rfl
theorem and248 {c m : Int} (hc : c ∈ [(184 : Int), 80, 88]) (hm : small m) : ar .and .u8 (c + m % 8) 248 = c := by
  have := all16_spec (List.all_eq_true.1 and248_chk c hc) hm
  simpa using this
theorem and240_chk : ([(128 : Int), 112].all fun c => all16 fun m => ar .and .u8 (c + m) 240 == c) = true := by kernel_rfl
theorem and240 {c m : Int} (hc : c ∈ [(128 : Int), 112]) (hm : small m) : ar .and .u8 (c + m) 240 = c := by
  have := all16_spec (List.all_eq_true.1 and240_chk c hc) hm
  simpa using this
theorem one_lt {j : Nat} (h : j < 1) : j = 0 := by omega
theorem two_lt {j : Nat} (h : j < 2) : j = 0 ∨ j = 1 := by omega

theorem bg_1 {s : ByteArray} {w rd rs n : Int} (hd : DX 1 s w rd rs n) : bgX 0 s ⟨#[137]⟩ 114 = true := by
  obtain ⟨hw, hrd, hrs, qn, hi, hf, hz, e0, e1, e2⟩ := fact_1 hd
  have hx : s.extract 1 (1 + (ByteArray.mk #[137]).size) = ⟨#[137]⟩ := ext_is 1 (by show 1 + 1 ≤ s.size; omega) fun j hj => by
    obtain rfl := one_lt hj
    exact e1
  have hs : 0 + (ByteArray.mk #[137]).size < s.size := by show 0 + 1 < s.size; omega
  show (decide _ && decide _) = true
  rw [decide_eq_true hs, decide_eq_true hx]
  rfl

theorem bg_2 {s : ByteArray} {w rd rs n : Int} (hd : DX 2 s w rd rs n) : bgX 0 s ⟨#[199]⟩ 110 = true := by
  obtain ⟨hw, qw, hrd, qs, hi, hf, hz, e0, e1, e2, ht⟩ := fact_2 hd
  have hx : s.extract 1 (1 + (ByteArray.mk #[199]).size) = ⟨#[199]⟩ := ext_is 1 (by show 1 + 1 ≤ s.size; omega) fun j hj => by
    obtain rfl := one_lt hj
    exact e1
  have hs : 0 + (ByteArray.mk #[199]).size < s.size := by show 0 + 1 < s.size; omega
  show (decide _ && decide _) = true
  rw [decide_eq_true hs, decide_eq_true hx]
  rfl

theorem bg_3 {s : ByteArray} {w rd rs n : Int} (hd : DX 3 s w rd rs n) : bgX 0 s ⟨#[184]⟩ 98 = true := by
  obtain ⟨hw, qw, hrd, qs, hi, hf, hz, e0, e1, ht⟩ := fact_3 hd
  show (decide _ && decide _) = true
  rw [decide_eq_true (show 1 < s.size by omega), decide_eq_true (show ar .and .u8 (chr s 1) 248 = chr ⟨#[184]⟩ 0 from by rw [e1]; exact and248 (by decide) hrd)]
  rfl

theorem bg_4 {s : ByteArray} {w rd rs n : Int} (hd : DX 4 s w rd rs n) : bgX 0 s ⟨#[1]⟩ 114 = true := by
  obtain ⟨hw, hrd, hrs, qn, hi, hf, hz, e0, e1, e2⟩ := fact_4 hd
  have hx : s.extract 1 (1 + (ByteArray.mk #[1]).size) = ⟨#[1]⟩ := ext_is 1 (by show 1 + 1 ≤ s.size; omega) fun j hj => by
    obtain rfl := one_lt hj
    exact e1
  have hs : 0 + (ByteArray.mk #[1]).size < s.size := by show 0 + 1 < s.size; omega
  show (decide _ && decide _) = true
  rw [decide_eq_true hs, decide_eq_true hx]
  rfl

theorem bg_5 {s : ByteArray} {w rd rs n : Int} (hd : DX 5 s w rd rs n) : bgX 0 s ⟨#[41]⟩ 114 = true := by
  obtain ⟨hw, hrd, hrs, qn, hi, hf, hz, e0, e1, e2⟩ := fact_5 hd
  have hx : s.extract 1 (1 + (ByteArray.mk #[41]).size) = ⟨#[41]⟩ := ext_is 1 (by show 1 + 1 ≤ s.size; omega) fun j hj => by
    obtain rfl := one_lt hj
    exact e1
  have hs : 0 + (ByteArray.mk #[41]).size < s.size := by show 0 + 1 < s.size; omega
  show (decide _ && decide _) = true
  rw [decide_eq_true hs, decide_eq_true hx]
  rfl

theorem bg_6 {s : ByteArray} {w rd rs n : Int} (hd : DX 6 s w rd rs n) : bgX 0 s ⟨#[33]⟩ 114 = true := by
  obtain ⟨hw, hrd, hrs, qn, hi, hf, hz, e0, e1, e2⟩ := fact_6 hd
  have hx : s.extract 1 (1 + (ByteArray.mk #[33]).size) = ⟨#[33]⟩ := ext_is 1 (by show 1 + 1 ≤ s.size; omega) fun j hj => by
    obtain rfl := one_lt hj
    exact e1
  have hs : 0 + (ByteArray.mk #[33]).size < s.size := by show 0 + 1 < s.size; omega
  show (decide _ && decide _) = true
  rw [decide_eq_true hs, decide_eq_true hx]
  rfl

theorem bg_7 {s : ByteArray} {w rd rs n : Int} (hd : DX 7 s w rd rs n) : bgX 0 s ⟨#[9]⟩ 114 = true := by
  obtain ⟨hw, hrd, hrs, qn, hi, hf, hz, e0, e1, e2⟩ := fact_7 hd
  have hx : s.extract 1 (1 + (ByteArray.mk #[9]).size) = ⟨#[9]⟩ := ext_is 1 (by show 1 + 1 ≤ s.size; omega) fun j hj => by
    obtain rfl := one_lt hj
    exact e1
  have hs : 0 + (ByteArray.mk #[9]).size < s.size := by show 0 + 1 < s.size; omega
  show (decide _ && decide _) = true
  rw [decide_eq_true hs, decide_eq_true hx]
  rfl

theorem bg_8 {s : ByteArray} {w rd rs n : Int} (hd : DX 8 s w rd rs n) : bgX 0 s ⟨#[49]⟩ 114 = true := by
  obtain ⟨hw, hrd, hrs, qn, hi, hf, hz, e0, e1, e2⟩ := fact_8 hd
  have hx : s.extract 1 (1 + (ByteArray.mk #[49]).size) = ⟨#[49]⟩ := ext_is 1 (by show 1 + 1 ≤ s.size; omega) fun j hj => by
    obtain rfl := one_lt hj
    exact e1
  have hs : 0 + (ByteArray.mk #[49]).size < s.size := by show 0 + 1 < s.size; omega
  show (decide _ && decide _) = true
  rw [decide_eq_true hs, decide_eq_true hx]
  rfl

theorem bg_9 {s : ByteArray} {w rd rs n : Int} (hd : DX 9 s w rd rs n) : bgX 0 s ⟨#[57]⟩ 114 = true := by
  obtain ⟨hw, hrd, hrs, qn, hi, hf, hz, e0, e1, e2⟩ := fact_9 hd
  have hx : s.extract 1 (1 + (ByteArray.mk #[57]).size) = ⟨#[57]⟩ := ext_is 1 (by show 1 + 1 ≤ s.size; omega) fun j hj => by
    obtain rfl := one_lt hj
    exact e1
  have hs : 0 + (ByteArray.mk #[57]).size < s.size := by show 0 + 1 < s.size; omega
  show (decide _ && decide _) = true
  rw [decide_eq_true hs, decide_eq_true hx]
  rfl

theorem bg_10 {s : ByteArray} {w rd rs n : Int} (hd : DX 10 s w rd rs n) : bgX 0 s ⟨#[15, 175]⟩ 113 = true := by
  obtain ⟨hw, hrd, hrs, qn, hi, hf, hz, e0, e1, e2, e3⟩ := fact_10 hd
  have hx : s.extract 1 (1 + (ByteArray.mk #[15, 175]).size) = ⟨#[15, 175]⟩ := ext_is 1 (by show 1 + 2 ≤ s.size; omega) fun j hj => by
    rcases two_lt hj with rfl | rfl
    · exact e1
    · exact e2
  have hs : 0 + (ByteArray.mk #[15, 175]).size < s.size := by show 0 + 2 < s.size; omega
  show (decide _ && decide _) = true
  rw [decide_eq_true hs, decide_eq_true hx]
  rfl

theorem bg_11 {s : ByteArray} {w rd rs n : Int} (hd : DX 11 s w rd rs n) : bgX 0 s ⟨#[247]⟩ 110 = true := by
  obtain ⟨hw, hrd, qs, qn, hi, hf, hz, e0, e1, e2⟩ := fact_11 hd
  have hx : s.extract 1 (1 + (ByteArray.mk #[247]).size) = ⟨#[247]⟩ := ext_is 1 (by show 1 + 1 ≤ s.size; omega) fun j hj => by
    obtain rfl := one_lt hj
    exact e1
  have hs : 0 + (ByteArray.mk #[247]).size < s.size := by show 0 + 1 < s.size; omega
  show (decide _ && decide _) = true
  rw [decide_eq_true hs, decide_eq_true hx]
  rfl

theorem bg_12 {s : ByteArray} {w rd rs n : Int} (hd : DX 12 s w rd rs n) : bgX 0 s ⟨#[247]⟩ 110 = true := by
  obtain ⟨hw, hrd, qs, qn, hi, hf, hz, e0, e1, e2⟩ := fact_12 hd
  have hx : s.extract 1 (1 + (ByteArray.mk #[247]).size) = ⟨#[247]⟩ := ext_is 1 (by show 1 + 1 ≤ s.size; omega) fun j hj => by
    obtain rfl := one_lt hj
    exact e1
  have hs : 0 + (ByteArray.mk #[247]).size < s.size := by show 0 + 1 < s.size; omega
  show (decide _ && decide _) = true
  rw [decide_eq_true hs, decide_eq_true hx]
  rfl

theorem bg_13 {s : ByteArray} {w rd rs n : Int} (hd : DX 13 s w rd rs n) : bgX 0 s ⟨#[247]⟩ 110 = true := by
  obtain ⟨hw, hrd, qs, qn, hi, hf, hz, e0, e1, e2⟩ := fact_13 hd
  have hx : s.extract 1 (1 + (ByteArray.mk #[247]).size) = ⟨#[247]⟩ := ext_is 1 (by show 1 + 1 ≤ s.size; omega) fun j hj => by
    obtain rfl := one_lt hj
    exact e1
  have hs : 0 + (ByteArray.mk #[247]).size < s.size := by show 0 + 1 < s.size; omega
  show (decide _ && decide _) = true
  rw [decide_eq_true hs, decide_eq_true hx]
  rfl

theorem bg_14 {s : ByteArray} {w rd rs n : Int} (hd : DX 14 s w rd rs n) : bgX 0 s ⟨#[247]⟩ 110 = true := by
  obtain ⟨hw, hrd, qs, qn, hi, hf, hz, e0, e1, e2⟩ := fact_14 hd
  have hx : s.extract 1 (1 + (ByteArray.mk #[247]).size) = ⟨#[247]⟩ := ext_is 1 (by show 1 + 1 ≤ s.size; omega) fun j hj => by
    obtain rfl := one_lt hj
    exact e1
  have hs : 0 + (ByteArray.mk #[247]).size < s.size := by show 0 + 1 < s.size; omega
  show (decide _ && decide _) = true
  rw [decide_eq_true hs, decide_eq_true hx]
  rfl

theorem bg_15 {s : ByteArray} {w rd rs n : Int} (hd : DX 15 s w rd rs n) : bgX 0 s ⟨#[211]⟩ 110 = true := by
  obtain ⟨hw, hrd, qs, qn, hi, hf, hz, e0, e1, e2⟩ := fact_15 hd
  have hx : s.extract 1 (1 + (ByteArray.mk #[211]).size) = ⟨#[211]⟩ := ext_is 1 (by show 1 + 1 ≤ s.size; omega) fun j hj => by
    obtain rfl := one_lt hj
    exact e1
  have hs : 0 + (ByteArray.mk #[211]).size < s.size := by show 0 + 1 < s.size; omega
  show (decide _ && decide _) = true
  rw [decide_eq_true hs, decide_eq_true hx]
  rfl

theorem bg_16 {s : ByteArray} {w rd rs n : Int} (hd : DX 16 s w rd rs n) : bgX 0 s ⟨#[211]⟩ 110 = true := by
  obtain ⟨hw, hrd, qs, qn, hi, hf, hz, e0, e1, e2⟩ := fact_16 hd
  have hx : s.extract 1 (1 + (ByteArray.mk #[211]).size) = ⟨#[211]⟩ := ext_is 1 (by show 1 + 1 ≤ s.size; omega) fun j hj => by
    obtain rfl := one_lt hj
    exact e1
  have hs : 0 + (ByteArray.mk #[211]).size < s.size := by show 0 + 1 < s.size; omega
  show (decide _ && decide _) = true
  rw [decide_eq_true hs, decide_eq_true hx]
  rfl

theorem bg_17 {s : ByteArray} {w rd rs n : Int} (hd : DX 17 s w rd rs n) : bgX 0 s ⟨#[211]⟩ 110 = true := by
  obtain ⟨hw, hrd, qs, qn, hi, hf, hz, e0, e1, e2⟩ := fact_17 hd
  have hx : s.extract 1 (1 + (ByteArray.mk #[211]).size) = ⟨#[211]⟩ := ext_is 1 (by show 1 + 1 ≤ s.size; omega) fun j hj => by
    obtain rfl := one_lt hj
    exact e1
  have hs : 0 + (ByteArray.mk #[211]).size < s.size := by show 0 + 1 < s.size; omega
  show (decide _ && decide _) = true
  rw [decide_eq_true hs, decide_eq_true hx]
  rfl

theorem bg_18 {s : ByteArray} {w rd rs n : Int} (hd : DX 18 s w rd rs n) : bgX 0 s ⟨#[]⟩ 120 = true := by
  obtain ⟨hw, qs, qd, qn, hi, hf, hz, e0, e1⟩ := fact_18 hd
  show (decide _ && decide _) = true
  rw [decide_eq_true (show 1 < s.size by omega), decide_eq_true e1]
  rfl

theorem bg_19 {s : ByteArray} {w rd rs n : Int} (hd : DX 19 s w rd rs n) : bgX 0 s ⟨#[129]⟩ 110 = true := by
  obtain ⟨hw, qw, hrd, qs, hi, hf, hz, e0, e1, e2, ht⟩ := fact_19 hd
  have hx : s.extract 1 (1 + (ByteArray.mk #[129]).size) = ⟨#[129]⟩ := ext_is 1 (by show 1 + 1 ≤ s.size; omega) fun j hj => by
    obtain rfl := one_lt hj
    exact e1
  have hs : 0 + (ByteArray.mk #[129]).size < s.size := by show 0 + 1 < s.size; omega
  show (decide _ && decide _) = true
  rw [decide_eq_true hs, decide_eq_true hx]
  rfl

theorem bg_20 {s : ByteArray} {w rd rs n : Int} (hd : DX 20 s w rd rs n) : bgX 0 s ⟨#[]⟩ 115 = true := by
  obtain ⟨hw, qw, hrd, qs, hsn, hi, hf, hz, e0, e1, e2, e3⟩ := fact_20 hd
  show (decide _ && decide _) = true
  rw [decide_eq_true (show 1 < s.size by omega), decide_eq_true e1]
  rfl

theorem bg_21 {s : ByteArray} {w rd rs n : Int} (hd : DX 21 s w rd rs n) : bgX 0 s ⟨#[15, 182]⟩ 113 = true := by
  obtain ⟨hw, qw, hrd, hrs, qn, hi, hf, hz, e0, e1, e2, e3⟩ := fact_21 hd
  have hx : s.extract 1 (1 + (ByteArray.mk #[15, 182]).size) = ⟨#[15, 182]⟩ := ext_is 1 (by show 1 + 2 ≤ s.size; omega) fun j hj => by
    rcases two_lt hj with rfl | rfl
    · exact e1
    · exact e2
  have hs : 0 + (ByteArray.mk #[15, 182]).size < s.size := by show 0 + 2 < s.size; omega
  show (decide _ && decide _) = true
  rw [decide_eq_true hs, decide_eq_true hx]
  rfl

theorem bg_22 {s : ByteArray} {w rd rs n : Int} (hd : DX 22 s w rd rs n) : bgX 0 s ⟨#[15, 183]⟩ 113 = true := by
  obtain ⟨hw, qw, hrd, hrs, qn, hi, hf, hz, e0, e1, e2, e3⟩ := fact_22 hd
  have hx : s.extract 1 (1 + (ByteArray.mk #[15, 183]).size) = ⟨#[15, 183]⟩ := ext_is 1 (by show 1 + 2 ≤ s.size; omega) fun j hj => by
    rcases two_lt hj with rfl | rfl
    · exact e1
    · exact e2
  have hs : 0 + (ByteArray.mk #[15, 183]).size < s.size := by show 0 + 2 < s.size; omega
  show (decide _ && decide _) = true
  rw [decide_eq_true hs, decide_eq_true hx]
  rfl

theorem bg_23 {s : ByteArray} {w rd rs n : Int} (hd : DX 23 s w rd rs n) : bgX 0 s ⟨#[15, 190]⟩ 113 = true := by
  obtain ⟨hw, qw, hrd, hrs, qn, hi, hf, hz, e0, e1, e2, e3⟩ := fact_23 hd
  have hx : s.extract 1 (1 + (ByteArray.mk #[15, 190]).size) = ⟨#[15, 190]⟩ := ext_is 1 (by show 1 + 2 ≤ s.size; omega) fun j hj => by
    rcases two_lt hj with rfl | rfl
    · exact e1
    · exact e2
  have hs : 0 + (ByteArray.mk #[15, 190]).size < s.size := by show 0 + 2 < s.size; omega
  show (decide _ && decide _) = true
  rw [decide_eq_true hs, decide_eq_true hx]
  rfl

theorem bg_24 {s : ByteArray} {w rd rs n : Int} (hd : DX 24 s w rd rs n) : bgX 0 s ⟨#[15, 191]⟩ 113 = true := by
  obtain ⟨hw, qw, hrd, hrs, qn, hi, hf, hz, e0, e1, e2, e3⟩ := fact_24 hd
  have hx : s.extract 1 (1 + (ByteArray.mk #[15, 191]).size) = ⟨#[15, 191]⟩ := ext_is 1 (by show 1 + 2 ≤ s.size; omega) fun j hj => by
    rcases two_lt hj with rfl | rfl
    · exact e1
    · exact e2
  have hs : 0 + (ByteArray.mk #[15, 191]).size < s.size := by show 0 + 2 < s.size; omega
  show (decide _ && decide _) = true
  rw [decide_eq_true hs, decide_eq_true hx]
  rfl

theorem bg_25 {s : ByteArray} {w rd rs n : Int} (hd : DX 25 s w rd rs n) : bgX 0 s ⟨#[99]⟩ 113 = true := by
  obtain ⟨hw, qw, hrd, hrs, qn, hi, hf, hz, e0, e1, e2⟩ := fact_25 hd
  have hx : s.extract 1 (1 + (ByteArray.mk #[99]).size) = ⟨#[99]⟩ := ext_is 1 (by show 1 + 1 ≤ s.size; omega) fun j hj => by
    obtain rfl := one_lt hj
    exact e1
  have hs : 0 + (ByteArray.mk #[99]).size < s.size := by show 0 + 1 < s.size; omega
  show (decide _ && decide _) = true
  rw [decide_eq_true hs, decide_eq_true hx]
  rfl

theorem bg_26 {s : ByteArray} {w rd rs n : Int} (hd : DX 26 s w rd rs n) : bgX 0 s ⟨#[139]⟩ 109 = true := by
  obtain ⟨hw, qw, hrd, hrs, hi, hf, hz, e0, e1, e2, ht⟩ := fact_26 hd
  have hx : s.extract 1 (1 + (ByteArray.mk #[139]).size) = ⟨#[139]⟩ := ext_is 1 (by show 1 + 1 ≤ s.size; omega) fun j hj => by
    obtain rfl := one_lt hj
    exact e1
  have hs : 0 + (ByteArray.mk #[139]).size < s.size := by show 0 + 1 < s.size; omega
  show (decide _ && decide _) = true
  rw [decide_eq_true hs, decide_eq_true hx]
  rfl

theorem bg_27 {s : ByteArray} {w rd rs n : Int} (hd : DX 27 s w rd rs n) : bgX 0 s ⟨#[139]⟩ 109 = true := by
  obtain ⟨hw, qw, hrd, hrs, hi, hf, hz, e0, e1, e2, ht⟩ := fact_27 hd
  have hx : s.extract 1 (1 + (ByteArray.mk #[139]).size) = ⟨#[139]⟩ := ext_is 1 (by show 1 + 1 ≤ s.size; omega) fun j hj => by
    obtain rfl := one_lt hj
    exact e1
  have hs : 0 + (ByteArray.mk #[139]).size < s.size := by show 0 + 1 < s.size; omega
  show (decide _ && decide _) = true
  rw [decide_eq_true hs, decide_eq_true hx]
  rfl

theorem bg_28 {s : ByteArray} {w rd rs n : Int} (hd : DX 28 s w rd rs n) : bgX 0 s ⟨#[99]⟩ 109 = true := by
  obtain ⟨hw, qw, hrd, hrs, hi, hf, hz, e0, e1, e2, ht⟩ := fact_28 hd
  have hx : s.extract 1 (1 + (ByteArray.mk #[99]).size) = ⟨#[99]⟩ := ext_is 1 (by show 1 + 1 ≤ s.size; omega) fun j hj => by
    obtain rfl := one_lt hj
    exact e1
  have hs : 0 + (ByteArray.mk #[99]).size < s.size := by show 0 + 1 < s.size; omega
  show (decide _ && decide _) = true
  rw [decide_eq_true hs, decide_eq_true hx]
  rfl

theorem bg_29 {s : ByteArray} {w rd rs n : Int} (hd : DX 29 s w rd rs n) : bgX 0 s ⟨#[15, 191]⟩ 109 = true := by
  obtain ⟨hw, qw, hrd, hrs, hi, hf, hz, e0, e1, e2, e3, ht⟩ := fact_29 hd
  have hx : s.extract 1 (1 + (ByteArray.mk #[15, 191]).size) = ⟨#[15, 191]⟩ := ext_is 1 (by show 1 + 2 ≤ s.size; omega) fun j hj => by
    rcases two_lt hj with rfl | rfl
    · exact e1
    · exact e2
  have hs : 0 + (ByteArray.mk #[15, 191]).size < s.size := by show 0 + 2 < s.size; omega
  show (decide _ && decide _) = true
  rw [decide_eq_true hs, decide_eq_true hx]
  rfl

theorem bg_30 {s : ByteArray} {w rd rs n : Int} (hd : DX 30 s w rd rs n) : bgX 0 s ⟨#[15, 190]⟩ 109 = true := by
  obtain ⟨hw, qw, hrd, hrs, hi, hf, hz, e0, e1, e2, e3, ht⟩ := fact_30 hd
  have hx : s.extract 1 (1 + (ByteArray.mk #[15, 190]).size) = ⟨#[15, 190]⟩ := ext_is 1 (by show 1 + 2 ≤ s.size; omega) fun j hj => by
    rcases two_lt hj with rfl | rfl
    · exact e1
    · exact e2
  have hs : 0 + (ByteArray.mk #[15, 190]).size < s.size := by show 0 + 2 < s.size; omega
  show (decide _ && decide _) = true
  rw [decide_eq_true hs, decide_eq_true hx]
  rfl

theorem bg_31 {s : ByteArray} {w rd rs n : Int} (hd : DX 31 s w rd rs n) : bgX 0 s ⟨#[15, 183]⟩ 109 = true := by
  obtain ⟨hw, qw, hrd, hrs, hi, hf, hz, e0, e1, e2, e3, ht⟩ := fact_31 hd
  have hx : s.extract 1 (1 + (ByteArray.mk #[15, 183]).size) = ⟨#[15, 183]⟩ := ext_is 1 (by show 1 + 2 ≤ s.size; omega) fun j hj => by
    rcases two_lt hj with rfl | rfl
    · exact e1
    · exact e2
  have hs : 0 + (ByteArray.mk #[15, 183]).size < s.size := by show 0 + 2 < s.size; omega
  show (decide _ && decide _) = true
  rw [decide_eq_true hs, decide_eq_true hx]
  rfl

theorem bg_32 {s : ByteArray} {w rd rs n : Int} (hd : DX 32 s w rd rs n) : bgX 0 s ⟨#[15, 182]⟩ 109 = true := by
  obtain ⟨hw, qw, hrd, hrs, hi, hf, hz, e0, e1, e2, e3, ht⟩ := fact_32 hd
  have hx : s.extract 1 (1 + (ByteArray.mk #[15, 182]).size) = ⟨#[15, 182]⟩ := ext_is 1 (by show 1 + 2 ≤ s.size; omega) fun j hj => by
    rcases two_lt hj with rfl | rfl
    · exact e1
    · exact e2
  have hs : 0 + (ByteArray.mk #[15, 182]).size < s.size := by show 0 + 2 < s.size; omega
  show (decide _ && decide _) = true
  rw [decide_eq_true hs, decide_eq_true hx]
  rfl

theorem bg_33 {s : ByteArray} {w rd rs n : Int} (hd : DX 33 s w rd rs n) : bgX 0 s ⟨#[137]⟩ 109 = true := by
  obtain ⟨hw, qw, hrd, hrs, hi, hf, hz, e0, e1, e2, ht⟩ := fact_33 hd
  have hx : s.extract 1 (1 + (ByteArray.mk #[137]).size) = ⟨#[137]⟩ := ext_is 1 (by show 1 + 1 ≤ s.size; omega) fun j hj => by
    obtain rfl := one_lt hj
    exact e1
  have hs : 0 + (ByteArray.mk #[137]).size < s.size := by show 0 + 1 < s.size; omega
  show (decide _ && decide _) = true
  rw [decide_eq_true hs, decide_eq_true hx]
  rfl

theorem bg_34 {s : ByteArray} {w rd rs n : Int} (hd : DX 34 s w rd rs n) : bgX 0 s ⟨#[137]⟩ 109 = true := by
  obtain ⟨hw, qw, hrd, hrs, hi, hf, hz, e0, e1, e2, ht⟩ := fact_34 hd
  have hx : s.extract 1 (1 + (ByteArray.mk #[137]).size) = ⟨#[137]⟩ := ext_is 1 (by show 1 + 1 ≤ s.size; omega) fun j hj => by
    obtain rfl := one_lt hj
    exact e1
  have hs : 0 + (ByteArray.mk #[137]).size < s.size := by show 0 + 1 < s.size; omega
  show (decide _ && decide _) = true
  rw [decide_eq_true hs, decide_eq_true hx]
  rfl

theorem bg_35 {s : ByteArray} {w rd rs n : Int} (hd : DX 35 s w rd rs n) : bgX 1 s ⟨#[137]⟩ 109 = true := by
  obtain ⟨hw, qw, hrd, hrs, hi, hf, hz, e0, e1, e2, e3, ht⟩ := fact_35 hd
  have hx : s.extract 2 (2 + (ByteArray.mk #[137]).size) = ⟨#[137]⟩ := ext_is 2 (by show 2 + 1 ≤ s.size; omega) fun j hj => by
    obtain rfl := one_lt hj
    exact e2
  have hs : 1 + (ByteArray.mk #[137]).size < s.size := by show 1 + 1 < s.size; omega
  show (decide _ && decide _) = true
  rw [decide_eq_true hs, decide_eq_true hx]
  rfl

theorem bg_36 {s : ByteArray} {w rd rs n : Int} (hd : DX 36 s w rd rs n) : bgX 0 s ⟨#[136]⟩ 109 = true := by
  obtain ⟨hw, qw, hrd, hrs, hi, hf, hz, e0, e1, e2, ht⟩ := fact_36 hd
  have hx : s.extract 1 (1 + (ByteArray.mk #[136]).size) = ⟨#[136]⟩ := ext_is 1 (by show 1 + 1 ≤ s.size; omega) fun j hj => by
    obtain rfl := one_lt hj
    exact e1
  have hs : 0 + (ByteArray.mk #[136]).size < s.size := by show 0 + 1 < s.size; omega
  show (decide _ && decide _) = true
  rw [decide_eq_true hs, decide_eq_true hx]
  rfl

theorem bg_37 {s : ByteArray} {w rd rs n : Int} (hd : DX 37 s w rd rs n) : bgX 0 s ⟨#[141]⟩ 109 = true := by
  obtain ⟨hw, qw, hrd, hrs, hi, hf, hz, e0, e1, e2, ht⟩ := fact_37 hd
  have hx : s.extract 1 (1 + (ByteArray.mk #[141]).size) = ⟨#[141]⟩ := ext_is 1 (by show 1 + 1 ≤ s.size; omega) fun j hj => by
    obtain rfl := one_lt hj
    exact e1
  have hs : 0 + (ByteArray.mk #[141]).size < s.size := by show 0 + 1 < s.size; omega
  show (decide _ && decide _) = true
  rw [decide_eq_true hs, decide_eq_true hx]
  rfl

theorem bg_38 {s : ByteArray} {w rd rs n : Int} (hd : DX 38 s w rd rs n) : bgX 0 s ⟨#[80]⟩ 98 = true := by
  obtain ⟨hw, qw, hrd, qs, qn, hi, hf, hz, e0, e1⟩ := fact_38 hd
  show (decide _ && decide _) = true
  rw [decide_eq_true (show 1 < s.size by omega), decide_eq_true (show ar .and .u8 (chr s 1) 248 = chr ⟨#[80]⟩ 0 from by rw [e1]; exact and248 (by decide) hrd)]
  rfl

theorem bg_39 {s : ByteArray} {w rd rs n : Int} (hd : DX 39 s w rd rs n) : bgX 0 s ⟨#[88]⟩ 98 = true := by
  obtain ⟨hw, qw, hrd, qs, qn, hi, hf, hz, e0, e1⟩ := fact_39 hd
  show (decide _ && decide _) = true
  rw [decide_eq_true (show 1 < s.size by omega), decide_eq_true (show ar .and .u8 (chr s 1) 248 = chr ⟨#[88]⟩ 0 from by rw [e1]; exact and248 (by decide) hrd)]
  rfl

theorem bg_40 {s : ByteArray} {w rd rs n : Int} (hd : DX 40 s w rd rs n) : bgX 0 s ⟨#[232]⟩ 112 = true := by
  obtain ⟨hw, qw, qs, qd, hi, hf, hz, e0, ht⟩ := fact_40 hd
  have hx : s.extract 0 (0 + (ByteArray.mk #[232]).size) = ⟨#[232]⟩ := ext_is 0 (by show 0 + 1 ≤ s.size; omega) fun j hj => by
    obtain rfl := one_lt hj
    exact e0
  have hs : (ByteArray.mk #[232]).size ≤ s.size := by show 1 ≤ s.size; omega
  rw [Nat.zero_add] at hx
  show (decide _ && decide _) = true
  rw [decide_eq_true hs, decide_eq_true hx]
  rfl

theorem bg_41 {s : ByteArray} {w rd rs n : Int} (hd : DX 41 s w rd rs n) : bgX 0 s ⟨#[195]⟩ 112 = true := by
  obtain ⟨hw, qw, qs, qd, qn, hi, hf, hz, e0⟩ := fact_41 hd
  have hx : s.extract 0 (0 + (ByteArray.mk #[195]).size) = ⟨#[195]⟩ := ext_is 0 (by show 0 + 1 ≤ s.size; omega) fun j hj => by
    obtain rfl := one_lt hj
    exact e0
  have hs : (ByteArray.mk #[195]).size ≤ s.size := by show 1 ≤ s.size; omega
  rw [Nat.zero_add] at hx
  show (decide _ && decide _) = true
  rw [decide_eq_true hs, decide_eq_true hx]
  rfl

theorem bg_42 {s : ByteArray} {w rd rs n : Int} (hd : DX 42 s w rd rs n) : bgX 0 s ⟨#[233]⟩ 112 = true := by
  obtain ⟨hw, qw, qs, qd, hi, hf, hz, e0, ht⟩ := fact_42 hd
  have hx : s.extract 0 (0 + (ByteArray.mk #[233]).size) = ⟨#[233]⟩ := ext_is 0 (by show 0 + 1 ≤ s.size; omega) fun j hj => by
    obtain rfl := one_lt hj
    exact e0
  have hs : (ByteArray.mk #[233]).size ≤ s.size := by show 1 ≤ s.size; omega
  rw [Nat.zero_add] at hx
  show (decide _ && decide _) = true
  rw [decide_eq_true hs, decide_eq_true hx]
  rfl

theorem bg_43 {s : ByteArray} {w rd rs n : Int} (hd : DX 43 s w rd rs n) : bgX 0 s ⟨#[235]⟩ 112 = true := by
  obtain ⟨hw, qw, qs, qd, hi, hf, hz, e0, ht⟩ := fact_43 hd
  have hx : s.extract 0 (0 + (ByteArray.mk #[235]).size) = ⟨#[235]⟩ := ext_is 0 (by show 0 + 1 ≤ s.size; omega) fun j hj => by
    obtain rfl := one_lt hj
    exact e0
  have hs : (ByteArray.mk #[235]).size ≤ s.size := by show 1 ≤ s.size; omega
  rw [Nat.zero_add] at hx
  show (decide _ && decide _) = true
  rw [decide_eq_true hs, decide_eq_true hx]
  rfl

theorem bg_44 {s : ByteArray} {w rd rs n : Int} (hd : DX 44 s w rd rs n) : bgX 0 s ⟨#[15, 128]⟩ 99 = true := by
  obtain ⟨hw, qw, qs, hrd, hi, hf, hz, e0, e1, ht⟩ := fact_44 hd
  show (decide _ && decide _) = true
  rw [decide_eq_true (show (ByteArray.mk #[15, 128]).size ≤ s.size by show 2 ≤ s.size; omega), decide_eq_true (show ar .and .u8 (chr s ((ByteArray.mk #[15, 128]).size - 1)) 240 = chr ⟨#[15, 128]⟩ ((ByteArray.mk #[15, 128]).size - 1) from by show ar .and .u8 (chr s 1) 240 = 128; rw [e1]; exact and240 (by decide) hrd)]
  rfl

theorem bg_45 {s : ByteArray} {w rd rs n : Int} (hd : DX 45 s w rd rs n) : bgX 0 s ⟨#[112]⟩ 99 = true := by
  obtain ⟨hw, qw, qs, hrd, hi, hf, hz, e0, ht⟩ := fact_45 hd
  show (decide _ && decide _) = true
  rw [decide_eq_true (show (ByteArray.mk #[112]).size ≤ s.size by show 1 ≤ s.size; omega), decide_eq_true (show ar .and .u8 (chr s ((ByteArray.mk #[112]).size - 1)) 240 = chr ⟨#[112]⟩ ((ByteArray.mk #[112]).size - 1) from by show ar .and .u8 (chr s 0) 240 = 112; rw [e0]; exact and240 (by decide) hrd)]
  rfl

theorem bg_46 {s : ByteArray} {w rd rs n : Int} (hd : DX 46 s w rd rs n) : bgX 0 s ⟨#[15, 5]⟩ 112 = true := by
  obtain ⟨hw, qw, qs, qd, qn, hi, hf, hz, e0, e1⟩ := fact_46 hd
  have hx : s.extract 0 (0 + (ByteArray.mk #[15, 5]).size) = ⟨#[15, 5]⟩ := ext_is 0 (by show 0 + 2 ≤ s.size; omega) fun j hj => by
    rcases two_lt hj with rfl | rfl
    · exact e0
    · exact e1
  have hs : (ByteArray.mk #[15, 5]).size ≤ s.size := by show 2 ≤ s.size; omega
  rw [Nat.zero_add] at hx
  show (decide _ && decide _) = true
  rw [decide_eq_true hs, decide_eq_true hx]
  rfl

def bgOp (k : Int) (s : ByteArray) : Bool := bgX (bif nth preR false (k - 1).toNat then 1 else 0) s (nth bytesR .empty (k - 1).toNat) (nth kindR 0 (k - 1).toNat)
def rowR (op : Int) : SV := .agg [.int true .u8 (nth kindR 0 (op - 1).toNat), .str (nth bytesR .empty (op - 1).toNat), .int true .i64 (nth midR 0 (op - 1).toNat), .int true .i64 (nth wR 0 (op - 1).toNat), .int true .i64 (nth immR 0 (op - 1).toNat), .bool true (nth preR false (op - 1).toNat)]
def BRP (k : Int) : Prop := RP k (rowR k) ∧ ∀ s w rd rs n, DX k s w rd rs n → bgOp k s = true
attribute [local irreducible] evalF in
theorem br_all (k : Int) (h1 : 1 ≤ k) (h2 : k ≤ 46) : BRP k := by
  have : k = 1 ∨ k = 2 ∨ k = 3 ∨ k = 4 ∨ k = 5 ∨ k = 6 ∨ k = 7 ∨ k = 8 ∨ k = 9 ∨ k = 10 ∨ k = 11 ∨ k = 12 ∨ k = 13 ∨ k = 14 ∨ k = 15 ∨ k = 16 ∨ k = 17 ∨ k = 18 ∨ k = 19 ∨ k = 20 ∨ k = 21 ∨ k = 22 ∨ k = 23 ∨ k = 24 ∨ k = 25 ∨ k = 26 ∨ k = 27 ∨ k = 28 ∨ k = 29 ∨ k = 30 ∨ k = 31 ∨ k = 32 ∨ k = 33 ∨ k = 34 ∨ k = 35 ∨ k = 36 ∨ k = 37 ∨ k = 38 ∨ k = 39 ∨ k = 40 ∨ k = 41 ∨ k = 42 ∨ k = 43 ∨ k = 44 ∨ k = 45 ∨ k = 46 := by omega
  rcases this with rfl | rfl | rfl | rfl | rfl | rfl | rfl | rfl | rfl | rfl | rfl | rfl | rfl | rfl | rfl | rfl | rfl | rfl | rfl | rfl | rfl | rfl | rfl | rfl | rfl | rfl | rfl | rfl | rfl | rfl | rfl | rfl | rfl | rfl | rfl | rfl | rfl | rfl | rfl | rfl | rfl | rfl | rfl | rfl | rfl | rfl
  · exact ⟨read_1, fun s w rd rs n hd => bg_1 hd⟩
  · exact ⟨read_2, fun s w rd rs n hd => bg_2 hd⟩
  · exact ⟨read_3, fun s w rd rs n hd => bg_3 hd⟩
  · exact ⟨read_4, fun s w rd rs n hd => bg_4 hd⟩
  · exact ⟨read_5, fun s w rd rs n hd => bg_5 hd⟩
  · exact ⟨read_6, fun s w rd rs n hd => bg_6 hd⟩
  · exact ⟨read_7, fun s w rd rs n hd => bg_7 hd⟩
  · exact ⟨read_8, fun s w rd rs n hd => bg_8 hd⟩
  · exact ⟨read_9, fun s w rd rs n hd => bg_9 hd⟩
  · exact ⟨read_10, fun s w rd rs n hd => bg_10 hd⟩
  · exact ⟨read_11, fun s w rd rs n hd => bg_11 hd⟩
  · exact ⟨read_12, fun s w rd rs n hd => bg_12 hd⟩
  · exact ⟨read_13, fun s w rd rs n hd => bg_13 hd⟩
  · exact ⟨read_14, fun s w rd rs n hd => bg_14 hd⟩
  · exact ⟨read_15, fun s w rd rs n hd => bg_15 hd⟩
  · exact ⟨read_16, fun s w rd rs n hd => bg_16 hd⟩
  · exact ⟨read_17, fun s w rd rs n hd => bg_17 hd⟩
  · exact ⟨read_18, fun s w rd rs n hd => bg_18 hd⟩
  · exact ⟨read_19, fun s w rd rs n hd => bg_19 hd⟩
  · exact ⟨read_20, fun s w rd rs n hd => bg_20 hd⟩
  · exact ⟨read_21, fun s w rd rs n hd => bg_21 hd⟩
  · exact ⟨read_22, fun s w rd rs n hd => bg_22 hd⟩
  · exact ⟨read_23, fun s w rd rs n hd => bg_23 hd⟩
  · exact ⟨read_24, fun s w rd rs n hd => bg_24 hd⟩
  · exact ⟨read_25, fun s w rd rs n hd => bg_25 hd⟩
  · exact ⟨read_26, fun s w rd rs n hd => bg_26 hd⟩
  · exact ⟨read_27, fun s w rd rs n hd => bg_27 hd⟩
  · exact ⟨read_28, fun s w rd rs n hd => bg_28 hd⟩
  · exact ⟨read_29, fun s w rd rs n hd => bg_29 hd⟩
  · exact ⟨read_30, fun s w rd rs n hd => bg_30 hd⟩
  · exact ⟨read_31, fun s w rd rs n hd => bg_31 hd⟩
  · exact ⟨read_32, fun s w rd rs n hd => bg_32 hd⟩
  · exact ⟨read_33, fun s w rd rs n hd => bg_33 hd⟩
  · exact ⟨read_34, fun s w rd rs n hd => bg_34 hd⟩
  · exact ⟨read_35, fun s w rd rs n hd => bg_35 hd⟩
  · exact ⟨read_36, fun s w rd rs n hd => bg_36 hd⟩
  · exact ⟨read_37, fun s w rd rs n hd => bg_37 hd⟩
  · exact ⟨read_38, fun s w rd rs n hd => bg_38 hd⟩
  · exact ⟨read_39, fun s w rd rs n hd => bg_39 hd⟩
  · exact ⟨read_40, fun s w rd rs n hd => bg_40 hd⟩
  · exact ⟨read_41, fun s w rd rs n hd => bg_41 hd⟩
  · exact ⟨read_42, fun s w rd rs n hd => bg_42 hd⟩
  · exact ⟨read_43, fun s w rd rs n hd => bg_43 hd⟩
  · exact ⟨read_44, fun s w rd rs n hd => bg_44 hd⟩
  · exact ⟨read_45, fun s w rd rs n hd => bg_45 hd⟩
  · exact ⟨read_46, fun s w rd rs n hd => bg_46 hd⟩

structure RV where
  m : Int
  rd : Int
  rs : Int
  n : Int
def RVok (k : Int) (s : ByteArray) (w : Int) (v : RV) : Prop := Q29 k s w v.m v.rd v.rs v.n ∧ GivesD ⟨[], .int false .i64 v.m, [(0, cells5 k w v.rd v.rs v.n)]⟩ (evalF E29 Try.prog 29 [.str s, rowR k, .ptr 0 0 0] [(0, cells5 k w 0 0 0)] 1024).leaf
attribute [local irreducible] evalF in
theorem rv_ex (k : Int) (s : ByteArray) (w : Int) (h1 : 1 ≤ k) (h2 : k ≤ 46) : ∃ v, RVok k s w v := by
  obtain ⟨m, rd, rs, n, hq, hg⟩ := (br_all k h1 h2).1 s w
  exact ⟨⟨m, rd, rs, n⟩, hq, hg⟩
open Classical in
noncomputable def rdX (k : Int) (s : ByteArray) (w : Int) : RV := if h : 1 ≤ k ∧ k ≤ 46 then Classical.choose (rv_ex k s w h.1 h.2) else ⟨0, 0, 0, 0⟩
theorem rdX_ok (k : Int) (s : ByteArray) (w : Int) (h1 : 1 ≤ k) (h2 : k ≤ 46) : RVok k s w (rdX k s w) := by
  unfold rdX
  rw [dif_pos ⟨h1, h2⟩]
  exact Classical.choose_spec (rv_ex k s w h1 h2)

noncomputable def g29 : List SV → Heap → Option R
  | [.str s, .agg [.int _ .u8 kd, .str b, .int _ .i64 mi, .int _ .i64 wr, .int _ .i64 im, .bool _ pr], .ptr k0 r0 c0], [(j0, .cells [.int false .i64 op, .int false .i64 w, .int false .i64 rd, .int false .i64 rs, .int false .i64 n])] =>
    match Nat.beq k0 0 && (Nat.beq r0 0 && (Nat.beq c0 0 && Nat.beq j0 0)) with
    | true => some ⟨[decide (1 ≤ op), decide (op ≤ 46), decide (kd = nth kindR 0 (op - 1).toNat), decide (b = nth bytesR .empty (op - 1).toNat), decide (mi = nth midR 0 (op - 1).toNat), decide (wr = nth wR 0 (op - 1).toNat),
      decide (im = nth immR 0 (op - 1).toNat), decide (pr = nth preR false (op - 1).toNat), decide (rd = 0), decide (rs = 0), decide (n = 0)], .int false .i64 (rdX op s w).m,
      [(0, .cells [.int false .i64 op, .int false .i64 w, .int false .i64 (rdX op s w).rd, .int false .i64 (rdX op s w).rs, .int false .i64 (rdX op s w).n])]⟩
    | false => none
  | _, _ => none

theorem fn29 : Try.prog.funcs[29]? = some Try.f29 := by kernel_rfl
theorem b29 : Try.f29.body = some (bodyOf Try.f29) := by kernel_rfl
theorem n29 : (Try.f29.name == "runtime.NumGoroutine") = false := by kernel_rfl

attribute [local irreducible] evalF rdX in
theorem spec29 : SpecOk Try.prog 29 (specOf g29) := spec_okB false mixed fn29 b29 n29 g29 fun a0 H0 r hg hn => by
  unfold g29 at hg
  split at hg
  · rename_i s _ kd b _ mi _ wr _ im _ pr k0 r0 c0 j0 op w rd rs n
    split at hg
    · rename_i hb
      simp only [Bool.and_eq_true, Nat.beq_eq] at hb
      obtain ⟨rfl, rfl, rfl, rfl⟩ := hb
      simp only [Option.some.injEq] at hg
      subst hg
      simp only [allB, Bool.and_true, Bool.and_eq_true, decide_eq_true_eq] at hn
      obtain ⟨h1, h2, rfl, rfl, rfl, rfl, rfl, rfl, rfl, rfl, rfl⟩ := hn
      obtain ⟨hq, hg⟩ := rdX_ok op s w h1 h2
      refine ⟨E29, [.str s, rowR op, .ptr 0 0 0], e29_calls, loops_noLoop e29_loop _ _, fun _ => by simp [rowR, SV.alL, SV.al, lt, base], fun σ => by simp only [denL, den, rowR], ?_⟩
      have e : roH (namesH [(0, Blk.cells [.int false .i64 op, .int false .i64 w, .int false .i64 (rdX op s w).rd, .int false .i64 (rdX op s w).rs, .int false .i64 (rdX op s w).n])]) [(0, .cells [.int false .i64 op, .int false .i64 w, .int false .i64 0, .int false .i64 0, .int false .i64 0])] = [(0, cells5 op w 0 0 0)] := rfl
      rw [e]
      exact hg
    · cases hg
  · cases hg

end Go.X
end

section
set_option linter.unusedVariables false
open Go Go.Ev Go.Proofs
namespace Go.X

noncomputable def E11 : Env := inlA Try.prog (envOf [(19, specOf g19), (28, specOf g28), (29, specOf g29), (8, specOf g7)] noLoop) [] [] 1
theorem e11_calls : CallsOk E11 Try.prog := (inlA_calls ((SpecsOk.cons spec19 (SpecsOk.cons spec28 (SpecsOk.cons spec29 (SpecsOk.cons spec8 SpecsOk.nil)))).calls noLoop) mixed namedNil namedNil 1).1
theorem e11_loop : E11.loop = noLoop := rfl
def cellsR (k : Int) : Blk := .cells [.int false .u8 (nth kindR 0 (k - 1).toNat), .str (nth bytesR .empty (k - 1).toNat), .int false .i64 (nth midR 0 (k - 1).toNat), .int false .i64 (nth wR 0 (k - 1).toNat), .int false .i64 (nth immR 0 (k - 1).toNat), .bool false (nth preR false (k - 1).toNat)]
noncomputable def decT2 (s : ByteArray) : SV := .tup [.agg [.int false .i64 (decX s).o, .int false .i64 (decX s).w, .int false .i64 (decX s).rd, .int false .i64 (decX s).rs, .int false .i64 (decX s).n], .int false .i64 (decX s).len]
/-- no earlier op has an instruction there -/
noncomputable def noneX (k : Int) (s : ByteArray) : Bool := @decide (∀ j, 1 ≤ j → j < k → ¬ hitX j s) (Classical.propDecidable _)
theorem noneX_iff (k : Int) (s : ByteArray) : noneX k s = true ↔ ∀ j, 1 ≤ j → j < k → ¬ hitX j s := @decide_eq_true_iff _ (Classical.propDecidable _)
/-- the inner loop -/
def v11b (s : ByteArray) (k t : Int) : List SV := [.str s, .ptr 1024 0 0, .int false .i64 k, .ptr 1500 0 0, .int false .i64 t]
def h11b (k : Int) : Heap := [(1024, z5), (1500, cellsR k)]
def lk11b : Lp := ⟨51, [0, 2, 4, 5, 6], 2600, fun _ _ => none⟩
noncomputable def get11b : List SV → Heap → Option Tr
  | [.str s, .ptr k1 r1 p1, .int _ .i64 k, .ptr k2 r2 p2, .int _ .i64 t], [(j1, .cells [.int _ .i64 a0, .int _ .i64 a1, .int _ .i64 a2, .int _ .i64 a3, .int _ .i64 a4]), (j2, .cells [.int _ .u8 kd, .str b, .int _ .i64 mi, .int _ .i64 wr, .int _ .i64 im, .bool _ pr])] =>
    some (Tr.needs [Nat.beq k1 1024, Nat.beq r1 0, Nat.beq p1 0, Nat.beq r2 0, Nat.beq p2 0, decide (t = 0), Nat.beq j1 1024, Nat.beq j2 k2, Nat.blt 1024 k2, decide (1 ≤ k), decide (k ≤ 46),
        decide (a0 = 0), decide (a1 = 0), decide (a2 = 0), decide (a3 = 0), decide (a4 = 0), decide (kd = nth kindR 0 (k - 1).toNat), decide (b = nth bytesR .empty (k - 1).toNat), decide (mi = nth midR 0 (k - 1).toNat), decide (wr = nth wR 0 (k - 1).toNat),
        decide (im = nth immR 0 (k - 1).toNat), decide (pr = nth preR false (k - 1).toNat), noneX k s]
        (.node ((decX s).ok && decide ((decX s).o = k)) (.ret (decT2 s) []) (exitT lk11b 2 [.str s, .ptr 1024 0 0, .int false .i64 k, .any, .any] [(1024, z5)])))
  | _, _ => none
noncomputable def lp11b : Lp := { lk11b with get := get11b }
noncomputable def E11b : Env := ⟨E11.call, loopEnv [(1, lp11b)]⟩
/-- the outer loop -/
def v11 (s : ByteArray) (k : Int) : List SV := [.str s, .ptr 1024 0 0, .int false .i64 k]
def h11 : Heap := [(1024, z5)]
def lk11 : Lp := ⟨51, [0, 2, 4], 2000, fun _ _ => none⟩
noncomputable def get11 : List SV → Heap → Option Tr
  | [.str s, .ptr k1 r1 p1, .int _ .i64 k], [(j1, .cells [.int _ .i64 a0, .int _ .i64 a1, .int _ .i64 a2, .int _ .i64 a3, .int _ .i64 a4])] =>
    some (Tr.needs [Nat.beq k1 1024, Nat.beq r1 0, Nat.beq p1 0, decide (k = 1), Nat.beq j1 1024, decide (a0 = 0), decide (a1 = 0), decide (a2 = 0), decide (a3 = 0), decide (a4 = 0)]
        (.node (decX s).ok (.ret (decT2 s) []) (exitT lk11 0 [.any, .ptr 1024 0 0, .any] [(1024, z5)])))
  | _, _ => none
noncomputable def lp11 : Lp := { lk11 with get := get11 }
noncomputable def E11L : Env := ⟨E11.call, loopEnv [(0, lp11), (1, lp11b)]⟩

theorem r11b (s : ByteArray) (k : Int) (t : Int) : (evalB E11 Try.prog Try.f11.results.toList (loopOf Try.f11 1) 2 lp11b (v11b s k t) (h11b k)).view [0, 2, 4, 5, 6] =
    (bif (cm .lss t 2) then
 bif (Nat.ble ((nth bytesR ByteArray.empty (k - 1).toNat).size) (100)) then
 bif (decide (1 ≤ (nth bytesR ByteArray.empty (k - 1).toNat).size) || !decide (nth kindR 0 (k - 1).toNat = 98) && !decide (nth kindR 0 (k - 1).toNat = 99)) then
 bif (bgX (bif nth preR false (k - 1).toNat then 1 else 0) s (nth bytesR ByteArray.empty (k - 1).toNat) (nth kindR 0 (k - 1).toNat)) then
 bif (decide (1 ≤ k)) then
 bif (decide (k ≤ 46)) then
 bif (decide (nth kindR 0 (k - 1).toNat = nth kindR 0 (k - 1).toNat)) then
 bif (decide (nth bytesR ByteArray.empty (k - 1).toNat = nth bytesR ByteArray.empty (k - 1).toNat)) then
 bif (decide (nth midR 0 (k - 1).toNat = nth midR 0 (k - 1).toNat)) then
 bif (decide (nth wR 0 (k - 1).toNat = nth wR 0 (k - 1).toNat)) then
 bif (decide (nth immR 0 (k - 1).toNat = nth immR 0 (k - 1).toNat)) then
 bif (decide (nth preR false (k - 1).toNat = nth preR false (k - 1).toNat)) then
 bif (cm .eql (rdX k s (ar .add .i64 4 (ar .mul .i64 4 t))).m 0) then
 .norm 51 [.str (s), .ptr 1024 0 0, .int false .i64 (k), .ptr 1500 0 0, .int false .i64 (ar .add .i64 t 1)] [(1024, .cells [.int false .i64 0, .int false .i64 0, .int false .i64 0, .int false .i64 0, .int false .i64 0]), (1500, .cells [.int false .u8 (nth kindR 0 (k - 1).toNat), .str (nth bytesR ByteArray.empty (k - 1).toNat), .int false .i64 (nth midR 0 (k - 1).toNat), .int false .i64 (nth wR 0 (k - 1).toNat), .int false .i64 (nth immR 0 (k - 1).toNat), .bool false (nth preR false (k - 1).toNat)]), (2712, .cells [.int false .i64 (k), .int false .i64 (ar .add .i64 4 (ar .mul .i64 4 t)), .int false .i64 ((rdX k s (ar .add .i64 4 (ar .mul .i64 4 t))).rd), .int false .i64 ((rdX k s (ar .add .i64 4 (ar .mul .i64 4 t))).rs), .int false .i64 ((rdX k s (ar .add .i64 4 (ar .mul .i64 4 t))).n)])]
 else
 bif (bif cm .eql (errX k (ar .add .i64 4 (ar .mul .i64 4 t)) (rdX k s (ar .add .i64 4 (ar .mul .i64 4 t))).rd (rdX k s (ar .add .i64 4 (ar .mul .i64 4 t))).rs (rdX k s (ar .add .i64 4 (ar .mul .i64 4 t))).n) 0 then allB [decide (0 ≤ (rdX k s (ar .add .i64 4 (ar .mul .i64 4 t))).m), (rdX k s (ar .add .i64 4 (ar .mul .i64 4 t))).m.toNat.ble s.size] else true) then
 bif (bif cm .eql (errX k (ar .add .i64 4 (ar .mul .i64 4 t)) (rdX k s (ar .add .i64 4 (ar .mul .i64 4 t))).rd (rdX k s (ar .add .i64 4 (ar .mul .i64 4 t))).rs (rdX k s (ar .add .i64 4 (ar .mul .i64 4 t))).n) 0 then seq (strX k (ar .add .i64 4 (ar .mul .i64 4 t)) (rdX k s (ar .add .i64 4 (ar .mul .i64 4 t))).rd (rdX k s (ar .add .i64 4 (ar .mul .i64 4 t))).rs (rdX k s (ar .add .i64 4 (ar .mul .i64 4 t))).n) (s.extract 0 (rdX k s (ar .add .i64 4 (ar .mul .i64 4 t))).m.toNat) else false) then
 .ret (.tup [.agg [.int false .i64 (k), .int false .i64 (ar .add .i64 4 (ar .mul .i64 4 t)), .int false .i64 ((rdX k s (ar .add .i64 4 (ar .mul .i64 4 t))).rd), .int false .i64 ((rdX k s (ar .add .i64 4 (ar .mul .i64 4 t))).rs), .int false .i64 ((rdX k s (ar .add .i64 4 (ar .mul .i64 4 t))).n)], .int false .i64 ((rdX k s (ar .add .i64 4 (ar .mul .i64 4 t))).m)]) [(1024, .cells [.int false .i64 (k), .int false .i64 (ar .add .i64 4 (ar .mul .i64 4 t)), .int false .i64 ((rdX k s (ar .add .i64 4 (ar .mul .i64 4 t))).rd), .int false .i64 ((rdX k s (ar .add .i64 4 (ar .mul .i64 4 t))).rs), .int false .i64 ((rdX k s (ar .add .i64 4 (ar .mul .i64 4 t))).n)]), (1500, .cells [.int false .u8 (nth kindR 0 (k - 1).toNat), .str (nth bytesR ByteArray.empty (k - 1).toNat), .int false .i64 (nth midR 0 (k - 1).toNat), .int false .i64 (nth wR 0 (k - 1).toNat), .int false .i64 (nth immR 0 (k - 1).toNat), .bool false (nth preR false (k - 1).toNat)]), (2712, .cells [.int false .i64 (k), .int false .i64 (ar .add .i64 4 (ar .mul .i64 4 t)), .int false .i64 ((rdX k s (ar .add .i64 4 (ar .mul .i64 4 t))).rd), .int false .i64 ((rdX k s (ar .add .i64 4 (ar .mul .i64 4 t))).rs), .int false .i64 ((rdX k s (ar .add .i64 4 (ar .mul .i64 4 t))).n)])]
 else
 .norm 51 [.str (s), .ptr 1024 0 0, .int false .i64 (k), .ptr 1500 0 0, .int false .i64 (ar .add .i64 t 1)] [(1024, .cells [.int false .i64 0, .int false .i64 0, .int false .i64 0, .int false .i64 0, .int false .i64 0]), (1500, .cells [.int false .u8 (nth kindR 0 (k - 1).toNat), .str (nth bytesR ByteArray.empty (k - 1).toNat), .int false .i64 (nth midR 0 (k - 1).toNat), .int false .i64 (nth wR 0 (k - 1).toNat), .int false .i64 (nth immR 0 (k - 1).toNat), .bool false (nth preR false (k - 1).toNat)]), (2712, .cells [.int false .i64 (k), .int false .i64 (ar .add .i64 4 (ar .mul .i64 4 t)), .int false .i64 ((rdX k s (ar .add .i64 4 (ar .mul .i64 4 t))).rd), .int false .i64 ((rdX k s (ar .add .i64 4 (ar .mul .i64 4 t))).rs), .int false .i64 ((rdX k s (ar .add .i64 4 (ar .mul .i64 4 t))).n)])]
 else .bad
 else .bad
 else .bad
 else .bad
 else .bad
 else .bad
 else .bad
 else .bad
 else .bad
 else
 .norm 51 [.str (s), .ptr 1024 0 0, .int false .i64 (k), .ptr 1500 0 0, .int false .i64 (ar .add .i64 t 1)] [(1024, .cells [.int false .i64 0, .int false .i64 0, .int false .i64 0, .int false .i64 0, .int false .i64 0]), (1500, .cells [.int false .u8 (nth kindR 0 (k - 1).toNat), .str (nth bytesR ByteArray.empty (k - 1).toNat), .int false .i64 (nth midR 0 (k - 1).toNat), .int false .i64 (nth wR 0 (k - 1).toNat), .int false .i64 (nth immR 0 (k - 1).toNat), .bool false (nth preR false (k - 1).toNat)]), (2712, .cells [.int false .i64 (k), .int false .i64 (ar .add .i64 4 (ar .mul .i64 4 t)), .int true .i64 0, .int true .i64 0, .int true .i64 0])]
 else .bad
 else .bad
 else
 .exit 2 51 [.str (s), .ptr 1024 0 0, .int false .i64 (k), .ptr 1500 0 0, .int false .i64 (t)] [(1024, .cells [.int false .i64 0, .int false .i64 0, .int false .i64 0, .int false .i64 0, .int false .i64 0]), (1500, .cells [.int false .u8 (nth kindR 0 (k - 1).toNat), .str (nth bytesR ByteArray.empty (k - 1).toNat), .int false .i64 (nth midR 0 (k - 1).toNat), .int false .i64 (nth wR 0 (k - 1).toNat), .int false .i64 (nth immR 0 (k - 1).toNat), .bool false (nth preR false (k - 1).toNat)])]) := by kernel_rfl

theorem r11 (s : ByteArray) (k : Int) : (evalB E11b Try.prog Try.f11.results.toList (loopOf Try.f11 0) 1 lp11 (v11 s k) h11).view [0, 2, 4] =
    (bif (cm .leq k 46) then
 bif (decide (1 ≤ k)) then
 bif (decide (k ≤ 46)) then
 bif (decide (1 ≤ k)) then
 bif (decide (k ≤ 46)) then
 bif (decide (nth kindR 0 (k - 1).toNat = nth kindR 0 (k - 1).toNat)) then
 bif (decide (nth bytesR ByteArray.empty (k - 1).toNat = nth bytesR ByteArray.empty (k - 1).toNat)) then
 bif (decide (nth midR 0 (k - 1).toNat = nth midR 0 (k - 1).toNat)) then
 bif (decide (nth wR 0 (k - 1).toNat = nth wR 0 (k - 1).toNat)) then
 bif (decide (nth immR 0 (k - 1).toNat = nth immR 0 (k - 1).toNat)) then
 bif (decide (nth preR false (k - 1).toNat = nth preR false (k - 1).toNat)) then
 bif (noneX k s) then
 bif ((decX s).ok && decide ((decX s).o = k)) then
 .ret (.tup [.agg [.int false .i64 ((decX s).o), .int false .i64 ((decX s).w), .int false .i64 ((decX s).rd), .int false .i64 ((decX s).rs), .int false .i64 ((decX s).n)], .int false .i64 ((decX s).len)]) []
 else
 .norm 51 [.str (s), .ptr 1024 0 0, .int false .i64 (ar .add .i64 k 1)] [(1024, .cells [.int false .i64 0, .int false .i64 0, .int false .i64 0, .int false .i64 0, .int false .i64 0])]
 else .bad
 else .bad
 else .bad
 else .bad
 else .bad
 else .bad
 else .bad
 else .bad
 else .bad
 else .bad
 else .bad
 else
 .exit 0 51 [.str (s), .ptr 1024 0 0, .int false .i64 (k)] [(1024, .cells [.int false .i64 0, .int false .i64 0, .int false .i64 0, .int false .i64 0, .int false .i64 0])]) := by kernel_rfl

theorem t11 (s : ByteArray) : (evalF E11L Try.prog 11 [.str s] [] 1024).bare =
    (bif ((decX s).ok) then
 .ret (.tup [.agg [.int false .i64 ((decX s).o), .int false .i64 ((decX s).w), .int false .i64 ((decX s).rd), .int false .i64 ((decX s).rs), .int false .i64 ((decX s).n)], .int false .i64 ((decX s).len)]) []
 else
 .ret (.tup [.agg [.int true .i64 0, .int true .i64 0, .int true .i64 0, .int true .i64 0, .int true .i64 0], .int true .i64 0]) []) := by kernel_rfl

end Go.X
end

section
set_option linter.unusedVariables false
open Go Go.Ev Go.Proofs
namespace Go.X

structure X11b where
  s : ByteArray
  k : Int
  t : Nat
def hitW (k : Int) (s : ByteArray) (w : Int) : Prop := ∃ rd rs n, DX k s w rd rs n
def ok11b (x : X11b) : Prop := 1 ≤ x.k ∧ x.k ≤ 46 ∧ x.t ≤ 2 ∧ (∀ j, 1 ≤ j → j < x.k → ¬ hitX j x.s) ∧ ∀ q : Nat, q < x.t → ¬ hitW x.k x.s (4 + 4 * (q : Int))
def vs11b (x : X11b) : List SV := v11b x.s x.k x.t
def hp11b (x : X11b) : Heap := h11b x.k
noncomputable def out11b (x : X11b) : Vw := bif ((decX x.s).ok && decide ((decX x.s).o = x.k)) then .ret (decT2 x.s) [] else .exit 2 51 [.str x.s, .ptr 1024 0 0, .int false .i64 x.k, .any, .any] [(1024, z5)]

theorem entry11b (l : List SV) (H : Heap) (T : Tr) (h : lp11b.get l H = some T) (hb : T.leaf ≠ .bad) : ∃ x r, ok11b x ∧ WkV r lp11b.nm l H (vs11b x) (hp11b x) ∧ T.leaf = toLf lp11b (out11b x) := by
  replace h : get11b l H = some T := h
  unfold get11b at h
  split at h
  · rename_i s k1 r1 p1 _ k k2 r2 p2 _ t j1 _ a0 _ a1 _ a2 _ a3 _ a4 j2 _ kd b _ mi _ wr _ im _ pr
    simp only [Option.some.injEq] at h
    subst h
    obtain ⟨hn, he⟩ := needs_ne hb
    rw [he]
    simp only [allB, Bool.and_eq_true, Bool.and_true, decide_eq_true_eq, Nat.beq_eq, Nat.blt_eq] at hn
    obtain ⟨rfl, rfl, rfl, rfl, rfl, rfl, rfl, rfl, hk2, hk0, hk1, rfl, rfl, rfl, rfl, rfl, rfl, rfl, rfl, rfl, rfl, rfl, hno⟩ := hn
    refine ⟨⟨s, k, 0⟩, [(1500, .old j2)], ⟨hk0, hk1, Nat.zero_le _, (noneX_iff k s).1 hno, fun q hq => absurd hq (Nat.not_lt_zero _)⟩, ?_, ?_⟩
    · have hne : Nat.beq 1024 j2 = false := by
        cases hq : Nat.beq 1024 j2 with
        | true => have := Nat.eq_of_beq_eq_true hq; omega
        | false => rfl
      have hne2 : Nat.beq j2 1024 = false := by
        cases hq : Nat.beq j2 1024 with
        | true => have := Nat.eq_of_beq_eq_true hq; omega
        | false => rfl
      refine ⟨rfl, ?_, ⟨?_, ?_, trivial⟩, ?_, rfl⟩
      · exact ⟨rfl, ⟨rfl, rfl, rfl⟩, ⟨rfl, rfl⟩, ⟨rfl, rfl, rfl⟩, ⟨rfl, rfl⟩, trivial⟩
      · simp [rmap, rlook, Ev.look, wkB, simL, sim, z5]
      · simp [rmap, rlook, Ev.look, hne, wkB, simL, sim, cellsR, Nat.beq_refl]
      · simp [hp11b, h11b, z5, cellsR, oldsOf, rmap, rlook, uniqN, mem, hne2, hne]
    · simp only [Tr.leaf, exitT_leaf, out11b, toLf_cond]
      rfl
  · cases h

theorem bytes_chk : ((List.range 46).all fun i => Nat.ble (nth bytesR .empty i).size 100 && (decide (1 ≤ (nth bytesR .empty i).size) || !decide (nth kindR 0 i = 98) && !decide (nth kindR 0 i = 99))) = true := by kernel_rfl
theorem bytes_facts {k : Int} (h1 : 1 ≤ k) (h2 : k ≤ 46) : Nat.ble (nth bytesR .empty (k - 1).toNat).size 100 = true ∧ (decide (1 ≤ (nth bytesR .empty (k - 1).toNat).size) || !decide (nth kindR 0 (k - 1).toNat = 98) && !decide (nth kindR 0 (k - 1).toNat = 99)) = true := by
  have := List.all_eq_true.1 bytes_chk (k - 1).toNat (List.mem_range.2 (by omega))
  rw [Bool.and_eq_true] at this
  exact this
theorem w_of_t {t : Nat} (h : t < 2) : ar .add .i64 4 (ar .mul .i64 4 (t : Int)) = 4 + 4 * (t : Int) := by
  simp only [ar, IntKind.wrap_i64]; omega
theorem err_w {k w rd rs n : Int} (h : errX k w rd rs n = 0) : w = 4 ∨ w = 8 := by
  unfold errX at h
  cases h1 : (decide (k < 1) || decide (46 < k)) with
  | true => rw [h1] at h; cases h
  | false =>
    rw [h1] at h
    have h2 := (err0 h).1
    simp only [Bool.and_eq_true, Bool.or_eq_true, decide_eq_true_eq] at h2
    exact h2.1

attribute [local irreducible] evalB Tr.view rdX decX strX errX bgX in
theorem round11b (x : X11b) (hx : ok11b x) : Round lp11b ok11b (fun x => 2 - x.t) vs11b hp11b out11b x ((evalB E11 Try.prog Try.f11.results.toList (loopOf Try.f11 1) (1 + 1) lp11b (vs11b x) (hp11b x)).view lp11b.ks) := by
  obtain ⟨s, k, t⟩ := x
  obtain ⟨h1, h2, h3, h4, h5⟩ := hx
  simp only at h1 h2 h3 h4 h5
  have hr := r11b s k t
  rw [show evalB E11 Try.prog Try.f11.results.toList (loopOf Try.f11 1) (1 + 1) lp11b (vs11b ⟨s, k, t⟩) (hp11b ⟨s, k, t⟩) = evalB E11 Try.prog Try.f11.results.toList (loopOf Try.f11 1) 2 lp11b (v11b s k t) (h11b k) from rfl, show lp11b.ks = [0, 2, 4, 5, 6] from rfl, hr]
  by_cases h : t < 2
  · obtain ⟨b1, b2⟩ := bytes_facts h1 h2
    have e1 : cm .lss (t : Int) 2 = true := by rw [cm_lss']; exact decide_eq_true (by omega)
    simp only [e1, b1, b2, w_of_t h, decide_eq_true h1, decide_eq_true h2, cond_true, decide_true]
    have hnext : ∀ H2, ¬ hitW k s (4 + 4 * (t : Int)) → Round lp11b ok11b (fun x => 2 - x.t) vs11b hp11b out11b ⟨s, k, t⟩ (.norm 51 [.str s, .ptr 1024 0 0, .int false .i64 k, .ptr 1500 0 0, .int false .i64 (ar .add .i64 t 1)] ((1024, z5) :: (1500, cellsR k) :: H2)) := by
      intro H2 hno
      rw [addOne (show t < 9223372036854775807 by omega)]
      refine ⟨rfl, ⟨s, k, t + 1⟩, [], ⟨h1, h2, h, h4, fun q (hq : q < t + 1) => ?_⟩, by show 2 - (t + 1) < 2 - t; omega, rfl, ?_⟩
      · by_cases hqt : q = t
        · subst hqt; exact hno
        · exact h5 q (by omega)
      · refine ⟨rfl, ?_, ⟨?_, ?_, trivial⟩, rfl, rfl⟩
        · exact ⟨rfl, ⟨rfl, rfl, rfl⟩, ⟨rfl, rfl⟩, ⟨rfl, rfl, rfl⟩, ⟨rfl, rfl⟩, trivial⟩
        · simp [rmap, rlook, Ev.look, wkB, simL, sim, z5]
        · simp [rmap, rlook, Ev.look, wkB, simL, sim, cellsR]
    generalize (4 + 4 * (t : Int)) = w at *
    obtain ⟨hq, _⟩ := rdX_ok k s w h1 h2
    generalize rdX k s w = v at *
    obtain ⟨q1, q2, q3, q4⟩ := hq
    refine Round_cond (fun hbg => ?_) (fun hbg => ?_)
    · refine Round_cond (fun hm => ?_) (fun hm => ?_)
      · refine hnext _ ?_
        rintro ⟨rd, rs, n, hd⟩
        rw [cm_eql', decide_eq_true_eq] at hm
        exact (q4 _ _ _ hd).1 hm
      · have key : (bif cm .eql (errX k w v.rd v.rs v.n) 0 then seq (strX k w v.rd v.rs v.n) (s.extract 0 v.m.toNat) else false) = true ↔ DX k s w v.rd v.rs v.n := by
          rw [cm_eql', seq_eq]
          by_cases he : errX k w v.rd v.rs v.n = 0
          · rw [decide_eq_true he, cond_true, decide_eq_true_eq]
            constructor
            · intro hx
              have hz : (strX k w v.rd v.rs v.n).size = v.m.toNat := by rw [hx, ByteArray.size_extract]; omega
              exact (hit_iff he q1).2 ⟨by omega, by rw [hz]; exact hx.symm⟩
            · intro hd
              obtain ⟨_, g1, _, _, _⟩ := q4 _ _ _ hd
              have := ((hit_iff he q1).1 hd).2
              rw [g1, Int.toNat_natCast]
              exact this.symm
          · rw [decide_eq_false he, cond_false]
            constructor
            · intro h; cases h
            · intro h; exact absurd h.1 he
        have need : (bif cm .eql (errX k w v.rd v.rs v.n) 0 then allB [decide (0 ≤ v.m), Nat.ble v.m.toNat s.size] else true) = true := by
          cases cm .eql (errX k w v.rd v.rs v.n) 0 with
          | false => rfl
          | true => simp [allB]; omega
        rw [need, cond_true]
        refine Round_cond (fun hh => ?_) (fun hh => ?_)
        · have hd := key.1 hh
          obtain ⟨_, g1, _, _, _⟩ := q4 _ _ _ hd
          have hdec : decX s = ⟨k, w, v.rd, v.rs, v.n, ((strX k w v.rd v.rs v.n).size : Int), true⟩ := decX_is ⟨h1, h2, hd, rfl, rfl, h4⟩
          refine ⟨decT2 s, [], [], ?_, rfl, ?_, trivial, rfl⟩
          · simp only [out11b, hdec, Bool.true_and, decide_true, cond_true]
          · simp [decT2, hdec, sim, simL, g1]
        · refine hnext _ ?_
          rintro ⟨rd, rs, n, hd⟩
          obtain ⟨_, _, a1, a2, a3⟩ := q4 _ _ _ hd
          rw [← a1, ← a2, ← a3] at hd
          rw [key.2 hd] at hh
          cases hh
    · refine hnext _ ?_
      rintro ⟨rd, rs, n, hd⟩
      have := (br_all k h1 h2).2 s w rd rs n hd
      rw [show bgOp k s = bgX (bif nth preR false (k - 1).toNat then 1 else 0) s (nth bytesR .empty (k - 1).toNat) (nth kindR 0 (k - 1).toNat) from rfl, hbg] at this
      cases this
  · obtain rfl : t = 2 := by omega
    have e1 : cm .lss ((2 : Nat) : Int) 2 = false := rfl
    simp only [e1, cond_false]
    have hno : ¬ hitX k s := by
      rintro ⟨w, rd, rs, n, hd⟩
      rcases err_w hd.1 with rfl | rfl
      · exact h5 0 (by decide) ⟨rd, rs, n, hd⟩
      · exact h5 1 (by decide) ⟨rd, rs, n, hd⟩
    have hf : ((decX s).ok && decide ((decX s).o = k)) = false := by
      cases hc : ((decX s).ok && decide ((decX s).o = k)) with
      | false => rfl
      | true =>
        simp only [Bool.and_eq_true, decide_eq_true_eq] at hc
        rcases decX_cases s with hd | hd
        · exact absurd ⟨_, _, _, _, hc.2 ▸ hd.2.2.1⟩ hno
        · rw [hd.1] at hc; cases hc.1
    refine ⟨rfl, _, _, [], by simp only [out11b, hf, cond_false]; rfl, ?_⟩
    refine ⟨rfl, ?_, ⟨?_, trivial⟩, rfl, rfl⟩
    · exact ⟨rfl, ⟨rfl, rfl, rfl⟩, ⟨rfl, rfl⟩, trivial, trivial, trivial⟩
    · simp [rmap, rlook, Ev.look, wkB, simL, sim, z5]

attribute [local irreducible] evalB Tr.view in
theorem loop11b {E : Env} (hE : ∀ S, E.loop 1 S = runLp lp11b S) : LoopOk E Try.prog Try.f11 1 (loopOf Try.f11 1) :=
  loop_okE mixed hE (by decide) ok11b (fun x => 2 - x.t) vs11b hp11b out11b entry11b fun x hx => ⟨E11, e11_calls, loops_noLoop e11_loop _ _, round11b x hx⟩
theorem e11b_calls : CallsOk E11b Try.prog := fun f args H nm r h hn => e11_calls f args H nm r h hn
theorem nl11b : Code.loops (loopOf Try.f11 0) = 1 := by kernel_rfl
theorem nth11b : nthLoop (loopOf Try.f11 0) 0 = some (loopOf Try.f11 1) := by kernel_rfl
theorem inner11 : LoopsOk E11b Try.prog Try.f11 (loopOf Try.f11 0) 1 := loopsOk_of _ 1 fun m a hm ha => by
  rw [nl11b] at hm
  obtain rfl : m = 0 := by omega
  rw [nth11b] at ha
  simp only [Option.some.injEq] at ha
  subst ha
  exact loop11b fun S => rfl

structure X11 where
  s : ByteArray
  k : Nat
def ok11 (x : X11) : Prop := 1 ≤ x.k ∧ x.k ≤ 47 ∧ ∀ j : Int, 1 ≤ j → j < x.k → ¬ hitX j x.s
def vs11 (x : X11) : List SV := v11 x.s x.k
noncomputable def out11 (x : X11) : Vw := bif (decX x.s).ok then .ret (decT2 x.s) [] else .exit 0 51 [.any, .ptr 1024 0 0, .any] [(1024, z5)]

theorem entry11 (l : List SV) (H : Heap) (T : Tr) (h : lp11.get l H = some T) (hb : T.leaf ≠ .bad) : ∃ x r, ok11 x ∧ WkV r lp11.nm l H (vs11 x) ((fun _ => h11) x) ∧ T.leaf = toLf lp11 (out11 x) := by
  replace h : get11 l H = some T := h
  unfold get11 at h
  split at h
  · rename_i s k1 r1 p1 _ k j1 _ a0 _ a1 _ a2 _ a3 _ a4
    simp only [Option.some.injEq] at h
    subst h
    obtain ⟨hn, he⟩ := needs_ne hb
    rw [he]
    simp only [allB, Bool.and_eq_true, Bool.and_true, decide_eq_true_eq, Nat.beq_eq] at hn
    obtain ⟨rfl, rfl, rfl, rfl, rfl, rfl, rfl, rfl, rfl, rfl⟩ := hn
    refine ⟨⟨s, 1⟩, [], ⟨Nat.le_refl _, by show 1 ≤ 47; decide, fun j h1 (h2 : j < ((1 : Nat) : Int)) => by omega⟩, ?_, ?_⟩
    · refine ⟨rfl, ?_, ⟨?_, trivial⟩, rfl, rfl⟩
      · exact ⟨rfl, ⟨rfl, rfl, rfl⟩, ⟨rfl, rfl⟩, trivial⟩
      · simp [rmap, rlook, Ev.look, wkB, simL, sim, z5]
    · simp only [Tr.leaf, exitT_leaf, out11, toLf_cond]
      rfl
  · cases h

attribute [local irreducible] evalB Tr.view decX in
theorem round11 (x : X11) (hx : ok11 x) : Round lp11 ok11 (fun x => 47 - x.k) vs11 (fun _ => h11) out11 x ((evalB E11b Try.prog Try.f11.results.toList (loopOf Try.f11 0) (0 + 1) lp11 (vs11 x) h11).view lp11.ks) := by
  obtain ⟨s, k⟩ := x
  obtain ⟨h1, h2, h3⟩ := hx
  simp only at h1 h2 h3
  have hr := r11 s k
  rw [show evalB E11b Try.prog Try.f11.results.toList (loopOf Try.f11 0) (0 + 1) lp11 (vs11 ⟨s, k⟩) h11 = evalB E11b Try.prog Try.f11.results.toList (loopOf Try.f11 0) 1 lp11 (v11 s k) h11 from rfl, show lp11.ks = [0, 2, 4] from rfl, hr]
  by_cases h : k ≤ 46
  · have e1 : cm .leq (k : Int) 46 = true := by rw [cm_leq']; exact decide_eq_true (by omega)
    have e2 : decide (1 ≤ (k : Int)) = true := decide_eq_true (by omega)
    have e3 : decide ((k : Int) ≤ 46) = true := decide_eq_true (by omega)
    simp only [e1, e2, e3, cond_true, decide_true, (noneX_iff k s).2 h3]
    refine Round_cond (fun hh => ?_) (fun hh => ?_)
    · simp only [Bool.and_eq_true, decide_eq_true_eq] at hh
      refine ⟨decT2 s, [], [], ?_, rfl, ?_, trivial, rfl⟩
      · simp only [out11, hh.1, cond_true]
      · simp [decT2, sim, simL]
    · rw [addOne (show k < 9223372036854775807 by omega)]
      refine ⟨rfl, ⟨s, k + 1⟩, [], ⟨by show 1 ≤ k + 1; omega, by show k + 1 ≤ 47; omega, fun j hj1 (hj2 : j < ((k + 1 : Nat) : Int)) => ?_⟩, by show 47 - (k + 1) < 47 - k; omega, rfl, ?_⟩
      · by_cases hj : j < k
        · exact h3 j hj1 hj
        · obtain rfl : j = (k : Int) := by omega
          rintro ⟨w, rd, rs, n, hd⟩
          have hdec : decX s = ⟨k, w, rd, rs, n, ((strX k w rd rs n).size : Int), true⟩ := decX_is ⟨hj1, by show (k : Int) ≤ 46; omega, hd, rfl, rfl, h3⟩
          rw [hdec] at hh
          simp at hh
      · refine ⟨rfl, ?_, ⟨?_, trivial⟩, rfl, rfl⟩
        · exact ⟨rfl, ⟨rfl, rfl, rfl⟩, ⟨rfl, rfl⟩, trivial⟩
        · simp [rmap, rlook, Ev.look, wkB, simL, sim, z5]
  · obtain rfl : k = 47 := by omega
    have e1 : cm .leq ((47 : Nat) : Int) 46 = false := rfl
    simp only [e1, cond_false]
    have hno := decX_none (s := s) fun j hj1 hj2 => h3 j hj1 (by omega)
    refine ⟨rfl, _, _, [], by simp only [out11, hno, cond_false]; rfl, ?_⟩
    refine ⟨rfl, ?_, ⟨?_, trivial⟩, rfl, rfl⟩
    · exact ⟨trivial, ⟨rfl, rfl, rfl⟩, trivial, trivial⟩
    · simp [rmap, rlook, Ev.look, wkB, simL, sim, z5]

theorem e11l_calls : CallsOk E11L Try.prog := fun f args H nm r h hn => e11_calls f args H nm r h hn
attribute [local irreducible] evalB Tr.view in
theorem loop11 : LoopOk E11L Try.prog Try.f11 0 (loopOf Try.f11 0) :=
  loop_okE mixed (fun S => rfl) (by decide) ok11 (fun x => 47 - x.k) vs11 (fun _ => h11) out11 entry11 fun x hx => ⟨E11b, e11b_calls, inner11, round11 x hx⟩
theorem fn11 : Try.prog.funcs[11]? = some Try.f11 := by kernel_rfl
theorem b11 : Try.f11.body = some (bodyOf Try.f11) := by kernel_rfl
theorem n11 : (Try.f11.name == "runtime.NumGoroutine") = false := by kernel_rfl
theorem nl11 : Code.loops (bodyOf Try.f11) = 2 := by kernel_rfl
theorem nth110 : nthLoop (bodyOf Try.f11) 0 = some (loopOf Try.f11 0) := by kernel_rfl
theorem nth111 : nthLoop (bodyOf Try.f11) 1 = some (loopOf Try.f11 1) := by kernel_rfl
theorem loops11 : LoopsOk E11L Try.prog Try.f11 (bodyOf Try.f11) 0 := loops2 nl11
  (fun a ha => by
    rw [nth110] at ha
    simp only [Option.some.injEq] at ha
    subst ha
    exact loop11)
  (fun a ha => by
    rw [nth111] at ha
    simp only [Option.some.injEq] at ha
    subst ha
    exact loop11b fun S => rfl)

noncomputable def g11 : List SV → Heap → Option R
  | [.str s], [] => some ⟨[], decT2 s, []⟩
  | _, _ => none
attribute [local irreducible] evalF Lf.gives decX in
theorem spec11 : SpecOk Try.prog 11 (specOf g11) := spec_okA false e11l_calls mixed fn11 b11 n11 loops11 g11 fun a0 H0 r hg hn => by
  unfold g11 at hg
  split at hg
  · rename_i s
    simp only [Option.some.injEq] at hg
    subst hg
    refine ⟨_, id, fun _ => rfl, gives_giv (gives_tree (t11 s) ?_)⟩
    refine gives_cond (fun h => ?_) (fun h => ?_)
    · exact gives_ret fun σ σ' => by simp only [decT2, den, denL]
    · have hno : decX s = ⟨0, 0, 0, 0, 0, 0, false⟩ := by
        rcases decX_cases s with hd | hd
        · rw [hd.2.2.2.2.1] at h; cases h
        · exact hd.1
      exact gives_ret fun σ σ' => by simp only [decT2, hno, den, denL]
  · cases hg

end Go.X
end

section
set_option linter.unusedVariables false
open Go Go.Ev Go.Proofs
namespace Go.X

def sigOk (s : ByteArray) (x : Nat × Nat × Nat) : Prop := (chr s x.1).toNat &&& x.2.1 = x.2.2
theorem rexS8_chk : (all16 fun m => all16 fun l => decide ((rexI 8 m l).toNat &&& 248 = 72)) = true := by kernel_rfl
theorem rexS8 {m l : Int} (hm : small m) (hl : small l) : (rexI 8 m l).toNat &&& 248 = 72 := of_decide_eq_true (all16_spec (all16_spec rexS8_chk hm) hl)
theorem rexS4_chk : (all16 fun m => all16 fun l => decide ((rexI 4 m l).toNat &&& 248 = 64)) = true := by kernel_rfl
theorem rexS4 {m l : Int} (hm : small m) (hl : small l) : (rexI 4 m l).toNat &&& 248 = 64 := of_decide_eq_true (all16_spec (all16_spec rexS4_chk hm) hl)
theorem rexS_chk : ([(4 : Int), 8].all fun w => all16 fun m => all16 fun l => decide ((rexI w m l).toNat &&& 240 = 64)) = true := by kernel_rfl
theorem rexS {w m l : Int} (hw : w = 4 ∨ w = 8) (hm : small m) (hl : small l) : (rexI w m l).toNat &&& 240 = 64 := of_decide_eq_true (all16_spec (all16_spec (List.all_eq_true.1 rexS_chk w (by rcases hw with rfl | rfl <;> simp)) hm) hl)
theorem modS192_chk : (all16 fun m => all16 fun l => decide ((modI 192 m l).toNat &&& 192 = 192)) = true := by kernel_rfl
theorem modS192 {m l : Int} (hm : small m) (hl : small l) : (modI 192 m l).toNat &&& 192 = 192 := of_decide_eq_true (all16_spec (all16_spec modS192_chk hm) hl)
theorem modS128_chk : (all16 fun m => all16 fun l => decide ((modI 128 m l).toNat &&& 192 = 128)) = true := by kernel_rfl
theorem modS128 {m l : Int} (hm : small m) (hl : small l) : (modI 128 m l).toNat &&& 192 = 128 := of_decide_eq_true (all16_spec (all16_spec modS128_chk hm) hl)
theorem modSn_chk : ((List.range 8).all fun m => all16 fun l => decide ((modI 192 m l).toNat &&& 248 = 192 + 8 * m)) = true := by kernel_rfl
theorem modSn {m : Nat} {l : Int} (hm : m < 8) (hl : small l) : (modI 192 m l).toNat &&& 248 = 192 + 8 * m := of_decide_eq_true (all16_spec (List.all_eq_true.1 modSn_chk m (List.mem_range.2 hm)) hl)
theorem regS_chk : ([(184 : Int), 80, 88].all fun c => all16 fun m => decide ((c + m % 8).toNat &&& 248 = c.toNat)) = true := by kernel_rfl
theorem regS {c m : Int} (hc : c ∈ [(184 : Int), 80, 88]) (hm : small m) : (c + m % 8).toNat &&& 248 = c.toNat := of_decide_eq_true (all16_spec (List.all_eq_true.1 regS_chk c hc) hm)
theorem condS_chk : ([(144 : Int), 128, 112].all fun c => all16 fun m => decide ((c + m).toNat &&& 240 = c.toNat)) = true := by kernel_rfl
theorem condS {c m : Int} (hc : c ∈ [(144 : Int), 128, 112]) (hm : small m) : (c + m).toNat &&& 240 = c.toNat := of_decide_eq_true (all16_spec (List.all_eq_true.1 condS_chk c hc) hm)

theorem sig_1 {s : ByteArray} {w rd rs n : Int} (hd : DX 1 s w rd rs n) : ∀ x, x ∈ [((0, 240, 64) : Nat × Nat × Nat), ((1, 255, 137) : Nat × Nat × Nat), ((2, 192, 192) : Nat × Nat × Nat)] → sigOk s x := by
  obtain ⟨hw, hrd, hrs, qn, hi, hf, hz, e0, e1, e2⟩ := fact_1 hd
  intro x hx
  simp only [List.mem_cons, List.not_mem_nil, or_false] at hx
  rcases hx with rfl | rfl | rfl
  · show (chr s 0).toNat &&& 240 = 64
    rw [e0]
    exact rexS hw hrs hrd
  · show (chr s 1).toNat &&& 255 = 137
    rw [e1]
    decide
  · show (chr s 2).toNat &&& 192 = 192
    rw [e2]
    exact modS192 hrs hrd

theorem sig_2 {s : ByteArray} {w rd rs n : Int} (hd : DX 2 s w rd rs n) : ∀ x, x ∈ [((0, 248, 72) : Nat × Nat × Nat), ((1, 255, 199) : Nat × Nat × Nat), ((2, 248, 192) : Nat × Nat × Nat)] → sigOk s x := by
  obtain ⟨hw, qw, hrd, qs, hi, hf, hz, e0, e1, e2, ht⟩ := fact_2 hd
  intro x hx
  simp only [List.mem_cons, List.not_mem_nil, or_false] at hx
  rcases hx with rfl | rfl | rfl
  · show (chr s 0).toNat &&& 248 = 72
    rw [e0]
    rw [qw]
    exact rexS8 (by decide : small 0) hrd
  · show (chr s 1).toNat &&& 255 = 199
    rw [e1]
    decide
  · show (chr s 2).toNat &&& 248 = 192
    rw [e2]
    exact modSn (by decide) hrd

theorem sig_3 {s : ByteArray} {w rd rs n : Int} (hd : DX 3 s w rd rs n) : ∀ x, x ∈ [((0, 248, 72) : Nat × Nat × Nat), ((1, 248, 184) : Nat × Nat × Nat)] → sigOk s x := by
  obtain ⟨hw, qw, hrd, qs, hi, hf, hz, e0, e1, ht⟩ := fact_3 hd
  intro x hx
  simp only [List.mem_cons, List.not_mem_nil, or_false] at hx
  rcases hx with rfl | rfl
  · show (chr s 0).toNat &&& 248 = 72
    rw [e0]
    rw [qw]
    exact rexS8 (by decide : small 0) hrd
  · show (chr s 1).toNat &&& 248 = 184
    rw [e1]
    exact regS (by decide) hrd

theorem sig_4 {s : ByteArray} {w rd rs n : Int} (hd : DX 4 s w rd rs n) : ∀ x, x ∈ [((0, 240, 64) : Nat × Nat × Nat), ((1, 255, 1) : Nat × Nat × Nat), ((2, 192, 192) : Nat × Nat × Nat)] → sigOk s x := by
  obtain ⟨hw, hrd, hrs, qn, hi, hf, hz, e0, e1, e2⟩ := fact_4 hd
  intro x hx
  simp only [List.mem_cons, List.not_mem_nil, or_false] at hx
  rcases hx with rfl | rfl | rfl
  · show (chr s 0).toNat &&& 240 = 64
    rw [e0]
    exact rexS hw hrs hrd
  · show (chr s 1).toNat &&& 255 = 1
    rw [e1]
    decide
  · show (chr s 2).toNat &&& 192 = 192
    rw [e2]
    exact modS192 hrs hrd

theorem sig_5 {s : ByteArray} {w rd rs n : Int} (hd : DX 5 s w rd rs n) : ∀ x, x ∈ [((0, 240, 64) : Nat × Nat × Nat), ((1, 255, 41) : Nat × Nat × Nat), ((2, 192, 192) : Nat × Nat × Nat)] → sigOk s x := by
  obtain ⟨hw, hrd, hrs, qn, hi, hf, hz, e0, e1, e2⟩ := fact_5 hd
  intro x hx
  simp only [List.mem_cons, List.not_mem_nil, or_false] at hx
  rcases hx with rfl | rfl | rfl
  · show (chr s 0).toNat &&& 240 = 64
    rw [e0]
    exact rexS hw hrs hrd
  · show (chr s 1).toNat &&& 255 = 41
    rw [e1]
    decide
  · show (chr s 2).toNat &&& 192 = 192
    rw [e2]
    exact modS192 hrs hrd

theorem sig_6 {s : ByteArray} {w rd rs n : Int} (hd : DX 6 s w rd rs n) : ∀ x, x ∈ [((0, 240, 64) : Nat × Nat × Nat), ((1, 255, 33) : Nat × Nat × Nat), ((2, 192, 192) : Nat × Nat × Nat)] → sigOk s x := by
  obtain ⟨hw, hrd, hrs, qn, hi, hf, hz, e0, e1, e2⟩ := fact_6 hd
  intro x hx
  simp only [List.mem_cons, List.not_mem_nil, or_false] at hx
  rcases hx with rfl | rfl | rfl
  · show (chr s 0).toNat &&& 240 = 64
    rw [e0]
    exact rexS hw hrs hrd
  · show (chr s 1).toNat &&& 255 = 33
    rw [e1]
    decide
  · show (chr s 2).toNat &&& 192 = 192
    rw [e2]
    exact modS192 hrs hrd

theorem sig_7 {s : ByteArray} {w rd rs n : Int} (hd : DX 7 s w rd rs n) : ∀ x, x ∈ [((0, 240, 64) : Nat × Nat × Nat), ((1, 255, 9) : Nat × Nat × Nat), ((2, 192, 192) : Nat × Nat × Nat)] → sigOk s x := by
  obtain ⟨hw, hrd, hrs, qn, hi, hf, hz, e0, e1, e2⟩ := fact_7 hd
  intro x hx
  simp only [List.mem_cons, List.not_mem_nil, or_false] at hx
  rcases hx with rfl | rfl | rfl
  · show (chr s 0).toNat &&& 240 = 64
    rw [e0]
    exact rexS hw hrs hrd
  · show (chr s 1).toNat &&& 255 = 9
    rw [e1]
    decide
  · show (chr s 2).toNat &&& 192 = 192
    rw [e2]
    exact modS192 hrs hrd

theorem sig_8 {s : ByteArray} {w rd rs n : Int} (hd : DX 8 s w rd rs n) : ∀ x, x ∈ [((0, 240, 64) : Nat × Nat × Nat), ((1, 255, 49) : Nat × Nat × Nat), ((2, 192, 192) : Nat × Nat × Nat)] → sigOk s x := by
  obtain ⟨hw, hrd, hrs, qn, hi, hf, hz, e0, e1, e2⟩ := fact_8 hd
  intro x hx
  simp only [List.mem_cons, List.not_mem_nil, or_false] at hx
  rcases hx with rfl | rfl | rfl
  · show (chr s 0).toNat &&& 240 = 64
    rw [e0]
    exact rexS hw hrs hrd
  · show (chr s 1).toNat &&& 255 = 49
    rw [e1]
    decide
  · show (chr s 2).toNat &&& 192 = 192
    rw [e2]
    exact modS192 hrs hrd

theorem sig_9 {s : ByteArray} {w rd rs n : Int} (hd : DX 9 s w rd rs n) : ∀ x, x ∈ [((0, 240, 64) : Nat × Nat × Nat), ((1, 255, 57) : Nat × Nat × Nat), ((2, 192, 192) : Nat × Nat × Nat)] → sigOk s x := by
  obtain ⟨hw, hrd, hrs, qn, hi, hf, hz, e0, e1, e2⟩ := fact_9 hd
  intro x hx
  simp only [List.mem_cons, List.not_mem_nil, or_false] at hx
  rcases hx with rfl | rfl | rfl
  · show (chr s 0).toNat &&& 240 = 64
    rw [e0]
    exact rexS hw hrs hrd
  · show (chr s 1).toNat &&& 255 = 57
    rw [e1]
    decide
  · show (chr s 2).toNat &&& 192 = 192
    rw [e2]
    exact modS192 hrs hrd

theorem sig_10 {s : ByteArray} {w rd rs n : Int} (hd : DX 10 s w rd rs n) : ∀ x, x ∈ [((0, 240, 64) : Nat × Nat × Nat), ((1, 255, 15) : Nat × Nat × Nat), ((2, 255, 175) : Nat × Nat × Nat), ((3, 192, 192) : Nat × Nat × Nat)] → sigOk s x := by
  obtain ⟨hw, hrd, hrs, qn, hi, hf, hz, e0, e1, e2, e3⟩ := fact_10 hd
  intro x hx
  simp only [List.mem_cons, List.not_mem_nil, or_false] at hx
  rcases hx with rfl | rfl | rfl | rfl
  · show (chr s 0).toNat &&& 240 = 64
    rw [e0]
    exact rexS hw hrd hrs
  · show (chr s 1).toNat &&& 255 = 15
    rw [e1]
    decide
  · show (chr s 2).toNat &&& 255 = 175
    rw [e2]
    decide
  · show (chr s 3).toNat &&& 192 = 192
    rw [e3]
    exact modS192 hrd hrs

theorem sig_11 {s : ByteArray} {w rd rs n : Int} (hd : DX 11 s w rd rs n) : ∀ x, x ∈ [((0, 240, 64) : Nat × Nat × Nat), ((1, 255, 247) : Nat × Nat × Nat), ((2, 248, 216) : Nat × Nat × Nat)] → sigOk s x := by
  obtain ⟨hw, hrd, qs, qn, hi, hf, hz, e0, e1, e2⟩ := fact_11 hd
  intro x hx
  simp only [List.mem_cons, List.not_mem_nil, or_false] at hx
  rcases hx with rfl | rfl | rfl
  · show (chr s 0).toNat &&& 240 = 64
    rw [e0]
    exact rexS hw (by decide : small 0) hrd
  · show (chr s 1).toNat &&& 255 = 247
    rw [e1]
    decide
  · show (chr s 2).toNat &&& 248 = 216
    rw [e2]
    exact modSn (by decide) hrd

theorem sig_12 {s : ByteArray} {w rd rs n : Int} (hd : DX 12 s w rd rs n) : ∀ x, x ∈ [((0, 240, 64) : Nat × Nat × Nat), ((1, 255, 247) : Nat × Nat × Nat), ((2, 248, 208) : Nat × Nat × Nat)] → sigOk s x := by
  obtain ⟨hw, hrd, qs, qn, hi, hf, hz, e0, e1, e2⟩ := fact_12 hd
  intro x hx
  simp only [List.mem_cons, List.not_mem_nil, or_false] at hx
  rcases hx with rfl | rfl | rfl
  · show (chr s 0).toNat &&& 240 = 64
    rw [e0]
    exact rexS hw (by decide : small 0) hrd
  · show (chr s 1).toNat &&& 255 = 247
    rw [e1]
    decide
  · show (chr s 2).toNat &&& 248 = 208
    rw [e2]
    exact modSn (by decide) hrd

theorem sig_13 {s : ByteArray} {w rd rs n : Int} (hd : DX 13 s w rd rs n) : ∀ x, x ∈ [((0, 240, 64) : Nat × Nat × Nat), ((1, 255, 247) : Nat × Nat × Nat), ((2, 248, 248) : Nat × Nat × Nat)] → sigOk s x := by
  obtain ⟨hw, hrd, qs, qn, hi, hf, hz, e0, e1, e2⟩ := fact_13 hd
  intro x hx
  simp only [List.mem_cons, List.not_mem_nil, or_false] at hx
  rcases hx with rfl | rfl | rfl
  · show (chr s 0).toNat &&& 240 = 64
    rw [e0]
    exact rexS hw (by decide : small 0) hrd
  · show (chr s 1).toNat &&& 255 = 247
    rw [e1]
    decide
  · show (chr s 2).toNat &&& 248 = 248
    rw [e2]
    exact modSn (by decide) hrd

theorem sig_14 {s : ByteArray} {w rd rs n : Int} (hd : DX 14 s w rd rs n) : ∀ x, x ∈ [((0, 240, 64) : Nat × Nat × Nat), ((1, 255, 247) : Nat × Nat × Nat), ((2, 248, 240) : Nat × Nat × Nat)] → sigOk s x := by
  obtain ⟨hw, hrd, qs, qn, hi, hf, hz, e0, e1, e2⟩ := fact_14 hd
  intro x hx
  simp only [List.mem_cons, List.not_mem_nil, or_false] at hx
  rcases hx with rfl | rfl | rfl
  · show (chr s 0).toNat &&& 240 = 64
    rw [e0]
    exact rexS hw (by decide : small 0) hrd
  · show (chr s 1).toNat &&& 255 = 247
    rw [e1]
    decide
  · show (chr s 2).toNat &&& 248 = 240
    rw [e2]
    exact modSn (by decide) hrd

theorem sig_15 {s : ByteArray} {w rd rs n : Int} (hd : DX 15 s w rd rs n) : ∀ x, x ∈ [((0, 240, 64) : Nat × Nat × Nat), ((1, 255, 211) : Nat × Nat × Nat), ((2, 248, 224) : Nat × Nat × Nat)] → sigOk s x := by
  obtain ⟨hw, hrd, qs, qn, hi, hf, hz, e0, e1, e2⟩ := fact_15 hd
  intro x hx
  simp only [List.mem_cons, List.not_mem_nil, or_false] at hx
  rcases hx with rfl | rfl | rfl
  · show (chr s 0).toNat &&& 240 = 64
    rw [e0]
    exact rexS hw (by decide : small 0) hrd
  · show (chr s 1).toNat &&& 255 = 211
    rw [e1]
    decide
  · show (chr s 2).toNat &&& 248 = 224
    rw [e2]
    exact modSn (by decide) hrd

theorem sig_16 {s : ByteArray} {w rd rs n : Int} (hd : DX 16 s w rd rs n) : ∀ x, x ∈ [((0, 240, 64) : Nat × Nat × Nat), ((1, 255, 211) : Nat × Nat × Nat), ((2, 248, 232) : Nat × Nat × Nat)] → sigOk s x := by
  obtain ⟨hw, hrd, qs, qn, hi, hf, hz, e0, e1, e2⟩ := fact_16 hd
  intro x hx
  simp only [List.mem_cons, List.not_mem_nil, or_false] at hx
  rcases hx with rfl | rfl | rfl
  · show (chr s 0).toNat &&& 240 = 64
    rw [e0]
    exact rexS hw (by decide : small 0) hrd
  · show (chr s 1).toNat &&& 255 = 211
    rw [e1]
    decide
  · show (chr s 2).toNat &&& 248 = 232
    rw [e2]
    exact modSn (by decide) hrd

theorem sig_17 {s : ByteArray} {w rd rs n : Int} (hd : DX 17 s w rd rs n) : ∀ x, x ∈ [((0, 240, 64) : Nat × Nat × Nat), ((1, 255, 211) : Nat × Nat × Nat), ((2, 248, 248) : Nat × Nat × Nat)] → sigOk s x := by
  obtain ⟨hw, hrd, qs, qn, hi, hf, hz, e0, e1, e2⟩ := fact_17 hd
  intro x hx
  simp only [List.mem_cons, List.not_mem_nil, or_false] at hx
  rcases hx with rfl | rfl | rfl
  · show (chr s 0).toNat &&& 240 = 64
    rw [e0]
    exact rexS hw (by decide : small 0) hrd
  · show (chr s 1).toNat &&& 255 = 211
    rw [e1]
    decide
  · show (chr s 2).toNat &&& 248 = 248
    rw [e2]
    exact modSn (by decide) hrd

theorem sig_18 {s : ByteArray} {w rd rs n : Int} (hd : DX 18 s w rd rs n) : ∀ x, x ∈ [((0, 240, 64) : Nat × Nat × Nat), ((1, 255, 153) : Nat × Nat × Nat)] → sigOk s x := by
  obtain ⟨hw, qs, qd, qn, hi, hf, hz, e0, e1⟩ := fact_18 hd
  intro x hx
  simp only [List.mem_cons, List.not_mem_nil, or_false] at hx
  rcases hx with rfl | rfl
  · show (chr s 0).toNat &&& 240 = 64
    rw [e0]
    exact rexS hw (by decide : small 0) (by decide : small 0)
  · show (chr s 1).toNat &&& 255 = 153
    rw [e1]
    decide

theorem sig_19 {s : ByteArray} {w rd rs n : Int} (hd : DX 19 s w rd rs n) : ∀ x, x ∈ [((0, 248, 72) : Nat × Nat × Nat), ((1, 255, 129) : Nat × Nat × Nat), ((2, 248, 192) : Nat × Nat × Nat)] → sigOk s x := by
  obtain ⟨hw, qw, hrd, qs, hi, hf, hz, e0, e1, e2, ht⟩ := fact_19 hd
  intro x hx
  simp only [List.mem_cons, List.not_mem_nil, or_false] at hx
  rcases hx with rfl | rfl | rfl
  · show (chr s 0).toNat &&& 248 = 72
    rw [e0]
    rw [qw]
    exact rexS8 (by decide : small 0) hrd
  · show (chr s 1).toNat &&& 255 = 129
    rw [e1]
    decide
  · show (chr s 2).toNat &&& 248 = 192
    rw [e2]
    exact modSn (by decide) hrd

theorem sig_20 {s : ByteArray} {w rd rs n : Int} (hd : DX 20 s w rd rs n) : ∀ x, x ∈ [((0, 248, 64) : Nat × Nat × Nat), ((1, 255, 15) : Nat × Nat × Nat), ((2, 240, 144) : Nat × Nat × Nat), ((3, 248, 192) : Nat × Nat × Nat)] → sigOk s x := by
  obtain ⟨hw, qw, hrd, qs, hsn, hi, hf, hz, e0, e1, e2, e3⟩ := fact_20 hd
  intro x hx
  simp only [List.mem_cons, List.not_mem_nil, or_false] at hx
  rcases hx with rfl | rfl | rfl | rfl
  · show (chr s 0).toNat &&& 248 = 64
    rw [e0]
    rw [qw]
    exact rexS4 (by decide : small 0) hrd
  · show (chr s 1).toNat &&& 255 = 15
    rw [e1]
    decide
  · show (chr s 2).toNat &&& 240 = 144
    rw [e2]
    exact condS (by decide) hsn
  · show (chr s 3).toNat &&& 248 = 192
    rw [e3]
    exact modSn (by decide) hrd

theorem sig_21 {s : ByteArray} {w rd rs n : Int} (hd : DX 21 s w rd rs n) : ∀ x, x ∈ [((0, 248, 72) : Nat × Nat × Nat), ((1, 255, 15) : Nat × Nat × Nat), ((2, 255, 182) : Nat × Nat × Nat), ((3, 192, 192) : Nat × Nat × Nat)] → sigOk s x := by
  obtain ⟨hw, qw, hrd, hrs, qn, hi, hf, hz, e0, e1, e2, e3⟩ := fact_21 hd
  intro x hx
  simp only [List.mem_cons, List.not_mem_nil, or_false] at hx
  rcases hx with rfl | rfl | rfl | rfl
  · show (chr s 0).toNat &&& 248 = 72
    rw [e0]
    rw [qw]
    exact rexS8 hrd hrs
  · show (chr s 1).toNat &&& 255 = 15
    rw [e1]
    decide
  · show (chr s 2).toNat &&& 255 = 182
    rw [e2]
    decide
  · show (chr s 3).toNat &&& 192 = 192
    rw [e3]
    exact modS192 hrd hrs

theorem sig_22 {s : ByteArray} {w rd rs n : Int} (hd : DX 22 s w rd rs n) : ∀ x, x ∈ [((0, 248, 72) : Nat × Nat × Nat), ((1, 255, 15) : Nat × Nat × Nat), ((2, 255, 183) : Nat × Nat × Nat), ((3, 192, 192) : Nat × Nat × Nat)] → sigOk s x := by
  obtain ⟨hw, qw, hrd, hrs, qn, hi, hf, hz, e0, e1, e2, e3⟩ := fact_22 hd
  intro x hx
  simp only [List.mem_cons, List.not_mem_nil, or_false] at hx
  rcases hx with rfl | rfl | rfl | rfl
  · show (chr s 0).toNat &&& 248 = 72
    rw [e0]
    rw [qw]
    exact rexS8 hrd hrs
  · show (chr s 1).toNat &&& 255 = 15
    rw [e1]
    decide
  · show (chr s 2).toNat &&& 255 = 183
    rw [e2]
    decide
  · show (chr s 3).toNat &&& 192 = 192
    rw [e3]
    exact modS192 hrd hrs

theorem sig_23 {s : ByteArray} {w rd rs n : Int} (hd : DX 23 s w rd rs n) : ∀ x, x ∈ [((0, 248, 72) : Nat × Nat × Nat), ((1, 255, 15) : Nat × Nat × Nat), ((2, 255, 190) : Nat × Nat × Nat), ((3, 192, 192) : Nat × Nat × Nat)] → sigOk s x := by
  obtain ⟨hw, qw, hrd, hrs, qn, hi, hf, hz, e0, e1, e2, e3⟩ := fact_23 hd
  intro x hx
  simp only [List.mem_cons, List.not_mem_nil, or_false] at hx
  rcases hx with rfl | rfl | rfl | rfl
  · show (chr s 0).toNat &&& 248 = 72
    rw [e0]
    rw [qw]
    exact rexS8 hrd hrs
  · show (chr s 1).toNat &&& 255 = 15
    rw [e1]
    decide
  · show (chr s 2).toNat &&& 255 = 190
    rw [e2]
    decide
  · show (chr s 3).toNat &&& 192 = 192
    rw [e3]
    exact modS192 hrd hrs

theorem sig_24 {s : ByteArray} {w rd rs n : Int} (hd : DX 24 s w rd rs n) : ∀ x, x ∈ [((0, 248, 72) : Nat × Nat × Nat), ((1, 255, 15) : Nat × Nat × Nat), ((2, 255, 191) : Nat × Nat × Nat), ((3, 192, 192) : Nat × Nat × Nat)] → sigOk s x := by
  obtain ⟨hw, qw, hrd, hrs, qn, hi, hf, hz, e0, e1, e2, e3⟩ := fact_24 hd
  intro x hx
  simp only [List.mem_cons, List.not_mem_nil, or_false] at hx
  rcases hx with rfl | rfl | rfl | rfl
  · show (chr s 0).toNat &&& 248 = 72
    rw [e0]
    rw [qw]
    exact rexS8 hrd hrs
  · show (chr s 1).toNat &&& 255 = 15
    rw [e1]
    decide
  · show (chr s 2).toNat &&& 255 = 191
    rw [e2]
    decide
  · show (chr s 3).toNat &&& 192 = 192
    rw [e3]
    exact modS192 hrd hrs

theorem sig_25 {s : ByteArray} {w rd rs n : Int} (hd : DX 25 s w rd rs n) : ∀ x, x ∈ [((0, 248, 72) : Nat × Nat × Nat), ((1, 255, 99) : Nat × Nat × Nat), ((2, 192, 192) : Nat × Nat × Nat)] → sigOk s x := by
  obtain ⟨hw, qw, hrd, hrs, qn, hi, hf, hz, e0, e1, e2⟩ := fact_25 hd
  intro x hx
  simp only [List.mem_cons, List.not_mem_nil, or_false] at hx
  rcases hx with rfl | rfl | rfl
  · show (chr s 0).toNat &&& 248 = 72
    rw [e0]
    rw [qw]
    exact rexS8 hrd hrs
  · show (chr s 1).toNat &&& 255 = 99
    rw [e1]
    decide
  · show (chr s 2).toNat &&& 192 = 192
    rw [e2]
    exact modS192 hrd hrs

theorem sig_26 {s : ByteArray} {w rd rs n : Int} (hd : DX 26 s w rd rs n) : ∀ x, x ∈ [((0, 248, 72) : Nat × Nat × Nat), ((1, 255, 139) : Nat × Nat × Nat), ((2, 192, 128) : Nat × Nat × Nat)] → sigOk s x := by
  obtain ⟨hw, qw, hrd, hrs, hi, hf, hz, e0, e1, e2, ht⟩ := fact_26 hd
  intro x hx
  simp only [List.mem_cons, List.not_mem_nil, or_false] at hx
  rcases hx with rfl | rfl | rfl
  · show (chr s 0).toNat &&& 248 = 72
    rw [e0]
    rw [qw]
    exact rexS8 hrd hrs
  · show (chr s 1).toNat &&& 255 = 139
    rw [e1]
    decide
  · show (chr s 2).toNat &&& 192 = 128
    rw [e2]
    exact modS128 hrd hrs

theorem sig_27 {s : ByteArray} {w rd rs n : Int} (hd : DX 27 s w rd rs n) : ∀ x, x ∈ [((0, 248, 64) : Nat × Nat × Nat), ((1, 255, 139) : Nat × Nat × Nat), ((2, 192, 128) : Nat × Nat × Nat)] → sigOk s x := by
  obtain ⟨hw, qw, hrd, hrs, hi, hf, hz, e0, e1, e2, ht⟩ := fact_27 hd
  intro x hx
  simp only [List.mem_cons, List.not_mem_nil, or_false] at hx
  rcases hx with rfl | rfl | rfl
  · show (chr s 0).toNat &&& 248 = 64
    rw [e0]
    rw [qw]
    exact rexS4 hrd hrs
  · show (chr s 1).toNat &&& 255 = 139
    rw [e1]
    decide
  · show (chr s 2).toNat &&& 192 = 128
    rw [e2]
    exact modS128 hrd hrs

theorem sig_28 {s : ByteArray} {w rd rs n : Int} (hd : DX 28 s w rd rs n) : ∀ x, x ∈ [((0, 248, 72) : Nat × Nat × Nat), ((1, 255, 99) : Nat × Nat × Nat), ((2, 192, 128) : Nat × Nat × Nat)] → sigOk s x := by
  obtain ⟨hw, qw, hrd, hrs, hi, hf, hz, e0, e1, e2, ht⟩ := fact_28 hd
  intro x hx
  simp only [List.mem_cons, List.not_mem_nil, or_false] at hx
  rcases hx with rfl | rfl | rfl
  · show (chr s 0).toNat &&& 248 = 72
    rw [e0]
    rw [qw]
    exact rexS8 hrd hrs
  · show (chr s 1).toNat &&& 255 = 99
    rw [e1]
    decide
  · show (chr s 2).toNat &&& 192 = 128
    rw [e2]
    exact modS128 hrd hrs

theorem sig_29 {s : ByteArray} {w rd rs n : Int} (hd : DX 29 s w rd rs n) : ∀ x, x ∈ [((0, 248, 72) : Nat × Nat × Nat), ((1, 255, 15) : Nat × Nat × Nat), ((2, 255, 191) : Nat × Nat × Nat), ((3, 192, 128) : Nat × Nat × Nat)] → sigOk s x := by
  obtain ⟨hw, qw, hrd, hrs, hi, hf, hz, e0, e1, e2, e3, ht⟩ := fact_29 hd
  intro x hx
  simp only [List.mem_cons, List.not_mem_nil, or_false] at hx
  rcases hx with rfl | rfl | rfl | rfl
  · show (chr s 0).toNat &&& 248 = 72
    rw [e0]
    rw [qw]
    exact rexS8 hrd hrs
  · show (chr s 1).toNat &&& 255 = 15
    rw [e1]
    decide
  · show (chr s 2).toNat &&& 255 = 191
    rw [e2]
    decide
  · show (chr s 3).toNat &&& 192 = 128
    rw [e3]
    exact modS128 hrd hrs

theorem sig_30 {s : ByteArray} {w rd rs n : Int} (hd : DX 30 s w rd rs n) : ∀ x, x ∈ [((0, 248, 72) : Nat × Nat × Nat), ((1, 255, 15) : Nat × Nat × Nat), ((2, 255, 190) : Nat × Nat × Nat), ((3, 192, 128) : Nat × Nat × Nat)] → sigOk s x := by
  obtain ⟨hw, qw, hrd, hrs, hi, hf, hz, e0, e1, e2, e3, ht⟩ := fact_30 hd
  intro x hx
  simp only [List.mem_cons, List.not_mem_nil, or_false] at hx
  rcases hx with rfl | rfl | rfl | rfl
  · show (chr s 0).toNat &&& 248 = 72
    rw [e0]
    rw [qw]
    exact rexS8 hrd hrs
  · show (chr s 1).toNat &&& 255 = 15
    rw [e1]
    decide
  · show (chr s 2).toNat &&& 255 = 190
    rw [e2]
    decide
  · show (chr s 3).toNat &&& 192 = 128
    rw [e3]
    exact modS128 hrd hrs

theorem sig_31 {s : ByteArray} {w rd rs n : Int} (hd : DX 31 s w rd rs n) : ∀ x, x ∈ [((0, 248, 72) : Nat × Nat × Nat), ((1, 255, 15) : Nat × Nat × Nat), ((2, 255, 183) : Nat × Nat × Nat), ((3, 192, 128) : Nat × Nat × Nat)] → sigOk s x := by
  obtain ⟨hw, qw, hrd, hrs, hi, hf, hz, e0, e1, e2, e3, ht⟩ := fact_31 hd
  intro x hx
  simp only [List.mem_cons, List.not_mem_nil, or_false] at hx
  rcases hx with rfl | rfl | rfl | rfl
  · show (chr s 0).toNat &&& 248 = 72
    rw [e0]
    rw [qw]
    exact rexS8 hrd hrs
  · show (chr s 1).toNat &&& 255 = 15
    rw [e1]
    decide
  · show (chr s 2).toNat &&& 255 = 183
    rw [e2]
    decide
  · show (chr s 3).toNat &&& 192 = 128
    rw [e3]
    exact modS128 hrd hrs

theorem sig_32 {s : ByteArray} {w rd rs n : Int} (hd : DX 32 s w rd rs n) : ∀ x, x ∈ [((0, 248, 72) : Nat × Nat × Nat), ((1, 255, 15) : Nat × Nat × Nat), ((2, 255, 182) : Nat × Nat × Nat), ((3, 192, 128) : Nat × Nat × Nat)] → sigOk s x := by
  obtain ⟨hw, qw, hrd, hrs, hi, hf, hz, e0, e1, e2, e3, ht⟩ := fact_32 hd
  intro x hx
  simp only [List.mem_cons, List.not_mem_nil, or_false] at hx
  rcases hx with rfl | rfl | rfl | rfl
  · show (chr s 0).toNat &&& 248 = 72
    rw [e0]
    rw [qw]
    exact rexS8 hrd hrs
  · show (chr s 1).toNat &&& 255 = 15
    rw [e1]
    decide
  · show (chr s 2).toNat &&& 255 = 182
    rw [e2]
    decide
  · show (chr s 3).toNat &&& 192 = 128
    rw [e3]
    exact modS128 hrd hrs

theorem sig_33 {s : ByteArray} {w rd rs n : Int} (hd : DX 33 s w rd rs n) : ∀ x, x ∈ [((0, 248, 72) : Nat × Nat × Nat), ((1, 255, 137) : Nat × Nat × Nat), ((2, 192, 128) : Nat × Nat × Nat)] → sigOk s x := by
  obtain ⟨hw, qw, hrd, hrs, hi, hf, hz, e0, e1, e2, ht⟩ := fact_33 hd
  intro x hx
  simp only [List.mem_cons, List.not_mem_nil, or_false] at hx
  rcases hx with rfl | rfl | rfl
  · show (chr s 0).toNat &&& 248 = 72
    rw [e0]
    rw [qw]
    exact rexS8 hrd hrs
  · show (chr s 1).toNat &&& 255 = 137
    rw [e1]
    decide
  · show (chr s 2).toNat &&& 192 = 128
    rw [e2]
    exact modS128 hrd hrs

theorem sig_34 {s : ByteArray} {w rd rs n : Int} (hd : DX 34 s w rd rs n) : ∀ x, x ∈ [((0, 248, 64) : Nat × Nat × Nat), ((1, 255, 137) : Nat × Nat × Nat), ((2, 192, 128) : Nat × Nat × Nat)] → sigOk s x := by
  obtain ⟨hw, qw, hrd, hrs, hi, hf, hz, e0, e1, e2, ht⟩ := fact_34 hd
  intro x hx
  simp only [List.mem_cons, List.not_mem_nil, or_false] at hx
  rcases hx with rfl | rfl | rfl
  · show (chr s 0).toNat &&& 248 = 64
    rw [e0]
    rw [qw]
    exact rexS4 hrd hrs
  · show (chr s 1).toNat &&& 255 = 137
    rw [e1]
    decide
  · show (chr s 2).toNat &&& 192 = 128
    rw [e2]
    exact modS128 hrd hrs

theorem sig_35 {s : ByteArray} {w rd rs n : Int} (hd : DX 35 s w rd rs n) : ∀ x, x ∈ [((0, 255, 102) : Nat × Nat × Nat), ((1, 248, 64) : Nat × Nat × Nat), ((2, 255, 137) : Nat × Nat × Nat), ((3, 192, 128) : Nat × Nat × Nat)] → sigOk s x := by
  obtain ⟨hw, qw, hrd, hrs, hi, hf, hz, e0, e1, e2, e3, ht⟩ := fact_35 hd
  intro x hx
  simp only [List.mem_cons, List.not_mem_nil, or_false] at hx
  rcases hx with rfl | rfl | rfl | rfl
  · show (chr s 0).toNat &&& 255 = 102
    rw [e0]
    decide
  · show (chr s 1).toNat &&& 248 = 64
    rw [e1]
    rw [qw]
    exact rexS4 hrd hrs
  · show (chr s 2).toNat &&& 255 = 137
    rw [e2]
    decide
  · show (chr s 3).toNat &&& 192 = 128
    rw [e3]
    exact modS128 hrd hrs

theorem sig_36 {s : ByteArray} {w rd rs n : Int} (hd : DX 36 s w rd rs n) : ∀ x, x ∈ [((0, 248, 64) : Nat × Nat × Nat), ((1, 255, 136) : Nat × Nat × Nat), ((2, 192, 128) : Nat × Nat × Nat)] → sigOk s x := by
  obtain ⟨hw, qw, hrd, hrs, hi, hf, hz, e0, e1, e2, ht⟩ := fact_36 hd
  intro x hx
  simp only [List.mem_cons, List.not_mem_nil, or_false] at hx
  rcases hx with rfl | rfl | rfl
  · show (chr s 0).toNat &&& 248 = 64
    rw [e0]
    rw [qw]
    exact rexS4 hrd hrs
  · show (chr s 1).toNat &&& 255 = 136
    rw [e1]
    decide
  · show (chr s 2).toNat &&& 192 = 128
    rw [e2]
    exact modS128 hrd hrs

theorem sig_37 {s : ByteArray} {w rd rs n : Int} (hd : DX 37 s w rd rs n) : ∀ x, x ∈ [((0, 248, 72) : Nat × Nat × Nat), ((1, 255, 141) : Nat × Nat × Nat), ((2, 192, 128) : Nat × Nat × Nat)] → sigOk s x := by
  obtain ⟨hw, qw, hrd, hrs, hi, hf, hz, e0, e1, e2, ht⟩ := fact_37 hd
  intro x hx
  simp only [List.mem_cons, List.not_mem_nil, or_false] at hx
  rcases hx with rfl | rfl | rfl
  · show (chr s 0).toNat &&& 248 = 72
    rw [e0]
    rw [qw]
    exact rexS8 hrd hrs
  · show (chr s 1).toNat &&& 255 = 141
    rw [e1]
    decide
  · show (chr s 2).toNat &&& 192 = 128
    rw [e2]
    exact modS128 hrd hrs

theorem sig_38 {s : ByteArray} {w rd rs n : Int} (hd : DX 38 s w rd rs n) : ∀ x, x ∈ [((0, 248, 64) : Nat × Nat × Nat), ((1, 248, 80) : Nat × Nat × Nat)] → sigOk s x := by
  obtain ⟨hw, qw, hrd, qs, qn, hi, hf, hz, e0, e1⟩ := fact_38 hd
  intro x hx
  simp only [List.mem_cons, List.not_mem_nil, or_false] at hx
  rcases hx with rfl | rfl
  · show (chr s 0).toNat &&& 248 = 64
    rw [e0]
    rw [qw]
    exact rexS4 (by decide : small 0) hrd
  · show (chr s 1).toNat &&& 248 = 80
    rw [e1]
    exact regS (by decide) hrd

theorem sig_39 {s : ByteArray} {w rd rs n : Int} (hd : DX 39 s w rd rs n) : ∀ x, x ∈ [((0, 248, 64) : Nat × Nat × Nat), ((1, 248, 88) : Nat × Nat × Nat)] → sigOk s x := by
  obtain ⟨hw, qw, hrd, qs, qn, hi, hf, hz, e0, e1⟩ := fact_39 hd
  intro x hx
  simp only [List.mem_cons, List.not_mem_nil, or_false] at hx
  rcases hx with rfl | rfl
  · show (chr s 0).toNat &&& 248 = 64
    rw [e0]
    rw [qw]
    exact rexS4 (by decide : small 0) hrd
  · show (chr s 1).toNat &&& 248 = 88
    rw [e1]
    exact regS (by decide) hrd

theorem sig_40 {s : ByteArray} {w rd rs n : Int} (hd : DX 40 s w rd rs n) : ∀ x, x ∈ [((0, 255, 232) : Nat × Nat × Nat)] → sigOk s x := by
  obtain ⟨hw, qw, qs, qd, hi, hf, hz, e0, ht⟩ := fact_40 hd
  intro x hx
  simp only [List.mem_cons, List.not_mem_nil, or_false] at hx
  rcases hx with rfl
  · show (chr s 0).toNat &&& 255 = 232
    rw [e0]
    decide

theorem sig_41 {s : ByteArray} {w rd rs n : Int} (hd : DX 41 s w rd rs n) : ∀ x, x ∈ [((0, 255, 195) : Nat × Nat × Nat)] → sigOk s x := by
  obtain ⟨hw, qw, qs, qd, qn, hi, hf, hz, e0⟩ := fact_41 hd
  intro x hx
  simp only [List.mem_cons, List.not_mem_nil, or_false] at hx
  rcases hx with rfl
  · show (chr s 0).toNat &&& 255 = 195
    rw [e0]
    decide

theorem sig_42 {s : ByteArray} {w rd rs n : Int} (hd : DX 42 s w rd rs n) : ∀ x, x ∈ [((0, 255, 233) : Nat × Nat × Nat)] → sigOk s x := by
  obtain ⟨hw, qw, qs, qd, hi, hf, hz, e0, ht⟩ := fact_42 hd
  intro x hx
  simp only [List.mem_cons, List.not_mem_nil, or_false] at hx
  rcases hx with rfl
  · show (chr s 0).toNat &&& 255 = 233
    rw [e0]
    decide

theorem sig_43 {s : ByteArray} {w rd rs n : Int} (hd : DX 43 s w rd rs n) : ∀ x, x ∈ [((0, 255, 235) : Nat × Nat × Nat)] → sigOk s x := by
  obtain ⟨hw, qw, qs, qd, hi, hf, hz, e0, ht⟩ := fact_43 hd
  intro x hx
  simp only [List.mem_cons, List.not_mem_nil, or_false] at hx
  rcases hx with rfl
  · show (chr s 0).toNat &&& 255 = 235
    rw [e0]
    decide

theorem sig_44 {s : ByteArray} {w rd rs n : Int} (hd : DX 44 s w rd rs n) : ∀ x, x ∈ [((0, 255, 15) : Nat × Nat × Nat), ((1, 240, 128) : Nat × Nat × Nat)] → sigOk s x := by
  obtain ⟨hw, qw, qs, hrd, hi, hf, hz, e0, e1, ht⟩ := fact_44 hd
  intro x hx
  simp only [List.mem_cons, List.not_mem_nil, or_false] at hx
  rcases hx with rfl | rfl
  · show (chr s 0).toNat &&& 255 = 15
    rw [e0]
    decide
  · show (chr s 1).toNat &&& 240 = 128
    rw [e1]
    exact condS (by decide) hrd

theorem sig_45 {s : ByteArray} {w rd rs n : Int} (hd : DX 45 s w rd rs n) : ∀ x, x ∈ [((0, 240, 112) : Nat × Nat × Nat)] → sigOk s x := by
  obtain ⟨hw, qw, qs, hrd, hi, hf, hz, e0, ht⟩ := fact_45 hd
  intro x hx
  simp only [List.mem_cons, List.not_mem_nil, or_false] at hx
  rcases hx with rfl
  · show (chr s 0).toNat &&& 240 = 112
    rw [e0]
    exact condS (by decide) hrd

theorem sig_46 {s : ByteArray} {w rd rs n : Int} (hd : DX 46 s w rd rs n) : ∀ x, x ∈ [((0, 255, 15) : Nat × Nat × Nat), ((1, 255, 5) : Nat × Nat × Nat)] → sigOk s x := by
  obtain ⟨hw, qw, qs, qd, qn, hi, hf, hz, e0, e1⟩ := fact_46 hd
  intro x hx
  simp only [List.mem_cons, List.not_mem_nil, or_false] at hx
  rcases hx with rfl | rfl
  · show (chr s 0).toNat &&& 255 = 15
    rw [e0]
    decide
  · show (chr s 1).toNat &&& 255 = 5
    rw [e1]
    decide

def sigs : List (List (Nat × Nat × Nat)) := [[(0, 240, 64), (1, 255, 137), (2, 192, 192)], [(0, 248, 72), (1, 255, 199), (2, 248, 192)], [(0, 248, 72), (1, 248, 184)], [(0, 240, 64), (1, 255, 1), (2, 192, 192)], [(0, 240, 64), (1, 255, 41), (2, 192, 192)], [(0, 240, 64), (1, 255, 33), (2, 192, 192)], [(0, 240, 64), (1, 255, 9), (2, 192, 192)], [(0, 240, 64), (1, 255, 49), (2, 192, 192)], [(0, 240, 64), (1, 255, 57), (2, 192, 192)], [(0, 240, 64), (1, 255, 15), (2, 255, 175), (3, 192, 192)], [(0, 240, 64), (1, 255, 247), (2, 248, 216)], [(0, 240, 64), (1, 255, 247), (2, 248, 208)], [(0, 240, 64), (1, 255, 247), (2, 248, 248)], [(0, 240, 64), (1, 255, 247), (2, 248, 240)], [(0, 240, 64), (1, 255, 211), (2, 248, 224)], [(0, 240, 64), (1, 255, 211), (2, 248, 232)], [(0, 240, 64), (1, 255, 211), (2, 248, 248)], [(0, 240, 64), (1, 255, 153)], [(0, 248, 72), (1, 255, 129), (2, 248, 192)], [(0, 248, 64), (1, 255, 15), (2, 240, 144), (3, 248, 192)], [(0, 248, 72), (1, 255, 15), (2, 255, 182), (3, 192, 192)], [(0, 248, 72), (1, 255, 15), (2, 255, 183), (3, 192, 192)], [(0, 248, 72), (1, 255, 15), (2, 255, 190), (3, 192, 192)], [(0, 248, 72), (1, 255, 15), (2, 255, 191), (3, 192, 192)], [(0, 248, 72), (1, 255, 99), (2, 192, 192)], [(0, 248, 72), (1, 255, 139), (2, 192, 128)], [(0, 248, 64), (1, 255, 139), (2, 192, 128)], [(0, 248, 72), (1, 255, 99), (2, 192, 128)], [(0, 248, 72), (1, 255, 15), (2, 255, 191), (3, 192, 128)], [(0, 248, 72), (1, 255, 15), (2, 255, 190), (3, 192, 128)], [(0, 248, 72), (1, 255, 15), (2, 255, 183), (3, 192, 128)], [(0, 248, 72), (1, 255, 15), (2, 255, 182), (3, 192, 128)], [(0, 248, 72), (1, 255, 137), (2, 192, 128)], [(0, 248, 64), (1, 255, 137), (2, 192, 128)], [(0, 255, 102), (1, 248, 64), (2, 255, 137), (3, 192, 128)], [(0, 248, 64), (1, 255, 136), (2, 192, 128)], [(0, 248, 72), (1, 255, 141), (2, 192, 128)], [(0, 248, 64), (1, 248, 80)], [(0, 248, 64), (1, 248, 88)], [(0, 255, 232)], [(0, 255, 195)], [(0, 255, 233)], [(0, 255, 235)], [(0, 255, 15), (1, 240, 128)], [(0, 240, 112)], [(0, 255, 15), (1, 255, 5)]]
def clash (a b : List (Nat × Nat × Nat)) : Bool := a.any fun x => b.any fun y => Nat.beq x.1 y.1 && !Nat.beq (Nat.land x.2.2 y.2.1) (Nat.land y.2.2 x.2.1)
theorem clash_spec {s : ByteArray} {a b : List (Nat × Nat × Nat)} (h : clash a b = true) (ha : ∀ x, x ∈ a → sigOk s x) (hb : ∀ x, x ∈ b → sigOk s x) : False := by
  obtain ⟨x, hx, h⟩ := List.any_eq_true.1 h
  obtain ⟨y, hy, h⟩ := List.any_eq_true.1 h
  rw [Bool.and_eq_true, Bool.not_eq_true'] at h
  obtain ⟨h1, h2⟩ := h
  have h1 := Nat.eq_of_beq_eq_true h1
  have e1 : (chr s x.1).toNat &&& x.2.1 = x.2.2 := ha x hx
  have e2 : (chr s y.1).toNat &&& y.2.1 = y.2.2 := hb y hy
  rw [h1] at e1
  have : Nat.land x.2.2 y.2.1 = Nat.land y.2.2 x.2.1 := by
    show x.2.2 &&& y.2.1 = y.2.2 &&& x.2.1
    rw [← e1, ← e2, Nat.and_assoc, Nat.and_assoc, Nat.and_comm x.2.1 y.2.1]
  rw [this, Nat.beq_refl] at h2
  cases h2
theorem sig_all (k : Int) (h1 : 1 ≤ k) (h2 : k ≤ 46) {s : ByteArray} {w rd rs n : Int} (hd : DX k s w rd rs n) : ∀ x, x ∈ nth sigs [] (k - 1).toNat → sigOk s x := by
  have : k = 1 ∨ k = 2 ∨ k = 3 ∨ k = 4 ∨ k = 5 ∨ k = 6 ∨ k = 7 ∨ k = 8 ∨ k = 9 ∨ k = 10 ∨ k = 11 ∨ k = 12 ∨ k = 13 ∨ k = 14 ∨ k = 15 ∨ k = 16 ∨ k = 17 ∨ k = 18 ∨ k = 19 ∨ k = 20 ∨ k = 21 ∨ k = 22 ∨ k = 23 ∨ k = 24 ∨ k = 25 ∨ k = 26 ∨ k = 27 ∨ k = 28 ∨ k = 29 ∨ k = 30 ∨ k = 31 ∨ k = 32 ∨ k = 33 ∨ k = 34 ∨ k = 35 ∨ k = 36 ∨ k = 37 ∨ k = 38 ∨ k = 39 ∨ k = 40 ∨ k = 41 ∨ k = 42 ∨ k = 43 ∨ k = 44 ∨ k = 45 ∨ k = 46 := by omega
  rcases this with rfl | rfl | rfl | rfl | rfl | rfl | rfl | rfl | rfl | rfl | rfl | rfl | rfl | rfl | rfl | rfl | rfl | rfl | rfl | rfl | rfl | rfl | rfl | rfl | rfl | rfl | rfl | rfl | rfl | rfl | rfl | rfl | rfl | rfl | rfl | rfl | rfl | rfl | rfl | rfl | rfl | rfl | rfl | rfl | rfl | rfl
  · exact sig_1 hd
  · exact sig_2 hd
  · exact sig_3 hd
  · exact sig_4 hd
  · exact sig_5 hd
  · exact sig_6 hd
  · exact sig_7 hd
  · exact sig_8 hd
  · exact sig_9 hd
  · exact sig_10 hd
  · exact sig_11 hd
  · exact sig_12 hd
  · exact sig_13 hd
  · exact sig_14 hd
  · exact sig_15 hd
  · exact sig_16 hd
  · exact sig_17 hd
  · exact sig_18 hd
  · exact sig_19 hd
  · exact sig_20 hd
  · exact sig_21 hd
  · exact sig_22 hd
  · exact sig_23 hd
  · exact sig_24 hd
  · exact sig_25 hd
  · exact sig_26 hd
  · exact sig_27 hd
  · exact sig_28 hd
  · exact sig_29 hd
  · exact sig_30 hd
  · exact sig_31 hd
  · exact sig_32 hd
  · exact sig_33 hd
  · exact sig_34 hd
  · exact sig_35 hd
  · exact sig_36 hd
  · exact sig_37 hd
  · exact sig_38 hd
  · exact sig_39 hd
  · exact sig_40 hd
  · exact sig_41 hd
  · exact sig_42 hd
  · exact sig_43 hd
  · exact sig_44 hd
  · exact sig_45 hd
  · exact sig_46 hd
theorem clash_all : ((List.range 46).all fun i => (List.range 46).all fun j => Nat.beq i j || clash (nth sigs [] i) (nth sigs [] j)) = true := by kernel_rfl
theorem hit_unique {j k : Int} {s : ByteArray} (j1 : 1 ≤ j) (j2 : j ≤ 46) (k1 : 1 ≤ k) (k2 : k ≤ 46) (hj : hitX j s) (hk : hitX k s) : j = k := by
  obtain ⟨_, _, _, _, hj⟩ := hj
  obtain ⟨_, _, _, _, hk⟩ := hk
  have h := List.all_eq_true.1 (List.all_eq_true.1 clash_all (j - 1).toNat (List.mem_range.2 (by omega))) (k - 1).toNat (List.mem_range.2 (by omega))
  rw [Bool.or_eq_true] at h
  rcases h with h | h
  · have := Nat.eq_of_beq_eq_true h
    omega
  · exact (clash_spec h (sig_all j j1 j2 hj) (sig_all k k1 k2 hk)).elim

theorem err_op {k w rd rs n : Int} (h : errX k w rd rs n = 0) : 1 ≤ k ∧ k ≤ 46 := by
  by_cases hk : 1 ≤ k ∧ k ≤ 46
  · exact hk
  · have : (decide (k < 1) || decide (46 < k)) = true := by simp; omega
    unfold errX at h
    rw [this] at h
    cases h
/-- bytes that begin with an instruction are decoded as that -/
theorem dec_is {k : Int} {s : ByteArray} {w rd rs n : Int} (hd : DX k s w rd rs n) : decX s = ⟨k, w, rd, rs, n, ((strX k w rd rs n).size : Int), true⟩ := by
  obtain ⟨h1, h2⟩ := err_op hd.1
  refine decX_is ⟨h1, h2, hd, rfl, rfl, fun j j1 (j2 : j < k) hj => ?_⟩
  have := hit_unique j1 (by omega) h1 h2 hj ⟨_, _, _, _, hd⟩
  omega
theorem len_all {k w rd rs n : Int} (he : errX k w rd rs n = 0) : 1 ≤ (strX k w rd rs n).size ∧ (strX k w rd rs n).size ≤ 15 := by
  obtain ⟨h1, h2⟩ := err_op he
  have : k = 1 ∨ k = 2 ∨ k = 3 ∨ k = 4 ∨ k = 5 ∨ k = 6 ∨ k = 7 ∨ k = 8 ∨ k = 9 ∨ k = 10 ∨ k = 11 ∨ k = 12 ∨ k = 13 ∨ k = 14 ∨ k = 15 ∨ k = 16 ∨ k = 17 ∨ k = 18 ∨ k = 19 ∨ k = 20 ∨ k = 21 ∨ k = 22 ∨ k = 23 ∨ k = 24 ∨ k = 25 ∨ k = 26 ∨ k = 27 ∨ k = 28 ∨ k = 29 ∨ k = 30 ∨ k = 31 ∨ k = 32 ∨ k = 33 ∨ k = 34 ∨ k = 35 ∨ k = 36 ∨ k = 37 ∨ k = 38 ∨ k = 39 ∨ k = 40 ∨ k = 41 ∨ k = 42 ∨ k = 43 ∨ k = 44 ∨ k = 45 ∨ k = 46 := by omega
  rcases this with rfl | rfl | rfl | rfl | rfl | rfl | rfl | rfl | rfl | rfl | rfl | rfl | rfl | rfl | rfl | rfl | rfl | rfl | rfl | rfl | rfl | rfl | rfl | rfl | rfl | rfl | rfl | rfl | rfl | rfl | rfl | rfl | rfl | rfl | rfl | rfl | rfl | rfl | rfl | rfl | rfl | rfl | rfl | rfl | rfl | rfl
  · rw [len_1 he]; decide
  · rw [len_2 he]; decide
  · rw [len_3 he]; decide
  · rw [len_4 he]; decide
  · rw [len_5 he]; decide
  · rw [len_6 he]; decide
  · rw [len_7 he]; decide
  · rw [len_8 he]; decide
  · rw [len_9 he]; decide
  · rw [len_10 he]; decide
  · rw [len_11 he]; decide
  · rw [len_12 he]; decide
  · rw [len_13 he]; decide
  · rw [len_14 he]; decide
  · rw [len_15 he]; decide
  · rw [len_16 he]; decide
  · rw [len_17 he]; decide
  · rw [len_18 he]; decide
  · rw [len_19 he]; decide
  · rw [len_20 he]; decide
  · rw [len_21 he]; decide
  · rw [len_22 he]; decide
  · rw [len_23 he]; decide
  · rw [len_24 he]; decide
  · rw [len_25 he]; decide
  · rw [len_26 he]; decide
  · rw [len_27 he]; decide
  · rw [len_28 he]; decide
  · rw [len_29 he]; decide
  · rw [len_30 he]; decide
  · rw [len_31 he]; decide
  · rw [len_32 he]; decide
  · rw [len_33 he]; decide
  · rw [len_34 he]; decide
  · rw [len_35 he]; decide
  · rw [len_36 he]; decide
  · rw [len_37 he]; decide
  · rw [len_38 he]; decide
  · rw [len_39 he]; decide
  · rw [len_40 he]; decide
  · rw [len_41 he]; decide
  · rw [len_42 he]; decide
  · rw [len_43 he]; decide
  · rw [len_44 he]; decide
  · rw [len_45 he]; decide
  · rw [len_46 he]; decide
theorem dec_enc {k w rd rs n : Int} (he : errX k w rd rs n = 0) (hn : inI n) (t : ByteArray) : decX (strX k w rd rs n ++ t) = ⟨k, w, rd, rs, n, ((strX k w rd rs n).size : Int), true⟩ := by
  refine dec_is ((hit_iff he hn).2 ⟨?_, ?_⟩)
  · rw [ByteArray.size_append]; omega
  · refine ba_ext ?_ fun j hj => ?_
    · rw [ByteArray.size_extract, ByteArray.size_append]; omega
    · rw [ByteArray.size_extract] at hj
      rw [chr_extract _ _ _ _ (by rw [ByteArray.size_append]; omega) (by omega), Nat.zero_add]
      have hj' : j < (strX k w rd rs n).data.size := by show j < (strX k w rd rs n).size; omega
      unfold chr
      rw [ByteArray.data_append, Array.getD_eq_getD_getElem?, Array.getElem?_append_left hj', ← Array.getD_eq_getD_getElem?]
theorem dec_enc0 {k w rd rs n : Int} (he : errX k w rd rs n = 0) (hn : inI n) : decX (strX k w rd rs n) = ⟨k, w, rd, rs, n, ((strX k w rd rs n).size : Int), true⟩ := by
  have := dec_enc he hn ByteArray.empty
  rwa [ByteArray.append_empty] at this
/-- one is found if and only if it is longer than nothing -/
theorem dec_len (s : ByteArray) : ((decX s).ok = true ∧ 1 ≤ (decX s).len) ∨ decX s = ⟨0, 0, 0, 0, 0, 0, false⟩ := by
  rcases decX_cases s with h | h
  · left
    obtain ⟨_, _, h3, h4, h5, _⟩ := h
    refine ⟨h5, ?_⟩
    have := (len_all h3.1).1
    omega
  · exact .inr h.1

end Go.X
end

section
set_option linter.unusedVariables false
open Go Go.Ev Go.Proofs
namespace Go.X

def hL (nL nS : Nat) (c0 c1 c2 c3 c4 : Nat → Int) (cs : Nat → ByteArray) : Heap := [(0, .tab nL [.ints .i64 c0, .ints .i64 c1, .ints .i64 c2, .ints .i64 c3, .ints .i64 c4] false), (1, .tab nS [.strs cs] false)]
def h3L (nL nS : Nat) (c0 c1 c2 c3 c4 : Nat → Int) (cs : Nat → ByteArray) : Heap := [(0, .tab nL [.ints .i64 c0, .ints .i64 c1, .ints .i64 c2, .ints .i64 c3, .ints .i64 c4] false), (1, .tab nS [.strs cs] false), (1024, .cells [.sl 0 nL, .sl 1 nS])]
noncomputable def ELx : Env := inlA Try.prog (envOf [(7, specOf g7), (8, specOf g7), (10, specOf g10), (11, specOf g11)] noLoop) [9, 12] [] 2
theorem named912 : named Try.prog [9, 12] = true := by kernel_rfl
theorem elx_calls : CallsOk ELx Try.prog := (inlA_calls ((SpecsOk.cons spec7 (SpecsOk.cons spec8 (SpecsOk.cons spec10 (SpecsOk.cons spec11 SpecsOk.nil)))).calls noLoop) mixed named912 namedNil 2).1
theorem elx_loop : ELx.loop = noLoop := rfl

/-- how much the strings weigh -/
def hvX (nS : Nat) (cs : Nat → ByteArray) : Nat → Nat → Int → Int
  | 0, _, n => n
  | f + 1, i, n => bif (bif cm .lss (i : Int) (nS : Int) then cm .lss n 1048576 else false) then hvX nS cs f (i + 1) (ar .add .i64 n ((cs i).size : Int)) else n
def v6 (n i : Int) : List SV := [.ptr 1024 0 0, .int false .i64 n, .int false .i64 i]
def lk6 : Lp := ⟨33, [1, 3, 4], 2048, fun _ _ => none⟩
def get6 : List SV → Heap → Option Tr
  | [.ptr k1 r1 p1, .int _ .i64 n, .int _ .i64 i], [(j0, .tab nL [.ints .i64 c0, .ints .i64 c1, .ints .i64 c2, .ints .i64 c3, .ints .i64 c4] false), (j1, .tab nS [.strs cs] false), (j2, .cells [.sl s0 m0, .sl s1 m1])] =>
    some (Tr.needs [Nat.beq k1 1024, Nat.beq r1 0, Nat.beq p1 0, decide (i = 0), Nat.beq j0 0, Nat.beq j1 1, Nat.beq j2 1024, Nat.beq s0 0, Nat.beq m0 nL, Nat.beq s1 1, Nat.beq m1 nS, Nat.ble nS 9223372036854775807]
      (exitT lk6 0 [.ptr 1024 0 0, .int false .i64 (hvX nS cs nS 0 n), .any] (h3L nL nS c0 c1 c2 c3 c4 cs)))
  | _, _ => none
def lp6 : Lp := { lk6 with get := get6 }
noncomputable def E6L : Env := ⟨ELx.call, loopEnv [(0, lp6)]⟩

def v3 (i : Int) : List SV := [.ptr 1024 0 0, .int false .i64 i]
def lk3 : Lp := ⟨110, [1, 3], 2048, fun _ _ => none⟩
/-- all numbers of the instructions fit -/
def fitL (nL : Nat) (c4 : Nat → Int) : Bool := (List.range (min nL 20)).all fun i => decide (-9223372036854775808 ≤ c4 i) && decide (c4 i ≤ 9223372036854775807)
def get3 : List SV → Heap → Option Tr
  | [.ptr k1 r1 p1, .int _ .i64 i], [(j0, .tab nL [.ints .i64 c0, .ints .i64 c1, .ints .i64 c2, .ints .i64 c3, .ints .i64 c4] false), (j1, .tab nS [.strs cs] false), (j2, .cells [.sl s0 m0, .sl s1 m1])] =>
    some (Tr.needs [Nat.beq k1 1024, Nat.beq r1 0, Nat.beq p1 0, decide (i = 0), Nat.beq j0 0, Nat.beq j1 1, Nat.beq j2 1024, Nat.beq s0 0, Nat.beq m0 nL, Nat.beq s1 1, Nat.beq m1 nS, fitL nL c4]
      (exitT lk3 0 [.ptr 1024 0 0, .any] (h3L nL nS c0 c1 c2 c3 c4 cs)))
  | _, _ => none
def lp3 : Lp := { lk3 with get := get3 }

def g6w : List SV → Heap → Option R
  | [.agg [.sl s0 m0, .sl s1 m1]], [(j0, .tab nL [.ints .i64 c0, .ints .i64 c1, .ints .i64 c2, .ints .i64 c3, .ints .i64 c4] rw0), (j1, .tab nS [.strs cs] rw1)] =>
    some ⟨[Nat.beq s0 0, Nat.beq s1 1, Nat.beq j0 0, Nat.beq j1 1, Nat.beq m0 nL, Nat.beq m1 nS, Nat.ble nS 9223372036854775807], .bool false (cm .gtr (hvX nS cs nS 0 (ar .add .i64 nL nS)) 3000), []⟩
  | _, _ => none

theorem r6 (i : Int) (n : Int) (nL : Nat) (nS : Nat) (c0 : Nat → Int) (c1 : Nat → Int) (c2 : Nat → Int) (c3 : Nat → Int) (c4 : Nat → Int) (cs : Nat → ByteArray) : (evalB ELx Try.prog Try.f6.results.toList (loopOf Try.f6 0) 1 lp6 (v6 n i) (h3L nL nS c0 c1 c2 c3 c4 cs)).view [1, 3, 4] =
    (bif (bif cm .lss i (↑nS : Int) then cm .lss n 1048576 else false) then
 bif (decide (0 ≤ i)) then
 bif (decide (i < (↑nS : Int))) then
 bif (Nat.blt (i.toNat) (nS)) then
 bif (Nat.blt (i.toNat) (nS)) then
 .norm 33 [.ptr 1024 0 0, .int false .i64 (ar .add .i64 n (↑(cs i.toNat).size : Int)), .int false .i64 (ar .add .i64 i 1)] [(0, .tab (nL) [.ints .i64 (c0), .ints .i64 (c1), .ints .i64 (c2), .ints .i64 (c3), .ints .i64 (c4)] false), (1, .tab (nS) [.strs (cs)] false), (1024, .cells [.sl 0 (nL), .sl 1 (nS)])]
 else .bad
 else .bad
 else .bad
 else .bad
 else
 .exit 0 33 [.ptr 1024 0 0, .int false .i64 (n), .int false .i64 (i)] [(0, .tab (nL) [.ints .i64 (c0), .ints .i64 (c1), .ints .i64 (c2), .ints .i64 (c3), .ints .i64 (c4)] false), (1, .tab (nS) [.strs (cs)] false), (1024, .cells [.sl 0 (nL), .sl 1 (nS)])]) := by kernel_rfl

theorem t6 (nL : Nat) (nS : Nat) (c0 : Nat → Int) (c1 : Nat → Int) (c2 : Nat → Int) (c3 : Nat → Int) (c4 : Nat → Int) (cs : Nat → ByteArray) : (evalF E6L Try.prog 6 [.agg [.sl 0 nL, .sl 1 nS]] (hL nL nS c0 c1 c2 c3 c4 cs) 1024).bare =
    (bif (Nat.beq (nL) (nL)) then
 bif (Nat.beq (nS) (nS)) then
 bif (Nat.ble (nS) (9223372036854775807)) then
 .ret (.bool false (cm .gtr (hvX nS cs nS 0 (ar .add .i64 (↑nL : Int) (↑nS : Int))) 3000)) []
 else .bad
 else .bad
 else .bad) := by kernel_rfl

theorem r3 (i : Int) (nL : Nat) (nS : Nat) (c0 : Nat → Int) (c1 : Nat → Int) (c2 : Nat → Int) (c3 : Nat → Int) (c4 : Nat → Int) (cs : Nat → ByteArray) : (evalB ELx Try.prog Try.f3.results.toList (loopOf Try.f3 0) 1 lp3 (v3 i) (h3L nL nS c0 c1 c2 c3 c4 cs)).view [1, 3] =
    (bif (bif cm .lss i (↑nL : Int) then cm .lss i 20 else false) then
 bif (decide (0 ≤ i)) then
 bif (decide (i < (↑nL : Int))) then
 bif (Nat.blt (i.toNat) (nL)) then
 bif (Nat.blt (i.toNat) (nL)) then
 bif (decide (0 ≤ i)) then
 bif (decide (i < (↑nL : Int))) then
 bif (Nat.blt (i.toNat) (nL)) then
 bif (Nat.blt (i.toNat) (nL)) then
 bif (bif cm .neq (errX (c0 i.toNat) (c1 i.toNat) (c2 i.toNat) (c3 i.toNat) (c4 i.toNat)) (errX (c0 i.toNat) (c1 i.toNat) (c2 i.toNat) (c3 i.toNat) (c4 i.toNat)) then true else !seq (strX (c0 i.toNat) (c1 i.toNat) (c2 i.toNat) (c3 i.toNat) (c4 i.toNat)) (strX (c0 i.toNat) (c1 i.toNat) (c2 i.toNat) (c3 i.toNat) (c4 i.toNat))) then
 .ret (.bool true false) [(0, .tab (nL) [.ints .i64 (c0), .ints .i64 (c1), .ints .i64 (c2), .ints .i64 (c3), .ints .i64 (c4)] false), (1, .tab (nS) [.strs (cs)] false), (1024, .cells [.sl 0 (nL), .sl 1 (nS)])]
 else
 bif (cm .neq (errX (c0 i.toNat) (c1 i.toNat) (c2 i.toNat) (c3 i.toNat) (c4 i.toNat)) 0) then
 .norm 110 [.ptr 1024 0 0, .int false .i64 (ar .add .i64 i 1)] [(0, .tab (nL) [.ints .i64 (c0), .ints .i64 (c1), .ints .i64 (c2), .ints .i64 (c3), .ints .i64 (c4)] false), (1, .tab (nS) [.strs (cs)] false), (1024, .cells [.sl 0 (nL), .sl 1 (nS)])]
 else
 bif (Nat.ble ((strX (c0 i.toNat) (c1 i.toNat) (c2 i.toNat) (c3 i.toNat) (c4 i.toNat)).size + 1) (9223372036854775807)) then
 bif (decide (0 ≤ maxI 0 (ar .sub .i64 (↑(strX (c0 i.toNat) (c1 i.toNat) (c2 i.toNat) (c3 i.toNat) (c4 i.toNat)).size : Int) 1))) then
 bif (Nat.ble ((maxI 0 (ar .sub .i64 (↑(strX (c0 i.toNat) (c1 i.toNat) (c2 i.toNat) (c3 i.toNat) (c4 i.toNat)).size : Int) 1)).toNat) ((strX (c0 i.toNat) (c1 i.toNat) (c2 i.toNat) (c3 i.toNat) (c4 i.toNat)).size)) then
 bif (bif cm .neq (bif (decX (strX (c0 i.toNat) (c1 i.toNat) (c2 i.toNat) (c3 i.toNat) (c4 i.toNat) ++ (ByteArray.mk #[144]))).ok then 0 else 11) 0 then true else allB [decide (0 ≤ i), decide (i < (↑nL : Int)), i.toNat.blt nL, i.toNat.blt nL]) then
 bif (bif cm .neq (bif (decX (strX (c0 i.toNat) (c1 i.toNat) (c2 i.toNat) (c3 i.toNat) (c4 i.toNat) ++ (ByteArray.mk #[144]))).ok then 0 else 11) 0 then true else bif !((decX (strX (c0 i.toNat) (c1 i.toNat) (c2 i.toNat) (c3 i.toNat) (c4 i.toNat) ++ (ByteArray.mk #[144]))).o == c0 i.toNat && ((decX (strX (c0 i.toNat) (c1 i.toNat) (c2 i.toNat) (c3 i.toNat) (c4 i.toNat) ++ (ByteArray.mk #[144]))).w == c1 i.toNat && ((decX (strX (c0 i.toNat) (c1 i.toNat) (c2 i.toNat) (c3 i.toNat) (c4 i.toNat) ++ (ByteArray.mk #[144]))).rd == c2 i.toNat && ((decX (strX (c0 i.toNat) (c1 i.toNat) (c2 i.toNat) (c3 i.toNat) (c4 i.toNat) ++ (ByteArray.mk #[144]))).rs == c3 i.toNat && ((decX (strX (c0 i.toNat) (c1 i.toNat) (c2 i.toNat) (c3 i.toNat) (c4 i.toNat) ++ (ByteArray.mk #[144]))).n == c4 i.toNat && true))))) then true else bif cm .neq (decX (strX (c0 i.toNat) (c1 i.toNat) (c2 i.toNat) (c3 i.toNat) (c4 i.toNat) ++ (ByteArray.mk #[144]))).len (↑(strX (c0 i.toNat) (c1 i.toNat) (c2 i.toNat) (c3 i.toNat) (c4 i.toNat)).size : Int) then true else !cm .eql (bif (decX ((strX (c0 i.toNat) (c1 i.toNat) (c2 i.toNat) (c3 i.toNat) (c4 i.toNat)).extract 0 (maxI 0 (ar .sub .i64 (↑(strX (c0 i.toNat) (c1 i.toNat) (c2 i.toNat) (c3 i.toNat) (c4 i.toNat)).size : Int) 1)).toNat)).ok then 0 else 11) 0 == cm .gtr (decX ((strX (c0 i.toNat) (c1 i.toNat) (c2 i.toNat) (c3 i.toNat) (c4 i.toNat)).extract 0 (maxI 0 (ar .sub .i64 (↑(strX (c0 i.toNat) (c1 i.toNat) (c2 i.toNat) (c3 i.toNat) (c4 i.toNat)).size : Int) 1)).toNat)).len 0) then
 .ret (.bool true false) [(0, .tab (nL) [.ints .i64 (c0), .ints .i64 (c1), .ints .i64 (c2), .ints .i64 (c3), .ints .i64 (c4)] false), (1, .tab (nS) [.strs (cs)] false), (1024, .cells [.sl 0 (nL), .sl 1 (nS)]), (2832, .cells [.int false .i64 ((decX (strX (c0 i.toNat) (c1 i.toNat) (c2 i.toNat) (c3 i.toNat) (c4 i.toNat) ++ (ByteArray.mk #[144]))).o), .int false .i64 ((decX (strX (c0 i.toNat) (c1 i.toNat) (c2 i.toNat) (c3 i.toNat) (c4 i.toNat) ++ (ByteArray.mk #[144]))).w), .int false .i64 ((decX (strX (c0 i.toNat) (c1 i.toNat) (c2 i.toNat) (c3 i.toNat) (c4 i.toNat) ++ (ByteArray.mk #[144]))).rd), .int false .i64 ((decX (strX (c0 i.toNat) (c1 i.toNat) (c2 i.toNat) (c3 i.toNat) (c4 i.toNat) ++ (ByteArray.mk #[144]))).rs), .int false .i64 ((decX (strX (c0 i.toNat) (c1 i.toNat) (c2 i.toNat) (c3 i.toNat) (c4 i.toNat) ++ (ByteArray.mk #[144]))).n)]), (3104, .cells [(.int false .i64 ((decX ((strX (c0 i.toNat) (c1 i.toNat) (c2 i.toNat) (c3 i.toNat) (c4 i.toNat)).extract 0 (maxI 0 (ar .sub .i64 (↑(strX (c0 i.toNat) (c1 i.toNat) (c2 i.toNat) (c3 i.toNat) (c4 i.toNat)).size : Int) 1)).toNat)).o)), (.int false .i64 ((decX ((strX (c0 i.toNat) (c1 i.toNat) (c2 i.toNat) (c3 i.toNat) (c4 i.toNat)).extract 0 (maxI 0 (ar .sub .i64 (↑(strX (c0 i.toNat) (c1 i.toNat) (c2 i.toNat) (c3 i.toNat) (c4 i.toNat)).size : Int) 1)).toNat)).w)), (.int false .i64 ((decX ((strX (c0 i.toNat) (c1 i.toNat) (c2 i.toNat) (c3 i.toNat) (c4 i.toNat)).extract 0 (maxI 0 (ar .sub .i64 (↑(strX (c0 i.toNat) (c1 i.toNat) (c2 i.toNat) (c3 i.toNat) (c4 i.toNat)).size : Int) 1)).toNat)).rd)), (.int false .i64 ((decX ((strX (c0 i.toNat) (c1 i.toNat) (c2 i.toNat) (c3 i.toNat) (c4 i.toNat)).extract 0 (maxI 0 (ar .sub .i64 (↑(strX (c0 i.toNat) (c1 i.toNat) (c2 i.toNat) (c3 i.toNat) (c4 i.toNat)).size : Int) 1)).toNat)).rs)), (.int false .i64 ((decX ((strX (c0 i.toNat) (c1 i.toNat) (c2 i.toNat) (c3 i.toNat) (c4 i.toNat)).extract 0 (maxI 0 (ar .sub .i64 (↑(strX (c0 i.toNat) (c1 i.toNat) (c2 i.toNat) (c3 i.toNat) (c4 i.toNat)).size : Int) 1)).toNat)).n))]), (3248, .cells [(.int false .i64 ((decX ((strX (c0 i.toNat) (c1 i.toNat) (c2 i.toNat) (c3 i.toNat) (c4 i.toNat)).extract 0 (maxI 0 (ar .sub .i64 (↑(strX (c0 i.toNat) (c1 i.toNat) (c2 i.toNat) (c3 i.toNat) (c4 i.toNat)).size : Int) 1)).toNat)).o)), (.int false .i64 ((decX ((strX (c0 i.toNat) (c1 i.toNat) (c2 i.toNat) (c3 i.toNat) (c4 i.toNat)).extract 0 (maxI 0 (ar .sub .i64 (↑(strX (c0 i.toNat) (c1 i.toNat) (c2 i.toNat) (c3 i.toNat) (c4 i.toNat)).size : Int) 1)).toNat)).w)), (.int false .i64 ((decX ((strX (c0 i.toNat) (c1 i.toNat) (c2 i.toNat) (c3 i.toNat) (c4 i.toNat)).extract 0 (maxI 0 (ar .sub .i64 (↑(strX (c0 i.toNat) (c1 i.toNat) (c2 i.toNat) (c3 i.toNat) (c4 i.toNat)).size : Int) 1)).toNat)).rd)), (.int false .i64 ((decX ((strX (c0 i.toNat) (c1 i.toNat) (c2 i.toNat) (c3 i.toNat) (c4 i.toNat)).extract 0 (maxI 0 (ar .sub .i64 (↑(strX (c0 i.toNat) (c1 i.toNat) (c2 i.toNat) (c3 i.toNat) (c4 i.toNat)).size : Int) 1)).toNat)).rs)), (.int false .i64 ((decX ((strX (c0 i.toNat) (c1 i.toNat) (c2 i.toNat) (c3 i.toNat) (c4 i.toNat)).extract 0 (maxI 0 (ar .sub .i64 (↑(strX (c0 i.toNat) (c1 i.toNat) (c2 i.toNat) (c3 i.toNat) (c4 i.toNat)).size : Int) 1)).toNat)).n))])]
 else
 .norm 110 [.ptr 1024 0 0, .int false .i64 (ar .add .i64 i 1)] [(0, .tab (nL) [.ints .i64 (c0), .ints .i64 (c1), .ints .i64 (c2), .ints .i64 (c3), .ints .i64 (c4)] false), (1, .tab (nS) [.strs (cs)] false), (1024, .cells [.sl 0 (nL), .sl 1 (nS)]), (2832, .cells [.int false .i64 ((decX (strX (c0 i.toNat) (c1 i.toNat) (c2 i.toNat) (c3 i.toNat) (c4 i.toNat) ++ (ByteArray.mk #[144]))).o), .int false .i64 ((decX (strX (c0 i.toNat) (c1 i.toNat) (c2 i.toNat) (c3 i.toNat) (c4 i.toNat) ++ (ByteArray.mk #[144]))).w), .int false .i64 ((decX (strX (c0 i.toNat) (c1 i.toNat) (c2 i.toNat) (c3 i.toNat) (c4 i.toNat) ++ (ByteArray.mk #[144]))).rd), .int false .i64 ((decX (strX (c0 i.toNat) (c1 i.toNat) (c2 i.toNat) (c3 i.toNat) (c4 i.toNat) ++ (ByteArray.mk #[144]))).rs), .int false .i64 ((decX (strX (c0 i.toNat) (c1 i.toNat) (c2 i.toNat) (c3 i.toNat) (c4 i.toNat) ++ (ByteArray.mk #[144]))).n)]), (3104, .cells [(.int false .i64 ((decX ((strX (c0 i.toNat) (c1 i.toNat) (c2 i.toNat) (c3 i.toNat) (c4 i.toNat)).extract 0 (maxI 0 (ar .sub .i64 (↑(strX (c0 i.toNat) (c1 i.toNat) (c2 i.toNat) (c3 i.toNat) (c4 i.toNat)).size : Int) 1)).toNat)).o)), (.int false .i64 ((decX ((strX (c0 i.toNat) (c1 i.toNat) (c2 i.toNat) (c3 i.toNat) (c4 i.toNat)).extract 0 (maxI 0 (ar .sub .i64 (↑(strX (c0 i.toNat) (c1 i.toNat) (c2 i.toNat) (c3 i.toNat) (c4 i.toNat)).size : Int) 1)).toNat)).w)), (.int false .i64 ((decX ((strX (c0 i.toNat) (c1 i.toNat) (c2 i.toNat) (c3 i.toNat) (c4 i.toNat)).extract 0 (maxI 0 (ar .sub .i64 (↑(strX (c0 i.toNat) (c1 i.toNat) (c2 i.toNat) (c3 i.toNat) (c4 i.toNat)).size : Int) 1)).toNat)).rd)), (.int false .i64 ((decX ((strX (c0 i.toNat) (c1 i.toNat) (c2 i.toNat) (c3 i.toNat) (c4 i.toNat)).extract 0 (maxI 0 (ar .sub .i64 (↑(strX (c0 i.toNat) (c1 i.toNat) (c2 i.toNat) (c3 i.toNat) (c4 i.toNat)).size : Int) 1)).toNat)).rs)), (.int false .i64 ((decX ((strX (c0 i.toNat) (c1 i.toNat) (c2 i.toNat) (c3 i.toNat) (c4 i.toNat)).extract 0 (maxI 0 (ar .sub .i64 (↑(strX (c0 i.toNat) (c1 i.toNat) (c2 i.toNat) (c3 i.toNat) (c4 i.toNat)).size : Int) 1)).toNat)).n))]), (3248, .cells [(.int false .i64 ((decX ((strX (c0 i.toNat) (c1 i.toNat) (c2 i.toNat) (c3 i.toNat) (c4 i.toNat)).extract 0 (maxI 0 (ar .sub .i64 (↑(strX (c0 i.toNat) (c1 i.toNat) (c2 i.toNat) (c3 i.toNat) (c4 i.toNat)).size : Int) 1)).toNat)).o)), (.int false .i64 ((decX ((strX (c0 i.toNat) (c1 i.toNat) (c2 i.toNat) (c3 i.toNat) (c4 i.toNat)).extract 0 (maxI 0 (ar .sub .i64 (↑(strX (c0 i.toNat) (c1 i.toNat) (c2 i.toNat) (c3 i.toNat) (c4 i.toNat)).size : Int) 1)).toNat)).w)), (.int false .i64 ((decX ((strX (c0 i.toNat) (c1 i.toNat) (c2 i.toNat) (c3 i.toNat) (c4 i.toNat)).extract 0 (maxI 0 (ar .sub .i64 (↑(strX (c0 i.toNat) (c1 i.toNat) (c2 i.toNat) (c3 i.toNat) (c4 i.toNat)).size : Int) 1)).toNat)).rd)), (.int false .i64 ((decX ((strX (c0 i.toNat) (c1 i.toNat) (c2 i.toNat) (c3 i.toNat) (c4 i.toNat)).extract 0 (maxI 0 (ar .sub .i64 (↑(strX (c0 i.toNat) (c1 i.toNat) (c2 i.toNat) (c3 i.toNat) (c4 i.toNat)).size : Int) 1)).toNat)).rs)), (.int false .i64 ((decX ((strX (c0 i.toNat) (c1 i.toNat) (c2 i.toNat) (c3 i.toNat) (c4 i.toNat)).extract 0 (maxI 0 (ar .sub .i64 (↑(strX (c0 i.toNat) (c1 i.toNat) (c2 i.toNat) (c3 i.toNat) (c4 i.toNat)).size : Int) 1)).toNat)).n))])]
 else .bad
 else .bad
 else .bad
 else .bad
 else .bad
 else .bad
 else .bad
 else .bad
 else .bad
 else .bad
 else .bad
 else .bad
 else
 .exit 0 110 [.ptr 1024 0 0, .int false .i64 (i)] [(0, .tab (nL) [.ints .i64 (c0), .ints .i64 (c1), .ints .i64 (c2), .ints .i64 (c3), .ints .i64 (c4)] false), (1, .tab (nS) [.strs (cs)] false), (1024, .cells [.sl 0 (nL), .sl 1 (nS)])]) := by kernel_rfl

end Go.X
end

section
set_option linter.unusedVariables false
open Go Go.Ev Go.Proofs
namespace Go.X

structure XL where
  i : Nat
  nL : Nat
  nS : Nat
  c0 : Nat → Int
  c1 : Nat → Int
  c2 : Nat → Int
  c3 : Nat → Int
  c4 : Nat → Int
  cs : Nat → ByteArray
  n : Int
def hpL (x : XL) : Heap := h3L x.nL x.nS x.c0 x.c1 x.c2 x.c3 x.c4 x.cs

def ok6 (x : XL) : Prop := x.i ≤ x.nS ∧ x.nS ≤ 9223372036854775807
def vs6 (x : XL) : List SV := v6 x.n x.i
def out6 (x : XL) : Vw := .exit 0 33 [.ptr 1024 0 0, .int false .i64 (hvX x.nS x.cs (x.nS - x.i) x.i x.n), .any] (hpL x)

theorem entry6 (l : List SV) (H : Heap) (T : Tr) (h : lp6.get l H = some T) (hb : T.leaf ≠ .bad) : ∃ x r, ok6 x ∧ WkV r lp6.nm l H (vs6 x) (hpL x) ∧ T.leaf = toLf lp6 (out6 x) := by
  replace h : get6 l H = some T := h
  unfold get6 at h
  split at h
  · rename_i k1 r1 p1 _ n _ i j0 nL c0 c1 c2 c3 c4 j1 nS cs j2 s0 m0 s1 m1
    simp only [Option.some.injEq] at h
    subst h
    obtain ⟨hn, he⟩ := needs_ne hb
    rw [he]
    simp only [allB, Bool.and_eq_true, Bool.and_true, decide_eq_true_eq, Nat.beq_eq, Nat.ble_eq] at hn
    obtain ⟨rfl, rfl, rfl, rfl, rfl, rfl, rfl, rfl, rfl, rfl, rfl, hS⟩ := hn
    refine ⟨⟨0, m0, m1, c0, c1, c2, c3, c4, cs, n⟩, [], ⟨Nat.zero_le _, hS⟩, ?_, ?_⟩
    · simp [WkV, vs6, hpL, v6, h3L, wkF, wkS, sim, simL, wkH, wkB, wkCs, wkC, rmap, rlook, Ev.look, oldsOf, uniqN, mem, SV.al, SV.alL, Ev.hal, Blk.al, lt, rok, lp6, lk6]
    · simp only [exitT_leaf, out6, hpL]
      rfl
  · cases h

attribute [local irreducible] evalB Tr.view in
theorem round6 (x : XL) (hx : ok6 x) : Round lp6 ok6 (fun x => x.nS - x.i) vs6 hpL out6 x ((evalB ELx Try.prog Try.f6.results.toList (loopOf Try.f6 0) (0 + 1) lp6 (vs6 x) (hpL x)).view lp6.ks) := by
  obtain ⟨i, nL, nS, c0, c1, c2, c3, c4, cs, n⟩ := x
  obtain ⟨hi, hS⟩ := hx
  simp only at hi hS
  have hr := r6 i n nL nS c0 c1 c2 c3 c4 cs
  rw [show evalB ELx Try.prog Try.f6.results.toList (loopOf Try.f6 0) (0 + 1) lp6 (vs6 ⟨i, nL, nS, c0, c1, c2, c3, c4, cs, n⟩) (hpL ⟨i, nL, nS, c0, c1, c2, c3, c4, cs, n⟩) = evalB ELx Try.prog Try.f6.results.toList (loopOf Try.f6 0) 1 lp6 (v6 n i) (h3L nL nS c0 c1 c2 c3 c4 cs) from rfl, show lp6.ks = [1, 3, 4] from rfl, hr]
  cases hc : (bif cm .lss (i : Int) (nS : Int) then cm .lss n 1048576 else false) with
  | true =>
    have hlt : i < nS := by
      rw [cm_lss'] at hc
      by_cases h : (i : Int) < nS
      · omega
      · rw [decide_eq_false h] at hc; cases hc
    have e2 : decide (0 ≤ (i : Int)) = true := decide_eq_true (by omega)
    have e3 : decide ((i : Int) < (nS : Int)) = true := decide_eq_true (by omega)
    have e4 : Nat.blt i nS = true := by rw [Nat.blt_eq]; exact hlt
    simp only [e2, e3, e4, cond_true, Int.toNat_natCast, addOne (show i < 9223372036854775807 by omega)]
    refine ⟨rfl, ⟨i + 1, nL, nS, c0, c1, c2, c3, c4, cs, ar .add .i64 n ((cs i).size : Int)⟩, [], ⟨hlt, hS⟩, by show nS - (i + 1) < nS - i; omega, ?_, ?_⟩
    · simp only [out6, hpL]
      obtain ⟨f, hf⟩ : ∃ f, nS - i = f + 1 := ⟨nS - i - 1, by omega⟩
      rw [hf, show nS - (i + 1) = f by omega]
      simp only [hvX, hc, cond_true]
    · simp [WkV, vs6, hpL, v6, h3L, wkF, wkS, sim, simL, wkH, wkB, wkCs, wkC, rmap, rlook, Ev.look, oldsOf, uniqN, mem, SV.al, SV.alL, Ev.hal, Blk.al, lt, rok, lp6, lk6]
  | false =>
    simp only [cond_false]
    have hv : hvX nS cs (nS - i) i n = n := by
      cases hf : nS - i with
      | zero => rfl
      | succ f => simp only [hvX, hc, cond_false]
    refine ⟨rfl, _, _, [], rfl, ?_⟩
    simp [WkV, hv, hpL, h3L, wkF, wkS, sim, simL, wkH, wkB, wkCs, wkC, rmap, rlook, Ev.look, oldsOf, uniqN, mem, SV.al, SV.alL, Ev.hal, Blk.al, lt, rok, lp6, lk6]

theorem e6l_calls : CallsOk E6L Try.prog := fun f args H nm r h hn => elx_calls f args H nm r h hn
attribute [local irreducible] evalB Tr.view in
theorem loop6 : LoopOk E6L Try.prog Try.f6 0 (loopOf Try.f6 0) :=
  loop_okE mixed (fun S => rfl) (by decide) ok6 (fun x => x.nS - x.i) vs6 hpL out6 entry6 fun x hx => ⟨ELx, elx_calls, loops_noLoop elx_loop _ _, round6 x hx⟩
theorem fn6 : Try.prog.funcs[6]? = some Try.f6 := by kernel_rfl
theorem b6 : Try.f6.body = some (bodyOf Try.f6) := by kernel_rfl
theorem n6 : (Try.f6.name == "runtime.NumGoroutine") = false := by kernel_rfl
theorem nl6 : Code.loops (bodyOf Try.f6) = 1 := by kernel_rfl
theorem nth6 : nthLoop (bodyOf Try.f6) 0 = some (loopOf Try.f6 0) := by kernel_rfl
theorem loops6 : LoopsOk E6L Try.prog Try.f6 (bodyOf Try.f6) 0 := loops1 nl6 fun a ha => by
  rw [nth6] at ha
  simp only [Option.some.injEq] at ha
  subst ha
  exact loop6

theorem roH_args (nL nS : Nat) (cL cS : List Col) (rw0 rw1 : Bool) : roH (namesH []) [(0, .tab nL cL rw0), (1, .tab nS cS rw1)] = [(0, .tab nL cL false), (1, .tab nS cS false)] := rfl
attribute [local irreducible] evalF Lf.gives in
theorem spec6 : SpecOk Try.prog 6 (specOf g6w) := spec_okA false e6l_calls mixed fn6 b6 n6 loops6 g6w fun a0 H0 r hg hn => by
  unfold g6w at hg
  split at hg
  · rename_i s0 m0 s1 m1 j0 nL c0 c1 c2 c3 c4 rw0 j1 nS cs rw1
    simp only [Option.some.injEq] at hg
    subst hg
    simp only [allB, Bool.and_true, Bool.and_eq_true, Nat.beq_eq, Nat.ble_eq] at hn
    obtain ⟨rfl, rfl, rfl, rfl, rfl, rfl, hS⟩ := hn
    refine ⟨_, id, fun _ => rfl, ?_⟩
    rw [roH_args]
    refine gives_giv (gives_tree (t6 m0 m1 c0 c1 c2 c3 c4 cs) ?_)
    have e1 : Nat.ble m1 9223372036854775807 = true := by rw [Nat.ble_eq]; exact hS
    simp only [Nat.beq_refl, e1, cond_true]
    exact gives_ret fun σ σ' => rfl
  · cases hg

/-! the loop of X86Encodes -/
def ok3 (x : XL) : Prop := x.i ≤ 20 ∧ fitL x.nL x.c4 = true
def vs3 (x : XL) : List SV := v3 x.i
def out3 (x : XL) : Vw := .exit 0 110 [.ptr 1024 0 0, .any] (hpL x)

theorem entry3 (l : List SV) (H : Heap) (T : Tr) (h : lp3.get l H = some T) (hb : T.leaf ≠ .bad) : ∃ x r, ok3 x ∧ WkV r lp3.nm l H (vs3 x) (hpL x) ∧ T.leaf = toLf lp3 (out3 x) := by
  replace h : get3 l H = some T := h
  unfold get3 at h
  split at h
  · rename_i k1 r1 p1 _ i j0 nL c0 c1 c2 c3 c4 j1 nS cs j2 s0 m0 s1 m1
    simp only [Option.some.injEq] at h
    subst h
    obtain ⟨hn, he⟩ := needs_ne hb
    rw [he]
    simp only [allB, Bool.and_eq_true, Bool.and_true, decide_eq_true_eq, Nat.beq_eq, Nat.ble_eq] at hn
    obtain ⟨rfl, rfl, rfl, rfl, rfl, rfl, rfl, rfl, rfl, rfl, rfl, hf⟩ := hn
    refine ⟨⟨0, m0, m1, c0, c1, c2, c3, c4, cs, 0⟩, [], ⟨Nat.zero_le _, hf⟩, ?_, ?_⟩
    · simp [WkV, vs3, hpL, v3, h3L, wkF, wkS, sim, simL, wkH, wkB, wkCs, wkC, rmap, rlook, Ev.look, oldsOf, uniqN, mem, SV.al, SV.alL, Ev.hal, Blk.al, lt, rok, lp3, lk3]
    · simp only [exitT_leaf, out3, hpL]
      rfl
  · cases h

theorem cm_neq_self (a : Int) : cm .neq a a = false := by simp [cm]
theorem dec_agree (s : ByteArray) : (!cm .eql (bif (decX s).ok then 0 else 11) 0 == cm .gtr (decX s).len 0) = false := by
  rcases dec_len s with ⟨h1, h2⟩ | h
  · rw [h1, cm_gtr', decide_eq_true (show 0 < (decX s).len by omega)]; rfl
  · rw [h]; rfl

theorem cut_facts {z : Nat} (l1 : 1 ≤ z) (l2 : z ≤ 15) : maxI 0 (ar .sub .i64 (z : Int) 1) = ((z - 1 : Nat) : Int) ∧ Nat.ble (z + 1) 9223372036854775807 = true ∧ decide ((0 : Int) ≤ ((z - 1 : Nat) : Int)) = true ∧ Nat.ble (z - 1) z = true := by
  refine ⟨?_, by rw [Nat.ble_eq]; omega, decide_eq_true (by omega), by rw [Nat.ble_eq]; omega⟩
  have : ar .sub .i64 (z : Int) 1 = ((z - 1 : Nat) : Int) := by simp only [ar, IntKind.wrap_i64]; omega
  rw [this]
  unfold maxI
  by_cases hz : ((z - 1 : Nat) : Int) > 0
  · rw [decide_eq_true hz]; rfl
  · rw [decide_eq_false hz]
    simp only [cond_false]
    omega

attribute [local irreducible] evalB Tr.view decX strX errX in
theorem round3 (x : XL) (hx : ok3 x) : Round lp3 ok3 (fun x => 20 - x.i) vs3 hpL out3 x ((evalB ELx Try.prog Try.f3.results.toList (loopOf Try.f3 0) (0 + 1) lp3 (vs3 x) (hpL x)).view lp3.ks) := by
  obtain ⟨i, nL, nS, c0, c1, c2, c3, c4, cs, n⟩ := x
  obtain ⟨hx, hf⟩ := hx
  simp only at hx hf
  have hr := r3 i nL nS c0 c1 c2 c3 c4 cs
  rw [show evalB ELx Try.prog Try.f3.results.toList (loopOf Try.f3 0) (0 + 1) lp3 (vs3 ⟨i, nL, nS, c0, c1, c2, c3, c4, cs, n⟩) (hpL ⟨i, nL, nS, c0, c1, c2, c3, c4, cs, n⟩) = evalB ELx Try.prog Try.f3.results.toList (loopOf Try.f3 0) 1 lp3 (v3 i) (h3L nL nS c0 c1 c2 c3 c4 cs) from rfl, show lp3.ks = [1, 3] from rfl, hr]
  by_cases h : i < nL ∧ i < 20
  · obtain ⟨h1, h2⟩ := h
    have e1 : cm .lss (i : Int) nL = true := decide_eq_true (by omega)
    have e2 : cm .lss (i : Int) 20 = true := decide_eq_true (by omega)
    have e3 : decide (0 ≤ (i : Int)) = true := decide_eq_true (by omega)
    have e4 : decide ((i : Int) < (nL : Int)) = true := decide_eq_true (by omega)
    have e5 : Nat.blt i nL = true := by rw [Nat.blt_eq]; exact h1
    have hin : inI (c4 i) := by
      have := List.all_eq_true.1 hf i (List.mem_range.2 (by omega))
      simp only [Bool.and_eq_true, decide_eq_true_eq] at this
      exact this
    have hnext : ∀ H2, Round lp3 ok3 (fun x => 20 - x.i) vs3 hpL out3 ⟨i, nL, nS, c0, c1, c2, c3, c4, cs, n⟩ (.norm 110 [.ptr 1024 0 0, .int false .i64 (ar .add .i64 i 1)] ((0, .tab nL [.ints .i64 c0, .ints .i64 c1, .ints .i64 c2, .ints .i64 c3, .ints .i64 c4] false) :: (1, .tab nS [.strs cs] false) :: (1024, .cells [.sl 0 nL, .sl 1 nS]) :: H2)) := by
      intro H2
      refine ⟨rfl, ⟨i + 1, nL, nS, c0, c1, c2, c3, c4, cs, n⟩, [], ⟨show i + 1 ≤ 20 by omega, hf⟩, by show 20 - (i + 1) < 20 - i; omega, rfl, ?_⟩
      rw [addOne (show i < 9223372036854775807 by omega)]
      simp [WkV, vs3, hpL, v3, h3L, wkF, wkS, sim, simL, wkH, wkB, wkCs, wkC, rmap, rlook, Ev.look, oldsOf, uniqN, mem, SV.al, SV.alL, Ev.hal, Blk.al, lt, rok, lp3, lk3]
    have hseq : ∀ s : ByteArray, seq s s = true := fun s => (seq_iff s s).2 rfl
    simp only [e1, e2, e3, e4, e5, cond_true, Int.toNat_natCast, cm_neq_self, hseq, Bool.not_true, cond_false]
    refine Round_cond (fun _ => hnext _) (fun he => ?_)
    have he : errX (c0 i) (c1 i) (c2 i) (c3 i) (c4 i) = 0 := by simpa [cm] using he
    have hd := dec_enc he hin ⟨#[144]⟩
    obtain ⟨l1, l2⟩ := len_all he
    simp only [hd, dec_agree]
    obtain ⟨hm, f1, f2, f3⟩ := cut_facts l1 l2
    simp only [hm, f1, f2, f3, Int.toNat_natCast, cond_true, cm_neq_self, cond_false, allB, Bool.and_true, BEq.rfl, Bool.not_true]
    exact hnext _
  · have e1 : (bif cm .lss (i : Int) nL then cm .lss (i : Int) 20 else false) = false := by
      rw [cm_lss', cm_lss']
      by_cases h1 : i < nL
      · have : ¬ (i : Int) < 20 := by omega
        simp [this]
      · have : ¬ (i : Int) < nL := by omega
        simp [this]
    simp only [e1, cond_false]
    refine ⟨rfl, _, _, [], rfl, ?_⟩
    simp [WkV, hpL, h3L, wkF, wkS, sim, simL, wkH, wkB, wkCs, wkC, rmap, rlook, Ev.look, oldsOf, uniqN, mem, SV.al, SV.alL, Ev.hal, Blk.al, lt, rok, lp3, lk3]

noncomputable def EL : Env := inlA Try.prog (envOf [(7, specOf g7), (8, specOf g7), (10, specOf g10), (11, specOf g11), (6, specOf g6w)] noLoop) [9, 12] [] 2
theorem el_calls : CallsOk EL Try.prog := (inlA_calls ((SpecsOk.cons spec7 (SpecsOk.cons spec8 (SpecsOk.cons spec10 (SpecsOk.cons spec11 (SpecsOk.cons spec6 SpecsOk.nil))))).calls noLoop) mixed named912 namedNil 2).1
noncomputable def E3L : Env := ⟨EL.call, loopEnv [(0, lp3)]⟩
theorem e3l_calls : CallsOk E3L Try.prog := fun f args H nm r h hn => el_calls f args H nm r h hn
attribute [local irreducible] evalB Tr.view in
theorem loop3 : LoopOk E3L Try.prog Try.f3 0 (loopOf Try.f3 0) :=
  loop_okE mixed (fun S => rfl) (by decide) ok3 (fun x => 20 - x.i) vs3 hpL out3 entry3 fun x hx => ⟨ELx, elx_calls, loops_noLoop elx_loop _ _, round3 x hx⟩
theorem fn3 : Try.prog.funcs[3]? = some Try.f3 := by kernel_rfl
theorem b3 : Try.f3.body = some (bodyOf Try.f3) := by kernel_rfl
theorem nl3 : Code.loops (bodyOf Try.f3) = 1 := by kernel_rfl
theorem nth3 : nthLoop (bodyOf Try.f3) 0 = some (loopOf Try.f3 0) := by kernel_rfl
theorem loops3 : LoopsOk E3L Try.prog Try.f3 (bodyOf Try.f3) 0 := loops1 nl3 fun a ha => by
  rw [nth3] at ha
  simp only [Option.some.injEq] at ha
  subst ha
  exact loop3

theorem t3 (nL nS : Nat) (c0 c1 c2 c3 c4 : Nat → Int) (cs : Nat → ByteArray) : (evalF E3L Try.prog 3 [.agg [.sl 0 nL, .sl 1 nS]] (hL nL nS c0 c1 c2 c3 c4 cs) 1024).bare =
    (bif Nat.beq nL nL then bif Nat.beq nS nS then bif Nat.ble nS 9223372036854775807 then bif cm .gtr (hvX nS cs nS 0 (ar .add .i64 (nL : Int) (nS : Int))) 3000 then .ret (.bool true true) [] else
      bif Nat.beq nL nL then bif Nat.beq nS nS then bif fitL nL c4 then .ret (.bool false true) [] else .bad else .bad else .bad else .bad else .bad else .bad) := by kernel_rfl

end Go.X
end

section
set_option linter.unusedVariables false
open Go Go.Ev Go.Proofs
namespace Go.X

def numL : List Int := [0, 1, -1, 2, 4, 7, 12, 15, 16, 127, 128, -128, -129, 2147483647, 2147483648, -2147483648, -2147483649, 9223372036854775807]
def regD : List Int := [0, 15, 0, 8, 3, 7, 5, 4]
def regS2 : List Int := [0, 0, 13, 5, 4, 12, 15, 0]
/-- what the law reads alone -/
def hA (nL nS : Nat) (c0 c1 c2 c3 c4 : Nat → Int) (cs : Nat → ByteArray) (cn cd cr : Nat → Int) : Heap := [(0, .tab nL [.ints .i64 c0, .ints .i64 c1, .ints .i64 c2, .ints .i64 c3, .ints .i64 c4] false), (1, .tab nS [.strs cs] false), (1024, .cells [.sl 0 nL, .sl 1 nS]), (1056, .tab 18 [.ints .i64 cn] true), (1216, .tab 8 [.ints .i64 cd, .ints .i64 cr] true)]
def v5c (op k t : Int) : List SV := [.ptr 1024 0 0, .sl 1056 18, .sl 1216 8, .int false .i64 op, .int false .i64 k, .int false .i64 t]
def lk5c : Lp := ⟨123, [1, 3, 4, 5, 6, 7], 2300, fun _ _ => none⟩
def fit18 (cn : Nat → Int) : Bool := (List.range 18).all fun i => decide (-9223372036854775808 ≤ cn i) && decide (cn i ≤ 9223372036854775807)
def get5c : List SV → Heap → Option Tr
  | [.ptr k1 r1 p1, .sl s3 m3, .sl s4 m4, .int _ .i64 op, .int _ .i64 k, .int _ .i64 t], [(j0, .tab nL [.ints .i64 c0, .ints .i64 c1, .ints .i64 c2, .ints .i64 c3, .ints .i64 c4] false), (j1, .tab nS [.strs cs] false), (j2, .cells [.sl s0 m0, .sl s1 m1]), (j3, .tab n3 [.ints .i64 cn] true), (j4, .tab n4 [.ints .i64 cd, .ints .i64 cr] true)] =>
    some (Tr.needs [Nat.beq k1 1024, Nat.beq r1 0, Nat.beq p1 0, Nat.beq s3 1056, Nat.beq m3 18, Nat.beq s4 1216, Nat.beq m4 8, Nat.beq j0 0, Nat.beq j1 1, Nat.beq j2 1024, Nat.beq s0 0, Nat.beq m0 nL, Nat.beq s1 1, Nat.beq m1 nS, Nat.beq j3 1056, Nat.beq n3 18, Nat.beq j4 1216, Nat.beq n4 8, decide (t = 0), decide (0 ≤ k), decide (k < 18), fit18 cn]
      (exitT lk5c 4 [.ptr 1024 0 0, .sl 1056 18, .sl 1216 8, .int false .i64 op, .int false .i64 k, .any] (hA nL nS c0 c1 c2 c3 c4 cs cn cd cr)))
  | _, _ => none
def lp5c : Lp := { lk5c with get := get5c }
noncomputable def E5c : Env := ⟨ELx.call, loopEnv [(2, lp5c)]⟩
def v5b (op k : Int) : List SV := [.ptr 1024 0 0, .sl 1056 18, .sl 1216 8, .int false .i64 op, .int false .i64 k]
def lk5b : Lp := ⟨123, [1, 3, 4, 5, 6], 2300, fun _ _ => none⟩
def get5b : List SV → Heap → Option Tr
  | [.ptr k1 r1 p1, .sl s3 m3, .sl s4 m4, .int _ .i64 op, .int _ .i64 k], [(j0, .tab nL [.ints .i64 c0, .ints .i64 c1, .ints .i64 c2, .ints .i64 c3, .ints .i64 c4] false), (j1, .tab nS [.strs cs] false), (j2, .cells [.sl s0 m0, .sl s1 m1]), (j3, .tab n3 [.ints .i64 cn] true), (j4, .tab n4 [.ints .i64 cd, .ints .i64 cr] true)] =>
    some (Tr.needs [Nat.beq k1 1024, Nat.beq r1 0, Nat.beq p1 0, Nat.beq s3 1056, Nat.beq m3 18, Nat.beq s4 1216, Nat.beq m4 8, Nat.beq j0 0, Nat.beq j1 1, Nat.beq j2 1024, Nat.beq s0 0, Nat.beq m0 nL, Nat.beq s1 1, Nat.beq m1 nS, Nat.beq j3 1056, Nat.beq n3 18, Nat.beq j4 1216, Nat.beq n4 8, decide (k = 0), fit18 cn]
      (exitT lk5b 2 [.ptr 1024 0 0, .sl 1056 18, .sl 1216 8, .int false .i64 op, .any] (hA nL nS c0 c1 c2 c3 c4 cs cn cd cr)))
  | _, _ => none
def lp5b : Lp := { lk5b with get := get5b }
noncomputable def E5b : Env := ⟨ELx.call, loopEnv [(1, lp5b), (2, lp5c)]⟩
def v5 (op : Int) : List SV := [.ptr 1024 0 0, .sl 1056 18, .sl 1216 8, .int false .i64 op]
def lk5 : Lp := ⟨123, [1, 3, 4, 5], 2300, fun _ _ => none⟩
def get5 : List SV → Heap → Option Tr
  | [.ptr k1 r1 p1, .sl s3 m3, .sl s4 m4, .int _ .i64 op], [(j0, .tab nL [.ints .i64 c0, .ints .i64 c1, .ints .i64 c2, .ints .i64 c3, .ints .i64 c4] false), (j1, .tab nS [.strs cs] false), (j2, .cells [.sl s0 m0, .sl s1 m1]), (j3, .tab n3 [.ints .i64 cn] true), (j4, .tab n4 [.ints .i64 cd, .ints .i64 cr] true)] =>
    some (Tr.needs [Nat.beq k1 1024, Nat.beq r1 0, Nat.beq p1 0, Nat.beq s3 1056, Nat.beq m3 18, Nat.beq s4 1216, Nat.beq m4 8, Nat.beq j0 0, Nat.beq j1 1, Nat.beq j2 1024, Nat.beq s0 0, Nat.beq m0 nL, Nat.beq s1 1, Nat.beq m1 nS, Nat.beq j3 1056, Nat.beq n3 18, Nat.beq j4 1216, Nat.beq n4 8, decide (op = 0), fit18 cn]
      (exitT lk5 0 [.ptr 1024 0 0, .any, .any, .any] (hA nL nS c0 c1 c2 c3 c4 cs cn cd cr)))
  | _, _ => none
def lp5 : Lp := { lk5 with get := get5 }
noncomputable def E5L : Env := ⟨EL.call, loopEnv [(0, lp5), (1, lp5b), (2, lp5c)]⟩

theorem r5c (op : Int) (k : Int) (t : Int) (nL : Nat) (nS : Nat) (c0 : Nat → Int) (c1 : Nat → Int) (c2 : Nat → Int) (c3 : Nat → Int) (c4 : Nat → Int) (cs : Nat → ByteArray) (cn : Nat → Int) (cd : Nat → Int) (cr : Nat → Int) : (evalB ELx Try.prog Try.f5.results.toList (loopOf Try.f5 2) 3 lp5c (v5c op k t) (hA nL nS c0 c1 c2 c3 c4 cs cn cd cr)).view [1, 3, 4, 5, 6, 7] =
    (bif (cm .lss t 16) then
 bif (decide (0 ≤ ar .quo .i64 t 2)) then
 bif (decide (ar .quo .i64 t 2 < 8)) then
 bif (Nat.blt ((ar .quo .i64 t 2).toNat) (8)) then
 bif (Nat.blt ((ar .quo .i64 t 2).toNat) (8)) then
 bif (decide (0 ≤ k)) then
 bif (decide (k < 18)) then
 bif (Nat.blt (k.toNat) (18)) then
 bif (Nat.blt (k.toNat) (18)) then
 bif (bif cm .neq (errX op (ar .add .i64 4 (ar .mul .i64 4 (ar .rem .i64 t 2))) (cd (ar .quo .i64 t 2).toNat) (cr (ar .quo .i64 t 2).toNat) (cn k.toNat)) (errX op (ar .add .i64 4 (ar .mul .i64 4 (ar .rem .i64 t 2))) (cd (ar .quo .i64 t 2).toNat) (cr (ar .quo .i64 t 2).toNat) (cn k.toNat)) then true else !seq (strX op (ar .add .i64 4 (ar .mul .i64 4 (ar .rem .i64 t 2))) (cd (ar .quo .i64 t 2).toNat) (cr (ar .quo .i64 t 2).toNat) (cn k.toNat)) (strX op (ar .add .i64 4 (ar .mul .i64 4 (ar .rem .i64 t 2))) (cd (ar .quo .i64 t 2).toNat) (cr (ar .quo .i64 t 2).toNat) (cn k.toNat))) then
 .ret (.bool true false) [(0, .tab (nL) [.ints .i64 (c0), .ints .i64 (c1), .ints .i64 (c2), .ints .i64 (c3), .ints .i64 (c4)] false), (1, .tab (nS) [.strs (cs)] false), (1024, .cells [(.sl 0 (nL)), (.sl 1 (nS))]), (1056, .tab 18 [.ints .i64 (cn)] true), (1216, .tab 8 [.ints .i64 (cd), .ints .i64 (cr)] true), (2460, .cells [(.int false .i64 (cd (ar .quo .i64 t 2).toNat)), (.int false .i64 (cr (ar .quo .i64 t 2).toNat))]), (2716, .cells [(.int false .i64 (op)), (.int false .i64 (ar .add .i64 4 (ar .mul .i64 4 (ar .rem .i64 t 2)))), (.int false .i64 (cd (ar .quo .i64 t 2).toNat)), (.int false .i64 (cr (ar .quo .i64 t 2).toNat)), (.int false .i64 (cn k.toNat))])]
 else
 bif (cm .neq (errX op (ar .add .i64 4 (ar .mul .i64 4 (ar .rem .i64 t 2))) (cd (ar .quo .i64 t 2).toNat) (cr (ar .quo .i64 t 2).toNat) (cn k.toNat)) 0) then
 .norm 123 [(.ptr 1024 0 0), (.sl 1056 18), (.sl 1216 8), (.int false .i64 (op)), (.int false .i64 (k)), (.int false .i64 (ar .add .i64 t 1))] [(0, .tab (nL) [.ints .i64 (c0), .ints .i64 (c1), .ints .i64 (c2), .ints .i64 (c3), .ints .i64 (c4)] false), (1, .tab (nS) [.strs (cs)] false), (1024, .cells [(.sl 0 (nL)), (.sl 1 (nS))]), (1056, .tab 18 [.ints .i64 (cn)] true), (1216, .tab 8 [.ints .i64 (cd), .ints .i64 (cr)] true), (2460, .cells [(.int false .i64 (cd (ar .quo .i64 t 2).toNat)), (.int false .i64 (cr (ar .quo .i64 t 2).toNat))]), (2716, .cells [(.int false .i64 (op)), (.int false .i64 (ar .add .i64 4 (ar .mul .i64 4 (ar .rem .i64 t 2)))), (.int false .i64 (cd (ar .quo .i64 t 2).toNat)), (.int false .i64 (cr (ar .quo .i64 t 2).toNat)), (.int false .i64 (cn k.toNat))])]
 else
 bif (bif cm .neq (bif (decX (strX op (ar .add .i64 4 (ar .mul .i64 4 (ar .rem .i64 t 2))) (cd (ar .quo .i64 t 2).toNat) (cr (ar .quo .i64 t 2).toNat) (cn k.toNat))).ok then 0 else 11) 0 then true else bif !((decX (strX op (ar .add .i64 4 (ar .mul .i64 4 (ar .rem .i64 t 2))) (cd (ar .quo .i64 t 2).toNat) (cr (ar .quo .i64 t 2).toNat) (cn k.toNat))).o == op && ((decX (strX op (ar .add .i64 4 (ar .mul .i64 4 (ar .rem .i64 t 2))) (cd (ar .quo .i64 t 2).toNat) (cr (ar .quo .i64 t 2).toNat) (cn k.toNat))).w == ar .add .i64 4 (ar .mul .i64 4 (ar .rem .i64 t 2)) && ((decX (strX op (ar .add .i64 4 (ar .mul .i64 4 (ar .rem .i64 t 2))) (cd (ar .quo .i64 t 2).toNat) (cr (ar .quo .i64 t 2).toNat) (cn k.toNat))).rd == cd (ar .quo .i64 t 2).toNat && ((decX (strX op (ar .add .i64 4 (ar .mul .i64 4 (ar .rem .i64 t 2))) (cd (ar .quo .i64 t 2).toNat) (cr (ar .quo .i64 t 2).toNat) (cn k.toNat))).rs == cr (ar .quo .i64 t 2).toNat && ((decX (strX op (ar .add .i64 4 (ar .mul .i64 4 (ar .rem .i64 t 2))) (cd (ar .quo .i64 t 2).toNat) (cr (ar .quo .i64 t 2).toNat) (cn k.toNat))).n == cn k.toNat && true))))) then true else cm .neq (decX (strX op (ar .add .i64 4 (ar .mul .i64 4 (ar .rem .i64 t 2))) (cd (ar .quo .i64 t 2).toNat) (cr (ar .quo .i64 t 2).toNat) (cn k.toNat))).len (↑(strX op (ar .add .i64 4 (ar .mul .i64 4 (ar .rem .i64 t 2))) (cd (ar .quo .i64 t 2).toNat) (cr (ar .quo .i64 t 2).toNat) (cn k.toNat)).size : Int)) then
 .ret (.bool true false) [(0, .tab (nL) [.ints .i64 (c0), .ints .i64 (c1), .ints .i64 (c2), .ints .i64 (c3), .ints .i64 (c4)] false), (1, .tab (nS) [.strs (cs)] false), (1024, .cells [(.sl 0 (nL)), (.sl 1 (nS))]), (1056, .tab 18 [.ints .i64 (cn)] true), (1216, .tab 8 [.ints .i64 (cd), .ints .i64 (cr)] true), (2460, .cells [(.int false .i64 (cd (ar .quo .i64 t 2).toNat)), (.int false .i64 (cr (ar .quo .i64 t 2).toNat))]), (2716, .cells [(.int false .i64 (op)), (.int false .i64 (ar .add .i64 4 (ar .mul .i64 4 (ar .rem .i64 t 2)))), (.int false .i64 (cd (ar .quo .i64 t 2).toNat)), (.int false .i64 (cr (ar .quo .i64 t 2).toNat)), (.int false .i64 (cn k.toNat))]), (3244, .cells [(.int false .i64 ((decX (strX op (ar .add .i64 4 (ar .mul .i64 4 (ar .rem .i64 t 2))) (cd (ar .quo .i64 t 2).toNat) (cr (ar .quo .i64 t 2).toNat) (cn k.toNat))).o)), (.int false .i64 ((decX (strX op (ar .add .i64 4 (ar .mul .i64 4 (ar .rem .i64 t 2))) (cd (ar .quo .i64 t 2).toNat) (cr (ar .quo .i64 t 2).toNat) (cn k.toNat))).w)), (.int false .i64 ((decX (strX op (ar .add .i64 4 (ar .mul .i64 4 (ar .rem .i64 t 2))) (cd (ar .quo .i64 t 2).toNat) (cr (ar .quo .i64 t 2).toNat) (cn k.toNat))).rd)), (.int false .i64 ((decX (strX op (ar .add .i64 4 (ar .mul .i64 4 (ar .rem .i64 t 2))) (cd (ar .quo .i64 t 2).toNat) (cr (ar .quo .i64 t 2).toNat) (cn k.toNat))).rs)), (.int false .i64 ((decX (strX op (ar .add .i64 4 (ar .mul .i64 4 (ar .rem .i64 t 2))) (cd (ar .quo .i64 t 2).toNat) (cr (ar .quo .i64 t 2).toNat) (cn k.toNat))).n))])]
 else
 .norm 123 [(.ptr 1024 0 0), (.sl 1056 18), (.sl 1216 8), (.int false .i64 (op)), (.int false .i64 (k)), (.int false .i64 (ar .add .i64 t 1))] [(0, .tab (nL) [.ints .i64 (c0), .ints .i64 (c1), .ints .i64 (c2), .ints .i64 (c3), .ints .i64 (c4)] false), (1, .tab (nS) [.strs (cs)] false), (1024, .cells [(.sl 0 (nL)), (.sl 1 (nS))]), (1056, .tab 18 [.ints .i64 (cn)] true), (1216, .tab 8 [.ints .i64 (cd), .ints .i64 (cr)] true), (2460, .cells [(.int false .i64 (cd (ar .quo .i64 t 2).toNat)), (.int false .i64 (cr (ar .quo .i64 t 2).toNat))]), (2716, .cells [(.int false .i64 (op)), (.int false .i64 (ar .add .i64 4 (ar .mul .i64 4 (ar .rem .i64 t 2)))), (.int false .i64 (cd (ar .quo .i64 t 2).toNat)), (.int false .i64 (cr (ar .quo .i64 t 2).toNat)), (.int false .i64 (cn k.toNat))]), (3244, .cells [(.int false .i64 ((decX (strX op (ar .add .i64 4 (ar .mul .i64 4 (ar .rem .i64 t 2))) (cd (ar .quo .i64 t 2).toNat) (cr (ar .quo .i64 t 2).toNat) (cn k.toNat))).o)), (.int false .i64 ((decX (strX op (ar .add .i64 4 (ar .mul .i64 4 (ar .rem .i64 t 2))) (cd (ar .quo .i64 t 2).toNat) (cr (ar .quo .i64 t 2).toNat) (cn k.toNat))).w)), (.int false .i64 ((decX (strX op (ar .add .i64 4 (ar .mul .i64 4 (ar .rem .i64 t 2))) (cd (ar .quo .i64 t 2).toNat) (cr (ar .quo .i64 t 2).toNat) (cn k.toNat))).rd)), (.int false .i64 ((decX (strX op (ar .add .i64 4 (ar .mul .i64 4 (ar .rem .i64 t 2))) (cd (ar .quo .i64 t 2).toNat) (cr (ar .quo .i64 t 2).toNat) (cn k.toNat))).rs)), (.int false .i64 ((decX (strX op (ar .add .i64 4 (ar .mul .i64 4 (ar .rem .i64 t 2))) (cd (ar .quo .i64 t 2).toNat) (cr (ar .quo .i64 t 2).toNat) (cn k.toNat))).n))])]
 else .bad
 else .bad
 else .bad
 else .bad
 else .bad
 else .bad
 else .bad
 else .bad
 else
 .exit 4 123 [(.ptr 1024 0 0), (.sl 1056 18), (.sl 1216 8), (.int false .i64 (op)), (.int false .i64 (k)), (.int false .i64 (t))] [(0, .tab (nL) [.ints .i64 (c0), .ints .i64 (c1), .ints .i64 (c2), .ints .i64 (c3), .ints .i64 (c4)] false), (1, .tab (nS) [.strs (cs)] false), (1024, .cells [(.sl 0 (nL)), (.sl 1 (nS))]), (1056, .tab 18 [.ints .i64 (cn)] true), (1216, .tab 8 [.ints .i64 (cd), .ints .i64 (cr)] true)]) := by kernel_rfl

theorem r5b (op : Int) (k : Int) (nL : Nat) (nS : Nat) (c0 : Nat → Int) (c1 : Nat → Int) (c2 : Nat → Int) (c3 : Nat → Int) (c4 : Nat → Int) (cs : Nat → ByteArray) (cn : Nat → Int) (cd : Nat → Int) (cr : Nat → Int) : (evalB E5c Try.prog Try.f5.results.toList (loopOf Try.f5 1) 2 lp5b (v5b op k) (hA nL nS c0 c1 c2 c3 c4 cs cn cd cr)).view [1, 3, 4, 5, 6] =
    (bif (cm .lss k 18) then
 bif (Nat.beq (nL) (nL)) then
 bif (Nat.beq (nS) (nS)) then
 bif (decide (0 ≤ k)) then
 bif (decide (k < 18)) then
 bif (fit18 cn) then
 .norm 123 [(.ptr 1024 0 0), (.sl 1056 18), (.sl 1216 8), (.int false .i64 (op)), (.int false .i64 (ar .add .i64 k 1))] [(0, .tab (nL) [.ints .i64 (c0), .ints .i64 (c1), .ints .i64 (c2), .ints .i64 (c3), .ints .i64 (c4)] false), (1, .tab (nS) [.strs (cs)] false), (1024, .cells [(.sl 0 (nL)), (.sl 1 (nS))]), (1056, .tab 18 [.ints .i64 (cn)] true), (1216, .tab 8 [.ints .i64 (cd), .ints .i64 (cr)] true)]
 else .bad
 else .bad
 else .bad
 else .bad
 else .bad
 else
 .exit 2 123 [(.ptr 1024 0 0), (.sl 1056 18), (.sl 1216 8), (.int false .i64 (op)), (.int false .i64 (k))] [(0, .tab (nL) [.ints .i64 (c0), .ints .i64 (c1), .ints .i64 (c2), .ints .i64 (c3), .ints .i64 (c4)] false), (1, .tab (nS) [.strs (cs)] false), (1024, .cells [(.sl 0 (nL)), (.sl 1 (nS))]), (1056, .tab 18 [.ints .i64 (cn)] true), (1216, .tab 8 [.ints .i64 (cd), .ints .i64 (cr)] true)]) := by kernel_rfl

theorem r5 (op : Int) (nL : Nat) (nS : Nat) (c0 : Nat → Int) (c1 : Nat → Int) (c2 : Nat → Int) (c3 : Nat → Int) (c4 : Nat → Int) (cs : Nat → ByteArray) (cn : Nat → Int) (cd : Nat → Int) (cr : Nat → Int) : (evalB E5b Try.prog Try.f5.results.toList (loopOf Try.f5 0) 1 lp5 (v5 op) (hA nL nS c0 c1 c2 c3 c4 cs cn cd cr)).view [1, 3, 4, 5] =
    (bif (cm .leq op 47) then
 bif (Nat.beq (nL) (nL)) then
 bif (Nat.beq (nS) (nS)) then
 bif (fit18 cn) then
 .norm 123 [(.ptr 1024 0 0), (.sl 1056 18), (.sl 1216 8), (.int false .i64 (ar .add .i64 op 1))] [(0, .tab (nL) [.ints .i64 (c0), .ints .i64 (c1), .ints .i64 (c2), .ints .i64 (c3), .ints .i64 (c4)] false), (1, .tab (nS) [.strs (cs)] false), (1024, .cells [(.sl 0 (nL)), (.sl 1 (nS))]), (1056, .tab 18 [.ints .i64 (cn)] true), (1216, .tab 8 [.ints .i64 (cd), .ints .i64 (cr)] true)]
 else .bad
 else .bad
 else .bad
 else
 .exit 0 123 [(.ptr 1024 0 0), (.sl 1056 18), (.sl 1216 8), (.int false .i64 (op))] [(0, .tab (nL) [.ints .i64 (c0), .ints .i64 (c1), .ints .i64 (c2), .ints .i64 (c3), .ints .i64 (c4)] false), (1, .tab (nS) [.strs (cs)] false), (1024, .cells [(.sl 0 (nL)), (.sl 1 (nS))]), (1056, .tab 18 [.ints .i64 (cn)] true), (1216, .tab 8 [.ints .i64 (cd), .ints .i64 (cr)] true)]) := by kernel_rfl

theorem t5 (nL : Nat) (nS : Nat) (c0 : Nat → Int) (c1 : Nat → Int) (c2 : Nat → Int) (c3 : Nat → Int) (c4 : Nat → Int) (cs : Nat → ByteArray) : (evalF E5L Try.prog 5 [.agg [.sl 0 nL, .sl 1 nS]] (hL nL nS c0 c1 c2 c3 c4 cs) 1024).bare =
    (bif (Nat.beq (nL) (nL)) then
 bif (Nat.beq (nS) (nS)) then
 .ret (.bool false (bif true then bif cm .geq (↑nL : Int) 0 then true else false else false)) []
 else .bad
 else .bad) := by kernel_rfl

end Go.X
end
