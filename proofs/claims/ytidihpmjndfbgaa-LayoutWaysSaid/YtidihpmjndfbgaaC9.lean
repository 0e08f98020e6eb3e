/-
  x86: the reference's read, as one tree over the table; it finds what the bytes begin with; begins sees an op's bytes.
-/
import Derived.Test.YtidihpmjndfbgaaC8
import Derived.Test.YtidihpmjndfbgaaC7
set_option linter.unusedSimpArgs false
set_option linter.unusedVariables false
section
set_option linter.unusedVariables false
open Go Go.Ev Go.Proofs
namespace Go.X

def mrB (sh : Int) : Bool := decide (sh = 0 ∨ sh = 1 ∨ sh = 2 ∨ sh = 7)
/-- where the number lies -/
def pX (k : Int) : Nat := bif mrB (shX k) then endX k + 1 else endX k
def lowQ (s : ByteArray) (a m : Nat) : Int := ar .add .i64 (ar .rem .i64 (conv .i64 (chr s m)) 8) (ar .mul .i64 8 (ar .rem .i64 (conv .i64 (chr s a)) 2))
def midQ (s : ByteArray) (a m : Nat) : Int := ar .add .i64 (ar .rem .i64 (ar .quo .i64 (conv .i64 (chr s m)) 8) 8) (ar .mul .i64 8 (ar .rem .i64 (ar .quo .i64 (conv .i64 (chr s a)) 4) 2))
def retR (k w : Int) (f : Bool) (m rd rs n : Int) : Lf := .ret (.int f .i64 m) [(0, cells5 k w rd rs n), (1024, .cells (rowL k))]
def flR (k : Int) : Bool := decide (shX k = 3 ∨ shX k = 4 ∨ shX k = 6 ∨ shX k = 7)
def numR (k w : Int) (rd rs n0 : Int) (p T : Nat) (s : ByteArray) : Lf :=
  if T = 0 then retR k w (flR k) ((p + T : Nat) : Int) rd rs n0
  else bif Nat.ble (p + T) s.size then bif Nat.ble (s.extract p (p + T)).size 8 then retR k w (flR k) ((p + T : Nat) : Int) rd rs (numU (s.extract p (p + T))) else .bad else .bad
def rT (k w : Int) (s : ByteArray) : Lf :=
  let p := pX k
  let T := tlX k
  let a := atX k
  let sh := shX k
  bif cm .lss (s.size : Int) ((p + T : Nat) : Int) then retR k w true 0 0 0 0
  else bif Nat.blt a s.size then bif Nat.blt (p - 1) s.size then
    if sh = 0 then (bif turnX k then numR k w (midQ s a (p - 1)) (lowQ s a (p - 1)) 0 p T s else numR k w (lowQ s a (p - 1)) (midQ s a (p - 1)) 0 p T s)
    else if sh = 1 then numR k w (lowQ s a (p - 1)) 0 0 p T s
    else if sh = 2 then numR k w (midQ s a (p - 1)) (lowQ s a (p - 1)) 0 p T s
    else if sh = 7 then bif Nat.blt 2 s.size then numR k w (lowQ s a (p - 1)) 0 (ar .sub .i64 (conv .i64 (chr s 2)) 144) p T s else .bad
    else if sh = 3 ∨ sh = 4 then bif Nat.blt 1 s.size then numR k w (lowQ s a 1) 0 0 p T s else .bad
    else if sh = 10 ∨ sh = 11 then numR k w (ar .rem .i64 (conv .i64 (chr s (p - 1))) 16) 0 0 p T s
    else numR k w 0 0 0 p T s
  else .bad else .bad

theorem lowQ_eq {s : ByteArray} {a e : Nat} {w m l d : Int} (hw : w = 4 ∨ w = 8) (hd : d = 192 ∨ d = 128) (hm : small m) (hl : small l) (h1 : chr s a = rexI w m l) (h2 : chr s e = modI d m l) : lowQ s a e = l ∧ midQ s a e = m := by
  obtain ⟨x2, x3⟩ := rexQ hw hm hl
  obtain ⟨y0, y1⟩ := modQ hd hm hl
  unfold lowQ midQ
  rw [h1, h2, x2, x3, y0, y1]
  exact ⟨putQ hl, putQ hm⟩

def endP (k : Int) : Bool := decide (endX k = (bif freeB (shX k) then 0 else atX k + 1) + (codeX k).size) && (decide ((shX k = 3 ∨ shX k = 4 → endX k = 2)) && (decide (shX k = 7 → endX k = 3) && decide (1 ≤ endX k ∧ (¬ freeB (shX k) = true → atX k < endX k) ∧ (freeB (shX k) = true → atX k = 0))))
theorem end_chk : ((List.range 46).all fun i => endP (Int.ofNat (i + 1))) = true := by kernel_rfl
theorem end_is {k : Int} (h1 : 1 ≤ k) (h2 : k ≤ 46) : (shX k = 3 ∨ shX k = 4 → endX k = 2) ∧ (shX k = 7 → endX k = 3) ∧ 1 ≤ endX k ∧ atX k < endX k := by
  have := each46 (p := endP) end_chk h1 h2
  simp only [endP, Bool.and_eq_true, decide_eq_true_eq] at this
  obtain ⟨_, a, b, c, d, e⟩ := this
  refine ⟨a, b, c, ?_⟩
  by_cases h : freeB (shX k) = true
  · have := e h; omega
  · exact d h

theorem pX_mr {k : Int} (h : shX k = 0 ∨ shX k = 1 ∨ shX k = 2 ∨ shX k = 7) : pX k = endX k + 1 := by unfold pX mrB; rw [decide_eq_true h]; rfl
theorem pX_fr {k : Int} (h : ¬ (shX k = 0 ∨ shX k = 1 ∨ shX k = 2 ∨ shX k = 7)) : pX k = endX k := by unfold pX mrB; rw [decide_eq_false h]; rfl
theorem enc_len {k w rd rs n : Int} (he : errX k w rd rs n = 0) : (encL k w rd rs n).length = pX k + tlX k := by
  obtain ⟨h1, h2⟩ := err_op he
  obtain ⟨_, _, t34, t7, t10, t11, _⟩ := tabs h1 h2
  obtain ⟨⟨c0, _⟩, ha⟩ := code_is h1 h2
  have hT : tlX k = longX (shX k) (imX k) := rfl
  unfold encL
  by_cases k0 : shX k = 0
  · have hA := at_zero (ha.resolve_left (by rw [k0]; decide))
    rw [pX_mr (.inl k0), end_rex (by rw [k0]; decide), hA, hT, if_pos k0]
    cases nth turns false (k - 1).toNat <;> simp only [cond_true, cond_false, List.length_cons, List.length_append, tail_length, c0] <;> omega
  by_cases k1 : shX k = 1
  · have hA := at_zero (ha.resolve_left (by rw [k1]; decide))
    rw [pX_mr (.inr (.inl k1)), end_rex (by rw [k1]; decide), hA, hT, if_neg k0, if_pos k1]
    simp only [List.length_cons, List.length_append, tail_length, c0]
    omega
  by_cases k2 : shX k = 2
  · rw [pX_mr (.inr (.inr (.inl k2))), end_rex (by rw [k2]; decide), hT, if_neg k0, if_neg k1, if_pos k2]
    change ((bif ahX k then [102] else ([] : List Int)) ++ _).length = _
    unfold atX
    cases ahX k <;> simp only [cond_true, cond_false, List.length_cons, List.length_append, List.length_nil, tail_length, c0] <;> omega
  have hA := at_zero (ha.resolve_left k2)
  by_cases k34 : shX k = 3 ∨ shX k = 4
  · obtain ⟨c, hc, e⟩ := t34 k34
    obtain ⟨_, _, _, n6, n7, _, nf, _⟩ := g34 k34
    rw [e] at c0
    rw [pX_fr (fun h => by rcases h with h | h | h | h <;> contradiction), end_rex nf, hA, hT, if_neg k0, if_neg k1, if_neg k2, if_pos k34, e, ← c0]
    simp only [lastL, List.length_cons, List.length_append, List.length_nil, tail_length]
    omega
  by_cases k6 : shX k = 6
  · rw [pX_fr (by rw [k6]; decide), end_rex (by rw [k6]; decide), hA, hT, if_neg k0, if_neg k1, if_neg k2, if_neg k34, if_pos k6]
    simp only [List.length_cons, List.length_append, tail_length, c0]
    omega
  by_cases k7 : shX k = 7
  · have e := t7 k7
    rw [e] at c0
    rw [pX_mr (.inr (.inr (.inr k7))), end_rex (by rw [k7]; decide), hA, hT, if_neg k0, if_neg k1, if_neg k2, if_neg k34, if_neg k6, if_pos k7, e, ← c0]
    simp only [lastL, List.length_cons, List.length_append, List.length_nil, tail_length]
    omega
  have hm : ¬ (shX k = 0 ∨ shX k = 1 ∨ shX k = 2 ∨ shX k = 7) := fun h => by rcases h with h | h | h | h <;> contradiction
  by_cases kc : shX k = 10 ∨ shX k = 11
  · rw [pX_fr hm, (end_free (by omega)).2, hT, if_neg k0, if_neg k1, if_neg k2, if_neg k34, if_neg k6, if_neg k7, if_pos kc]
    rcases kc with q | q
    · have e := t10 q
      rw [e] at c0
      rw [e, ← c0]
      simp only [lastL, List.length_cons, List.length_append, List.length_nil, tail_length]
    · have e := t11 q
      rw [e] at c0
      rw [e, ← c0]
      simp only [lastL, List.length_cons, List.length_append, List.length_nil, tail_length]
  · obtain ⟨⟨s0, s1⟩, _⟩ := tabs h1 h2
    rw [pX_fr hm, (end_free (by omega)).2, hT, if_neg k0, if_neg k1, if_neg k2, if_neg k34, if_neg k6, if_neg k7, if_neg kc]
    simp only [List.length_append, tail_length, c0]

theorem dx_size {k : Int} {s : ByteArray} {w rd rs n : Int} (h : DX k s w rd rs n) : ((strX k w rd rs n).size : Int) = ((pX k + tlX k : Nat) : Int) ∧ pX k + tlX k ≤ s.size := by
  have hl := enc_len h.1
  have := h.2.2.1
  rw [strX_ok h.1, S_size, hl]
  exact ⟨rfl, by omega⟩

theorem RPl_num {k : Int} {s : ByteArray} {w rd rs n0 : Int} (hT : tlX k = 0 ∨ tlX k = 1 ∨ tlX k = 4 ∨ tlX k = 8) (h0 : inI n0) (hz : pX k + tlX k ≤ s.size) (hp : 1 ≤ pX k)
    (h : ∀ rd' rs' n', DX k s w rd' rs' n' → rd = rd' ∧ rs = rs' ∧ (∀ j, j < tlX k → chr s (pX k + j) = bat n' j) ∧ (tlX k = 0 → n0 = n') ∧ (tlX k ≠ 0 → fitsX (tlX k) n' = true)) : RPl k s w (numR k w rd rs n0 (pX k) (tlX k) s) := by
  unfold numR
  split
  · rename_i ht
    refine RPl_ret ⟨h0, by omega, by omega, fun rd' rs' n' hd => ?_⟩
    obtain ⟨a1, a2, _, a4, _⟩ := h _ _ _ hd
    exact ⟨by omega, (dx_size hd).1.symm, a1, a2, a4 ht⟩
  · have hze : (s.extract (pX k) (pX k + tlX k)).size ≤ 8 := by rw [ByteArray.size_extract]; omega
    refine RPl_cond (fun _ => RPl_cond (fun _ => ?_) fun hb => ?_) fun hb => ?_
    · refine RPl_ret ⟨numU_range _ hze, by omega, by omega, fun rd' rs' n' hd => ?_⟩
      obtain ⟨a1, a2, a3, _, a5⟩ := h _ _ _ hd
      exact ⟨by omega, (dx_size hd).1.symm, a1, a2, num_tail _ _ (by omega) hz a3 hd.2.1 (a5 (by assumption))⟩
    · rw [nble, decide_eq_false_iff_not] at hb; omega
    · rw [nble, decide_eq_false_iff_not] at hb; omega

theorem rT_ok {k : Int} (h1 : 1 ≤ k) (h2 : k ≤ 46) (s : ByteArray) (w : Int) : RPl k s w (rT k w s) := by
  obtain ⟨⟨s0, s1⟩, _⟩ := tabs h1 h2
  obtain ⟨l34, l7, l10, l11⟩ := last_is h1 h2
  obtain ⟨e34, e7, e1', ea⟩ := end_is h1 h2
  have hT : tlX k = 0 ∨ tlX k = 1 ∨ tlX k = 4 ∨ tlX k = 8 := long_is _ _
  have hp : 1 ≤ pX k := by unfold pX; cases mrB (shX k) <;> simp only [cond_true, cond_false] <;> omega
  have hpe : endX k ≤ pX k := by unfold pX; cases mrB (shX k) <;> simp only [cond_true, cond_false] <;> omega
  unfold rT
  refine RPl_cond (fun hc => RPl_ret ⟨inI0, by omega, by omega, fun rd rs n hd => ?_⟩) fun hc => ?_
  · have := (dx_size hd).2
    simp only [cm_lss', decide_eq_true_eq] at hc
    omega
  have hz : pX k + tlX k ≤ s.size := by simp only [cm_lss', decide_eq_false_iff_not] at hc; omega
  refine RPl_cond (fun _ => RPl_cond (fun _ => ?_) fun hb => ?_) fun hb => ?_
  case refine_2 => rw [nblt, decide_eq_false_iff_not] at hb; omega
  case refine_3 => rw [nblt, decide_eq_false_iff_not] at hb; omega
  have hmr := pX_mr (k := k)
  have hmf := pX_fr (k := k)
  have h77 : shX k = 7 → tlX k = 0 := by
    have : (!decide (shX k = 7) || decide (tlX k = 0)) = true := each46 (p := fun k => !decide (shX k = 7) || decide (tlX k = 0)) (by kernel_rfl) h1 h2
    intro h
    rw [decide_eq_true h] at this
    simpa using this
  by_cases k0 : shX k = 0
  · have hq := hmr (.inl k0)
    rw [if_pos k0]
    have key : ∀ rd' rs' n', DX k s w rd' rs' n' → (bif turnX k then midQ s (atX k) (pX k - 1) = rd' ∧ lowQ s (atX k) (pX k - 1) = rs' else lowQ s (atX k) (pX k - 1) = rd' ∧ midQ s (atX k) (pX k - 1) = rs') ∧
        (∀ j, j < tlX k → chr s (pX k + j) = bat n' j) ∧ (tlX k = 0 → 0 = n') ∧ (tlX k ≠ 0 → fitsX (tlX k) n' = true) := by
      intro rd' rs' n' hd
      obtain ⟨_, hw', _, _, hf⟩ := dx_len hd
      obtain ⟨m, l, d, hd1, hm, hl, e0, e1, _, _, ht, hf1, _, hn⟩ := dxM hd (.inl k0)
      obtain ⟨x1, x2⟩ := lowQ_eq hw' hd1 hm hl e0 e1
      rw [hq, Nat.add_sub_cancel]
      refine ⟨?_, ht, fun h => (hn (by omega) h).symm, fun _ => hf (by omega)⟩
      rw [x1, x2]
      rcases hf1 with ⟨_, h⟩ | ⟨h, _⟩
      · rw [decide_eq_false (show ¬ shX k = 2 by omega), Bool.or_false] at h
        revert h
        cases turnX k <;> exact fun h => ⟨h.1.symm, h.2.symm⟩
      · omega
    cases ht : turnX k with
    | true =>
      refine RPl_num hT inI0 hz hp fun rd' rs' n' hd => ?_
      obtain ⟨b, c⟩ := key _ _ _ hd
      rw [ht] at b
      exact ⟨b.1, b.2, c⟩
    | false =>
      refine RPl_num hT inI0 hz hp fun rd' rs' n' hd => ?_
      obtain ⟨b, c⟩ := key _ _ _ hd
      rw [ht] at b
      exact ⟨b.1, b.2, c⟩
  by_cases k1 : shX k = 1
  · have hq := hmr (.inr (.inl k1))
    rw [if_neg k0, if_pos k1]
    refine RPl_num hT inI0 hz hp fun rd' rs' n' hd => ?_
    obtain ⟨_, hw', _, _, hf⟩ := dx_len hd
    obtain ⟨m, l, d, hd1, hm, hl, e0, e1, _, _, ht, hf1, _, hn⟩ := dxM hd (.inr (.inl k1))
    obtain ⟨x1, x2⟩ := lowQ_eq hw' hd1 hm hl e0 e1
    rw [hq, Nat.add_sub_cancel]
    rcases hf1 with ⟨h, _⟩ | ⟨_, rfl, rfl⟩
    · omega
    · exact ⟨x1, rfl, ht, fun h => (hn (by omega) h).symm, fun _ => hf (by omega)⟩
  by_cases k2 : shX k = 2
  · have hq := hmr (.inr (.inr (.inl k2)))
    rw [if_neg k0, if_neg k1, if_pos k2]
    refine RPl_num hT inI0 hz hp fun rd' rs' n' hd => ?_
    obtain ⟨_, hw', _, _, hf⟩ := dx_len hd
    obtain ⟨m, l, d, hd1, hm, hl, e0, e1, _, _, ht, hf1, _, hn⟩ := dxM hd (.inr (.inr (.inl k2)))
    obtain ⟨x1, x2⟩ := lowQ_eq hw' hd1 hm hl e0 e1
    rw [hq, Nat.add_sub_cancel]
    rcases hf1 with ⟨_, h⟩ | ⟨h, _⟩
    · rw [decide_eq_true k2, Bool.or_true] at h
      obtain ⟨rfl, rfl⟩ := h
      exact ⟨x2, x1, ht, fun h => (hn (by omega) h).symm, fun _ => hf (by omega)⟩
    · omega
  by_cases k7 : shX k = 7
  · have hq := hmr (.inr (.inr (.inr k7)))
    have he := e7 k7
    rw [if_neg k0, if_neg k1, if_neg k2, if_pos k7]
    refine RPl_cond (fun _ => ?_) fun hb => ?_
    case refine_2 => rw [nblt, decide_eq_false_iff_not] at hb; omega
    refine RPl_num hT (more_inI (chr_range _ _) (by decide)) hz hp fun rd' rs' n' hd => ?_
    obtain ⟨_, hw', _, _, hf⟩ := dx_len hd
    obtain ⟨m, l, d, hd1, hm, hl, e0, e1, _, _, ht, hf1, h7, _⟩ := dxM hd (.inr (.inr (.inr k7)))
    obtain ⟨x1, x2⟩ := lowQ_eq hw' hd1 hm hl e0 e1
    obtain ⟨y1, y2⟩ := h7 k7
    rw [hq, Nat.add_sub_cancel]
    rw [he] at y2
    rcases hf1 with ⟨h, _⟩ | ⟨_, rfl, rfl⟩
    · omega
    · exact ⟨x1, rfl, ht, fun _ => by rw [y2]; exact more_cond (by decide) y1, fun h => absurd (h77 k7) h⟩
  have hm : ¬ (shX k = 0 ∨ shX k = 1 ∨ shX k = 2 ∨ shX k = 7) := by omega
  have hq := hmf hm
  rw [if_neg k0, if_neg k1, if_neg k2, if_neg k7]
  by_cases k34 : shX k = 3 ∨ shX k = 4
  · rw [if_pos k34]
    have he := e34 k34
    refine RPl_cond (fun _ => ?_) fun hb => ?_
    case refine_2 => rw [nblt, decide_eq_false_iff_not] at hb; omega
    refine RPl_num hT inI0 hz hp fun rd' rs' n' hd => ?_
    obtain ⟨_, hw', _, _, hf⟩ := dx_len hd
    obtain ⟨hr, _, _, ht, hs, hq', _, _, hn⟩ := dxF hd hm
    obtain ⟨l, hl, e0, e1⟩ := hr (by unfold freeB; exact decide_eq_false (by omega))
    obtain ⟨hrd, e2⟩ := hq' k34
    obtain rfl := e1 (by omega)
    rw [hq]
    refine ⟨?_, hs.symm, ht, fun h => (hn h).symm, fun _ => hf (by omega)⟩
    rw [he] at e2
    unfold lowQ
    rw [e2, e0, (rexQ hw' small0 hl).1]
    exact moreQ (l34 k34).2 hrd
  rw [if_neg k34]
  by_cases kc : shX k = 10 ∨ shX k = 11
  · rw [if_pos kc]
    refine RPl_num hT inI0 hz hp fun rd' rs' n' hd => ?_
    obtain ⟨_, hw', _, _, hf⟩ := dx_len hd
    obtain ⟨hr, _, _, ht, hs, _, hq', _, hn⟩ := dxF hd hm
    obtain ⟨hrd, e2⟩ := hq' kc
    rw [hq]
    refine ⟨?_, hs.symm, ht, fun h => (hn h).symm, fun _ => hf (by omega)⟩
    rw [e2]
    refine condQ ?_ hrd
    rcases kc with q | q
    · rw [l10 q]; decide
    · rw [l11 q]; decide
  rw [if_neg kc]
  refine RPl_num hT inI0 hz hp fun rd' rs' n' hd => ?_
  obtain ⟨_, hw', _, _, hf⟩ := dx_len hd
  obtain ⟨hr, _, _, ht, hs, _, _, hq', hn⟩ := dxF hd hm
  rw [hq]
  exact ⟨(hq' (by omega)).symm, hs.symm, ht, fun h => (hn h).symm, fun _ => hf (by omega)⟩

def ryP (k : Int) : Prop := ∀ s w, (evalF E29 Try.prog 40 [.str s, rowR k, .ptr 0 0 0] [(0, cells5 k w 0 0 0)] 1024).leaf = rT k w s

/-! begins -/
theorem dx_code {k : Int} {s : ByteArray} {w rd rs n : Int} (h : DX k s w rd rs n) : (shX k = 0 ∨ shX k = 1 ∨ shX k = 2 → st s (atX k + 1) (codeL k)) ∧ (shX k = 5 ∨ shX k = 8 ∨ shX k = 9 → st s 0 (codeL k)) ∧ (shX k = 6 → st s 1 (codeL k)) ∧ (shX k = 7 → chr s 1 = 15) := by
  obtain ⟨he, hi, hst⟩ := h
  obtain ⟨h1, h2⟩ := err_op he
  obtain ⟨_, _, _, t7, _⟩ := tabs h1 h2
  obtain ⟨_, ha⟩ := code_is h1 h2
  have hst := st_zero hst
  unfold encL at hst
  refine ⟨fun hs => ?_, fun hs => ?_, fun hs => ?_, fun hs => ?_⟩
  · by_cases k2 : shX k = 2
    · simp only [if_neg (show ¬ shX k = 0 by omega), if_neg (show ¬ shX k = 1 by omega), if_pos k2] at hst
      change st s 0 ((bif ahX k then [102] else []) ++ _) at hst
      unfold atX
      cases hA : ahX k with
      | false => rw [hA] at hst; exact (st_app (st_cons hst).2).1
      | true => rw [hA] at hst; exact (st_app (st_cons (st_cons hst).2).2).1
    · have hA := ha.resolve_left k2
      have hat : atX k = 0 := by unfold atX; rw [hA]; rfl
      rw [hat]
      by_cases k0 : shX k = 0
      · rw [if_pos k0] at hst
        revert hst
        cases nth turns false (k - 1).toNat <;> exact fun hst => (st_app (st_cons hst).2).1
      · rw [if_neg k0, if_pos (show shX k = 1 by omega)] at hst
        exact (st_app (st_cons hst).2).1
  · simp only [if_neg (show ¬ shX k = 0 by omega), if_neg (show ¬ shX k = 1 by omega), if_neg (show ¬ shX k = 2 by omega), if_neg (show ¬ (shX k = 3 ∨ shX k = 4) by omega), if_neg (show ¬ shX k = 6 by omega), if_neg (show ¬ shX k = 7 by omega), if_neg (show ¬ (shX k = 10 ∨ shX k = 11) by omega)] at hst
    exact (st_app hst).1
  · simp only [if_neg (show ¬ shX k = 0 by omega), if_neg (show ¬ shX k = 1 by omega), if_neg (show ¬ shX k = 2 by omega), if_neg (show ¬ (shX k = 3 ∨ shX k = 4) by omega), if_pos hs] at hst
    exact (st_app (st_cons hst).2).1
  · simp [hs, t7 hs, lastL] at hst
    exact (st_cons (st_cons hst).2).1

theorem ext_is {s b : ByteArray} (a : Nat) (h : a + b.size ≤ s.size) (hc : ∀ j, j < b.size → chr s (a + j) = chr b j) : s.extract a (a + b.size) = b := by
  refine ba_ext ?_ fun j hj => ?_
  · rw [ByteArray.size_extract]; omega
  · rw [ByteArray.size_extract] at hj
    rw [chr_extract s a _ j h (by omega), hc j (by omega)]
theorem and248_chk : ([(184 : Int), 80, 88].all fun c => all16 fun m => ar .and .u8 (c + m % 8) 248 == c) = true := by kernel_rfl
theorem and248 {c m : Int} (hc : c ∈ [(184 : Int), 80, 88]) (hm : small m) : ar .and .u8 (c + m % 8) 248 = c := by
  have := all16_spec (List.all_eq_true.1 and248_chk c hc) hm
  simpa using this
theorem and240_chk : ([(128 : Int), 112].all fun c => all16 fun m => ar .and .u8 (c + m) 240 == c) = true := by kernel_rfl
theorem and240 {c m : Int} (hc : c ∈ [(128 : Int), 112]) (hm : small m) : ar .and .u8 (c + m) 240 = c := by
  have := all16_spec (List.all_eq_true.1 and240_chk c hc) hm
  simpa using this
theorem st_ext {s : ByteArray} {o : Nat} {l : List Int} (hl : bytesOk l) (h : st s o l) : s.extract o (o + (S l).size) = S l := by
  obtain ⟨h1, h2⟩ := h
  refine ext_is o (by rw [S_size]; exact h1) fun j hj => ?_
  rw [S_size] at hj
  rw [h2 j hj, S_chr hl j hj]

def bgOp (k : Int) (s : ByteArray) : Bool := bgX (bif nth preR false (k - 1).toNat then 1 else 0) s (nth bytesR .empty (k - 1).toNat) (nth kindR 0 (k - 1).toNat)
/-- the reference's table is the same -/
def bothP (k : Int) : Bool := decide (nth preR false (k - 1).toNat = ahX k) && (decide (nth kindR 0 (k - 1).toNat = nth [114, 110, 109, 98, 98, 112, 120, 115, 112, 112, 99, 99] 0 (shX k).toNat ∨ (shX k = 0 ∧ nth kindR 0 (k - 1).toNat = 113)) &&
    (decide (shX k = 6 ∨ shX k = 7 ∨ nth bytesR .empty (k - 1).toNat = codeX k) && (decide (shX k = 6 → codeL k = [153]) && (decide (shX k ≠ 2 → ahX k = false)))))
theorem both_chk : ((List.range 46).all fun i => bothP (Int.ofNat (i + 1))) = true := by kernel_rfl
theorem bg_ok {k : Int} {s : ByteArray} {w rd rs n : Int} (hd : DX k s w rd rs n) : bgOp k s = true := by
  obtain ⟨h1, h2⟩ := err_op hd.1
  have hb := each46 (p := bothP) both_chk h1 h2
  simp only [bothP, Bool.and_eq_true, decide_eq_true_eq] at hb
  obtain ⟨b1, b2, b3, b4, b5⟩ := hb
  obtain ⟨⟨s0, s1⟩, _⟩ := tabs h1 h2
  obtain ⟨⟨c0, c1, c2⟩, ha⟩ := code_is h1 h2
  obtain ⟨l34, l7, l10, l11⟩ := last_is h1 h2
  obtain ⟨e34, e7, _, _⟩ := end_is h1 h2
  obtain ⟨hz, _⟩ := dx_len hd
  obtain ⟨d1, d2, d3, d4⟩ := dx_code hd
  have hS := code_S h1 h2
  have hbk := bok_code k
  unfold bgOp
  rw [b1]
  by_cases k012 : shX k = 0 ∨ shX k = 1 ∨ shX k = 2
  · have hcode := b3.resolve_left (by omega)
    have hcode := hcode.resolve_left (by omega)
    rw [hcode]
    obtain ⟨_, _, _, _, _, _, _, _, _, hz, _⟩ := dxM hd (by omega)
    have hfr : freeB (shX k) = false := by simp only [freeB]; exact decide_eq_false (by omega)
    have hE : endX k = atX k + 1 + (codeX k).size := by unfold endX; rw [hfr]; rfl
    have hx : s.extract (atX k + 1) (atX k + 1 + (codeX k).size) = codeX k := by
      have := st_ext hbk (d1 k012)
      rwa [← hS] at this
    have hk : (decide (nth kindR 0 (k - 1).toNat = 114) || (decide (nth kindR 0 (k - 1).toNat = 113) || (decide (nth kindR 0 (k - 1).toNat = 110) || decide (nth kindR 0 (k - 1).toNat = 109)))) = true := by
      simp only [Bool.or_eq_true, decide_eq_true_eq]
      rcases b2 with b2 | b2
      · rcases k012 with q | q | q <;> rw [q] at b2 <;> rw [b2] <;> simp [nth]
      · omega
    unfold bgX
    rw [hk, cond_true]
    change (decide (atX k + (codeX k).size < s.size) && decide (s.extract (atX k + 1) (atX k + 1 + (codeX k).size) = codeX k)) = true
    rw [decide_eq_true hx, decide_eq_true (by omega)]
    rfl
  have k2 : shX k ≠ 2 := by omega
  have b2 := b2.resolve_right (by omega)
  rw [b2, b5 k2]
  have hsh : shX k = 3 ∨ shX k = 4 ∨ shX k = 5 ∨ shX k = 6 ∨ shX k = 7 ∨ shX k = 8 ∨ shX k = 9 ∨ shX k = 10 ∨ shX k = 11 := by omega
  by_cases k6 : shX k = 6
  · have e := d3 k6
    rw [b4 k6] at e
    have hz : 1 < s.size := e.1
    have e1 : chr s 1 = 153 := (st_cons e).1
    rw [k6]
    change (decide (1 < s.size) && decide (chr s 1 = 153)) = true
    rw [decide_eq_true hz, decide_eq_true e1]
    rfl
  by_cases k7 : shX k = 7
  · have e := d4 k7
    have hz : 1 < s.size := by
      obtain ⟨_, _, _, _, _, _, _, _, _, hz, _⟩ := dxM hd (by omega)
      have := e7 k7
      omega
    rw [k7]
    change (decide (1 < s.size) && decide (chr s 1 = 15)) = true
    rw [decide_eq_true hz, decide_eq_true e]
    rfl
  have hcode := (b3.resolve_left k6).resolve_left k7
  rw [hcode]
  obtain ⟨_, _, hz, _, _, f34, f10, _⟩ := dxF hd (by omega)
  by_cases k34 : shX k = 3 ∨ shX k = 4
  · obtain ⟨hrd, e⟩ := f34 k34
    have h2' := e34 k34
    rw [h2'] at e hz
    obtain ⟨e3, hm⟩ := l34 k34
    have hl : chr (codeX k) 0 = lastX k := by
      have : (codeX k).size = 1 := by rw [← c0, e3]; rfl
      unfold lastX
      rw [this]
    have hgoal : (decide (1 < s.size) && decide (ar .and .u8 (chr s 1) 248 = chr (codeX k) 0)) = true := by
      rw [decide_eq_true (show 1 < s.size by omega), hl, decide_eq_true (show ar .and .u8 (chr s 1) 248 = lastX k by rw [e]; exact and248 hm hrd)]
      rfl
    rcases k34 with q | q <;> rw [q] <;> exact hgoal
  have hfr : freeB (shX k) = true := by simp only [freeB]; exact decide_eq_true (by omega)
  have hE : endX k = (codeX k).size := by unfold endX; rw [hfr]; rfl
  rw [hE] at hz f10
  by_cases kc : shX k = 10 ∨ shX k = 11
  · obtain ⟨hrd, e⟩ := f10 kc
    have hgoal : (decide ((codeX k).size ≤ s.size) && decide (ar .and .u8 (chr s ((codeX k).size - 1)) 240 = chr (codeX k) ((codeX k).size - 1))) = true := by
      rw [decide_eq_true (show (codeX k).size ≤ s.size by omega), e]
      change (true && decide (_ = lastX k)) = true
      have hm : lastX k ∈ [(128 : Int), 112] := by
        rcases kc with q | q
        · rw [l10 q]; decide
        · rw [l11 q]; decide
      rw [decide_eq_true (show ar .and .u8 (lastX k + rd) 240 = lastX k from and240 hm hrd)]
      rfl
    rcases kc with q | q <;> rw [q] <;> exact hgoal
  · have hx : s.extract 0 (codeX k).size = codeX k := by
      have := st_ext hbk (d2 (by omega))
      rw [Nat.zero_add] at this
      rwa [← hS] at this
    have hgoal : (decide ((codeX k).size ≤ s.size) && decide (s.extract 0 (codeX k).size = codeX k)) = true := by
      rw [decide_eq_true (show (codeX k).size ≤ s.size by omega), decide_eq_true hx]
      rfl
    have : shX k = 5 ∨ shX k = 8 ∨ shX k = 9 := by omega
    rcases this with q | q | q <;> rw [q] <;> exact hgoal

end Go.X
end

section
set_option linter.unusedVariables false
open Go Go.Ev Go.Proofs
namespace Go.X

theorem dx_w {k : Int} {s : ByteArray} {w rd rs n w' rd' rs' n' : Int} (h : DX k s w rd rs n) (h' : DX k s w' rd' rs' n') : w = w' := by
  obtain ⟨_, hw, hf, _⟩ := dx_len h
  obtain ⟨_, hw', hf', _⟩ := dx_len h'
  cases hF : freeB (shX k) with
  | true => rw [hf hF, hf' hF]
  | false =>
    obtain ⟨m, l, hm, hl, hr, _⟩ := dx_rex h hF
    obtain ⟨m', l', hm', hl', hr', _⟩ := dx_rex h' hF
    have a := (rex_facts hw hm hl).2.1
    have b := (rex_facts hw' hm' hl').2.1
    rw [← hr] at a
    rw [← hr'] at b
    omega
theorem dx_unique {k : Int} {s : ByteArray} (h1 : 1 ≤ k) (h2 : k ≤ 46) {w rd rs n w' rd' rs' n' : Int} (h : DX k s w rd rs n) (h' : DX k s w' rd' rs' n') : w = w' ∧ rd = rd' ∧ rs = rs' ∧ n = n' := by
  have hw := dx_w h h'
  subst hw
  obtain ⟨m, rd0, rs0, n0, ⟨_, _, _, hq⟩, _⟩ := rT_ok h1 h2 s w
  obtain ⟨_, _, a2, a3, a4⟩ := hq _ _ _ h
  obtain ⟨_, _, b2, b3, b4⟩ := hq _ _ _ h'
  exact ⟨rfl, a2 ▸ b2, a3 ▸ b3, a4 ▸ b4⟩
theorem isDec_unique {s : ByteArray} {v v' : DV} (h : isDec s v) (h' : isDec s v') : v = v' := by
  obtain ⟨a1, a2, a3, a4, a5, a6⟩ := h
  obtain ⟨b1, b2, b3, b4, b5, b6⟩ := h'
  have ho : v.o = v'.o := by
    by_cases hlt : v.o < v'.o
    · exact absurd ⟨_, _, _, _, a3⟩ (b6 v.o a1 hlt)
    · by_cases hgt : v'.o < v.o
      · exact absurd ⟨_, _, _, _, b3⟩ (a6 v'.o b1 hgt)
      · omega
  obtain ⟨o, w, rd, rs, n, len, ok⟩ := v
  obtain ⟨o', w', rd', rs', n', len', ok'⟩ := v'
  simp only at *
  subst ho
  obtain ⟨rfl, rfl, rfl, rfl⟩ := dx_unique a1 a2 a3 b3
  subst a4 b4 a5 b5
  rfl
theorem decX_is {s : ByteArray} {v : DV} (h : isDec s v) : decX s = v := by
  have hx : ∃ v, isDec s v := ⟨v, h⟩
  unfold decX
  rw [dif_pos hx]
  exact isDec_unique (Classical.choose_spec hx) h
/-- there is one, or there is none -/
theorem decX_cases (s : ByteArray) : isDec s (decX s) ∨ (decX s = ⟨0, 0, 0, 0, 0, 0, false⟩ ∧ ∀ j, 1 ≤ j → j ≤ 46 → ¬ hitX j s) := by
  by_cases h : ∃ v, isDec s v
  · obtain ⟨v, hv⟩ := h
    exact .inl (decX_is hv ▸ hv)
  · right
    have hn : ∀ j : Nat, ∀ i : Int, 1 ≤ i → i ≤ 46 → i ≤ j → ¬ hitX i s := by
      intro j
      induction j with
      | zero => intro i h1 _ h3; omega
      | succ j ih =>
        intro i h1 h2 h3 hh
        by_cases hi : i ≤ j
        · exact ih i h1 h2 hi hh
        · obtain ⟨w, rd, rs, n, hd⟩ := hh
          exact h ⟨⟨i, w, rd, rs, n, ((strX i w rd rs n).size : Int), true⟩, h1, h2, hd, rfl, rfl, fun q q1 (q2 : q < i) => ih q q1 (by omega) (by omega)⟩
    have hn' : ∀ j, 1 ≤ j → j ≤ 46 → ¬ hitX j s := fun j h1 h2 => hn 46 j h1 h2 h2
    exact ⟨decX_none hn', hn'⟩


end Go.X
end

section
set_option linter.unusedVariables false
open Go Go.Ev Go.Proofs
namespace Go.X

theorem ry0 : ryP (Int.ofNat (0 + 1)) := fun s w => by kernel_rfl
theorem ry1 : ryP (Int.ofNat (1 + 1)) := fun s w => by kernel_rfl
theorem ry2 : ryP (Int.ofNat (2 + 1)) := fun s w => by kernel_rfl
theorem ry3 : ryP (Int.ofNat (3 + 1)) := fun s w => by kernel_rfl
theorem ry4 : ryP (Int.ofNat (4 + 1)) := fun s w => by kernel_rfl
theorem ry5 : ryP (Int.ofNat (5 + 1)) := fun s w => by kernel_rfl
theorem ry6 : ryP (Int.ofNat (6 + 1)) := fun s w => by kernel_rfl
theorem ry7 : ryP (Int.ofNat (7 + 1)) := fun s w => by kernel_rfl
theorem ry8 : ryP (Int.ofNat (8 + 1)) := fun s w => by kernel_rfl
theorem ry9 : ryP (Int.ofNat (9 + 1)) := fun s w => by kernel_rfl
theorem ry10 : ryP (Int.ofNat (10 + 1)) := fun s w => by kernel_rfl
theorem ry11 : ryP (Int.ofNat (11 + 1)) := fun s w => by kernel_rfl
theorem ry12 : ryP (Int.ofNat (12 + 1)) := fun s w => by kernel_rfl
theorem ry13 : ryP (Int.ofNat (13 + 1)) := fun s w => by kernel_rfl
theorem ry14 : ryP (Int.ofNat (14 + 1)) := fun s w => by kernel_rfl
theorem ry15 : ryP (Int.ofNat (15 + 1)) := fun s w => by kernel_rfl
theorem ry16 : ryP (Int.ofNat (16 + 1)) := fun s w => by kernel_rfl
theorem ry17 : ryP (Int.ofNat (17 + 1)) := fun s w => by kernel_rfl
theorem ry18 : ryP (Int.ofNat (18 + 1)) := fun s w => by kernel_rfl
theorem ry19 : ryP (Int.ofNat (19 + 1)) := fun s w => by kernel_rfl
theorem ry20 : ryP (Int.ofNat (20 + 1)) := fun s w => by kernel_rfl
theorem ry21 : ryP (Int.ofNat (21 + 1)) := fun s w => by kernel_rfl
theorem ry22 : ryP (Int.ofNat (22 + 1)) := fun s w => by kernel_rfl

end Go.X
end

section
set_option linter.unusedVariables false
open Go Go.Ev Go.Proofs
namespace Go.X

theorem ry23 : ryP (Int.ofNat (23 + 1)) := fun s w => by kernel_rfl
theorem ry24 : ryP (Int.ofNat (24 + 1)) := fun s w => by kernel_rfl
theorem ry25 : ryP (Int.ofNat (25 + 1)) := fun s w => by kernel_rfl
theorem ry26 : ryP (Int.ofNat (26 + 1)) := fun s w => by kernel_rfl
theorem ry27 : ryP (Int.ofNat (27 + 1)) := fun s w => by kernel_rfl
theorem ry28 : ryP (Int.ofNat (28 + 1)) := fun s w => by kernel_rfl
theorem ry29 : ryP (Int.ofNat (29 + 1)) := fun s w => by kernel_rfl
theorem ry30 : ryP (Int.ofNat (30 + 1)) := fun s w => by kernel_rfl
theorem ry31 : ryP (Int.ofNat (31 + 1)) := fun s w => by kernel_rfl
theorem ry32 : ryP (Int.ofNat (32 + 1)) := fun s w => by kernel_rfl
theorem ry33 : ryP (Int.ofNat (33 + 1)) := fun s w => by kernel_rfl
theorem ry34 : ryP (Int.ofNat (34 + 1)) := fun s w => by kernel_rfl
theorem ry35 : ryP (Int.ofNat (35 + 1)) := fun s w => by kernel_rfl
theorem ry36 : ryP (Int.ofNat (36 + 1)) := fun s w => by kernel_rfl
theorem ry37 : ryP (Int.ofNat (37 + 1)) := fun s w => by kernel_rfl
theorem ry38 : ryP (Int.ofNat (38 + 1)) := fun s w => by kernel_rfl
theorem ry39 : ryP (Int.ofNat (39 + 1)) := fun s w => by kernel_rfl
theorem ry40 : ryP (Int.ofNat (40 + 1)) := fun s w => by kernel_rfl
theorem ry41 : ryP (Int.ofNat (41 + 1)) := fun s w => by kernel_rfl
theorem ry42 : ryP (Int.ofNat (42 + 1)) := fun s w => by kernel_rfl
theorem ry43 : ryP (Int.ofNat (43 + 1)) := fun s w => by kernel_rfl
theorem ry44 : ryP (Int.ofNat (44 + 1)) := fun s w => by kernel_rfl
theorem ry45 : ryP (Int.ofNat (45 + 1)) := fun s w => by kernel_rfl
theorem ry_all : ∀ i : Nat, i < 46 → ryP (Int.ofNat (i + 1))
  | 0, _ => ry0
  | 1, _ => ry1
  | 2, _ => ry2
  | 3, _ => ry3
  | 4, _ => ry4
  | 5, _ => ry5
  | 6, _ => ry6
  | 7, _ => ry7
  | 8, _ => ry8
  | 9, _ => ry9
  | 10, _ => ry10
  | 11, _ => ry11
  | 12, _ => ry12
  | 13, _ => ry13
  | 14, _ => ry14
  | 15, _ => ry15
  | 16, _ => ry16
  | 17, _ => ry17
  | 18, _ => ry18
  | 19, _ => ry19
  | 20, _ => ry20
  | 21, _ => ry21
  | 22, _ => ry22
  | 23, _ => ry23
  | 24, _ => ry24
  | 25, _ => ry25
  | 26, _ => ry26
  | 27, _ => ry27
  | 28, _ => ry28
  | 29, _ => ry29
  | 30, _ => ry30
  | 31, _ => ry31
  | 32, _ => ry32
  | 33, _ => ry33
  | 34, _ => ry34
  | 35, _ => ry35
  | 36, _ => ry36
  | 37, _ => ry37
  | 38, _ => ry38
  | 39, _ => ry39
  | 40, _ => ry40
  | 41, _ => ry41
  | 42, _ => ry42
  | 43, _ => ry43
  | 44, _ => ry44
  | 45, _ => ry45
  | m + 46, h => absurd h (by omega)
def BRP (k : Int) : Prop := RP k (rowR k) ∧ ∀ s w rd rs n, DX k s w rd rs n → bgOp k s = true
attribute [local irreducible] evalF in
theorem br_all (k : Int) (h1 : 1 ≤ k) (h2 : k ≤ 46) : BRP k := by
  have h : ryP k := ops46 (P := ryP) ry_all h1 h2
  exact ⟨fun s w => RP_of (h s w) (rT_ok h1 h2 s w), fun s w rd rs n hd => bg_ok hd⟩

structure RV where
  m : Int
  rd : Int
  rs : Int
  n : Int
def RVok (k : Int) (s : ByteArray) (w : Int) (v : RV) : Prop := Q29 k s w v.m v.rd v.rs v.n ∧ GivesD ⟨[], .int false .i64 v.m, [(0, cells5 k w v.rd v.rs v.n)]⟩ (evalF E29 Try.prog 40 [.str s, rowR k, .ptr 0 0 0] [(0, cells5 k w 0 0 0)] 1024).leaf
attribute [local irreducible] evalF in
theorem rv_ex (k : Int) (s : ByteArray) (w : Int) (h1 : 1 ≤ k) (h2 : k ≤ 46) : ∃ v, RVok k s w v := by
  obtain ⟨m, rd, rs, n, hq, hg⟩ := (br_all k h1 h2).1 s w
  exact ⟨⟨m, rd, rs, n⟩, hq, hg⟩
open Classical in
noncomputable def rdX (k : Int) (s : ByteArray) (w : Int) : RV := if h : 1 ≤ k ∧ k ≤ 46 then Classical.choose (rv_ex k s w h.1 h.2) else ⟨0, 0, 0, 0⟩
theorem rdX_ok (k : Int) (s : ByteArray) (w : Int) (h1 : 1 ≤ k) (h2 : k ≤ 46) : RVok k s w (rdX k s w) := by
  unfold rdX
  rw [dif_pos ⟨h1, h2⟩]
  exact Classical.choose_spec (rv_ex k s w h1 h2)

noncomputable def g29 : List SV → Heap → Option R
  | [.str s, .agg [.int _ .u8 kd, .str b, .int _ .i64 mi, .int _ .i64 wr, .int _ .i64 im, .bool _ pr], .ptr k0 r0 c0], [(j0, .cells [.int false .i64 op, .int false .i64 w, .int false .i64 rd, .int false .i64 rs, .int false .i64 n])] =>
    match Nat.beq k0 0 && (Nat.beq r0 0 && (Nat.beq c0 0 && Nat.beq j0 0)) with
    | true => some ⟨[decide (1 ≤ op), decide (op ≤ 46), decide (kd = nth kindR 0 (op - 1).toNat), decide (b = nth bytesR .empty (op - 1).toNat), decide (mi = nth midR 0 (op - 1).toNat), decide (wr = nth wR 0 (op - 1).toNat),
      decide (im = nth immR 0 (op - 1).toNat), decide (pr = nth preR false (op - 1).toNat), decide (rd = 0), decide (rs = 0), decide (n = 0)], .int false .i64 (rdX op s w).m,
      [(0, .cells [.int false .i64 op, .int false .i64 w, .int false .i64 (rdX op s w).rd, .int false .i64 (rdX op s w).rs, .int false .i64 (rdX op s w).n])]⟩
    | false => none
  | _, _ => none

theorem fn29 : Try.prog.funcs[40]? = some Try.f40 := by kernel_rfl
theorem b29 : Try.f40.body = some (bodyOf Try.f40) := by kernel_rfl
theorem n29 : (Try.f40.name == "runtime.NumGoroutine") = false := by kernel_rfl

attribute [local irreducible] evalF rdX in
theorem spec29 : SpecOk Try.prog 40 (specOf g29) := spec_okB false mixed fn29 b29 n29 g29 fun a0 H0 r hg hn => by
  unfold g29 at hg
  split at hg
  · rename_i s _ kd b _ mi _ wr _ im _ pr k0 r0 c0 j0 op w rd rs n
    split at hg
    · rename_i hb
      simp only [Bool.and_eq_true, Nat.beq_eq] at hb
      obtain ⟨rfl, rfl, rfl, rfl⟩ := hb
      simp only [Option.some.injEq] at hg
      subst hg
      simp only [allB, Bool.and_true, Bool.and_eq_true, decide_eq_true_eq] at hn
      obtain ⟨h1, h2, rfl, rfl, rfl, rfl, rfl, rfl, rfl, rfl, rfl⟩ := hn
      obtain ⟨hq, hg⟩ := rdX_ok op s w h1 h2
      refine ⟨E29, [.str s, rowR op, .ptr 0 0 0], e29_calls, loops_noLoop e29_loop _ _, fun _ => by simp [rowR, rowL, SV.alL, SV.al, lt, base], fun σ => by simp only [denL, den, rowR, rowL], ?_⟩
      have e : roH (namesH [(0, Blk.cells [.int false .i64 op, .int false .i64 w, .int false .i64 (rdX op s w).rd, .int false .i64 (rdX op s w).rs, .int false .i64 (rdX op s w).n])]) [(0, .cells [.int false .i64 op, .int false .i64 w, .int false .i64 0, .int false .i64 0, .int false .i64 0])] = [(0, cells5 op w 0 0 0)] := rfl
      rw [e]
      exact hg
    · cases hg
  · cases hg

end Go.X
end

section
set_option linter.unusedVariables false
open Go Go.Ev Go.Proofs
namespace Go.X

noncomputable def E11 : Env := inlA Try.prog (envOf [(38, specOf g19), (39, specOf g28), (40, specOf g29), (37, specOf g7)] noLoop) [] [] 1
theorem e11_calls : CallsOk E11 Try.prog := (inlA_calls ((SpecsOk.cons spec19 (SpecsOk.cons spec28 (SpecsOk.cons spec29 (SpecsOk.cons spec8 SpecsOk.nil)))).calls noLoop) mixed namedNil namedNil 1).1
theorem e11_loop : E11.loop = noLoop := rfl
def cellsR (k : Int) : Blk := .cells [.int false .u8 (nth kindR 0 (k - 1).toNat), .str (nth bytesR .empty (k - 1).toNat), .int false .i64 (nth midR 0 (k - 1).toNat), .int false .i64 (nth wR 0 (k - 1).toNat), .int false .i64 (nth immR 0 (k - 1).toNat), .bool false (nth preR false (k - 1).toNat)]
noncomputable def decT2 (s : ByteArray) : SV := .tup [.agg [.int false .i64 (decX s).o, .int false .i64 (decX s).w, .int false .i64 (decX s).rd, .int false .i64 (decX s).rs, .int false .i64 (decX s).n], .int false .i64 (decX s).len]
/-- no earlier op has an instruction there -/
noncomputable def noneX (k : Int) (s : ByteArray) : Bool := @decide (∀ j, 1 ≤ j → j < k → ¬ hitX j s) (Classical.propDecidable _)
theorem noneX_iff (k : Int) (s : ByteArray) : noneX k s = true ↔ ∀ j, 1 ≤ j → j < k → ¬ hitX j s := @decide_eq_true_iff _ (Classical.propDecidable _)
/-- the inner loop -/
def v11b (s : ByteArray) (k t : Int) : List SV := [.str s, .ptr 1024 0 0, .int false .i64 k, .ptr 1500 0 0, .int false .i64 t]
def h11b (k : Int) : Heap := [(1024, z5), (1500, cellsR k)]
def lk11b : Lp := ⟨51, [0, 2, 4, 5, 6], 2600, fun _ _ => none⟩
noncomputable def get11b : List SV → Heap → Option Tr
  | [.str s, .ptr k1 r1 p1, .int _ .i64 k, .ptr k2 r2 p2, .int _ .i64 t], [(j1, .cells [.int _ .i64 a0, .int _ .i64 a1, .int _ .i64 a2, .int _ .i64 a3, .int _ .i64 a4]), (j2, .cells [.int _ .u8 kd, .str b, .int _ .i64 mi, .int _ .i64 wr, .int _ .i64 im, .bool _ pr])] =>
    some (Tr.needs [Nat.beq k1 1024, Nat.beq r1 0, Nat.beq p1 0, Nat.beq r2 0, Nat.beq p2 0, decide (t = 0), Nat.beq j1 1024, Nat.beq j2 k2, Nat.blt 1024 k2, decide (1 ≤ k), decide (k ≤ 46),
        decide (a0 = 0), decide (a1 = 0), decide (a2 = 0), decide (a3 = 0), decide (a4 = 0), decide (kd = nth kindR 0 (k - 1).toNat), decide (b = nth bytesR .empty (k - 1).toNat), decide (mi = nth midR 0 (k - 1).toNat), decide (wr = nth wR 0 (k - 1).toNat),
        decide (im = nth immR 0 (k - 1).toNat), decide (pr = nth preR false (k - 1).toNat), noneX k s]
        (.node ((decX s).ok && decide ((decX s).o = k)) (.ret (decT2 s) []) (exitT lk11b 2 [.str s, .ptr 1024 0 0, .int false .i64 k, .any, .any] [(1024, z5)])))
  | _, _ => none
noncomputable def lp11b : Lp := { lk11b with get := get11b }
noncomputable def E11b : Env := ⟨E11.call, loopEnv [(1, lp11b)]⟩
/-- the outer loop -/
def v11 (s : ByteArray) (k : Int) : List SV := [.str s, .ptr 1024 0 0, .int false .i64 k]
def h11 : Heap := [(1024, z5)]
def lk11 : Lp := ⟨51, [0, 2, 4], 2000, fun _ _ => none⟩
noncomputable def get11 : List SV → Heap → Option Tr
  | [.str s, .ptr k1 r1 p1, .int _ .i64 k], [(j1, .cells [.int _ .i64 a0, .int _ .i64 a1, .int _ .i64 a2, .int _ .i64 a3, .int _ .i64 a4])] =>
    some (Tr.needs [Nat.beq k1 1024, Nat.beq r1 0, Nat.beq p1 0, decide (k = 1), Nat.beq j1 1024, decide (a0 = 0), decide (a1 = 0), decide (a2 = 0), decide (a3 = 0), decide (a4 = 0)]
        (.node (decX s).ok (.ret (decT2 s) []) (exitT lk11 0 [.any, .ptr 1024 0 0, .any] [(1024, z5)])))
  | _, _ => none
noncomputable def lp11 : Lp := { lk11 with get := get11 }
noncomputable def E11L : Env := ⟨E11.call, loopEnv [(0, lp11), (1, lp11b)]⟩

theorem r11b (s : ByteArray) (k : Int) (t : Int) : (evalB E11 Try.prog Try.f29.results.toList (loopOf Try.f29 1) 2 lp11b (v11b s k t) (h11b k)).view [0, 2, 4, 5, 6] =
    (bif (cm .lss t 2) then
 bif (Nat.ble ((nth bytesR ByteArray.empty (k - 1).toNat).size) (100)) then
 bif (decide (1 ≤ (nth bytesR ByteArray.empty (k - 1).toNat).size) || !decide (nth kindR 0 (k - 1).toNat = 98) && !decide (nth kindR 0 (k - 1).toNat = 99)) then
 bif (bgX (bif nth preR false (k - 1).toNat then 1 else 0) s (nth bytesR ByteArray.empty (k - 1).toNat) (nth kindR 0 (k - 1).toNat)) then
 bif (decide (1 ≤ k)) then
 bif (decide (k ≤ 46)) then
 bif (decide (nth kindR 0 (k - 1).toNat = nth kindR 0 (k - 1).toNat)) then
 bif (decide (nth bytesR ByteArray.empty (k - 1).toNat = nth bytesR ByteArray.empty (k - 1).toNat)) then
 bif (decide (nth midR 0 (k - 1).toNat = nth midR 0 (k - 1).toNat)) then
 bif (decide (nth wR 0 (k - 1).toNat = nth wR 0 (k - 1).toNat)) then
 bif (decide (nth immR 0 (k - 1).toNat = nth immR 0 (k - 1).toNat)) then
 bif (decide (nth preR false (k - 1).toNat = nth preR false (k - 1).toNat)) then
 bif (cm .eql (rdX k s (ar .add .i64 4 (ar .mul .i64 4 t))).m 0) then
 .norm 51 [.str (s), .ptr 1024 0 0, .int false .i64 (k), .ptr 1500 0 0, .int false .i64 (ar .add .i64 t 1)] [(1024, .cells [.int false .i64 0, .int false .i64 0, .int false .i64 0, .int false .i64 0, .int false .i64 0]), (1500, .cells [.int false .u8 (nth kindR 0 (k - 1).toNat), .str (nth bytesR ByteArray.empty (k - 1).toNat), .int false .i64 (nth midR 0 (k - 1).toNat), .int false .i64 (nth wR 0 (k - 1).toNat), .int false .i64 (nth immR 0 (k - 1).toNat), .bool false (nth preR false (k - 1).toNat)]), (2712, .cells [.int false .i64 (k), .int false .i64 (ar .add .i64 4 (ar .mul .i64 4 t)), .int false .i64 ((rdX k s (ar .add .i64 4 (ar .mul .i64 4 t))).rd), .int false .i64 ((rdX k s (ar .add .i64 4 (ar .mul .i64 4 t))).rs), .int false .i64 ((rdX k s (ar .add .i64 4 (ar .mul .i64 4 t))).n)])]
 else
 bif (bif cm .eql (errX k (ar .add .i64 4 (ar .mul .i64 4 t)) (rdX k s (ar .add .i64 4 (ar .mul .i64 4 t))).rd (rdX k s (ar .add .i64 4 (ar .mul .i64 4 t))).rs (rdX k s (ar .add .i64 4 (ar .mul .i64 4 t))).n) 0 then allB [decide (0 ≤ (rdX k s (ar .add .i64 4 (ar .mul .i64 4 t))).m), (rdX k s (ar .add .i64 4 (ar .mul .i64 4 t))).m.toNat.ble s.size] else true) then
 bif (bif cm .eql (errX k (ar .add .i64 4 (ar .mul .i64 4 t)) (rdX k s (ar .add .i64 4 (ar .mul .i64 4 t))).rd (rdX k s (ar .add .i64 4 (ar .mul .i64 4 t))).rs (rdX k s (ar .add .i64 4 (ar .mul .i64 4 t))).n) 0 then seq (strX k (ar .add .i64 4 (ar .mul .i64 4 t)) (rdX k s (ar .add .i64 4 (ar .mul .i64 4 t))).rd (rdX k s (ar .add .i64 4 (ar .mul .i64 4 t))).rs (rdX k s (ar .add .i64 4 (ar .mul .i64 4 t))).n) (s.extract 0 (rdX k s (ar .add .i64 4 (ar .mul .i64 4 t))).m.toNat) else false) then
 .ret (.tup [.agg [.int false .i64 (k), .int false .i64 (ar .add .i64 4 (ar .mul .i64 4 t)), .int false .i64 ((rdX k s (ar .add .i64 4 (ar .mul .i64 4 t))).rd), .int false .i64 ((rdX k s (ar .add .i64 4 (ar .mul .i64 4 t))).rs), .int false .i64 ((rdX k s (ar .add .i64 4 (ar .mul .i64 4 t))).n)], .int false .i64 ((rdX k s (ar .add .i64 4 (ar .mul .i64 4 t))).m)]) [(1024, .cells [.int false .i64 (k), .int false .i64 (ar .add .i64 4 (ar .mul .i64 4 t)), .int false .i64 ((rdX k s (ar .add .i64 4 (ar .mul .i64 4 t))).rd), .int false .i64 ((rdX k s (ar .add .i64 4 (ar .mul .i64 4 t))).rs), .int false .i64 ((rdX k s (ar .add .i64 4 (ar .mul .i64 4 t))).n)]), (1500, .cells [.int false .u8 (nth kindR 0 (k - 1).toNat), .str (nth bytesR ByteArray.empty (k - 1).toNat), .int false .i64 (nth midR 0 (k - 1).toNat), .int false .i64 (nth wR 0 (k - 1).toNat), .int false .i64 (nth immR 0 (k - 1).toNat), .bool false (nth preR false (k - 1).toNat)]), (2712, .cells [.int false .i64 (k), .int false .i64 (ar .add .i64 4 (ar .mul .i64 4 t)), .int false .i64 ((rdX k s (ar .add .i64 4 (ar .mul .i64 4 t))).rd), .int false .i64 ((rdX k s (ar .add .i64 4 (ar .mul .i64 4 t))).rs), .int false .i64 ((rdX k s (ar .add .i64 4 (ar .mul .i64 4 t))).n)])]
 else
 .norm 51 [.str (s), .ptr 1024 0 0, .int false .i64 (k), .ptr 1500 0 0, .int false .i64 (ar .add .i64 t 1)] [(1024, .cells [.int false .i64 0, .int false .i64 0, .int false .i64 0, .int false .i64 0, .int false .i64 0]), (1500, .cells [.int false .u8 (nth kindR 0 (k - 1).toNat), .str (nth bytesR ByteArray.empty (k - 1).toNat), .int false .i64 (nth midR 0 (k - 1).toNat), .int false .i64 (nth wR 0 (k - 1).toNat), .int false .i64 (nth immR 0 (k - 1).toNat), .bool false (nth preR false (k - 1).toNat)]), (2712, .cells [.int false .i64 (k), .int false .i64 (ar .add .i64 4 (ar .mul .i64 4 t)), .int false .i64 ((rdX k s (ar .add .i64 4 (ar .mul .i64 4 t))).rd), .int false .i64 ((rdX k s (ar .add .i64 4 (ar .mul .i64 4 t))).rs), .int false .i64 ((rdX k s (ar .add .i64 4 (ar .mul .i64 4 t))).n)])]
 else .bad
 else .bad
 else .bad
 else .bad
 else .bad
 else .bad
 else .bad
 else .bad
 else .bad
 else
 .norm 51 [.str (s), .ptr 1024 0 0, .int false .i64 (k), .ptr 1500 0 0, .int false .i64 (ar .add .i64 t 1)] [(1024, .cells [.int false .i64 0, .int false .i64 0, .int false .i64 0, .int false .i64 0, .int false .i64 0]), (1500, .cells [.int false .u8 (nth kindR 0 (k - 1).toNat), .str (nth bytesR ByteArray.empty (k - 1).toNat), .int false .i64 (nth midR 0 (k - 1).toNat), .int false .i64 (nth wR 0 (k - 1).toNat), .int false .i64 (nth immR 0 (k - 1).toNat), .bool false (nth preR false (k - 1).toNat)]), (2712, .cells [.int false .i64 (k), .int false .i64 (ar .add .i64 4 (ar .mul .i64 4 t)), .int true .i64 0, .int true .i64 0, .int true .i64 0])]
 else .bad
 else .bad
 else
 .exit 2 51 [.str (s), .ptr 1024 0 0, .int false .i64 (k), .ptr 1500 0 0, .int false .i64 (t)] [(1024, .cells [.int false .i64 0, .int false .i64 0, .int false .i64 0, .int false .i64 0, .int false .i64 0]), (1500, .cells [.int false .u8 (nth kindR 0 (k - 1).toNat), .str (nth bytesR ByteArray.empty (k - 1).toNat), .int false .i64 (nth midR 0 (k - 1).toNat), .int false .i64 (nth wR 0 (k - 1).toNat), .int false .i64 (nth immR 0 (k - 1).toNat), .bool false (nth preR false (k - 1).toNat)])]) := by kernel_rfl

theorem r11 (s : ByteArray) (k : Int) : (evalB E11b Try.prog Try.f29.results.toList (loopOf Try.f29 0) 1 lp11 (v11 s k) h11).view [0, 2, 4] =
    (bif (cm .leq k 46) then
 bif (decide (1 ≤ k)) then
 bif (decide (k ≤ 46)) then
 bif (decide (1 ≤ k)) then
 bif (decide (k ≤ 46)) then
 bif (decide (nth kindR 0 (k - 1).toNat = nth kindR 0 (k - 1).toNat)) then
 bif (decide (nth bytesR ByteArray.empty (k - 1).toNat = nth bytesR ByteArray.empty (k - 1).toNat)) then
 bif (decide (nth midR 0 (k - 1).toNat = nth midR 0 (k - 1).toNat)) then
 bif (decide (nth wR 0 (k - 1).toNat = nth wR 0 (k - 1).toNat)) then
 bif (decide (nth immR 0 (k - 1).toNat = nth immR 0 (k - 1).toNat)) then
 bif (decide (nth preR false (k - 1).toNat = nth preR false (k - 1).toNat)) then
 bif (noneX k s) then
 bif ((decX s).ok && decide ((decX s).o = k)) then
 .ret (.tup [.agg [.int false .i64 ((decX s).o), .int false .i64 ((decX s).w), .int false .i64 ((decX s).rd), .int false .i64 ((decX s).rs), .int false .i64 ((decX s).n)], .int false .i64 ((decX s).len)]) []
 else
 .norm 51 [.str (s), .ptr 1024 0 0, .int false .i64 (ar .add .i64 k 1)] [(1024, .cells [.int false .i64 0, .int false .i64 0, .int false .i64 0, .int false .i64 0, .int false .i64 0])]
 else .bad
 else .bad
 else .bad
 else .bad
 else .bad
 else .bad
 else .bad
 else .bad
 else .bad
 else .bad
 else .bad
 else
 .exit 0 51 [.str (s), .ptr 1024 0 0, .int false .i64 (k)] [(1024, .cells [.int false .i64 0, .int false .i64 0, .int false .i64 0, .int false .i64 0, .int false .i64 0])]) := by kernel_rfl

theorem t11 (s : ByteArray) : (evalF E11L Try.prog 29 [.str s] [] 1024).bare =
    (bif ((decX s).ok) then
 .ret (.tup [.agg [.int false .i64 ((decX s).o), .int false .i64 ((decX s).w), .int false .i64 ((decX s).rd), .int false .i64 ((decX s).rs), .int false .i64 ((decX s).n)], .int false .i64 ((decX s).len)]) []
 else
 .ret (.tup [.agg [.int true .i64 0, .int true .i64 0, .int true .i64 0, .int true .i64 0, .int true .i64 0], .int true .i64 0]) []) := by kernel_rfl

end Go.X
end

section
set_option linter.unusedVariables false
open Go Go.Ev Go.Proofs
namespace Go.X

structure X11b where
  s : ByteArray
  k : Int
  t : Nat
def hitW (k : Int) (s : ByteArray) (w : Int) : Prop := ∃ rd rs n, DX k s w rd rs n
def ok11b (x : X11b) : Prop := 1 ≤ x.k ∧ x.k ≤ 46 ∧ x.t ≤ 2 ∧ (∀ j, 1 ≤ j → j < x.k → ¬ hitX j x.s) ∧ ∀ q : Nat, q < x.t → ¬ hitW x.k x.s (4 + 4 * (q : Int))
def vs11b (x : X11b) : List SV := v11b x.s x.k x.t
def hp11b (x : X11b) : Heap := h11b x.k
noncomputable def out11b (x : X11b) : Vw := bif ((decX x.s).ok && decide ((decX x.s).o = x.k)) then .ret (decT2 x.s) [] else .exit 2 51 [.str x.s, .ptr 1024 0 0, .int false .i64 x.k, .any, .any] [(1024, z5)]

theorem entry11b (l : List SV) (H : Heap) (T : Tr) (h : lp11b.get l H = some T) (hb : T.leaf ≠ .bad) : ∃ x r, ok11b x ∧ WkV r lp11b.nm l H (vs11b x) (hp11b x) ∧ T.leaf = toLf lp11b (out11b x) := by
  replace h : get11b l H = some T := h
  unfold get11b at h
  split at h
  · rename_i s k1 r1 p1 _ k k2 r2 p2 _ t j1 _ a0 _ a1 _ a2 _ a3 _ a4 j2 _ kd b _ mi _ wr _ im _ pr
    simp only [Option.some.injEq] at h
    subst h
    obtain ⟨hn, he⟩ := needs_ne hb
    rw [he]
    simp only [allB, Bool.and_eq_true, Bool.and_true, decide_eq_true_eq, Nat.beq_eq, Nat.blt_eq] at hn
    obtain ⟨rfl, rfl, rfl, rfl, rfl, rfl, rfl, rfl, hk2, hk0, hk1, rfl, rfl, rfl, rfl, rfl, rfl, rfl, rfl, rfl, rfl, rfl, hno⟩ := hn
    refine ⟨⟨s, k, 0⟩, [(1500, .old j2)], ⟨hk0, hk1, Nat.zero_le _, (noneX_iff k s).1 hno, fun q hq => absurd hq (Nat.not_lt_zero _)⟩, ?_, ?_⟩
    · have hne : Nat.beq 1024 j2 = false := by
        cases hq : Nat.beq 1024 j2 with
        | true => have := Nat.eq_of_beq_eq_true hq; omega
        | false => rfl
      have hne2 : Nat.beq j2 1024 = false := by
        cases hq : Nat.beq j2 1024 with
        | true => have := Nat.eq_of_beq_eq_true hq; omega
        | false => rfl
      refine ⟨rfl, ?_, ⟨?_, ?_, trivial⟩, ?_, rfl⟩
      · exact ⟨rfl, ⟨rfl, rfl, rfl⟩, ⟨rfl, rfl⟩, ⟨rfl, rfl, rfl⟩, ⟨rfl, rfl⟩, trivial⟩
      · simp [rmap, rlook, Ev.look, wkB, simL, sim, z5]
      · simp [rmap, rlook, Ev.look, hne, wkB, simL, sim, cellsR, Nat.beq_refl]
      · simp [hp11b, h11b, z5, cellsR, oldsOf, rmap, rlook, uniqN, mem, hne2, hne]
    · simp only [Tr.leaf, exitT_leaf, out11b, toLf_cond]
      rfl
  · cases h

theorem bytes_chk : ((List.range 46).all fun i => Nat.ble (nth bytesR .empty i).size 100 && (decide (1 ≤ (nth bytesR .empty i).size) || !decide (nth kindR 0 i = 98) && !decide (nth kindR 0 i = 99))) = true := by kernel_rfl
theorem bytes_facts {k : Int} (h1 : 1 ≤ k) (h2 : k ≤ 46) : Nat.ble (nth bytesR .empty (k - 1).toNat).size 100 = true ∧ (decide (1 ≤ (nth bytesR .empty (k - 1).toNat).size) || !decide (nth kindR 0 (k - 1).toNat = 98) && !decide (nth kindR 0 (k - 1).toNat = 99)) = true := by
  have := List.all_eq_true.1 bytes_chk (k - 1).toNat (List.mem_range.2 (by omega))
  rw [Bool.and_eq_true] at this
  exact this
theorem w_of_t {t : Nat} (h : t < 2) : ar .add .i64 4 (ar .mul .i64 4 (t : Int)) = 4 + 4 * (t : Int) := by
  simp only [ar, IntKind.wrap_i64]; omega
theorem err_w {k w rd rs n : Int} (h : errX k w rd rs n = 0) : w = 4 ∨ w = 8 := by
  unfold errX at h
  cases h1 : (decide (k < 1) || decide (46 < k)) with
  | true => rw [h1] at h; cases h
  | false =>
    rw [h1] at h
    have h2 := (err0 h).1
    simp only [Bool.and_eq_true, Bool.or_eq_true, decide_eq_true_eq] at h2
    exact h2.1

attribute [local irreducible] evalB Tr.view rdX decX strX errX bgX in
theorem round11b (x : X11b) (hx : ok11b x) : Round lp11b ok11b (fun x => 2 - x.t) vs11b hp11b out11b x ((evalB E11 Try.prog Try.f29.results.toList (loopOf Try.f29 1) (1 + 1) lp11b (vs11b x) (hp11b x)).view lp11b.ks) := by
  obtain ⟨s, k, t⟩ := x
  obtain ⟨h1, h2, h3, h4, h5⟩ := hx
  simp only at h1 h2 h3 h4 h5
  have hr := r11b s k t
  rw [show evalB E11 Try.prog Try.f29.results.toList (loopOf Try.f29 1) (1 + 1) lp11b (vs11b ⟨s, k, t⟩) (hp11b ⟨s, k, t⟩) = evalB E11 Try.prog Try.f29.results.toList (loopOf Try.f29 1) 2 lp11b (v11b s k t) (h11b k) from rfl, show lp11b.ks = [0, 2, 4, 5, 6] from rfl, hr]
  by_cases h : t < 2
  · obtain ⟨b1, b2⟩ := bytes_facts h1 h2
    have e1 : cm .lss (t : Int) 2 = true := by rw [cm_lss']; exact decide_eq_true (by omega)
    simp only [e1, b1, b2, w_of_t h, decide_eq_true h1, decide_eq_true h2, cond_true, decide_true]
    have hnext : ∀ H2, ¬ hitW k s (4 + 4 * (t : Int)) → Round lp11b ok11b (fun x => 2 - x.t) vs11b hp11b out11b ⟨s, k, t⟩ (.norm 51 [.str s, .ptr 1024 0 0, .int false .i64 k, .ptr 1500 0 0, .int false .i64 (ar .add .i64 t 1)] ((1024, z5) :: (1500, cellsR k) :: H2)) := by
      intro H2 hno
      rw [addOne (show t < 9223372036854775807 by omega)]
      refine ⟨rfl, ⟨s, k, t + 1⟩, [], ⟨h1, h2, h, h4, fun q (hq : q < t + 1) => ?_⟩, by show 2 - (t + 1) < 2 - t; omega, rfl, ?_⟩
      · by_cases hqt : q = t
        · subst hqt; exact hno
        · exact h5 q (by omega)
      · refine ⟨rfl, ?_, ⟨?_, ?_, trivial⟩, rfl, rfl⟩
        · exact ⟨rfl, ⟨rfl, rfl, rfl⟩, ⟨rfl, rfl⟩, ⟨rfl, rfl, rfl⟩, ⟨rfl, rfl⟩, trivial⟩
        · simp [rmap, rlook, Ev.look, wkB, simL, sim, z5]
        · simp [rmap, rlook, Ev.look, wkB, simL, sim, cellsR]
    generalize (4 + 4 * (t : Int)) = w at *
    obtain ⟨hq, _⟩ := rdX_ok k s w h1 h2
    generalize rdX k s w = v at *
    obtain ⟨q1, q2, q3, q4⟩ := hq
    refine Round_cond (fun hbg => ?_) (fun hbg => ?_)
    · refine Round_cond (fun hm => ?_) (fun hm => ?_)
      · refine hnext _ ?_
        rintro ⟨rd, rs, n, hd⟩
        rw [cm_eql', decide_eq_true_eq] at hm
        exact (q4 _ _ _ hd).1 hm
      · have key : (bif cm .eql (errX k w v.rd v.rs v.n) 0 then seq (strX k w v.rd v.rs v.n) (s.extract 0 v.m.toNat) else false) = true ↔ DX k s w v.rd v.rs v.n := by
          rw [cm_eql', seq_eq]
          by_cases he : errX k w v.rd v.rs v.n = 0
          · rw [decide_eq_true he, cond_true, decide_eq_true_eq]
            constructor
            · intro hx
              have hz : (strX k w v.rd v.rs v.n).size = v.m.toNat := by rw [hx, ByteArray.size_extract]; omega
              exact (hit_iff he q1).2 ⟨by omega, by rw [hz]; exact hx.symm⟩
            · intro hd
              obtain ⟨_, g1, _, _, _⟩ := q4 _ _ _ hd
              have := ((hit_iff he q1).1 hd).2
              rw [g1, Int.toNat_natCast]
              exact this.symm
          · rw [decide_eq_false he, cond_false]
            constructor
            · intro h; cases h
            · intro h; exact absurd h.1 he
        have need : (bif cm .eql (errX k w v.rd v.rs v.n) 0 then allB [decide (0 ≤ v.m), Nat.ble v.m.toNat s.size] else true) = true := by
          cases cm .eql (errX k w v.rd v.rs v.n) 0 with
          | false => rfl
          | true => simp [allB]; omega
        rw [need, cond_true]
        refine Round_cond (fun hh => ?_) (fun hh => ?_)
        · have hd := key.1 hh
          obtain ⟨_, g1, _, _, _⟩ := q4 _ _ _ hd
          have hdec : decX s = ⟨k, w, v.rd, v.rs, v.n, ((strX k w v.rd v.rs v.n).size : Int), true⟩ := decX_is ⟨h1, h2, hd, rfl, rfl, h4⟩
          refine ⟨decT2 s, [], [], ?_, rfl, ?_, trivial, rfl⟩
          · simp only [out11b, hdec, Bool.true_and, decide_true, cond_true]
          · simp [decT2, hdec, sim, simL, g1]
        · refine hnext _ ?_
          rintro ⟨rd, rs, n, hd⟩
          obtain ⟨_, _, a1, a2, a3⟩ := q4 _ _ _ hd
          rw [← a1, ← a2, ← a3] at hd
          rw [key.2 hd] at hh
          cases hh
    · refine hnext _ ?_
      rintro ⟨rd, rs, n, hd⟩
      have := (br_all k h1 h2).2 s w rd rs n hd
      rw [show bgOp k s = bgX (bif nth preR false (k - 1).toNat then 1 else 0) s (nth bytesR .empty (k - 1).toNat) (nth kindR 0 (k - 1).toNat) from rfl, hbg] at this
      cases this
  · obtain rfl : t = 2 := by omega
    have e1 : cm .lss ((2 : Nat) : Int) 2 = false := rfl
    simp only [e1, cond_false]
    have hno : ¬ hitX k s := by
      rintro ⟨w, rd, rs, n, hd⟩
      rcases err_w hd.1 with rfl | rfl
      · exact h5 0 (by decide) ⟨rd, rs, n, hd⟩
      · exact h5 1 (by decide) ⟨rd, rs, n, hd⟩
    have hf : ((decX s).ok && decide ((decX s).o = k)) = false := by
      cases hc : ((decX s).ok && decide ((decX s).o = k)) with
      | false => rfl
      | true =>
        simp only [Bool.and_eq_true, decide_eq_true_eq] at hc
        rcases decX_cases s with hd | hd
        · exact absurd ⟨_, _, _, _, hc.2 ▸ hd.2.2.1⟩ hno
        · rw [hd.1] at hc; cases hc.1
    refine ⟨rfl, _, _, [], by simp only [out11b, hf, cond_false]; rfl, ?_⟩
    refine ⟨rfl, ?_, ⟨?_, trivial⟩, rfl, rfl⟩
    · exact ⟨rfl, ⟨rfl, rfl, rfl⟩, ⟨rfl, rfl⟩, trivial, trivial, trivial⟩
    · simp [rmap, rlook, Ev.look, wkB, simL, sim, z5]

attribute [local irreducible] evalB Tr.view in
theorem loop11b {E : Env} (hE : ∀ S, E.loop 1 S = runLp lp11b S) : LoopOk E Try.prog Try.f29 1 (loopOf Try.f29 1) :=
  loop_okE mixed hE (by decide) ok11b (fun x => 2 - x.t) vs11b hp11b out11b entry11b fun x hx => ⟨E11, e11_calls, loops_noLoop e11_loop _ _, round11b x hx⟩
theorem e11b_calls : CallsOk E11b Try.prog := fun f args H nm r h hn => e11_calls f args H nm r h hn
theorem nl11b : Code.loops (loopOf Try.f29 0) = 1 := by kernel_rfl
theorem nth11b : nthLoop (loopOf Try.f29 0) 0 = some (loopOf Try.f29 1) := by kernel_rfl
theorem inner11 : LoopsOk E11b Try.prog Try.f29 (loopOf Try.f29 0) 1 := loopsOk_of _ 1 fun m a hm ha => by
  rw [nl11b] at hm
  obtain rfl : m = 0 := by omega
  rw [nth11b] at ha
  simp only [Option.some.injEq] at ha
  subst ha
  exact loop11b fun S => rfl

structure X11 where
  s : ByteArray
  k : Nat
def ok11 (x : X11) : Prop := 1 ≤ x.k ∧ x.k ≤ 47 ∧ ∀ j : Int, 1 ≤ j → j < x.k → ¬ hitX j x.s
def vs11 (x : X11) : List SV := v11 x.s x.k
noncomputable def out11 (x : X11) : Vw := bif (decX x.s).ok then .ret (decT2 x.s) [] else .exit 0 51 [.any, .ptr 1024 0 0, .any] [(1024, z5)]

theorem entry11 (l : List SV) (H : Heap) (T : Tr) (h : lp11.get l H = some T) (hb : T.leaf ≠ .bad) : ∃ x r, ok11 x ∧ WkV r lp11.nm l H (vs11 x) ((fun _ => h11) x) ∧ T.leaf = toLf lp11 (out11 x) := by
  replace h : get11 l H = some T := h
  unfold get11 at h
  split at h
  · rename_i s k1 r1 p1 _ k j1 _ a0 _ a1 _ a2 _ a3 _ a4
    simp only [Option.some.injEq] at h
    subst h
    obtain ⟨hn, he⟩ := needs_ne hb
    rw [he]
    simp only [allB, Bool.and_eq_true, Bool.and_true, decide_eq_true_eq, Nat.beq_eq] at hn
    obtain ⟨rfl, rfl, rfl, rfl, rfl, rfl, rfl, rfl, rfl, rfl⟩ := hn
    refine ⟨⟨s, 1⟩, [], ⟨Nat.le_refl _, by show 1 ≤ 47; decide, fun j h1 (h2 : j < ((1 : Nat) : Int)) => by omega⟩, ?_, ?_⟩
    · refine ⟨rfl, ?_, ⟨?_, trivial⟩, rfl, rfl⟩
      · exact ⟨rfl, ⟨rfl, rfl, rfl⟩, ⟨rfl, rfl⟩, trivial⟩
      · simp [rmap, rlook, Ev.look, wkB, simL, sim, z5]
    · simp only [Tr.leaf, exitT_leaf, out11, toLf_cond]
      rfl
  · cases h

attribute [local irreducible] evalB Tr.view decX in
theorem round11 (x : X11) (hx : ok11 x) : Round lp11 ok11 (fun x => 47 - x.k) vs11 (fun _ => h11) out11 x ((evalB E11b Try.prog Try.f29.results.toList (loopOf Try.f29 0) (0 + 1) lp11 (vs11 x) h11).view lp11.ks) := by
  obtain ⟨s, k⟩ := x
  obtain ⟨h1, h2, h3⟩ := hx
  simp only at h1 h2 h3
  have hr := r11 s k
  rw [show evalB E11b Try.prog Try.f29.results.toList (loopOf Try.f29 0) (0 + 1) lp11 (vs11 ⟨s, k⟩) h11 = evalB E11b Try.prog Try.f29.results.toList (loopOf Try.f29 0) 1 lp11 (v11 s k) h11 from rfl, show lp11.ks = [0, 2, 4] from rfl, hr]
  by_cases h : k ≤ 46
  · have e1 : cm .leq (k : Int) 46 = true := by rw [cm_leq']; exact decide_eq_true (by omega)
    have e2 : decide (1 ≤ (k : Int)) = true := decide_eq_true (by omega)
    have e3 : decide ((k : Int) ≤ 46) = true := decide_eq_true (by omega)
    simp only [e1, e2, e3, cond_true, decide_true, (noneX_iff k s).2 h3]
    refine Round_cond (fun hh => ?_) (fun hh => ?_)
    · simp only [Bool.and_eq_true, decide_eq_true_eq] at hh
      refine ⟨decT2 s, [], [], ?_, rfl, ?_, trivial, rfl⟩
      · simp only [out11, hh.1, cond_true]
      · simp [decT2, sim, simL]
    · rw [addOne (show k < 9223372036854775807 by omega)]
      refine ⟨rfl, ⟨s, k + 1⟩, [], ⟨by show 1 ≤ k + 1; omega, by show k + 1 ≤ 47; omega, fun j hj1 (hj2 : j < ((k + 1 : Nat) : Int)) => ?_⟩, by show 47 - (k + 1) < 47 - k; omega, rfl, ?_⟩
      · by_cases hj : j < k
        · exact h3 j hj1 hj
        · obtain rfl : j = (k : Int) := by omega
          rintro ⟨w, rd, rs, n, hd⟩
          have hdec : decX s = ⟨k, w, rd, rs, n, ((strX k w rd rs n).size : Int), true⟩ := decX_is ⟨hj1, by show (k : Int) ≤ 46; omega, hd, rfl, rfl, h3⟩
          rw [hdec] at hh
          simp at hh
      · refine ⟨rfl, ?_, ⟨?_, trivial⟩, rfl, rfl⟩
        · exact ⟨rfl, ⟨rfl, rfl, rfl⟩, ⟨rfl, rfl⟩, trivial⟩
        · simp [rmap, rlook, Ev.look, wkB, simL, sim, z5]
  · obtain rfl : k = 47 := by omega
    have e1 : cm .leq ((47 : Nat) : Int) 46 = false := rfl
    simp only [e1, cond_false]
    have hno := decX_none (s := s) fun j hj1 hj2 => h3 j hj1 (by omega)
    refine ⟨rfl, _, _, [], by simp only [out11, hno, cond_false]; rfl, ?_⟩
    refine ⟨rfl, ?_, ⟨?_, trivial⟩, rfl, rfl⟩
    · exact ⟨trivial, ⟨rfl, rfl, rfl⟩, trivial, trivial⟩
    · simp [rmap, rlook, Ev.look, wkB, simL, sim, z5]

theorem e11l_calls : CallsOk E11L Try.prog := fun f args H nm r h hn => e11_calls f args H nm r h hn
attribute [local irreducible] evalB Tr.view in
theorem loop11 : LoopOk E11L Try.prog Try.f29 0 (loopOf Try.f29 0) :=
  loop_okE mixed (fun S => rfl) (by decide) ok11 (fun x => 47 - x.k) vs11 (fun _ => h11) out11 entry11 fun x hx => ⟨E11b, e11b_calls, inner11, round11 x hx⟩
theorem fn11 : Try.prog.funcs[29]? = some Try.f29 := by kernel_rfl
theorem b11 : Try.f29.body = some (bodyOf Try.f29) := by kernel_rfl
theorem n11 : (Try.f29.name == "runtime.NumGoroutine") = false := by kernel_rfl
theorem nl11 : Code.loops (bodyOf Try.f29) = 2 := by kernel_rfl
theorem nth110 : nthLoop (bodyOf Try.f29) 0 = some (loopOf Try.f29 0) := by kernel_rfl
theorem nth111 : nthLoop (bodyOf Try.f29) 1 = some (loopOf Try.f29 1) := by kernel_rfl
theorem loops11 : LoopsOk E11L Try.prog Try.f29 (bodyOf Try.f29) 0 := loops2 nl11
  (fun a ha => by
    rw [nth110] at ha
    simp only [Option.some.injEq] at ha
    subst ha
    exact loop11)
  (fun a ha => by
    rw [nth111] at ha
    simp only [Option.some.injEq] at ha
    subst ha
    exact loop11b fun S => rfl)

noncomputable def g11 : List SV → Heap → Option R
  | [.str s], [] => some ⟨[], decT2 s, []⟩
  | _, _ => none
attribute [local irreducible] evalF Lf.gives decX in
theorem spec11 : SpecOk Try.prog 29 (specOf g11) := spec_okA false e11l_calls mixed fn11 b11 n11 loops11 g11 fun a0 H0 r hg hn => by
  unfold g11 at hg
  split at hg
  · rename_i s
    simp only [Option.some.injEq] at hg
    subst hg
    refine ⟨_, id, fun _ => rfl, gives_giv (gives_tree (t11 s) ?_)⟩
    refine gives_cond (fun h => ?_) (fun h => ?_)
    · exact gives_ret fun σ σ' => by simp only [decT2, den, denL]
    · have hno : decX s = ⟨0, 0, 0, 0, 0, 0, false⟩ := by
        rcases decX_cases s with hd | hd
        · rw [hd.2.2.2.2.1] at h; cases h
        · exact hd.1
      exact gives_ret fun σ σ' => by simp only [decT2, hno, den, denL]
  · cases hg

end Go.X
end

section
set_option linter.unusedVariables false
open Go Go.Ev Go.Proofs
namespace Go.La

/-- an instruction's four bytes -/
def wd4 (op rd r1 r2 n : Int) : ByteArray := strOf (nth [conv .u8 (Rv.wordL op rd r1 r2 n), conv .u8 (ar .shr .u32 (Rv.wordL op rd r1 r2 n) 8), conv .u8 (ar .shr .u32 (Rv.wordL op rd r1 r2 n) 16), conv .u8 (ar .shr .u32 (Rv.wordL op rd r1 r2 n) 24)] 0) 4
def g48 : List SV → Heap → Option R
  | [.agg [.int false .i64 op, .int false .i64 rd, .int false .i64 r1, .int false .i64 r2, .int false .i64 n]], [] => some ⟨[], .str (wd4 op rd r1 r2 n), []⟩
  | _, _ => none
noncomputable def EW0 : Env := envOf [(60, Rv.sEnc), (44, Rv.sEnc)] noLoop
theorem ew0_calls : CallsOk EW0 Try.prog := (SpecsOk.cons Rv.ok6 (SpecsOk.cons Rv.ok7 SpecsOk.nil)).calls noLoop
theorem ew0_loop : EW0.loop = noLoop := rfl
theorem t48 (op rd r1 r2 n : Int) : (evalF EW0 Try.prog 48 [.agg [.int false .i64 op, .int false .i64 rd, .int false .i64 r1, .int false .i64 r2, .int false .i64 n]] [] 1024).bare = .ret (.str (wd4 op rd r1 r2 n)) [] := by kernel_rfl
theorem t36 (op rd r1 r2 n : Int) : (evalF EW0 Try.prog 36 [.agg [.int false .i64 op, .int false .i64 rd, .int false .i64 r1, .int false .i64 r2, .int false .i64 n]] [] 1024).bare = .ret (.str (wd4 op rd r1 r2 n)) [] := by kernel_rfl
theorem fn48 : Try.prog.funcs[48]? = some Try.f48 := by kernel_rfl
theorem b48 : Try.f48.body = some (bodyOf Try.f48) := by kernel_rfl
theorem n48 : (Try.f48.name == "runtime.NumGoroutine") = false := by kernel_rfl
theorem fn36 : Try.prog.funcs[36]? = some Try.f36 := by kernel_rfl
theorem b36 : Try.f36.body = some (bodyOf Try.f36) := by kernel_rfl
theorem n36 : (Try.f36.name == "runtime.NumGoroutine") = false := by kernel_rfl
attribute [local irreducible] evalF Lf.gives in
theorem spec48 : SpecOk Try.prog 48 (specOf g48) := spec_okA false ew0_calls mixed fn48 b48 n48 (loops_noLoop ew0_loop _ _) g48 fun a0 H0 r hg hn => by
  unfold g48 at hg
  split at hg
  · rename_i op rd r1 r2 n
    simp only [Option.some.injEq] at hg
    subst hg
    exact ⟨_, id, fun _ => rfl, gives_giv (gives_tree (t48 op rd r1 r2 n) (gives_ret fun σ σ' => rfl))⟩
  · cases hg
attribute [local irreducible] evalF Lf.gives in
theorem spec36 : SpecOk Try.prog 36 (specOf g48) := spec_okA false ew0_calls mixed fn36 b36 n36 (loops_noLoop ew0_loop _ _) g48 fun a0 H0 r hg hn => by
  unfold g48 at hg
  split at hg
  · rename_i op rd r1 r2 n
    simp only [Option.some.injEq] at hg
    subst hg
    exact ⟨_, id, fun _ => rfl, gives_giv (gives_tree (t36 op rd r1 r2 n) (gives_ret fun σ σ' => rfl))⟩
  · cases hg

noncomputable def EW : Env := inlF Try.prog (envOf [(48, specOf g48), (36, specOf g48), (50, specOf X.g7), (37, specOf X.g7), (47, specOf g47), (32, specOf g32)] noLoop) [49, 26] [] [] 2
theorem named49 : named Try.prog [49, 26] = true := by kernel_rfl
theorem ew_calls : CallsOk EW Try.prog := (inlF_calls ((SpecsOk.cons spec48 (SpecsOk.cons spec36 (SpecsOk.cons X.spec7 (SpecsOk.cons X.spec8 (SpecsOk.cons spec47 (SpecsOk.cons spec32 SpecsOk.nil)))))).calls noLoop) mixed named49 rfl rfl 2).1
theorem ew_loop : EW.loop = noLoop := rfl
--LEAVES

theorem t34 (y : Y) (i : Int) : (evalF EW Try.prog 34 [SV.ptr 0 0 0, SV.int false .i64 i] (hY y) 1024).bare =
    (bif (decide (0 ≤ i)) then
      bif (decide (i < (y.n : Int))) then
        bif (Nat.blt (i.toNat) (y.n)) then
          bif (Nat.blt (i.toNat) (y.n)) then
            bif (inB y.n i) then
              bif (labB y.n y.lb) then
                bif (Nat.beq (y.n) (y.n)) then
                  bif (Nat.beq (y.n) (y.n)) then
                    bif (Nat.beq (y.n) (y.n)) then
                      bif (Nat.beq (y.n + 1) (y.n + 1)) then
                        bif (Nat.beq (y.n + 1) (y.n + 1)) then
                          bif (cm .eql (y.kd i.toNat) 5) then
                            .ret (.str (wd4 3 1 0 0 (wyZ y i.toNat))) []
                          else
                            bif (cm .eql (y.kd i.toNat) 3) then
                              .ret (.str (wd4 3 0 0 0 (wyZ y i.toNat))) []
                            else
                              bif (decide (0 ≤ i)) then
                                bif (decide (i < (y.n : Int))) then
                                  bif (Nat.blt (i.toNat) (y.n)) then
                                    bif (Nat.blt (i.toNat) (y.n)) then
                                      bif (y.lg i.toNat) then
                                        .ret (.str (wd4 (ar .add .i64 (ar .xor .i64 (ar .sub .i64 (y.op i.toNat) 5) 1) 5) 0 (y.r1 i.toNat) (y.r2 i.toNat) 8 ++ wd4 3 0 0 0 (ar .sub .i64 (wyZ y i.toNat) 4))) []
                                      else
                                        .ret (.str (wd4 (y.op i.toNat) 0 (y.r1 i.toNat) (y.r2 i.toNat) (wyZ y i.toNat))) []
                                    else .bad
                                  else .bad
                                else .bad
                              else .bad
                        else .bad
                      else .bad
                    else .bad
                  else .bad
                else .bad
              else .bad
            else .bad
          else .bad
        else .bad
      else .bad
    else .bad) := by kernel_rfl

theorem t35 (y : Y) (i : Int) : (evalF EW Try.prog 35 [SV.ptr 0 0 0, SV.int false .i64 i] (hY y) 1024).bare =
    (bif (decide (0 ≤ i)) then
      bif (decide (i < (y.n : Int))) then
        bif (Nat.blt (i.toNat) (y.n)) then
          bif (Nat.blt (i.toNat) (y.n)) then
            bif (inB y.n i) then
              bif (labB y.n y.lb) then
                bif (Nat.beq (y.n) (y.n)) then
                  bif (Nat.beq (y.n) (y.n)) then
                    bif (Nat.beq (y.n) (y.n)) then
                      bif (Nat.beq (y.n + 1) (y.n + 1)) then
                        bif (Nat.beq (y.n + 1) (y.n + 1)) then
                          bif (inB y.n i) then
                            bif (Nat.beq (y.n) (y.n)) then
                              bif (Nat.beq (y.n) (y.n)) then
                                bif (Nat.beq (y.n) (y.n)) then
                                  bif (Nat.beq (y.n + 1) (y.n + 1)) then
                                    bif (Nat.beq (y.n + 1) (y.n + 1)) then
                                      bif (cm .eql (y.kd i.toNat) 5) then
                                        .ret (.str (X.strX 40 4 0 0 (ar .sub .i64 (wyZ y i.toNat) (↑(szN y.t (y.kd i.toNat) (y.bs i.toNat).size (y.lg i.toNat)) : Int)))) []
                                      else
                                        bif (bif cm .eql (y.kd i.toNat) 3 then allB [decide (0 ≤ i), decide (i < (y.n : Int)), i.toNat.blt y.n, i.toNat.blt y.n] else true) then
                                          bif (bif cm .eql (y.kd i.toNat) 3 then y.lg i.toNat else false) then
                                            .ret (.str (X.strX 42 4 0 0 (ar .sub .i64 (wyZ y i.toNat) (↑(szN y.t (y.kd i.toNat) (y.bs i.toNat).size (y.lg i.toNat)) : Int)))) []
                                          else
                                            bif (cm .eql (y.kd i.toNat) 3) then
                                              .ret (.str (X.strX 43 4 0 0 (ar .sub .i64 (wyZ y i.toNat) (↑(szN y.t (y.kd i.toNat) (y.bs i.toNat).size (y.lg i.toNat)) : Int)))) []
                                            else
                                              bif (decide (0 ≤ i)) then
                                                bif (decide (i < (y.n : Int))) then
                                                  bif (Nat.blt (i.toNat) (y.n)) then
                                                    bif (Nat.blt (i.toNat) (y.n)) then
                                                      bif (y.lg i.toNat) then
                                                        .ret (.str (X.strX 44 4 (y.op i.toNat) 0 (ar .sub .i64 (wyZ y i.toNat) (↑(szN y.t (y.kd i.toNat) (y.bs i.toNat).size (y.lg i.toNat)) : Int)))) []
                                                      else
                                                        .ret (.str (X.strX 45 4 (y.op i.toNat) 0 (ar .sub .i64 (wyZ y i.toNat) (↑(szN y.t (y.kd i.toNat) (y.bs i.toNat).size (y.lg i.toNat)) : Int)))) []
                                                    else .bad
                                                  else .bad
                                                else .bad
                                              else .bad
                                        else .bad
                                    else .bad
                                  else .bad
                                else .bad
                              else .bad
                            else .bad
                          else .bad
                        else .bad
                      else .bad
                    else .bad
                  else .bad
                else .bad
              else .bad
            else .bad
          else .bad
        else .bad
      else .bad
    else .bad) := by kernel_rfl

theorem t28 (t : Int) (kd : Int) (n : Int) (op : Int) (r1 : Int) (r2 : Int) (to : Int) (s : ByteArray) (l : Bool) : (evalF EW Try.prog 28 [SV.int false .i64 t, SV.agg [SV.int false .i64 kd, SV.str s, SV.int false .i64 n, SV.int false .i64 op, SV.int false .i64 r1, SV.int false .i64 r2], SV.bool false l, SV.int false .i64 to] [] 1024).bare =
    (bif (cm .eql t 1) then
      bif (cm .eql kd 5) then
        .ret (.str (wd4 3 1 0 0 to)) []
      else
        bif (cm .eql kd 3) then
          .ret (.str (wd4 3 0 0 0 to)) []
        else
          bif (!l) then
            .ret (.str (wd4 op 0 r1 r2 to)) []
          else
            .ret (.str (wd4 (ar .add .i64 5 (ar .xor .i64 (ar .sub .i64 op 5) 1)) 0 r1 r2 8 ++ wd4 3 0 0 0 (ar .sub .i64 to 4))) []
    else
      bif (bif cm .eql kd 3 then l else false) then
        .ret (.str (X.strX 42 4 0 0 (ar .sub .i64 to (bif cm .eql kd 1 then (↑s.size : Int) else bif cm .eql kd 2 then 0 else bif cm .eql t 1 then bif bif cm .eql kd 4 then l else false then 8 else 4 else bif bif cm .eql kd 5 then true else bif cm .eql kd 3 then l else false then 5 else bif l then 6 else 2)))) []
      else
        bif (cm .eql kd 3) then
          .ret (.str (X.strX 43 4 0 0 (ar .sub .i64 to (bif cm .eql kd 1 then (↑s.size : Int) else bif cm .eql kd 2 then 0 else bif cm .eql t 1 then bif bif cm .eql kd 4 then l else false then 8 else 4 else bif bif cm .eql kd 5 then true else bif cm .eql kd 3 then l else false then 5 else bif l then 6 else 2)))) []
        else
          bif (bif cm .eql kd 4 then l else false) then
            .ret (.str (X.strX 44 4 op 0 (ar .sub .i64 to (bif cm .eql kd 1 then (↑s.size : Int) else bif cm .eql kd 2 then 0 else bif cm .eql t 1 then bif bif cm .eql kd 4 then l else false then 8 else 4 else bif bif cm .eql kd 5 then true else bif cm .eql kd 3 then l else false then 5 else bif l then 6 else 2)))) []
          else
            bif (cm .eql kd 4) then
              .ret (.str (X.strX 45 4 op 0 (ar .sub .i64 to (bif cm .eql kd 1 then (↑s.size : Int) else bif cm .eql kd 2 then 0 else bif cm .eql t 1 then bif bif cm .eql kd 4 then l else false then 8 else 4 else bif bif cm .eql kd 5 then true else bif cm .eql kd 3 then l else false then 5 else bif l then 6 else 2)))) []
            else
              .ret (.str (X.strX 40 4 0 0 (ar .sub .i64 to (bif cm .eql kd 1 then (↑s.size : Int) else bif cm .eql kd 2 then 0 else bif cm .eql t 1 then bif bif cm .eql kd 4 then l else false then 8 else 4 else bif bif cm .eql kd 5 then true else bif cm .eql kd 3 then l else false then 5 else bif l then 6 else 2)))) []) := by kernel_rfl

end Go.La
end

section
set_option linter.unusedVariables false
open Go Go.Ev Go.Proofs
namespace Go.La

/-- the branch that goes where another one does not -/
def oppI (op : Int) : Int := ar .add .i64 (ar .xor .i64 (ar .sub .i64 op 5) 1) 5
/-- the bytes of a way -/
def byK (t kd op r1 r2 : Int) (lg : Bool) (m : Nat) (w : Int) : ByteArray :=
  bif decide (t = 1) then
    (bif decide (kd = 5) then wd4 3 1 0 0 w else bif decide (kd = 3) then wd4 3 0 0 0 w else bif lg then wd4 (oppI op) 0 r1 r2 8 ++ wd4 3 0 0 0 (ar .sub .i64 w 4) else wd4 op 0 r1 r2 w)
  else
    (bif decide (kd = 5) then X.strX 40 4 0 0 (ar .sub .i64 w (szN t kd m lg : Nat)) else bif decide (kd = 3) && lg then X.strX 42 4 0 0 (ar .sub .i64 w (szN t kd m lg : Nat)) else bif decide (kd = 3) then X.strX 43 4 0 0 (ar .sub .i64 w (szN t kd m lg : Nat))
      else bif lg then X.strX 44 4 op 0 (ar .sub .i64 w (szN t kd m lg : Nat)) else X.strX 45 4 op 0 (ar .sub .i64 w (szN t kd m lg : Nat)))
def byY (y : Y) (i : Nat) : ByteArray := byK y.t (y.kd i) (y.op i) (y.r1 i) (y.r2 i) (y.lg i) (y.bs i).size (wyZ y i)
/-- an item's bytes -/
def byI (y : Y) (i : Nat) : ByteArray := bif decide (y.kd i = 1) then y.bs i else bif decide (y.kd i = 2) then .empty else byY y i

noncomputable def g34 (b : Bool) : List SV → Heap → Option R
  | [.ptr k r c, .int false .i64 i], H => match unY H with
    | some (nn, y) => match Nat.beq k 0 && (Nat.beq r 0 && Nat.beq c 0) with
      | true => some ⟨clsB (decide (y.t = 1) = b) :: inB y.n i :: labB y.n y.lb :: nn, .str (byY y i.toNat), []⟩
      | false => none
    | none => none
  | _, _ => none
theorem fn34 : Try.prog.funcs[34]? = some Try.f34 := by kernel_rfl
theorem b34 : Try.f34.body = some (bodyOf Try.f34) := by kernel_rfl
theorem n34 : (Try.f34.name == "runtime.NumGoroutine") = false := by kernel_rfl
theorem fn35 : Try.prog.funcs[35]? = some Try.f35 := by kernel_rfl
theorem b35 : Try.f35.body = some (bodyOf Try.f35) := by kernel_rfl
theorem n35 : (Try.f35.name == "runtime.NumGoroutine") = false := by kernel_rfl
theorem fn28 : Try.prog.funcs[28]? = some Try.f28 := by kernel_rfl
theorem b28 : Try.f28.body = some (bodyOf Try.f28) := by kernel_rfl
theorem n28 : (Try.f28.name == "runtime.NumGoroutine") = false := by kernel_rfl

attribute [local irreducible] evalF Lf.gives wd4 X.strX in
theorem spec34 : SpecOk Try.prog 34 (specOf (g34 true)) := spec_okA false ew_calls mixed fn34 b34 n34 (loops_noLoop ew_loop _ _) (g34 true) fun a0 H0 r hg hn => by
  unfold g34 at hg
  split at hg
  · rename_i k r c i
    split at hg
    · rename_i nn y hy
      split at hg
      · rename_i hk
        simp only [Bool.and_eq_true, Nat.beq_eq] at hk
        obtain ⟨rfl, rfl, rfl⟩ := hk
        simp only [Option.some.injEq] at hg
        subst hg
        simp only [allB, Bool.and_eq_true, clsB_iff] at hn
        obtain ⟨ht, hi, hlb, hnn⟩ := hn
        have hi' := inB_iff.1 hi
        obtain ⟨h0, h1⟩ := hi'
        refine ⟨_, id, fun _ => rfl, ?_⟩
        show GivesD _ (evalF EW Try.prog 34 _ (roH [] H0) base).leaf
        rw [unY_all hy hnn]
        refine gives_giv (gives_tree (t34 y i) ?_)
        have hl : i.toNat < y.n := by omega
        simp only [decide_eq_true h0, decide_eq_true h1, blt_t hl, cond_true, cm_eql', hi, hlb, beq_t, byY, byK, ht]
        refine gives_cond (fun c => ?_) (fun c => ?_)
        · rw [c]; exact gives_ret fun σ σ' => rfl
        rw [c]
        refine gives_cond (fun c => ?_) (fun c => ?_)
        · rw [c]; exact gives_ret fun σ σ' => rfl
        rw [c]
        refine gives_cond (fun c => ?_) (fun c => ?_)
        · rw [c]; exact gives_ret fun σ σ' => rfl
        · rw [c]; exact gives_ret fun σ σ' => rfl
      · cases hg
    · cases hg
  · cases hg

attribute [local irreducible] evalF Lf.gives wd4 X.strX in
theorem spec35 : SpecOk Try.prog 35 (specOf (g34 false)) := spec_okA false ew_calls mixed fn35 b35 n35 (loops_noLoop ew_loop _ _) (g34 false) fun a0 H0 r hg hn => by
  unfold g34 at hg
  split at hg
  · rename_i k r c i
    split at hg
    · rename_i nn y hy
      split at hg
      · rename_i hk
        simp only [Bool.and_eq_true, Nat.beq_eq] at hk
        obtain ⟨rfl, rfl, rfl⟩ := hk
        simp only [Option.some.injEq] at hg
        subst hg
        simp only [allB, Bool.and_eq_true, clsB_iff] at hn
        obtain ⟨ht, hi, hlb, hnn⟩ := hn
        have hi' := inB_iff.1 hi
        obtain ⟨h0, h1⟩ := hi'
        refine ⟨_, id, fun _ => rfl, ?_⟩
        show GivesD _ (evalF EW Try.prog 35 _ (roH [] H0) base).leaf
        rw [unY_all hy hnn]
        refine gives_giv (gives_tree (t35 y i) ?_)
        have hl : i.toNat < y.n := by omega
        simp only [decide_eq_true h0, decide_eq_true h1, blt_t hl, cond_true, cm_eql', hi, hlb, beq_t, byY, byK, ht, cond_false, allB, Bool.and_true]
        refine gives_cond (fun c => ?_) (fun c => ?_)
        · rw [c]; exact gives_ret fun σ σ' => rfl
        rw [c]
        cases c3 : decide (y.kd i.toNat = 3) <;> cases cl : y.lg i.toNat <;> exact gives_ret fun σ σ' => rfl
      · cases hg
    · cases hg
  · cases hg

/-- the page's -/
noncomputable def g28 : List SV → Heap → Option R
  | [.int false .i64 t, .agg [.int false .i64 kd, .str s, .int false .i64 n, .int false .i64 op, .int false .i64 r1, .int false .i64 r2], .bool false l, .int false .i64 to], [] => some ⟨[clsB (kd = 3 ∨ kd = 4 ∨ kd = 5)], .str (byK t kd op r1 r2 l s.size to), []⟩
  | _, _ => none
theorem opp_comm (op : Int) : ar .add .i64 5 (ar .xor .i64 (ar .sub .i64 op 5) 1) = oppI op := by
  simp only [oppI, ar, Int.add_comm]
attribute [local irreducible] evalF Lf.gives wd4 X.strX in
theorem spec28 : SpecOk Try.prog 28 (specOf g28) := spec_okA false ew_calls mixed fn28 b28 n28 (loops_noLoop ew_loop _ _) g28 fun a0 H0 r hg hn => by
  unfold g28 at hg
  split at hg
  · rename_i t kd s n op r1 r2 l to
    simp only [Option.some.injEq] at hg
    subst hg
    simp only [allB, Bool.and_true, clsB_iff] at hn
    refine ⟨_, id, fun _ => rfl, gives_giv (gives_tree (t28 t kd n op r1 r2 to s l) ?_)⟩
    simp only [cm_eql', opp_comm, byK, szN]
    rcases hn with rfl | rfl | rfl <;> cases ht : decide (t = 1) <;> cases l <;> exact gives_ret fun σ σ' => rfl
  · cases hg

end Go.La
end

section
set_option linter.unusedVariables false
open Go Go.Ev Go.Proofs
namespace Go.Rv

end Go.Rv
end

section
set_option linter.unusedVariables false
open Go Go.Ev Go.Proofs
namespace Go.Rv

def signB (x : BitVec 32) (m : Nat) : Int := ((x <<< (32 - m)).sshiftRight (32 - m)).toInt
def fieldB (k : Int) (w : BitVec 32) : BitVec 32 :=
  if k = 1 then w >>> 20
  else if k = 4 then ((w >>> 7) &&& 31#32) ||| (((w >>> 25) &&& 127#32) <<< 5)
  else if k = 5 then (((((w >>> 7) &&& 1#32) <<< 11) ||| (((w >>> 8) &&& 15#32) <<< 1)) ||| (((w >>> 25) &&& 63#32) <<< 5)) ||| (((w >>> 31) &&& 1#32) <<< 12)
  else (((((w >>> 12) &&& 255#32) <<< 12) ||| (((w >>> 20) &&& 1#32) <<< 11)) ||| (((w >>> 21) &&& 1023#32) <<< 1)) ||| (((w >>> 31) &&& 1#32) <<< 20)
def numB (k : Int) (w : BitVec 32) : Int :=
  if k = 1 then signB (fieldB 1 w) 12 else if k = 2 then ((w >>> 20) &&& 63#32).toNat else if k = 3 then ((w >>> 20) &&& 31#32).toNat
  else if k = 4 then signB (fieldB 4 w) 12 else if k = 5 then signB (fieldB 5 w) 13 else if k = 6 then (w >>> 12).toNat else if k = 7 then signB (fieldB 7 w) 21 else 0
def rdB (k : Int) (w : BitVec 32) : Int := if (hasL k).1 then ((w >>> 7) &&& 31#32).toNat else 0
def r1B (k : Int) (w : BitVec 32) : Int := if (hasL k).2.1 then ((w >>> 15) &&& 31#32).toNat else 0
def r2B (k : Int) (w : BitVec 32) : Int := if (hasL k).2.2 then ((w >>> 20) &&& 31#32).toNat else 0
def asB (op k : Int) (w : BitVec 32) : List SV := [.int false .i64 op, .int false .i64 (rdB k w), .int false .i64 (r1B k w), .int false .i64 (r2B k w), .int false .i64 (numB k w)]

theorem ofU (w : Int) (h0 : 0 ≤ w) (h1 : w < 4294967296) : w = iv .u32 (W w) := by
  simp only [iv, IntKind.signed, Bool.false_eq_true, if_false, W, IntKind.bits]
  rw [BitVec.toNat_ofInt]
  omega
theorem conv64u (Y : BitVec 32) : conv .i64 (iv .u32 Y) = (Y.toNat : Int) := by
  have := Y.isLt
  show IntKind.i64.wrap (Y.toNat : Int) = _
  rw [IntKind.wrap_i64]
  omega
theorem conv64s (Y : BitVec 32) : conv .i64 (iv .i32 Y) = Y.toInt := by
  have h1 := Y.toInt_lt (w := 32)
  have h2 := Y.le_toInt (w := 32)
  show IntKind.i64.wrap Y.toInt = _
  rw [IntKind.wrap_i64]
  omega
theorem conv32 (X : BitVec 32) : conv .i32 (iv .u32 X) = iv .i32 X := by
  rw [conv_iv]
  congr 1
  exact ofInt_iv .u32 X
theorem shrS (X : BitVec 32) (m : Int) (hm : 0 ≤ m) (hn : m.toNat ≤ 32) : ar .shr .i32 (iv .i32 X) m = iv .i32 (X.sshiftRight m.toNat) := ar_shr_s' (k := .i32) rfl X m hm hn

/-- rv.as -/
def s22 : Ev.Spec := fun args H nm => match args with
  | [.int _ .i64 op, .agg [.int _ .i64 k, .int _ .u32 c1, .int _ .u32 c2, .int _ .u32 c3], .int _ .u32 w] =>
    some ⟨[decide (0 ≤ k), decide (k ≤ 8), decide (0 ≤ w), decide (w < 4294967296)], .agg (asB op k (W w)), []⟩
  | _ => none

theorem givesAs {l1 l2 l3 l4 l5 : Bool} {op a b c d : Int} {k : Int} {w : BitVec 32} (h1 : a = rdB k w) (h2 : b = r1B k w) (h3 : c = r2B k w) (h4 : d = numB k w) :
    (Lf.ret (.agg [.int l1 .i64 op, .int l2 .i64 a, .int l3 .i64 b, .int l4 .i64 c, .int l5 .i64 d]) []).gives (.agg (asB op k w)) := by
  subst h1; subst h2; subst h3; subst h4
  intro σ σ'
  simp only [den, denL, asB]

end Go.Rv
end
