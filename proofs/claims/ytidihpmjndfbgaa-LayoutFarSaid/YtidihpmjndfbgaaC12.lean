/-
  layout: the page's Lay: round after round, the bytes; contracts.
-/
import Derived.Test.YtidihpmjndfbgaaC11
set_option linter.unusedSimpArgs false
set_option linter.unusedVariables false
section
set_option linter.unusedVariables false
open Go Go.Ev Go.Proofs
namespace Go.La

theorem e11c_calls : CallsOk E11c Try.prog := fun f args H nm r h hn => er_calls f args H nm r h hn
theorem e11_calls : CallsOk E11 Try.prog := fun f args H nm r h hn => er_calls f args H nm r h hn
attribute [local irreducible] evalB Tr.view in
theorem loop11b : LoopOk E11c Try.prog Try.f11 1 (loopOf Try.f11 1) :=
  loop_okE mixed (fun S => rfl) (by decide) ok11b (fun s => s.x.n - s.j) vs11b hp11b out11b entry11b fun x hx => ⟨ER, er_calls, loops_noLoop er_loop _ _, round11b x hx⟩
theorem lq_11c {E : Env} {P : Program} {res : List ResultVar} {c : Code} {n : Nat} {l : List SV} {H : Heap} : evalB E P res c n lq11c l H = evalB E P res c n lk11c l H := rfl
attribute [local irreducible] evalB Tr.view in
theorem loop11c : LoopOk E11c Try.prog Try.f11 2 (loopOf Try.f11 2) :=
  loop_okE mixed (fun S => rfl) (by decide) ok11c (fun s => s.x.n - s.j) vs11c hp11c out11c entry11c fun x hx => ⟨ER, er_calls, loops_noLoop er_loop _ _, by rw [lq_11c]; exact round11c x hx⟩
theorem nl11a : Code.loops (loopOf Try.f11 0) = 2 := by kernel_rfl
theorem nth11b : nthLoop (loopOf Try.f11 0) 0 = some (loopOf Try.f11 1) := by kernel_rfl
theorem nth11c : nthLoop (loopOf Try.f11 0) 1 = some (loopOf Try.f11 2) := by kernel_rfl
theorem loops11a : LoopsOk E11c Try.prog Try.f11 (loopOf Try.f11 0) 1 := loopsOk_of _ 1 fun m a hm ha => by
  rw [nl11a] at hm
  rcases m with _ | _ | m
  · rw [nth11b] at ha; simp only [Option.some.injEq] at ha; subst ha; exact loop11b
  · rw [nth11c] at ha; simp only [Option.some.injEq] at ha; subst ha; exact loop11c
  · omega

/-! round after round -/
structure X11a where
  x : It
  t : Int
  lg : Nat → Bool
  p : Nat → Int
  q : Nat → Int
  f : Nat
def ok11a (s : X11a) : Prop := okP s.t s.x ∧ cntF s.lg s.x.n ≤ s.f ∧ finL s.x s.t s.f s.lg = lastL s.x s.t ∧ ∀ c : Nat, domK s.x s.x.n (c : Int) = false → s.q c = 0
def vs11a (s : X11a) : List SV := v11a s.x s.t
def hp11a (s : X11a) : Heap := hR s.x s.lg s.p s.q
def out11a (s : X11a) : Vw := .exit 0 164 [.int false .i64 s.t, .sl 0 s.x.n, .sl 1104 s.x.n, .sl 1168 s.x.n, .sl 1200 32001] (hR s.x (lastL s.x s.t) (posP s.x s.t (lastL s.x s.t)) (labQ s.x s.t (lastL s.x s.t)))

theorem entry11a (l : List SV) (H : Heap) (T : Tr) (h : lq11a.get l H = some T) (hb : T.leaf ≠ .bad) : ∃ x r, ok11a x ∧ WkV r lq11a.nm l H (vs11a x) (hp11a x) ∧ T.leaf = toLf lq11a (out11a x) := by
  replace h : get11a l H = some T := h
  unfold get11a at h
  split at h
  · rename_i _ t ka na kl nl kp np kq nq j0 n1 kd bs N op r1 r2 _ j1 n2 lg j2 n3 p j3 n4 q
    simp only [Option.some.injEq] at h
    subst h
    obtain ⟨hn, he⟩ := needs_ne hb
    rw [he]
    simp only [allB, Bool.and_eq_true, Bool.and_true, decide_eq_true_eq, Nat.beq_eq, rowsB, okB, fB, eqI1, clsB_iff] at hn
    obtain ⟨rfl, rfl, rfl, rfl, rfl, rfl, rfl, rfl, rfl, rfl, rfl, rfl, rfl, rfl, rfl, hok, rfl, rfl⟩ := hn
    refine ⟨⟨⟨n3, kd, bs, N, op, r1, r2⟩, t, fun _ => false, p, fun _ => 0, n3⟩, [], ⟨hok, cntF_n _ _, rfl, fun _ _ => rfl⟩, ?_, ?_⟩
    · exact ⟨rfl, ⟨⟨rfl, rfl⟩, ⟨rfl, rfl⟩, ⟨rfl, rfl⟩, ⟨rfl, rfl⟩, ⟨rfl, rfl⟩, trivial⟩, hR_wk ⟨n3, kd, bs, N, op, r1, r2⟩ (fun _ _ => rfl) (fun _ _ => rfl) (fun _ _ => rfl), rfl, rfl⟩
    · simp only [exitT_leaf, out11a]
      rfl
  · cases h

theorem hR_wkG (x : It) {f : Bool} {lg nx nx' : Nat → Bool} {p q : Nat → Int} (h1 : ∀ i, i < x.n → nx i = nx' i) :
    wkH (rmap [(1104, .old 1312)]) [(0, .tab x.n x.cols f), (1104, .tab x.n [.bools lg] true), (1168, .tab x.n [.ints .i64 p] true), (1200, .tab 32001 [.ints .i64 q] true), (1312, .tab x.n [.bools nx] true)] (hR x nx' p q) := by
  simp [hR, wkH, wkB, wkCs, wkC, rmap, rlook, Ev.look, It.cols]
  exact h1
theorem lq_11a {E : Env} {P : Program} {res : List ResultVar} {c : Code} {n : Nat} {l : List SV} {H : Heap} : evalB E P res c n lq11a l H = evalB E P res c n lk11a l H := rfl
attribute [local irreducible] evalB Tr.view in
theorem round11a (s : X11a) (hx : ok11a s) : Round lq11a ok11a (fun s => s.f) vs11a hp11a out11a s ((evalB E11c Try.prog Try.f11.results.toList (loopOf Try.f11 0) (0 + 1) lk11a (vs11a s) (hp11a s)).view lq11a.ks) := by
  obtain ⟨x, t, lg, p, q, f⟩ := s
  obtain ⟨h0, h1, h2, h3⟩ := hx
  simp only at h0 h1 h2 h3
  have hr := r11a x t lg p q
  rw [show evalB E11c Try.prog Try.f11.results.toList (loopOf Try.f11 0) (0 + 1) lk11a (vs11a ⟨x, t, lg, p, q, f⟩) (hp11a ⟨x, t, lg, p, q, f⟩) = evalB E11c Try.prog Try.f11.results.toList (loopOf Try.f11 0) 1 lk11a (v11a x t) (hR x lg p q) from rfl, show lq11a.ks = [0, 1, 7, 8, 9] from rfl, hr]
  have hs := h0.1
  have a1 : rowsB 32001 = true := cls_t rfl
  have a2 : okB t x = true := cls_t h0
  have a3 : qB x q = true := cls_t h3
  have a4 : eqI1 (posP x t lg) (posP x t lg) = true := cls_t rfl
  have a5 : eqI1 (labQ x t lg) (labQ x t lg) = true := cls_t rfl
  have a6 : eqB1 x.n (cat 0 (fun _ => false) lg) lg = true := cls_t fun i _ => rfl
  have a7 : Nat.beq (0 + x.n) x.n = true := by rw [Nat.beq_eq]; omega
  simp only [a1, a2, a3, a4, a5, a6, a7, beq_t, ble_t (Nat.le_refl x.n), ble_t (show (0 + x.n) * 1 ≤ 1099511627776 by omega), cond_true]
  cases ha : anyG (yOf x t lg) with
  | true =>
    simp only [Bool.not_true, cond_false]
    have hlt : cntF (growF (yOf x t lg)) x.n < cntF lg x.n := grow_cnt ha
    cases f with
    | zero => omega
    | succ f =>
      have hf : finL x t f (growF (yOf x t lg)) = lastL x t := by
        rw [← h2]; simp only [finL, ha, cond_true]
      refine ⟨rfl, ⟨x, t, growF (yOf x t lg), posP x t lg, labQ x t lg, f⟩, [(1104, .old 1312)], ⟨h0, by simp only; omega, hf, fun c hc => labQ_q c hc⟩, Nat.lt_succ_self f, rfl, rfl, ?_, ?_, rfl, rfl⟩
      · exact ⟨⟨rfl, rfl⟩, ⟨rfl, rfl⟩, ⟨rfl, rfl⟩, ⟨rfl, rfl⟩, ⟨rfl, rfl⟩, trivial⟩
      · exact hR_wkG x fun _ _ => rfl
  | false =>
    simp only [Bool.not_false, cond_true]
    have hl : lg = lastL x t := by
      rw [← h2]
      cases f with
      | zero => rfl
      | succ f => simp only [finL, ha, cond_false]
    refine ⟨rfl, [.int false .i64 t, .sl 0 x.n, .sl 1104 x.n, .sl 1168 x.n, .sl 1200 32001], _, [(1104, .old 1312)], rfl, rfl, ?_, ?_, rfl, rfl⟩
    · exact ⟨⟨rfl, rfl⟩, ⟨rfl, rfl⟩, ⟨rfl, rfl⟩, ⟨rfl, rfl⟩, ⟨rfl, rfl⟩, trivial⟩
    · show wkH _ _ (hR x (lastL x t) (posP x t (lastL x t)) (labQ x t (lastL x t)))
      rw [← hl]
      refine hR_wkG x fun i hi => ?_
      show (lg i || mayB (yOf x t lg) i) = lg i
      have : mayB (yOf x t lg) i = false := by
        rw [Bool.eq_false_iff]
        intro hm
        have : anyG (yOf x t lg) = true := anyG_iff.2 ⟨i, hi, hm⟩
        rw [ha] at this; cases this
      rw [this, Bool.or_false]
attribute [local irreducible] evalB Tr.view in
theorem loop11a : LoopOk E11 Try.prog Try.f11 0 (loopOf Try.f11 0) :=
  loop_okE mixed (fun S => rfl) (by decide) ok11a (fun s => s.f) vs11a hp11a out11a entry11a fun x hx => ⟨E11c, e11c_calls, loops11a, by rw [lq_11a]; exact round11a x hx⟩

/-! the bytes -/
structure X11d where
  x : It
  t : Int
  j : Nat
def ok11d (s : X11d) : Prop := s.j ≤ s.x.n ∧ okP s.t s.x
def hpD (x : It) (t : Int) (m : Nat) (g : Nat → Int) : Heap := hRb x (lastL x t) (posP x t (lastL x t)) (labQ x t (lastL x t)) m g
def vs11d (s : X11d) : List SV := v11d s.x s.t (catB (yL s.x s.t) s.j).size s.j
def hp11d (s : X11d) : Heap := hpD s.x s.t (catB (yL s.x s.t) s.j).size (chr (catB (yL s.x s.t) s.j))
def out11d (s : X11d) : Vw := .exit 6 164 [.any, .any, .any, .sl 1168 s.x.n, .any, .sl 1800 (outB s.x s.t).size, .any] (hpD s.x s.t (outB s.x s.t).size (chr (outB s.x s.t)))

theorem hRb_wkN (x : It) {f : Bool} {lg : Nat → Bool} {p q : Nat → Int} {g : Nat → Int} :
    wkH (rmap [(1800, .nil 1)]) [(0, .tab x.n x.cols f), (1104, .tab x.n [.bools lg] true), (1168, .tab x.n [.ints .i64 p] true), (1200, .tab 32001 [.ints .i64 q] true)] (hRb x lg p q 0 g) := by
  simp [hRb, hR, wkH, wkB, wkCs, wkC, wkN, rmap, rlook, Ev.look, It.cols]
theorem hRb_wk (x : It) {f : Bool} {lg : Nat → Bool} {p q : Nat → Int} {m : Nat} {g g' : Nat → Int} {more : Heap} (hg : ∀ i, i < m → g i = g' i) :
    wkH (rmap []) ((0, .tab x.n x.cols f) :: (1104, .tab x.n [.bools lg] true) :: (1168, .tab x.n [.ints .i64 p] true) :: (1200, .tab 32001 [.ints .i64 q] true) :: (1800, .tab m [.ints .u8 g] true) :: more) (hRb x lg p q m g') := by
  simp [hRb, hR, wkH, wkB, wkCs, wkC, rmap, rlook, Ev.look, It.cols]
  exact hg
theorem hRb_wkA (x : It) {f : Bool} {lg : Nat → Bool} {p q : Nat → Int} {m k : Nat} {b c : Blk} {g g' : Nat → Int} (hk : k = 2172 ∨ k = 2444 ∨ k = 2476 ∨ k = 2508) (hg : ∀ i, i < m → g i = g' i) :
    wkH (rmap [(1800, .old k)]) [(0, .tab x.n x.cols f), (1104, .tab x.n [.bools lg] true), (1168, .tab x.n [.ints .i64 p] true), (1200, .tab 32001 [.ints .i64 q] true), (1800, b), (2028, c), (k, .tab m [.ints .u8 g] true)] (hRb x lg p q m g') := by
  rcases hk with rfl | rfl | rfl | rfl <;> (simp [hRb, hR, wkH, wkB, wkCs, wkC, rmap, rlook, Ev.look, It.cols]; exact hg)

theorem entry11d (l : List SV) (H : Heap) (T : Tr) (h : lq11d.get l H = some T) (hb : T.leaf ≠ .bad) : ∃ x r, ok11d x ∧ WkV r lq11d.nm l H (vs11d x) (hp11d x) ∧ T.leaf = toLf lq11d (out11d x) := by
  replace h : get11d l H = some T := h
  unfold get11d at h
  split at h
  · rename_i _ t ka na kl nl kp np kq nq _ i j0 n1 kd bs N op r1 r2 _ j1 n2 lg j2 n3 p j3 n4 q
    simp only [Option.some.injEq] at h
    subst h
    obtain ⟨hn, he⟩ := needs_ne hb
    rw [he]
    simp only [allB, Bool.and_eq_true, Bool.and_true, decide_eq_true_eq, Nat.beq_eq, rowsB, okB, eqI1, clsB_iff] at hn
    obtain ⟨rfl, rfl, rfl, rfl, rfl, rfl, rfl, rfl, rfl, rfl, rfl, rfl, rfl, rfl, rfl, rfl, hok, rfl, rfl, rfl⟩ := hn
    refine ⟨⟨⟨n3, kd, bs, N, op, r1, r2⟩, t, 0⟩, [(1800, .nil 1)], ⟨Nat.zero_le _, hok⟩, ?_, ?_⟩
    · exact ⟨rfl, ⟨⟨rfl, rfl⟩, ⟨rfl, rfl⟩, ⟨rfl, rfl⟩, ⟨rfl, rfl⟩, ⟨rfl, rfl⟩, ⟨trivial, rfl, 1, rfl⟩, ⟨rfl, rfl⟩, trivial⟩, hRb_wkN ⟨n3, kd, bs, N, op, r1, r2⟩, rfl, rfl⟩
    · simp only [exitT_leaf, out11d]
      rfl
  · cases h

theorem byI_1 {y : Y} {i : Nat} (h : y.kd i = 1) : byI y i = y.bs i := by unfold byI; rw [decide_eq_true h]; rfl
theorem byI_2 {y : Y} {i : Nat} (h : y.kd i = 2) : byI y i = .empty := by unfold byI; rw [h]; rfl
theorem byI_w {y : Y} {i : Nat} (h : y.kd i = 3 ∨ y.kd i = 4 ∨ y.kd i = 5) : byI y i = byY y i := by
  unfold byI
  rcases h with h | h | h <;> rw [h] <;> rfl
theorem out_small {x : It} {t : Int} (h : okP t x) : ∀ j, j ≤ x.n → (catB (yL x t) j).size ≤ 64 * j := catB_le (y := yL x t) fun i hi => by
  have hi' : i < x.n := hi
  rw [by_size h hi']
  exact szN_le ((fewB_iff.1 (ok_few h)).2 i hi')
theorem app_empty (a : ByteArray) : a ++ ByteArray.empty = a := ByteArray.append_empty

attribute [local irreducible] evalB Tr.view byK in
theorem round11d (s : X11d) (hx : ok11d s) : Round lq11d ok11d (fun s => s.x.n - s.j) vs11d hp11d out11d s ((evalB ER Try.prog Try.f11.results.toList (loopOf Try.f11 3) (3 + 1) lp11d (vs11d s) (hp11d s)).view lq11d.ks) := by
  obtain ⟨x, t, j⟩ := s
  obtain ⟨h0, h1⟩ := hx
  simp only at h0 h1
  have hs := h1.1
  have hr := r11d x t (lastL x t) (posP x t (lastL x t)) (labQ x t (lastL x t)) (catB (yL x t) j).size (chr (catB (yL x t) j)) j
  rw [show evalB ER Try.prog Try.f11.results.toList (loopOf Try.f11 3) (3 + 1) lp11d (vs11d ⟨x, t, j⟩) (hp11d ⟨x, t, j⟩) = evalB ER Try.prog Try.f11.results.toList (loopOf Try.f11 3) 4 lp11d (v11d x t (catB (yL x t) j).size j) (hRb x (lastL x t) (posP x t (lastL x t)) (labQ x t (lastL x t)) (catB (yL x t) j).size (chr (catB (yL x t) j))) from rfl, show lq11d.ks = [0, 1, 7, 8, 9, 16, 17] from rfl, hr]
  by_cases hj : j < x.n
  · have e1 : cm .lss (j : Int) (x.n : Int) = true := by rw [cm_lss']; exact decide_eq_true (by omega)
    have e2 : decide (0 ≤ (j : Int)) = true := decide_eq_true (by omega)
    have e3 : decide ((j : Int) < (x.n : Int)) = true := decide_eq_true (by omega)
    have hb := out_small h1 j h0
    have hb1 : (byI (yL x t) j).size ≤ 64 := by
      rw [by_size h1 hj]
      exact szN_le ((fewB_iff.1 (ok_few h1)).2 j hj)
    have hkd := one_kd (ok_one h1 hj)
    have hw : x.kd j = 3 ∨ x.kd j = 4 ∨ x.kd j = 5 → byK t (x.kd j) (x.op j) (x.r1 j) (x.r2 j) (lastL x t j) (x.bs j).size (ar .sub .i64 (labQ x t (lastL x t) (x.N j).toNat) (posP x t (lastL x t) j)) = byI (yL x t) j := fun hk => by
      rw [(lab_way h1 hj hk).1, byI_w hk]
      rfl
    have hw2 : x.kd j = 3 ∨ x.kd j = 4 ∨ x.kd j = 5 → decide (0 ≤ x.N j) = true ∧ decide (x.N j < 32001) = true ∧ Nat.blt (x.N j).toNat 32001 = true := fun hk => by
      obtain ⟨_, q0, q1⟩ := lab_way (lg := lastL x t) h1 hj hk
      exact ⟨decide_eq_true q0, decide_eq_true (by omega), blt_t (by omega)⟩
    have hnext : ∀ k, k = 2172 ∨ k = 2444 ∨ k = 2476 ∨ k = 2508 → ∀ (b c : Blk) (f : Bool), Round lq11d ok11d (fun s => s.x.n - s.j) vs11d hp11d out11d ⟨x, t, j⟩
        (.norm 164 [.int false .i64 t, .sl 0 x.n, .sl 1104 x.n, .sl 1168 x.n, .sl 1200 32001, .sl k ((catB (yL x t) j).size + (byI (yL x t) j).size), .int false .i64 ((j + 1 : Nat) : Int)]
          [(0, .tab x.n x.cols f), (1104, .tab x.n [.bools (lastL x t)] true), (1168, .tab x.n [.ints .i64 (posP x t (lastL x t))] true), (1200, .tab 32001 [.ints .i64 (labQ x t (lastL x t))] true), (1800, b), (2028, c),
            (k, .tab ((catB (yL x t) j).size + (byI (yL x t) j).size) [.ints .u8 (cat (catB (yL x t) j).size (chr (catB (yL x t) j)) (chr (byI (yL x t) j)))] true)]) := fun k hk b c f => by
      refine ⟨rfl, ⟨x, t, j + 1⟩, [(1800, .old k)], ⟨hj, h1⟩, by show x.n - (j + 1) < x.n - j; omega, rfl, ?_, ?_, ?_, ?_, rfl⟩
      · rcases hk with rfl | rfl | rfl | rfl <;> rfl
      · refine ⟨⟨rfl, rfl⟩, ⟨rfl, rfl⟩, ⟨rfl, rfl⟩, ⟨rfl, rfl⟩, ⟨rfl, rfl⟩, ⟨?_, ?_⟩, ⟨rfl, rfl⟩, trivial⟩
        · rcases hk with rfl | rfl | rfl | rfl <;> rfl
        · exact (app_size _ _).symm
      · show wkH _ _ (hRb x _ _ _ (catB (yL x t) j ++ byI (yL x t) j).size (chr (catB (yL x t) j ++ byI (yL x t) j)))
        rw [app_size]
        exact hRb_wkA x hk fun i _ => chr_app _ _ i
      · rcases hk with rfl | rfl | rfl | rfl <;> rfl
    simp only [e1, e2, e3, blt_t hj, cond_true, Int.toNat_natCast, addOne (show j < 9223372036854775807 by omega), ble_t (Nat.le_refl _)]
    rcases hkd with k | k | k | k | k
    · have c1 : cm .eql (x.kd j) 1 = true := by rw [k]; rfl
      have hb1' : (x.bs j).size ≤ 64 := (fewB_iff.1 (ok_few h1)).2 j hj
      simp only [c1, cond_true, ble_t (show ((catB (yL x t) j).size + (x.bs j).size) * 1 ≤ 1099511627776 by omega)]
      have := hnext 2172 (.inl rfl)
      rw [byI_1 (y := yL x t) k] at this
      exact this _ _ _
    · have c1 : cm .eql (x.kd j) 1 = false := by rw [k]; rfl
      have c3 : cm .eql (x.kd j) 3 = false := by rw [k]; rfl
      have c4 : cm .eql (x.kd j) 4 = false := by rw [k]; rfl
      have c5 : cm .eql (x.kd j) 5 = false := by rw [k]; rfl
      simp only [c1, c3, c4, c5, cond_false]
      have hcat : catB (yL x t) (j + 1) = catB (yL x t) j := by
        show catB (yL x t) j ++ byI (yL x t) j = _
        rw [byI_2 (y := yL x t) k, app_empty]
      refine ⟨rfl, ⟨x, t, j + 1⟩, [], ⟨hj, h1⟩, by show x.n - (j + 1) < x.n - j; omega, rfl, rfl, ?_, ?_, rfl, rfl⟩
      · exact ⟨⟨rfl, rfl⟩, ⟨rfl, rfl⟩, ⟨rfl, rfl⟩, ⟨rfl, rfl⟩, ⟨rfl, rfl⟩, ⟨rfl, by rw [hcat]⟩, ⟨rfl, rfl⟩, trivial⟩
      · show wkH _ _ (hRb x _ _ _ (catB (yL x t) (j + 1)).size (chr (catB (yL x t) (j + 1))))
        rw [hcat]
        exact hRb_wk x fun _ _ => rfl
    · have c1 : cm .eql (x.kd j) 1 = false := by rw [k]; rfl
      have c3 : cm .eql (x.kd j) 3 = true := by rw [k]; rfl
      obtain ⟨a1, a2, a3⟩ := hw2 (.inl k)
      simp only [c1, c3, a1, a2, a3, cond_false, cond_true, hw (.inl k), cls_t (show x.kd j = 3 ∨ x.kd j = 4 ∨ x.kd j = 5 from .inl k), ble_t (show ((catB (yL x t) j).size + (byI (yL x t) j).size) * 1 ≤ 1099511627776 by omega)]
      exact hnext 2444 (.inr (.inl rfl)) _ _ _
    · have c1 : cm .eql (x.kd j) 1 = false := by rw [k]; rfl
      have c3 : cm .eql (x.kd j) 3 = false := by rw [k]; rfl
      have c4 : cm .eql (x.kd j) 4 = true := by rw [k]; rfl
      obtain ⟨a1, a2, a3⟩ := hw2 (.inr (.inl k))
      simp only [c1, c3, c4, a1, a2, a3, cond_false, cond_true, hw (.inr (.inl k)), cls_t (show x.kd j = 3 ∨ x.kd j = 4 ∨ x.kd j = 5 from .inr (.inl k)), ble_t (show ((catB (yL x t) j).size + (byI (yL x t) j).size) * 1 ≤ 1099511627776 by omega)]
      exact hnext 2476 (.inr (.inr (.inl rfl))) _ _ _
    · have c1 : cm .eql (x.kd j) 1 = false := by rw [k]; rfl
      have c3 : cm .eql (x.kd j) 3 = false := by rw [k]; rfl
      have c4 : cm .eql (x.kd j) 4 = false := by rw [k]; rfl
      have c5 : cm .eql (x.kd j) 5 = true := by rw [k]; rfl
      obtain ⟨a1, a2, a3⟩ := hw2 (.inr (.inr k))
      simp only [c1, c3, c4, c5, a1, a2, a3, cond_false, cond_true, hw (.inr (.inr k)), cls_t (show x.kd j = 3 ∨ x.kd j = 4 ∨ x.kd j = 5 from .inr (.inr k)), ble_t (show ((catB (yL x t) j).size + (byI (yL x t) j).size) * 1 ≤ 1099511627776 by omega)]
      exact hnext 2508 (.inr (.inr (.inr rfl))) _ _ _
  · obtain rfl : j = x.n := by omega
    have e1 : cm .lss (x.n : Int) (x.n : Int) = false := by simp [cm]
    simp only [e1, cond_false]
    refine ⟨rfl, [.any, .any, .any, .sl 1168 x.n, .any, .sl 1800 (outB x t).size, .any], _, [], rfl, rfl, ?_, ?_, rfl, rfl⟩
    · exact ⟨trivial, trivial, trivial, ⟨rfl, rfl⟩, trivial, ⟨rfl, rfl⟩, trivial, trivial⟩
    · exact hRb_wk x fun _ _ => rfl

theorem lq_11d {E : Env} {P : Program} {res : List ResultVar} {c : Code} {n : Nat} {l : List SV} {H : Heap} : evalB E P res c n lq11d l H = evalB E P res c n lp11d l H := rfl
attribute [local irreducible] evalB Tr.view in
theorem loop11d : LoopOk E11 Try.prog Try.f11 3 (loopOf Try.f11 3) :=
  loop_okE mixed (fun S => rfl) (by decide) ok11d (fun s => s.x.n - s.j) vs11d hp11d out11d entry11d fun x hx => ⟨ER, er_calls, loops_noLoop er_loop _ _, by rw [lq_11d]; exact round11d x hx⟩

end Go.La
end

section
set_option linter.unusedVariables false
open Go Go.Ev Go.Proofs
namespace Go.La

theorem fn11 : Try.prog.funcs[11]? = some Try.f11 := by kernel_rfl
theorem b11 : Try.f11.body = some (bodyOf Try.f11) := by kernel_rfl
theorem n11 : (Try.f11.name == "runtime.NumGoroutine") = false := by kernel_rfl
theorem nl11 : Code.loops (bodyOf Try.f11) = 4 := by kernel_rfl
theorem nth11_0 : nthLoop (bodyOf Try.f11) 0 = some (loopOf Try.f11 0) := by kernel_rfl
theorem nth11_3 : nthLoop (bodyOf Try.f11) 3 = some (loopOf Try.f11 3) := by kernel_rfl
theorem loops11 : LoopsOk E11 Try.prog Try.f11 (bodyOf Try.f11) 0 := loopsOk_of _ 0 fun m a hm ha => by
  rw [nl11] at hm
  rcases m with _ | _ | _ | _ | m
  · rw [nth11_0] at ha; simp only [Option.some.injEq] at ha; subst ha; exact loop11a
  · exact fun S T hT => by cases hT
  · exact fun S T hT => by cases hT
  · rw [nth11_3] at ha; simp only [Option.some.injEq] at ha; subst ha; exact loop11d
  · omega

theorem out_pos {x : It} {t : Int} (h : okP t x) : ∀ j, j ≤ x.n → (catB (yL x t) j).size = posN (y0 x t (lastL x t)) j
  | 0, _ => rfl
  | j + 1, hj => by
    simp only [catB, app_size, posN]
    rw [out_pos h j (by omega), by_size h (show j < x.n by omega)]
    rfl
theorem out_end {x : It} {t : Int} (h : okP t x) : ((outB x t).size : Int) = endN x t := by
  rw [outB, out_pos h x.n (Nat.le_refl _)]
  rfl

noncomputable def g11 (b : Bool) : List SV → Heap → Option R
  | [.int false .i64 t, .sl k n], [(j0, .tab n1 [.ints .i64 kd, .strs bs, .ints .i64 N, .ints .i64 op, .ints .i64 r1, .ints .i64 r2] _)] => match Nat.beq k 0 && Nat.beq j0 0 with
    | true => some ⟨[Nat.beq n n1, okB t ⟨n1, kd, bs, N, op, r1, r2⟩, clsB (fitB ⟨n1, kd, bs, N, op, r1, r2⟩ t = b)], .tup [.str (outB ⟨n1, kd, bs, N, op, r1, r2⟩ t), .sl 1024 n1, .bool true b], [(1024, .tab n1 [.ints .i64 (yL ⟨n1, kd, bs, N, op, r1, r2⟩ t).pos] true)]⟩
    | false => none
  | _, _ => none
attribute [local irreducible] evalF catB in
theorem spec11 (b : Bool) : SpecOk Try.prog 11 (specOf (g11 b)) := spec_okA false e11_calls mixed fn11 b11 n11 loops11 (g11 b) fun a0 H0 r hg hn => by
  unfold g11 at hg
  split at hg
  · rename_i t k n j0 n1 kd bs N op r1 r2 _
    split at hg
    · rename_i hk
      simp only [Bool.and_eq_true, Nat.beq_eq] at hk
      obtain ⟨rfl, rfl⟩ := hk
      simp only [Option.some.injEq] at hg
      subst hg
      simp only [allB, Bool.and_eq_true, Bool.and_true, Nat.beq_eq, clsB_iff] at hn
      obtain ⟨rfl, hok, hfit⟩ := hn
      refine ⟨_, id, fun _ => rfl, ?_⟩
      show GivesD _ (evalF E11 Try.prog 11 [.int false .i64 t, .sl 0 n] (hI ⟨n, kd, bs, N, op, r1, r2⟩) 1024).leaf
      rw [t11 ⟨n, kd, bs, N, op, r1, r2⟩ t]
      generalize hx : (⟨n, kd, bs, N, op, r1, r2⟩ : It) = x at *
      have hP : okP t x := clsB_iff.1 hok
      have hs := hP.1
      have hfar : cm .leq ((outB x t).size : Int) 258048 = b := by
        rw [← hfit, out_end hP, cm_leq', fitB]
        rw [Bool.eq_iff_iff, clsB_iff, decide_eq_true_iff]
      have hn1 : n = x.n := by rw [← hx]
      subst hn1
      repeat' refine gd_need (by first | exact beq_t _ | exact hok | exact decide_eq_true (by omega) | exact ble_t (by omega) | exact blt_t (by omega) | exact clsB_iff.2 trivial | exact clsB_iff.2 rfl | exact (Nat.beq_eq _ _).2 (Int.toNat_natCast _)) ?_
      refine ⟨[(1024, .old 1168)], rfl, fun σ => ?_, ?_, rfl⟩
      · simp only [strOf_chr, hfar]
        rfl
      · simp [wkH, wkB, wkCs, wkC, rmap, rlook, Ev.look]
        exact fun _ _ => rfl
    · cases hg
  · cases hg

end Go.La
end

section
set_option linter.unusedVariables false
open Go Go.Ev Go.Proofs
namespace Go.La

/-- what Heavy reckons -/
def hvF (x : It) : Nat → Nat → Int → Int
  | 0, _, n => n
  | f + 1, i, n => bif decide (i < x.n) && decide (n < 1048576) then hvF x f (i + 1) (ar .add .i64 n ((x.bs i).size : Int)) else n
def hvN (x : It) : Int := hvF x x.n 0 (x.n : Int)
def heavyP (x : It) : Bool := decide (20000 < hvN x)
def h8 (x : It) (t : Int) : Heap := [(0, .tab x.n x.cols false), (1024, .cells [.int false .i64 t, .sl 0 x.n])]
def v8 (n i : Int) : List SV := [.ptr 1024 0 0, .int false .i64 n, .int false .i64 i]
def lk8 : Lp := ⟨30, [1, 3, 4], 1136, fun _ _ => none⟩
def get8 : List SV → Heap → Option Tr
  | [.ptr k r c, .int _ .i64 n, .int _ .i64 i], [(j0, .tab n1 [.ints .i64 kd, .strs bs, .ints .i64 N, .ints .i64 op, .ints .i64 r1, .ints .i64 r2] _), (j1, .cells [.int _ .i64 t, .sl k0 n0])] =>
    some (Tr.needs [Nat.beq k 1024, Nat.beq r 0, Nat.beq c 0, decide (n = n1), decide (i = 0), Nat.beq j0 0, Nat.beq j1 1024, Nat.beq k0 0, Nat.beq n0 n1, Nat.ble n1 4611686018427387904]
      (exitT lk8 0 [.any, .int false .i64 (hvN ⟨n1, kd, bs, N, op, r1, r2⟩), .any] []))
  | _, _ => none
def lq8 : Lp := { lk8 with get := get8 }
noncomputable def E8 : Env := ⟨EI.call, loopEnv [(0, lq8)]⟩
/-! two items -/
def x2 : It := ⟨2, nth [2, 3] 0, nth [⟨#[]⟩, ⟨#[]⟩] ByteArray.empty, nth [1, 1] 0, nth [0, 0] 0, nth [0, 0] 0, nth [0, 0] 0⟩
noncomputable def E15 : Env := inlF Try.prog (envOf [(9, specOf g9T), (13, specOf g13)] noLoop) [12] [] [] 3
theorem named12 : named Try.prog [12] = true := by kernel_rfl
theorem e15_calls : CallsOk E15 Try.prog := (inlF_calls ((SpecsOk.cons spec9T (SpecsOk.cons spec13 SpecsOk.nil)).calls noLoop) mixed named12 rfl rfl 3).1
theorem e15_loop : E15.loop = noLoop := rfl
--LEAVES

theorem r8 (x : It) (t : Int) (n : Int) (i : Int) : (evalB EI Try.prog Try.f8.results.toList (loopOf Try.f8 0) 1 lk8 (v8 n i) (h8 x t)).view [1, 3, 4] =
    (bif (bif cm BinOp.lss i (↑x.n : Int) then cm BinOp.lss n 1048576 else false) then
      bif (decide (0 ≤ i)) then
        bif (decide (i < (↑x.n : Int))) then
          bif (Nat.blt (i.toNat) (x.n)) then
            bif (Nat.blt (i.toNat) (x.n)) then
              .norm 30 [(.ptr 1024 0 0), (.int false IntKind.i64 (ar BinOp.add IntKind.i64 n (↑(x.bs i.toNat).size : Int))), (.int false IntKind.i64 (ar BinOp.add IntKind.i64 i 1))] [(0, .tab (x.n) [.ints IntKind.i64 (x.kd), .strs (x.bs), .ints IntKind.i64 (x.N), .ints IntKind.i64 (x.op), .ints IntKind.i64 (x.r1), .ints IntKind.i64 (x.r2)] false), (1024, .cells [(.int false IntKind.i64 (t)), (.sl 0 (x.n))])]
            else .bad
          else .bad
        else .bad
      else .bad
    else
      .exit 0 30 [(.ptr 1024 0 0), (.int false IntKind.i64 (n)), (.int false IntKind.i64 (i))] [(0, .tab (x.n) [.ints IntKind.i64 (x.kd), .strs (x.bs), .ints IntKind.i64 (x.N), .ints IntKind.i64 (x.op), .ints IntKind.i64 (x.r1), .ints IntKind.i64 (x.r2)] false), (1024, .cells [(.int false IntKind.i64 (t)), (.sl 0 (x.n))])]) := by kernel_rfl

theorem t8 (x : It) (t : Int) : (evalF E8 Try.prog 8 [SV.agg [SV.int false IntKind.i64 t, SV.sl 0 x.n]] (hI x) 1024).bare =
    (bif (decide ((↑x.n : Int) = (↑x.n : Int))) then
      bif (Nat.beq (x.n) (x.n)) then
        bif (Nat.ble (x.n) (4611686018427387904)) then
          .ret (.bool false (cm BinOp.gtr (hvN x) 20000)) []
        else .bad
      else .bad
    else .bad) := by kernel_rfl

theorem t15  : (evalF E15 Try.prog 15 [] [] 1024).bare =
    (bif (okB 2 x2) then
      bif (fitB x2 2) then
        bif (eqA 2 (yL x2 2).pos (nth [0, 0] 0)) then
          .ret (.bool true true) []
        else .bad
      else .bad
    else .bad) := by kernel_rfl

end Go.La
end

section
set_option linter.unusedVariables false
open Go Go.Ev Go.Proofs
namespace Go.La

/-! Heavy -/
structure X8 where
  x : It
  t : Int
  i : Nat
  n : Int
def ok8 (s : X8) : Prop := s.i ≤ s.x.n ∧ s.x.n ≤ 4611686018427387904 ∧ hvF s.x (s.x.n - s.i) s.i s.n = hvN s.x
def vs8 (s : X8) : List SV := v8 s.n s.i
def hp8 (s : X8) : Heap := h8 s.x s.t
def out8 (s : X8) : Vw := .exit 0 30 [.any, .int false .i64 (hvN s.x), .any] []
theorem entry8 (l : List SV) (H : Heap) (T : Tr) (h : lq8.get l H = some T) (hb : T.leaf ≠ .bad) : ∃ x r, ok8 x ∧ WkV r lq8.nm l H (vs8 x) (hp8 x) ∧ T.leaf = toLf lq8 (out8 x) := by
  replace h : get8 l H = some T := h
  unfold get8 at h
  split at h
  · rename_i k r c _ n _ i j0 n1 kd bs N op r1 r2 _ j1 _ t k0 n0
    simp only [Option.some.injEq] at h
    subst h
    obtain ⟨hn, he⟩ := needs_ne hb
    rw [he]
    simp only [allB, Bool.and_eq_true, Bool.and_true, decide_eq_true_eq, Nat.beq_eq, Nat.ble_eq] at hn
    obtain ⟨rfl, rfl, rfl, rfl, rfl, rfl, rfl, rfl, rfl, hs⟩ := hn
    refine ⟨⟨⟨n0, kd, bs, N, op, r1, r2⟩, t, 0, (n0 : Int)⟩, [], ⟨Nat.zero_le _, hs, rfl⟩, ?_, ?_⟩
    · refine ⟨rfl, ⟨⟨rfl, rfl, rfl⟩, ⟨rfl, rfl⟩, ⟨rfl, rfl⟩, trivial⟩, ?_, rfl, rfl⟩
      simp [hp8, h8, wkH, wkB, wkCs, wkC, simL, sim, rmap, rlook, Ev.look, It.cols]
    · simp only [exitT_leaf, out8]
      rfl
  · cases h
theorem h8_wk (x : It) (t : Int) {f l : Bool} : wkH (rmap []) [(0, .tab x.n x.cols f), (1024, .cells [.int l .i64 t, .sl 0 x.n])] (h8 x t) := by
  simp [h8, wkH, wkB, wkCs, wkC, simL, sim, rmap, rlook, Ev.look, It.cols]
attribute [local irreducible] evalB Tr.view in
theorem round8 (s : X8) (hx : ok8 s) : Round lq8 ok8 (fun s => s.x.n - s.i) vs8 hp8 out8 s ((evalB EI Try.prog Try.f8.results.toList (loopOf Try.f8 0) (0 + 1) lk8 (vs8 s) (hp8 s)).view lq8.ks) := by
  obtain ⟨x, t, i, n⟩ := s
  obtain ⟨h0, hs, h1⟩ := hx
  simp only at h0 h1 hs
  have hr := r8 x t n i
  rw [show evalB EI Try.prog Try.f8.results.toList (loopOf Try.f8 0) (0 + 1) lk8 (vs8 ⟨x, t, i, n⟩) (hp8 ⟨x, t, i, n⟩) = evalB EI Try.prog Try.f8.results.toList (loopOf Try.f8 0) 1 lk8 (v8 n i) (h8 x t) from rfl, show lq8.ks = [1, 3, 4] from rfl, hr]
  have hc : (bif cm .lss (i : Int) (x.n : Int) then cm .lss n 1048576 else false) = (decide (i < x.n) && decide (n < 1048576)) := by
    rw [cm_lss', cm_lss']
    by_cases hi : i < x.n
    · rw [decide_eq_true hi, decide_eq_true (show (i : Int) < x.n by omega)]; rfl
    · rw [decide_eq_false hi, decide_eq_false (show ¬ (i : Int) < x.n by omega)]; rfl
  rw [hc]
  by_cases hi : i < x.n
  · obtain ⟨f, hf⟩ : ∃ f, x.n - i = f + 1 := ⟨x.n - i - 1, by omega⟩
    rw [hf] at h1
    simp only [hvF] at h1
    rw [decide_eq_true hi, Bool.true_and] at h1 ⊢
    have e2 : decide (0 ≤ (i : Int)) = true := decide_eq_true (by omega)
    have e3 : decide ((i : Int) < (x.n : Int)) = true := decide_eq_true (by omega)
    simp only [e2, e3, blt_t hi, cond_true, Int.toNat_natCast, addOne (show i < 9223372036854775807 by omega)]
    cases hn : decide (n < 1048576) with
    | true =>
      rw [hn, cond_true] at h1
      simp only [cond_true]
      refine ⟨rfl, ⟨x, t, i + 1, ar .add .i64 n ((x.bs i).size : Int)⟩, [], ⟨hi, hs, by rw [← h1]; show hvF x (x.n - (i + 1)) _ _ = _; rw [show x.n - (i + 1) = f by omega]⟩, by show x.n - (i + 1) < x.n - i; omega, rfl, rfl, ?_, ?_, rfl, rfl⟩
      · exact ⟨⟨rfl, rfl, rfl⟩, ⟨rfl, rfl⟩, ⟨rfl, rfl⟩, trivial⟩
      · exact h8_wk x t
    | false =>
      rw [hn, cond_false] at h1
      simp only [cond_false]
      refine ⟨rfl, [.any, .int false .i64 (hvN x), .any], _, [], rfl, rfl, ?_, trivial, rfl, rfl⟩
      exact ⟨trivial, ⟨rfl, h1⟩, trivial, trivial⟩
  · obtain rfl : i = x.n := by omega
    rw [decide_eq_false (show ¬ x.n < x.n by omega), Bool.false_and]
    simp only [cond_false]
    rw [Nat.sub_self] at h1
    refine ⟨rfl, [.any, .int false .i64 (hvN x), .any], _, [], rfl, rfl, ?_, trivial, rfl, rfl⟩
    exact ⟨trivial, ⟨rfl, h1⟩, trivial, trivial⟩
theorem e8_calls : CallsOk E8 Try.prog := fun f args H nm r h hn => ei_calls f args H nm r h hn
theorem lq_8 {E : Env} {P : Program} {res : List ResultVar} {c : Code} {n : Nat} {l : List SV} {H : Heap} : evalB E P res c n lq8 l H = evalB E P res c n lk8 l H := rfl
theorem fn8 : Try.prog.funcs[8]? = some Try.f8 := by kernel_rfl
theorem b8 : Try.f8.body = some (bodyOf Try.f8) := by kernel_rfl
theorem n8 : (Try.f8.name == "runtime.NumGoroutine") = false := by kernel_rfl
theorem nl8 : Code.loops (bodyOf Try.f8) = 1 := by kernel_rfl
theorem nth8 : nthLoop (bodyOf Try.f8) 0 = some (loopOf Try.f8 0) := by kernel_rfl
attribute [local irreducible] evalB Tr.view in
theorem loop8 : LoopOk E8 Try.prog Try.f8 0 (loopOf Try.f8 0) :=
  loop_okE mixed (fun S => rfl) (by decide) ok8 (fun s => s.x.n - s.i) vs8 hp8 out8 entry8 fun x hx => ⟨EI, ei_calls, loops_noLoop ei_loop _ _, by rw [lq_8]; exact round8 x hx⟩
theorem loops8 : LoopsOk E8 Try.prog Try.f8 (bodyOf Try.f8) 0 := loops1 nl8 fun a ha => by
  rw [nth8] at ha; simp only [Option.some.injEq] at ha; subst ha; exact loop8
/-- is it heavy -/
noncomputable def hvB (x : It) (b : Bool) : Bool := clsB (heavyP x = b)
noncomputable def g8 (b : Bool) : List SV → Heap → Option R
  | [.agg [.int false .i64 t, .sl k n]], [(j0, .tab n1 [.ints .i64 kd, .strs bs, .ints .i64 N, .ints .i64 op, .ints .i64 r1, .ints .i64 r2] _)] => match Nat.beq k 0 && Nat.beq j0 0 with
    | true => some ⟨[Nat.beq n n1, Nat.ble n1 4611686018427387904, hvB ⟨n1, kd, bs, N, op, r1, r2⟩ b], .bool true b, []⟩
    | false => none
  | _, _ => none
attribute [local irreducible] evalF Lf.gives in
theorem spec8 (b : Bool) : SpecOk Try.prog 8 (specOf (g8 b)) := spec_okA false e8_calls mixed fn8 b8 n8 loops8 (g8 b) fun a0 H0 r hg hn => by
  unfold g8 at hg
  split at hg
  · rename_i t k n j0 n1 kd bs N op r1 r2 _
    split at hg
    · rename_i hk
      simp only [Bool.and_eq_true, Nat.beq_eq] at hk
      obtain ⟨rfl, rfl⟩ := hk
      simp only [Option.some.injEq] at hg
      subst hg
      simp only [allB, Bool.and_eq_true, Bool.and_true, Nat.beq_eq, hvB, clsB_iff] at hn
      obtain ⟨rfl, hs, hb⟩ := hn
      refine ⟨_, id, fun _ => rfl, ?_⟩
      show GivesD _ (evalF E8 Try.prog 8 [.agg [.int false .i64 t, .sl 0 n]] (hI ⟨n, kd, bs, N, op, r1, r2⟩) 1024).leaf
      refine gives_giv (gives_tree (t8 ⟨n, kd, bs, N, op, r1, r2⟩ t) ?_)
      simp only [beq_t, hs, decide_true, cond_true]
      refine gives_ret fun σ σ' => ?_
      simp only [den]
      rw [← hb]
      rfl
    · cases hg
  · cases hg

/-! wakes -/
theorem ok2 : okP 2 x2 := by
  refine ⟨by decide, .inr rfl, by kernel_rfl, fun i hi => ?_⟩
  have hi : i < 2 := hi
  have h0 : toB x2 (domK x2 2) 0 = true := by kernel_rfl
  have h1 : toB x2 (domK x2 2) 1 = true := by kernel_rfl
  rcases i with _ | _ | i
  · exact h0
  · exact h1
  · omega
theorem pos2 : ∀ i, i < 2 → (yL x2 2).pos i = nth [0, 0] 0 i := fun i hi => by
  rcases i with _ | _ | i
  · kernel_rfl
  · kernel_rfl
  · omega
theorem end2 : endN x2 2 = 2 := by kernel_rfl
theorem fn15 : Try.prog.funcs[15]? = some Try.f15 := by kernel_rfl
theorem b15 : Try.f15.body = some (bodyOf Try.f15) := by kernel_rfl
theorem n15 : (Try.f15.name == "runtime.NumGoroutine") = false := by kernel_rfl
def g15 : List SV → Heap → Option R
  | [], [] => some ⟨[], .bool true true, []⟩
  | _, _ => none
attribute [local irreducible] evalF Lf.gives in
theorem spec15 : SpecOk Try.prog 15 (specOf g15) := spec_okA false e15_calls mixed fn15 b15 n15 (loops_noLoop e15_loop _ _) g15 fun a0 H0 r hg hn => by
  unfold g15 at hg
  split at hg
  · simp only [Option.some.injEq] at hg
    subst hg
    refine ⟨_, id, fun _ => rfl, ?_⟩
    show GivesD _ (evalF E15 Try.prog 15 [] [] 1024).leaf
    refine gives_giv (gives_tree t15 ?_)
    rw [show okB 2 x2 = true from cls_t ok2, show fitB x2 2 = true from cls_t (by rw [end2]; decide), eqA_iff.2 pos2]
    exact gives_ret fun σ σ' => rfl
  · cases hg

/-! nothing is the same as nothing -/
def v13N (i : Int) : List SV := [.val (.slice none 0 0), .val (.slice none 0 0), .int false .i64 i]
noncomputable def get13N : List SV → Heap → Option Tr
  | [.val (.slice none 0 0), .val (.slice none 0 0), .int _ .i64 i], _ => some (Tr.needs [decide (i = 0)] (exitT lk13 0 [.any, .any, .any] []))
  | _, _ => none
noncomputable def lp13N : Lp := { lk13 with get := get13N }
noncomputable def E13N : Env := ⟨EN.call, loopEnv [(0, lp13N)]⟩
/-! of one target -/
theorem snilC : SpecsOk Try.prog [] := SpecsOk.nil
noncomputable def g13N : List SV → Heap → Option R
  | [.val (.slice none 0 0), .val (.slice none 0 0)], [] => some ⟨[], .bool true true, []⟩
  | _, _ => none
noncomputable def E16H : Env := envOf [(8, specOf (g8 true))] noLoop
noncomputable def E16T : Env := inlF Try.prog (envOf [(8, specOf (g8 false)), (9, specOf g9T), (10, specOf g10T), (11, specOf (g11 true)), (13, specOf g13), (15, specOf g15)] noLoop) [12] [] [] 3
noncomputable def E16R : Env := inlF Try.prog (envOf [(8, specOf (g8 false)), (9, specOf g9R), (10, specOf g10T), (11, specOf (g11 false)), (13, specOf g13N), (15, specOf g15)] noLoop) [12] [] [] 3
noncomputable def E16F : Env := inlF Try.prog (envOf [(8, specOf (g8 false)), (9, specOf g9F), (10, specOf g10F), (13, specOf g13N), (15, specOf g15)] noLoop) [12] [] [] 3
--LEAVES

theorem r13N  : (evalB EN Try.prog Try.f13.results.toList (loopOf Try.f13 0) 1 lk13 (v13N 0) []).view [0, 1, 5] =
    (.exit 0 26 [(.val (Value.slice none 0 0)), (.val (Value.slice none 0 0)), (.int false IntKind.i64 0)] []) := by kernel_rfl

theorem t13N  : (evalF E13N Try.prog 13 [SV.val (Value.slice none 0 0), SV.val (Value.slice none 0 0)] [] 1024).bare =
    (.ret (.bool true true) []) := by kernel_rfl

theorem t16H (x : It) (t : Int) (q : Int) : (evalF E16H Try.prog 16 [SV.agg [SV.int false IntKind.i64 q, SV.sl 0 x.n], SV.int false IntKind.i64 t] (hI x) 1024).bare =
    (bif (Nat.beq (x.n) (x.n)) then
      bif (Nat.ble (x.n) (4611686018427387904)) then
        bif (hvB x true) then
          .ret (.bool true true) []
        else .bad
      else .bad
    else .bad) := by kernel_rfl

theorem t16T (x : It) (t : Int) (q : Int) : (evalF E16T Try.prog 16 [SV.agg [SV.int false IntKind.i64 q, SV.sl 0 x.n], SV.int false IntKind.i64 t] (hI x) 1024).bare =
    (bif (Nat.beq (x.n) (x.n)) then
      bif (Nat.ble (x.n) (4611686018427387904)) then
        bif (hvB x false) then
          bif (Nat.beq (x.n) (x.n)) then
            bif (okB t x) then
              bif (fitB x t) then
                bif (Nat.beq (x.n) (x.n)) then
                  bif (okB t x) then
                    bif (Nat.beq (x.n) (x.n)) then
                      bif (okB t x) then
                        bif (clsB (fitB x t = true)) then
                          bif (bif seq (outB x t) (outB x t) then allB [x.n.beq x.n, x.n.beq x.n, x.n.beq x.n, eqA x.n (yL x t).pos (yL x t).pos, x.n.ble 100000000] else true) then
                            .ret (.bool false (bif seq (outB x t) (outB x t) then true else false)) []
                          else .bad
                        else .bad
                      else .bad
                    else .bad
                  else .bad
                else .bad
              else .bad
            else .bad
          else .bad
        else .bad
      else .bad
    else .bad) := by kernel_rfl

theorem t16R (x : It) (t : Int) (q : Int) : (evalF E16R Try.prog 16 [SV.agg [SV.int false IntKind.i64 q, SV.sl 0 x.n], SV.int false IntKind.i64 t] (hI x) 1024).bare =
    (bif (Nat.beq (x.n) (x.n)) then
      bif (Nat.ble (x.n) (4611686018427387904)) then
        bif (hvB x false) then
          bif (Nat.beq (x.n) (x.n)) then
            bif (okB t x) then
              bif (farB x t) then
                bif (Nat.beq (x.n) (x.n)) then
                  bif (okB t x) then
                    bif (Nat.beq (x.n) (x.n)) then
                      bif (okB t x) then
                        bif (clsB (fitB x t = false)) then
                          .ret (.bool false true) []
                        else .bad
                      else .bad
                    else .bad
                  else .bad
                else .bad
              else .bad
            else .bad
          else .bad
        else .bad
      else .bad
    else .bad) := by kernel_rfl

theorem t16F (x : It) (t : Int) (q : Int) : (evalF E16F Try.prog 16 [SV.agg [SV.int false IntKind.i64 q, SV.sl 0 x.n], SV.int false IntKind.i64 t] (hI x) 1024).bare =
    (bif (Nat.beq (x.n) (x.n)) then
      bif (Nat.ble (x.n) (4611686018427387904)) then
        bif (hvB x false) then
          bif (Nat.beq (x.n) (x.n)) then
            bif (Nat.ble (x.n) (4611686018427387904)) then
              bif (noB t x) then
                bif (Nat.beq (x.n) (x.n)) then
                  bif (noB t x) then
                    .ret (.bool false true) []
                  else .bad
                else .bad
              else .bad
            else .bad
          else .bad
        else .bad
      else .bad
    else .bad) := by kernel_rfl

end Go.La
end
