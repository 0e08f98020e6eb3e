/-
  layout: Lay's second loop, its contract.
-/
import Derived.Test.YtidihpmjndfbgaaC10
import Derived.Test.YtidihpmjndfbgaaB6
set_option linter.unusedSimpArgs false
set_option linter.unusedVariables false
section
set_option linter.unusedVariables false
open Go Go.Ev Go.Proofs
namespace Go.La

theorem app_size (a b : ByteArray) : (a ++ b).size = a.size + b.size := ByteArray.size_append
theorem chr_app (a b : ByteArray) (r : Nat) : cat a.size (chr a) (chr b) r = chr (a ++ b) r := by
  unfold cat chr
  have hd : (a ++ b).data = a.data ++ b.data := ByteArray.data_append
  rw [hd, Array.getD_eq_getD_getElem?, Array.getD_eq_getD_getElem?, Array.getD_eq_getD_getElem?, Array.getElem?_append]
  by_cases h : r < a.size
  · rw [blt_t h, cond_true, if_pos (show r < a.data.size from h)]
  · rw [blt_f h, cond_false, if_neg (show ¬ r < a.data.size from h)]
    rfl
theorem catB_le {y : Y} (h : ∀ i, i < y.n → (byI y i).size ≤ 64) : ∀ j, j ≤ y.n → (catB y j).size ≤ 64 * j
  | 0, _ => Nat.le_refl _
  | j + 1, hj => by
    have := catB_le h j (by omega)
    have := h j (by omega)
    simp only [catB, app_size]; omega

structure X9b where
  y : Y
  j : Nat
def ok9b (s : X9b) : Prop := s.j ≤ s.y.n ∧ labB s.y.n s.y.lb = true ∧ s.y.n ≤ 32000 ∧ ∀ i, i < s.y.n → (byI s.y i).size ≤ 64
def vs9b (s : X9b) : List SV := v9b s.y (catB s.y s.j).size s.j
def hp9b (s : X9b) : Heap := hFb s.y (catB s.y s.j).size (chr (catB s.y s.j))
def out9b (s : X9b) : Vw := .exit 2 69 [.sl 0 s.y.n, .ptr 1408 0 0, .sl 1800 (catB s.y s.y.n).size, .any, .any, .any] (hFb s.y (catB s.y s.y.n).size (chr (catB s.y s.y.n)))

theorem hFb_wkN (y : Y) {f l : Bool} {g : Nat → Int} :
    wkH (rmap [(1800, .nil 1)]) [(0, .tab y.n y.cols f), (1104, .map ⟨.i64, y.dom, [⟨.i64, y.lb⟩], false⟩ true), (1312, .tab y.n [.bools y.lg] true), (1376, .tab (y.n + 1) [.ints .i64 y.pos] true), (1408, .cells [.int l .i64 y.t, .sl 0 y.n, .mp 1104, .sl 1312 y.n, .sl 1376 (y.n + 1)])] (hFb y 0 g) := by
  simp [hFb, wkH, wkB, wkCs, wkC, wkN, simL, sim, rmap, rlook, Ev.look, It.cols, wkM_refl]
theorem hFb_wk (y : Y) {m : Nat} {g g' : Nat → Int} (hg : ∀ i, i < m → g i = g' i) :
    wkH (rmap []) [(0, .tab y.n y.cols false), (1104, .map ⟨.i64, y.dom, [⟨.i64, y.lb⟩], false⟩ true), (1312, .tab y.n [.bools y.lg] true), (1376, .tab (y.n + 1) [.ints .i64 y.pos] true), (1408, .cells [.int false .i64 y.t, .sl 0 y.n, .mp 1104, .sl 1312 y.n, .sl 1376 (y.n + 1)]), (1800, .tab m [.ints .u8 g] true)] (hFb y m g') := by
  simp [hFb, wkH, wkB, wkCs, wkC, simL, sim, rmap, rlook, Ev.look, It.cols, wkM_refl]
  exact hg
theorem hFb_wkA (y : Y) {m : Nat} {g g' : Nat → Int} (hg : ∀ i, i < m → g i = g' i) :
    wkH (rmap [(1800, .old 2012)]) [(0, .tab y.n y.cols false), (1104, .map ⟨.i64, y.dom, [⟨.i64, y.lb⟩], false⟩ true), (1312, .tab y.n [.bools y.lg] true), (1376, .tab (y.n + 1) [.ints .i64 y.pos] true), (1408, .cells [.int false .i64 y.t, .sl 0 y.n, .mp 1104, .sl 1312 y.n, .sl 1376 (y.n + 1)]), (1800, .dead), (2012, .tab m [.ints .u8 g] true)] (hFb y m g') := by
  simp [hFb, wkH, wkB, wkCs, wkC, simL, sim, rmap, rlook, Ev.look, It.cols, wkM_refl]
  exact hg

theorem entry9b (l : List SV) (H : Heap) (T : Tr) (h : lp9b.get l H = some T) (hb : T.leaf ≠ .bad) : ∃ x r, ok9b x ∧ WkV r lp9b.nm l H (vs9b x) (hp9b x) ∧ T.leaf = toLf lp9b (out9b x) := by
  replace h : get9b l H = some T := h
  unfold get9b at h
  split at h
  · rename_i ka na k r c kb nb _ n _ i j0 n1 kd bs N op r1 r2 _ j1 dom lb j2 n3 lg j3 n4 pos j4 _ t k1 m1 k2 k3 m3 k4 m4
    simp only [Option.some.injEq] at h
    subst h
    obtain ⟨hn, he⟩ := needs_ne hb
    rw [he]
    simp only [allB, Bool.and_eq_true, Bool.and_true, Nat.beq_eq, decide_eq_true_eq, smY, clsB_iff] at hn
    obtain ⟨rfl, rfl, rfl, rfl, rfl, rfl, rfl, rfl, rfl, rfl, rfl, rfl, rfl, rfl, rfl, rfl, rfl, rfl, rfl, rfl, rfl, rfl, rfl, hlb, hs, hz⟩ := hn
    refine ⟨⟨⟨⟨n3, kd, bs, N, op, r1, r2⟩, t, dom, lb, lg, pos⟩, 0⟩, [(1800, .nil 1)], ⟨Nat.zero_le _, hlb, hs, hz⟩, ?_, ?_⟩
    · exact ⟨rfl, ⟨⟨rfl, rfl⟩, ⟨rfl, rfl, rfl⟩, ⟨trivial, rfl, 1, rfl⟩, ⟨rfl, rfl⟩, ⟨rfl, rfl⟩, ⟨rfl, rfl⟩, trivial⟩, hFb_wkN ⟨⟨n3, kd, bs, N, op, r1, r2⟩, t, dom, lb, lg, pos⟩, rfl, rfl⟩
    · simp only [exitT_leaf, out9b]
      rfl
  · cases h

attribute [local irreducible] evalB Tr.view byI in
theorem round9b (s : X9b) (hx : ok9b s) : Round lp9b ok9b (fun s => s.y.n - s.j) vs9b hp9b out9b s ((evalB E9c Try.prog Try.f9.results.toList (loopOf Try.f9 1) (1 + 1) lp9b (vs9b s) (hp9b s)).view lp9b.ks) := by
  obtain ⟨y, j⟩ := s
  obtain ⟨h0, h1, h2, h3⟩ := hx
  simp only at h0 h1 h2 h3
  have hr := r9b y (catB y j).size (chr (catB y j)) j
  rw [show evalB E9c Try.prog Try.f9.results.toList (loopOf Try.f9 1) (1 + 1) lp9b (vs9b ⟨y, j⟩) (hp9b ⟨y, j⟩) = evalB E9c Try.prog Try.f9.results.toList (loopOf Try.f9 1) 2 lp9b (v9b y (catB y j).size j) (hFb y (catB y j).size (chr (catB y j))) from rfl, show lp9b.ks = [1, 9, 10, 47, 48, 49] from rfl, hr]
  by_cases hj : j < y.n
  · have hb := catB_le h3 j (by omega)
    have hb' := h3 j hj
    have e1 : cm .lss (j : Int) (y.n : Int) = true := by rw [cm_lss']; exact decide_eq_true (by omega)
    have e4 : inB y.n (j : Int) = true := inB_iff.2 ⟨by omega, by omega⟩
    simp only [e1, e4, h1, beq_t, cond_true, Int.toNat_natCast, addOne (show j < 9223372036854775807 by omega), ble_t (Nat.le_refl (catB y j).size), ble_t (show ((catB y j).size + (byI y j).size) * 1 ≤ 1099511627776 by omega)]
    refine ⟨rfl, ⟨y, j + 1⟩, [(1800, .old 2012)], ⟨hj, h1, h2, h3⟩, by show y.n - (j + 1) < y.n - j; omega, rfl, rfl, ?_, ?_, rfl, rfl⟩
    · exact ⟨⟨rfl, rfl⟩, ⟨rfl, rfl, rfl⟩, ⟨rfl, (app_size _ _).symm⟩, ⟨rfl, rfl⟩, ⟨rfl, rfl⟩, ⟨rfl, rfl⟩, trivial⟩
    · show wkH _ _ (hFb y (catB y j ++ byI y j).size (chr (catB y j ++ byI y j)))
      rw [app_size]
      exact hFb_wkA y fun i _ => chr_app _ _ i
  · obtain rfl : j = y.n := by omega
    have e1 : cm .lss (y.n : Int) (y.n : Int) = false := by simp [cm]
    simp only [e1, cond_false]
    refine ⟨rfl, _, _, [], rfl, rfl, ?_, ?_, rfl, rfl⟩
    · exact ⟨⟨rfl, rfl⟩, ⟨rfl, rfl, rfl⟩, ⟨rfl, rfl⟩, trivial, trivial, trivial, trivial⟩
    · exact hFb_wk y fun _ _ => rfl

attribute [local irreducible] evalB Tr.view in
theorem loop9b : LoopOk E9 Try.prog Try.f9 1 (loopOf Try.f9 1) :=
  loop_okE mixed (fun S => rfl) (by decide) ok9b (fun s => s.y.n - s.j) vs9b hp9b out9b entry9b fun x hx => ⟨E9c, e9c_calls, loops_noLoop e9c_loop _ _, round9b x hx⟩
theorem fn9 : Try.prog.funcs[9]? = some Try.f9 := by kernel_rfl
theorem b9 : Try.f9.body = some (bodyOf Try.f9) := by kernel_rfl
theorem n9 : (Try.f9.name == "runtime.NumGoroutine") = false := by kernel_rfl
theorem nl9 : Code.loops (bodyOf Try.f9) = 2 := by kernel_rfl
theorem nth9a : nthLoop (bodyOf Try.f9) 0 = some (loopOf Try.f9 0) := by kernel_rfl
theorem nth9b : nthLoop (bodyOf Try.f9) 1 = some (loopOf Try.f9 1) := by kernel_rfl
theorem loops9 : LoopsOk E9 Try.prog Try.f9 (bodyOf Try.f9) 0 := loops2 nl9
  (fun a ha => by rw [nth9a] at ha; simp only [Option.some.injEq] at ha; subst ha; exact loop9a)
  (fun a ha => by rw [nth9b] at ha; simp only [Option.some.injEq] at ha; subst ha; exact loop9b)

end Go.La
end

section
set_option linter.unusedVariables false
open Go Go.Ev Go.Proofs
namespace Go.La

theorem strOf_chr (s : ByteArray) : strOf (chr s) s.size = s := by
  apply ByteArray.ext
  apply Array.ext
  · simp [strOf]
  · intro i h1 h2
    simp [strOf, chr, Array.getD, h2]
    rw [dif_pos (show i < s.size from h2)]

theorem gd_need {r : R} {c : Bool} {x : Lf} (h : c = true) (hx : GivesD r x) : GivesD r (bif c then x else .bad) := by
  rw [h]; exact hx

/-- all bytes -/
def outB (x : It) (t : Int) : ByteArray := catB (yL x t) x.n
def endN (x : It) (t : Int) : Int := (yL x t).pos x.n
noncomputable def fitB (x : It) (t : Int) : Bool := clsB (endN x t ≤ 258048)
noncomputable def farB (x : It) (t : Int) : Bool := clsB (258048 < endN x t)

noncomputable def g9T : List SV → Heap → Option R
  | [.int false .i64 t, .sl k n], [(j0, .tab n1 [.ints .i64 kd, .strs bs, .ints .i64 N, .ints .i64 op, .ints .i64 r1, .ints .i64 r2] _)] => match Nat.beq k 0 && Nat.beq j0 0 with
    | true => some ⟨[Nat.beq n n1, okB t ⟨n1, kd, bs, N, op, r1, r2⟩, fitB ⟨n1, kd, bs, N, op, r1, r2⟩ t], .tup [.str (outB ⟨n1, kd, bs, N, op, r1, r2⟩ t), .sl 1024 n1, .int true .i64 0],
        [(0, .tab n1 (It.cols ⟨n1, kd, bs, N, op, r1, r2⟩) false), (1024, .tab n1 [.ints .i64 (yL ⟨n1, kd, bs, N, op, r1, r2⟩ t).pos] false)]⟩
    | false => none
  | _, _ => none
noncomputable def g9R : List SV → Heap → Option R
  | [.int false .i64 t, .sl k n], [(j0, .tab n1 [.ints .i64 kd, .strs bs, .ints .i64 N, .ints .i64 op, .ints .i64 r1, .ints .i64 r2] _)] => match Nat.beq k 0 && Nat.beq j0 0 with
    | true => some ⟨[Nat.beq n n1, okB t ⟨n1, kd, bs, N, op, r1, r2⟩, farB ⟨n1, kd, bs, N, op, r1, r2⟩ t], .tup [.str ⟨#[]⟩, .val (.slice none 0 0), .int true .i64 10], []⟩
    | false => none
  | _, _ => none

theorem sm_ok {x : It} {t : Int} (h : okP t x) : smY (yL x t) = true := clsB_iff.2 ⟨h.1, fun i hi => by
  have hi' : i < x.n := hi
  rw [by_size h hi']
  exact szN_le ((fewB_iff.1 (ok_few h)).2 i hi')⟩

attribute [local irreducible] evalF yL catB in
theorem spec9T : SpecOk Try.prog 9 (specOf g9T) := spec_okU false mixed fn9 b9 n9 g9T fun a0 H0 r hg hn => by
  unfold g9T at hg
  split at hg
  · rename_i t k n j0 n1 kd bs N op r1 r2 _
    split at hg
    · rename_i hk
      simp only [Bool.and_eq_true, Nat.beq_eq] at hk
      obtain ⟨rfl, rfl⟩ := hk
      simp only [Option.some.injEq] at hg
      subst hg
      simp only [allB, Bool.and_eq_true, Bool.and_true, Nat.beq_eq] at hn
      obtain ⟨rfl, hok, hfit⟩ := hn
      refine ⟨E9, [.int false .i64 t, .sl 0 n], [], e9_calls, loops9, id, fun _ => rfl, (fun k hk => (by cases hk)), ?_⟩
      show GivesD _ (evalF E9 Try.prog 9 [.int false .i64 t, .sl 0 n] (hI ⟨n, kd, bs, N, op, r1, r2⟩) 1024).leaf
      rw [t9 ⟨n, kd, bs, N, op, r1, r2⟩ t]
      generalize hx : (⟨n, kd, bs, N, op, r1, r2⟩ : It) = x at *
      have hP : okP t x := clsB_iff.1 hok
      have hs := hP.1
      have hadd : ar .add .i64 (x.n : Int) 1 = ((x.n + 1 : Nat) : Int) := addOne (by omega)
      have hyn : (yL x t).n = x.n := by unfold yL; rfl
      have hlab : labB (yL x t).n (yL x t).lb = true := by unfold yL; exact ok_lab x
      have hsm := sm_ok hP
      have hfew := ok_few hP
      have hfar : cm .gtr ((yL x t).pos x.n) 258048 = false := by
        have := clsB_iff.1 hfit
        have : (yL x t).pos x.n ≤ 258048 := this
        exact decide_eq_false (by omega)
      simp only [hadd, Int.toNat_natCast, hyn, hfar, cond_false] at *
      repeat' refine gd_need (by first | exact beq_t _ | exact hok | exact decide_eq_true (by omega) | exact ble_t (by omega) | exact blt_t (by omega) | exact hfew | exact hlab | exact hsm | exact clsB_iff.2 trivial | exact clsB_iff.2 rfl) ?_
      have hn1 : n = x.n := by rw [← hx]
      subst hn1
      refine ⟨[(1024, .old 2060)], rfl, fun σ => ?_, ?_, rfl⟩
      · simp only [strOf_chr, outB]
        rfl
      · simp [wkH, wkB, wkCs, wkC, rmap, rlook, Ev.look, It.cols, from_, hyn]
        exact ⟨fun _ _ => by unfold yL; rfl, fun _ _ => by unfold yL; rfl, fun _ _ => by unfold yL; rfl, fun _ _ => by unfold yL; rfl, fun _ _ => by unfold yL; rfl, fun _ _ => by unfold yL; rfl⟩
    · cases hg
  · cases hg

attribute [local irreducible] evalF yL catB in
theorem spec9R : SpecOk Try.prog 9 (specOf g9R) := spec_okU false mixed fn9 b9 n9 g9R fun a0 H0 r hg hn => by
  unfold g9R at hg
  split at hg
  · rename_i t k n j0 n1 kd bs N op r1 r2 _
    split at hg
    · rename_i hk
      simp only [Bool.and_eq_true, Nat.beq_eq] at hk
      obtain ⟨rfl, rfl⟩ := hk
      simp only [Option.some.injEq] at hg
      subst hg
      simp only [allB, Bool.and_eq_true, Bool.and_true, Nat.beq_eq] at hn
      obtain ⟨rfl, hok, hfit⟩ := hn
      refine ⟨E9, [.int false .i64 t, .sl 0 n], [], e9_calls, loops9, id, fun _ => rfl, (fun k hk => (by cases hk)), ?_⟩
      show GivesD _ (evalF E9 Try.prog 9 [.int false .i64 t, .sl 0 n] (hI ⟨n, kd, bs, N, op, r1, r2⟩) 1024).leaf
      rw [t9 ⟨n, kd, bs, N, op, r1, r2⟩ t]
      generalize hx : (⟨n, kd, bs, N, op, r1, r2⟩ : It) = x at *
      have hP : okP t x := clsB_iff.1 hok
      have hs := hP.1
      have hadd : ar .add .i64 (x.n : Int) 1 = ((x.n + 1 : Nat) : Int) := addOne (by omega)
      have hyn : (yL x t).n = x.n := by unfold yL; rfl
      have hfew := ok_few hP
      have hfar : cm .gtr ((yL x t).pos x.n) 258048 = true := by
        have := clsB_iff.1 hfit
        have : 258048 < (yL x t).pos x.n := this
        exact decide_eq_true (by omega)
      simp only [hadd, Int.toNat_natCast, hyn, hfar, cond_true]
      repeat' refine gd_need (by first | exact beq_t _ | exact hok | exact decide_eq_true (by omega) | exact ble_t (by omega) | exact blt_t (by omega) | exact hfew | exact clsB_iff.2 trivial | exact clsB_iff.2 rfl) ?_
      exact ⟨[], rfl, fun σ => rfl, trivial, rfl⟩
    · cases hg
  · cases hg

/-- what may not be -/
noncomputable def E9n : Env := envOf [(20, specOf g20F)] noLoop
theorem e9n_calls : CallsOk E9n Try.prog := (SpecsOk.cons spec20F SpecsOk.nil).calls noLoop
theorem e9n_loop : E9n.loop = noLoop := rfl
theorem t9n (x : It) (t : Int) : (evalF E9n Try.prog 9 [SV.int false .i64 t, SV.sl 0 x.n] (hI x) 1024).bare =
    bif Nat.beq x.n x.n then bif Nat.ble x.n 4611686018427387904 then bif noB t x then .ret (.tup [.str ⟨#[]⟩, .val (.slice none 0 0), .int true .i64 1]) [] else .bad else .bad else .bad := by kernel_rfl
noncomputable def g9F : List SV → Heap → Option R
  | [.int false .i64 t, .sl k n], [(j0, .tab n1 [.ints .i64 kd, .strs bs, .ints .i64 N, .ints .i64 op, .ints .i64 r1, .ints .i64 r2] _)] => match Nat.beq k 0 && Nat.beq j0 0 with
    | true => some ⟨[Nat.beq n n1, Nat.ble n1 4611686018427387904, noB t ⟨n1, kd, bs, N, op, r1, r2⟩], .tup [.str ⟨#[]⟩, .val (.slice none 0 0), .int true .i64 1], []⟩
    | false => none
  | _, _ => none
attribute [local irreducible] evalF Lf.gives in
theorem spec9F : SpecOk Try.prog 9 (specOf g9F) := spec_okU false mixed fn9 b9 n9 g9F fun a0 H0 r hg hn => by
  unfold g9F at hg
  split at hg
  · rename_i t k n j0 n1 kd bs N op r1 r2 _
    split at hg
    · rename_i hk
      simp only [Bool.and_eq_true, Nat.beq_eq] at hk
      obtain ⟨rfl, rfl⟩ := hk
      simp only [Option.some.injEq] at hg
      subst hg
      simp only [allB, Bool.and_eq_true, Bool.and_true, Nat.beq_eq] at hn
      obtain ⟨rfl, hsm, hno⟩ := hn
      refine ⟨E9n, [.int false .i64 t, .sl 0 n], [], e9n_calls, loops_noLoop e9n_loop _ _, id, fun _ => rfl, (fun k hk => (by cases hk)), ?_⟩
      show GivesD _ (evalF E9n Try.prog 9 [.int false .i64 t, .sl 0 n] (hI ⟨n, kd, bs, N, op, r1, r2⟩) 1024).leaf
      refine gives_giv (gives_tree (t9n ⟨n, kd, bs, N, op, r1, r2⟩ t) ?_)
      simp only [beq_t, hsm, hno, cond_true]
      exact gives_ret fun σ σ' => rfl
    · cases hg
  · cases hg

end Go.La
end

section
set_option linter.unusedVariables false
open Go Go.Ev Go.Proofs
namespace Go.La

noncomputable def EN : Env := envOf [] noLoop
theorem en_calls : CallsOk EN Try.prog := SpecsOk.nil.calls noLoop
theorem en_loop : EN.loop = noLoop := rfl
/-- rows that are the same -/
noncomputable def eqA (n : Nat) (g h : Nat → Int) : Bool := @decide (∀ i, i < n → g i = h i) (Classical.propDecidable _)
theorem eqA_iff {n : Nat} {g h : Nat → Int} : eqA n g h = true ↔ ∀ i, i < n → g i = h i := @decide_eq_true_iff _ (Classical.propDecidable _)

/-! EqLongs -/
def h13 (n : Nat) (g h : Nat → Int) : Heap := [(0, .tab n [.ints .i64 g] false), (1, .tab n [.ints .i64 h] false)]
def v13 (n : Nat) (i : Int) : List SV := [.sl 0 n, .sl 1 n, .int false .i64 i]
def lk13 : Lp := ⟨26, [0, 1, 5], 1136, fun _ _ => none⟩
noncomputable def get13 : List SV → Heap → Option Tr
  | [.sl ka n, .sl kb m, .int _ .i64 i], [(ja, .tab n' [.ints .i64 g] _), (jb, .tab m' [.ints .i64 h] _)] =>
    some (Tr.needs [Nat.beq ka 0, Nat.beq kb 1, Nat.beq ja 0, Nat.beq jb 1, Nat.beq n m, Nat.beq n n', Nat.beq n m', decide (i = 0), eqA n g h, Nat.ble n 100000000] (exitT lk13 0 [.any, .any, .any] (h13 n g h)))
  | _, _ => none
noncomputable def lp13 : Lp := { lk13 with get := get13 }
noncomputable def E13 : Env := ⟨EN.call, loopEnv [(0, lp13)]⟩
theorem r13 (n : Nat) (g : Nat → Int) (h : Nat → Int) (i : Int) : (evalB EN Try.prog Try.f13.results.toList (loopOf Try.f13 0) 1 lp13 (v13 n i) (h13 n g h)).view [0, 1, 5] =
    (bif (cm BinOp.lss i (↑n : Int)) then
      bif (decide (0 ≤ i)) then
        bif (decide (i < (↑n : Int))) then
          bif (Nat.blt (i.toNat) (n)) then
            bif (Nat.blt (i.toNat) (n)) then
              bif (decide (0 ≤ i)) then
                bif (decide (i < (↑n : Int))) then
                  bif (Nat.blt (i.toNat) (n)) then
                    bif (Nat.blt (i.toNat) (n)) then
                      bif (cm BinOp.neq (g i.toNat) (h i.toNat)) then
                        .ret (.bool true false) [(0, .tab (n) [.ints IntKind.i64 (g)] false), (1, .tab (n) [.ints IntKind.i64 (h)] false)]
                      else
                        .norm 26 [(.sl 0 (n)), (.sl 1 (n)), (.int false IntKind.i64 (ar BinOp.add IntKind.i64 i 1))] [(0, .tab (n) [.ints IntKind.i64 (g)] false), (1, .tab (n) [.ints IntKind.i64 (h)] false)]
                    else .bad
                  else .bad
                else .bad
              else .bad
            else .bad
          else .bad
        else .bad
      else .bad
    else
      .exit 0 26 [(.sl 0 (n)), (.sl 1 (n)), (.int false IntKind.i64 (i))] [(0, .tab (n) [.ints IntKind.i64 (g)] false), (1, .tab (n) [.ints IntKind.i64 (h)] false)]) := by kernel_rfl

theorem t13 (n : Nat) (g : Nat → Int) (h : Nat → Int) : (evalF E13 Try.prog 13 [SV.sl 0 n, SV.sl 1 n] (h13 n g h) 1024).bare =
    (bif (cm BinOp.neq (↑n : Int) (↑n : Int)) then
      .ret (.bool true false) []
    else
      bif (Nat.beq (n) (n)) then
        bif (Nat.beq (n) (n)) then
          bif (Nat.beq (n) (n)) then
            bif (eqA n g h) then
              bif (Nat.ble (n) (100000000)) then
                .ret (.bool true true) []
              else .bad
            else .bad
          else .bad
        else .bad
      else .bad) := by kernel_rfl

theorem e47_calls : CallsOk E13 Try.prog := fun f args H nm r h hn => en_calls f args H nm r h hn
structure X13 where
  n : Nat
  g : Nat → Int
  h : Nat → Int
  i : Nat
def ok13 (x : X13) : Prop := x.i ≤ x.n ∧ x.n ≤ 100000000 ∧ ∀ i, i < x.n → x.g i = x.h i
def vs13 (x : X13) : List SV := v13 x.n x.i
def hp13 (x : X13) : Heap := h13 x.n x.g x.h
def out13 (x : X13) : Vw := .exit 0 26 [.any, .any, .any] (hp13 x)

theorem entry13 (l : List SV) (H : Heap) (T : Tr) (h : lp13.get l H = some T) (hb : T.leaf ≠ .bad) : ∃ x r, ok13 x ∧ WkV r lp13.nm l H (vs13 x) (hp13 x) ∧ T.leaf = toLf lp13 (out13 x) := by
  replace h : get13 l H = some T := h
  unfold get13 at h
  split at h
  · rename_i ka n kb m _ i ja n' g _ jb m' hh _
    simp only [Option.some.injEq] at h
    subst h
    obtain ⟨hn, he⟩ := needs_ne hb
    rw [he]
    simp only [allB, Bool.and_eq_true, Bool.and_true, decide_eq_true_eq, Nat.beq_eq, eqA_iff, Nat.ble_eq] at hn
    obtain ⟨rfl, rfl, rfl, rfl, rfl, rfl, rfl, rfl, heq, hl⟩ := hn
    refine ⟨⟨n, g, hh, 0⟩, [], ⟨Nat.zero_le _, hl, heq⟩, ?_, ?_⟩
    · simp [WkV, vs13, hp13, v13, h13, wkF, wkS, sim, simL, wkH, wkB, wkCs, wkC, rmap, rlook, Ev.look, oldsOf, uniqN, mem, SV.al, SV.alL, Ev.hal, Blk.al, lt, rok, lp13, lk13]
    · simp only [exitT_leaf, out13, hp13]
      rfl
  · cases h

attribute [local irreducible] evalB Tr.view in
theorem round13 (x : X13) (hx : ok13 x) : Round lp13 ok13 (fun x => x.n - x.i) vs13 hp13 out13 x ((evalB EN Try.prog Try.f13.results.toList (loopOf Try.f13 0) (0 + 1) lp13 (vs13 x) (hp13 x)).view lp13.ks) := by
  obtain ⟨n, g, h, i⟩ := x
  obtain ⟨h0, h1, h2⟩ := hx
  simp only at h0 h1 h2
  have hr := r13 n g h i
  rw [show evalB EN Try.prog Try.f13.results.toList (loopOf Try.f13 0) (0 + 1) lp13 (vs13 ⟨n, g, h, i⟩) (hp13 ⟨n, g, h, i⟩) = evalB EN Try.prog Try.f13.results.toList (loopOf Try.f13 0) 1 lp13 (v13 n i) (h13 n g h) from rfl, show lp13.ks = [0, 1, 5] from rfl, hr]
  by_cases hi : i < n
  · have e1 : cm .lss (i : Int) (n : Int) = true := by rw [cm_lss']; exact decide_eq_true (by omega)
    have e2 : decide (0 ≤ (i : Int)) = true := decide_eq_true (by omega)
    have e3 : decide ((i : Int) < (n : Int)) = true := decide_eq_true (by omega)
    have e4 : Nat.blt i n = true := blt_t hi
    have e5 : cm .neq (g i) (h i) = false := by rw [h2 i hi]; simp [cm]
    simp only [e1, e2, e3, e4, e5, cond_true, cond_false, Int.toNat_natCast, addOne (show i < 9223372036854775807 by omega)]
    refine ⟨rfl, ⟨n, g, h, i + 1⟩, [], ⟨hi, h1, h2⟩, by show n - (i + 1) < n - i; omega, rfl, ?_⟩
    simp [WkV, vs13, hp13, v13, h13, wkF, wkS, sim, simL, wkH, wkB, wkCs, wkC, rmap, rlook, Ev.look, oldsOf, uniqN, mem, SV.al, SV.alL, Ev.hal, Blk.al, lt, rok, lp13, lk13]
  · obtain rfl : i = n := by omega
    have e1 : cm .lss (i : Int) (i : Int) = false := by simp [cm]
    simp only [e1, cond_false]
    refine ⟨rfl, [.any, .any, .any], _, [], rfl, ?_⟩
    simp [WkV, hp13, h13, wkF, wkS, sim, simL, wkH, wkB, wkCs, wkC, rmap, rlook, Ev.look, oldsOf, uniqN, mem, SV.al, SV.alL, Ev.hal, Blk.al, lt, rok, lp13, lk13]

attribute [local irreducible] evalB Tr.view in
theorem loop13 : LoopOk E13 Try.prog Try.f13 0 (loopOf Try.f13 0) :=
  loop_okE mixed (fun S => rfl) (by decide) ok13 (fun x => x.n - x.i) vs13 hp13 out13 entry13 fun x hx => ⟨EN, en_calls, loops_noLoop en_loop _ _, round13 x hx⟩
theorem fn13 : Try.prog.funcs[13]? = some Try.f13 := by kernel_rfl
theorem b13 : Try.f13.body = some (bodyOf Try.f13) := by kernel_rfl
theorem n13 : (Try.f13.name == "runtime.NumGoroutine") = false := by kernel_rfl
theorem nl13 : Code.loops (bodyOf Try.f13) = 1 := by kernel_rfl
theorem nth13 : nthLoop (bodyOf Try.f13) 0 = some (loopOf Try.f13 0) := by kernel_rfl
theorem loops13 : LoopsOk E13 Try.prog Try.f13 (bodyOf Try.f13) 0 := loops1 nl13 fun a ha => by
  rw [nth13] at ha
  simp only [Option.some.injEq] at ha
  subst ha
  exact loop13

/-- what is the same, is -/
noncomputable def g13 : List SV → Heap → Option R
  | [.sl ka n, .sl kb m], [(ja, .tab n' [.ints .i64 g] _), (jb, .tab m' [.ints .i64 h] _)] => match Nat.beq ka 0 && (Nat.beq kb 1 && (Nat.beq ja 0 && Nat.beq jb 1)) with
    | true => some ⟨[Nat.beq n m, Nat.beq n n', Nat.beq n m', eqA n g h, Nat.ble n 100000000], .bool true true, []⟩
    | false => none
  | _, _ => none
attribute [local irreducible] evalF in
theorem spec13 : SpecOk Try.prog 13 (specOf g13) := spec_okA false e47_calls mixed fn13 b13 n13 loops13 g13 fun a0 H0 r hg hn => by
  unfold g13 at hg
  split at hg
  · rename_i ka n kb m ja n' g _ jb m' h _
    split at hg
    · rename_i hk
      simp only [Bool.and_eq_true, Nat.beq_eq] at hk
      obtain ⟨rfl, rfl, rfl, rfl⟩ := hk
      simp only [Option.some.injEq] at hg
      subst hg
      simp only [allB, Bool.and_true, Bool.and_eq_true, Nat.beq_eq, eqA_iff, Nat.ble_eq] at hn
      obtain ⟨rfl, rfl, rfl, heq, hl⟩ := hn
      refine ⟨[.sl 0 n, .sl 1 n], fun h => h, fun σ => rfl, ?_⟩
      refine gives_giv (gives_tree (t13 n g h) ?_)
      have e1 : cm .neq (n : Int) (n : Int) = false := by simp [cm]
      rw [e1, cond_false, beq_t, cond_true, cond_true, cond_true, eqA_iff.2 heq, cond_true, ble_t hl, cond_true]
      exact gives_ret fun σ σ' => by simp only [den]
    · cases hg
  · cases hg


end Go.La
end

section
set_option linter.unusedVariables false
open Go Go.Ev Go.Proofs
namespace Go.La

noncomputable def EP : Env := inlF Try.prog (envOf [] noLoop) [24, 17, 18, 25] [] [] 3
theorem namedP : named Try.prog [24, 17, 18, 25] = true := by kernel_rfl
theorem ep_calls : CallsOk EP Try.prog := (inlF_calls (SpecsOk.nil.calls noLoop) mixed namedP rfl rfl 3).1
theorem ep_loop : EP.loop = noLoop := rfl
def hA (x : It) (at_ : Nat → Bool) : Heap := [(0, .tab x.n x.cols false), (1168, .tab 32001 [.bools at_] true)]
def v10a (x : It) (t i : Int) : List SV := [.int false .i64 t, .sl 0 x.n, .sl 1168 32001, .int false .i64 i]
def lk10a : Lp := ⟨159, [0, 1, 5, 6], 1216, fun _ _ => none⟩
def lp10a : Lp := lk10a
def v10b (x : It) (t i : Int) : List SV := [.int false .i64 t, .sl 0 x.n, .sl 1168 32001, .int false .i64 i]
def lk10b : Lp := ⟨159, [0, 1, 5, 7], 1232, fun _ _ => none⟩
def lp10b : Lp := lk10b
--LEAVES

theorem r10a (x : It) (t : Int) (a : Nat → Bool) (i : Int) : (evalB EP Try.prog Try.f10.results.toList (loopOf Try.f10 0) 1 lp10a (v10a x t i) (hA x a)).view [0, 1, 5, 6] =
    (bif (cm BinOp.lss i (↑x.n : Int)) then
      bif (decide (0 ≤ i)) then
        bif (decide (i < (↑x.n : Int))) then
          bif (Nat.blt (i.toNat) (x.n)) then
            bif (Nat.blt (i.toNat) (x.n)) then
              bif (bif cm BinOp.eql (x.kd i.toNat) 2 then allB [decide (0 ≤ i), decide (i < (↑x.n : Int)), i.toNat.blt x.n, i.toNat.blt x.n] else true) then
                bif (bif cm BinOp.eql (x.kd i.toNat) 2 then bif cm BinOp.geq (x.N i.toNat) 0 then cm BinOp.leq (x.N i.toNat) 32000 else false else false) then
                  bif (decide (0 ≤ i)) then
                    bif (decide (i < (↑x.n : Int))) then
                      bif (Nat.blt (i.toNat) (x.n)) then
                        bif (Nat.blt (i.toNat) (x.n)) then
                          bif (decide (0 ≤ x.N i.toNat)) then
                            bif (decide (x.N i.toNat < 32001)) then
                              bif (Nat.blt ((x.N i.toNat).toNat) (32001)) then
                                bif (Nat.blt ((x.N i.toNat).toNat) (32001)) then
                                  bif (a (x.N i.toNat).toNat) then
                                    .ret (.bool true false) [(0, .tab (x.n) [.ints IntKind.i64 (x.kd), .strs (x.bs), .ints IntKind.i64 (x.N), .ints IntKind.i64 (x.op), .ints IntKind.i64 (x.r1), .ints IntKind.i64 (x.r2)] false), (1168, .tab 32001 [.bools (a)] true)]
                                  else
                                    bif (decide (0 ≤ i)) then
                                      bif (decide (i < (↑x.n : Int))) then
                                        bif (Nat.blt (i.toNat) (x.n)) then
                                          bif (Nat.blt (i.toNat) (x.n)) then
                                            bif (decide (0 ≤ x.N i.toNat)) then
                                              bif (decide (x.N i.toNat < 32001)) then
                                                bif (Nat.blt ((x.N i.toNat).toNat) (32001)) then
                                                  bif (Nat.blt ((x.N i.toNat).toNat) (32001)) then
                                                    .norm 159 [(.int false IntKind.i64 (t)), (.sl 0 (x.n)), (.sl 1168 32001), (.int false IntKind.i64 (ar BinOp.add IntKind.i64 i 1))] [(0, .tab (x.n) [.ints IntKind.i64 (x.kd), .strs (x.bs), .ints IntKind.i64 (x.N), .ints IntKind.i64 (x.op), .ints IntKind.i64 (x.r1), .ints IntKind.i64 (x.r2)] false), (1168, .tab 32001 [.bools (upd a (x.N i.toNat).toNat true)] true)]
                                                  else .bad
                                                else .bad
                                              else .bad
                                            else .bad
                                          else .bad
                                        else .bad
                                      else .bad
                                    else .bad
                                else .bad
                              else .bad
                            else .bad
                          else .bad
                        else .bad
                      else .bad
                    else .bad
                  else .bad
                else
                  .norm 159 [(.int false IntKind.i64 (t)), (.sl 0 (x.n)), (.sl 1168 32001), (.int false IntKind.i64 (ar BinOp.add IntKind.i64 i 1))] [(0, .tab (x.n) [.ints IntKind.i64 (x.kd), .strs (x.bs), .ints IntKind.i64 (x.N), .ints IntKind.i64 (x.op), .ints IntKind.i64 (x.r1), .ints IntKind.i64 (x.r2)] false), (1168, .tab 32001 [.bools (a)] true)]
              else .bad
            else .bad
          else .bad
        else .bad
      else .bad
    else
      .exit 0 159 [(.int false IntKind.i64 (t)), (.sl 0 (x.n)), (.sl 1168 32001), (.int false IntKind.i64 (i))] [(0, .tab (x.n) [.ints IntKind.i64 (x.kd), .strs (x.bs), .ints IntKind.i64 (x.N), .ints IntKind.i64 (x.op), .ints IntKind.i64 (x.r1), .ints IntKind.i64 (x.r2)] false), (1168, .tab 32001 [.bools (a)] true)]) := by kernel_rfl

theorem r10b (x : It) (t : Int) (a : Nat → Bool) (i : Int) : (evalB EP Try.prog Try.f10.results.toList (loopOf Try.f10 1) 2 lp10b (v10b x t i) (hA x a)).view [0, 1, 5, 7] =
    (bif (cm BinOp.lss i (↑x.n : Int)) then
      bif (decide (0 ≤ i)) then
        bif (decide (i < (↑x.n : Int))) then
          bif (Nat.blt (i.toNat) (x.n)) then
            bif (Nat.blt (i.toNat) (x.n)) then
              bif (cm BinOp.eql (x.kd i.toNat) 1) then
                bif (bif cm BinOp.leq (↑(x.bs i.toNat).size : Int) 64 then allB [bif cm BinOp.eql t 2 then true else true] else true) then
                  bif (bif !bif cm BinOp.leq (↑(x.bs i.toNat).size : Int) 64 then bif cm BinOp.eql t 2 then true else cm BinOp.eql (ar BinOp.rem IntKind.i64 (↑(x.bs i.toNat).size : Int) 4) 0 else false then true else !(x.kd i.toNat == x.kd i.toNat && (seq (x.bs i.toNat) (x.bs i.toNat) && (x.N i.toNat == 0 && (x.op i.toNat == 0 && (x.r1 i.toNat == 0 && (x.r2 i.toNat == 0 && true))))))) then
                    .ret (.bool true false) [(0, .tab (x.n) [.ints IntKind.i64 (x.kd), .strs (x.bs), .ints IntKind.i64 (x.N), .ints IntKind.i64 (x.op), .ints IntKind.i64 (x.r1), .ints IntKind.i64 (x.r2)] false), (1168, .tab 32001 [.bools (a)] true), (1360, .cells [(.int false IntKind.i64 (x.kd i.toNat)), (.str (x.bs i.toNat)), (.int false IntKind.i64 (x.N i.toNat)), (.int false IntKind.i64 (x.op i.toNat)), (.int false IntKind.i64 (x.r1 i.toNat)), (.int false IntKind.i64 (x.r2 i.toNat))]), (1472, .cells [(.int false IntKind.i64 (x.kd i.toNat)), (.str (x.bs i.toNat)), (.int true IntKind.i64 0), (.int true IntKind.i64 0), (.int true IntKind.i64 0), (.int true IntKind.i64 0)])]
                  else
                    .norm 159 [(.int false IntKind.i64 (t)), (.sl 0 (x.n)), (.sl 1168 32001), (.int false IntKind.i64 (ar BinOp.add IntKind.i64 i 1))] [(0, .tab (x.n) [.ints IntKind.i64 (x.kd), .strs (x.bs), .ints IntKind.i64 (x.N), .ints IntKind.i64 (x.op), .ints IntKind.i64 (x.r1), .ints IntKind.i64 (x.r2)] false), (1168, .tab 32001 [.bools (a)] true), (1360, .cells [(.int false IntKind.i64 (x.kd i.toNat)), (.str (x.bs i.toNat)), (.int false IntKind.i64 (x.N i.toNat)), (.int false IntKind.i64 (x.op i.toNat)), (.int false IntKind.i64 (x.r1 i.toNat)), (.int false IntKind.i64 (x.r2 i.toNat))]), (1472, .cells [(.int false IntKind.i64 (x.kd i.toNat)), (.str (x.bs i.toNat)), (.int true IntKind.i64 0), (.int true IntKind.i64 0), (.int true IntKind.i64 0), (.int true IntKind.i64 0)])]
                else .bad
              else
                bif (cm BinOp.eql (x.kd i.toNat) 2) then
                  bif (bif !bif cm BinOp.geq (x.N i.toNat) 0 then cm BinOp.leq (x.N i.toNat) 32000 else false then true else !(x.kd i.toNat == x.kd i.toNat && (seq (x.bs i.toNat) (ByteArray.mk #[]) && (x.N i.toNat == x.N i.toNat && (x.op i.toNat == 0 && (x.r1 i.toNat == 0 && (x.r2 i.toNat == 0 && true))))))) then
                    .ret (.bool true false) [(0, .tab (x.n) [.ints IntKind.i64 (x.kd), .strs (x.bs), .ints IntKind.i64 (x.N), .ints IntKind.i64 (x.op), .ints IntKind.i64 (x.r1), .ints IntKind.i64 (x.r2)] false), (1168, .tab 32001 [.bools (a)] true), (1360, .cells [(.int false IntKind.i64 (x.kd i.toNat)), (.str (x.bs i.toNat)), (.int false IntKind.i64 (x.N i.toNat)), (.int false IntKind.i64 (x.op i.toNat)), (.int false IntKind.i64 (x.r1 i.toNat)), (.int false IntKind.i64 (x.r2 i.toNat))]), (1472, .cells [(.int false IntKind.i64 (x.kd i.toNat)), (.str ((ByteArray.mk #[]))), (.int false IntKind.i64 (x.N i.toNat)), (.int true IntKind.i64 0), (.int true IntKind.i64 0), (.int true IntKind.i64 0)])]
                  else
                    .norm 159 [(.int false IntKind.i64 (t)), (.sl 0 (x.n)), (.sl 1168 32001), (.int false IntKind.i64 (ar BinOp.add IntKind.i64 i 1))] [(0, .tab (x.n) [.ints IntKind.i64 (x.kd), .strs (x.bs), .ints IntKind.i64 (x.N), .ints IntKind.i64 (x.op), .ints IntKind.i64 (x.r1), .ints IntKind.i64 (x.r2)] false), (1168, .tab 32001 [.bools (a)] true), (1360, .cells [(.int false IntKind.i64 (x.kd i.toNat)), (.str (x.bs i.toNat)), (.int false IntKind.i64 (x.N i.toNat)), (.int false IntKind.i64 (x.op i.toNat)), (.int false IntKind.i64 (x.r1 i.toNat)), (.int false IntKind.i64 (x.r2 i.toNat))]), (1472, .cells [(.int false IntKind.i64 (x.kd i.toNat)), (.str ((ByteArray.mk #[]))), (.int false IntKind.i64 (x.N i.toNat)), (.int true IntKind.i64 0), (.int true IntKind.i64 0), (.int true IntKind.i64 0)])]
                else
                  bif (cm BinOp.eql (x.kd i.toNat) 3) then
                    bif (bif bif cm BinOp.geq (x.N i.toNat) 0 then cm BinOp.leq (x.N i.toNat) 32000 else false then allB [decide (0 ≤ x.N i.toNat), decide (x.N i.toNat < 32001), (x.N i.toNat).toNat.blt 32001, (x.N i.toNat).toNat.blt 32001] else true) then
                      bif (bif !bif bif cm BinOp.geq (x.N i.toNat) 0 then cm BinOp.leq (x.N i.toNat) 32000 else false then a (x.N i.toNat).toNat else false then true else !(x.kd i.toNat == x.kd i.toNat && (seq (x.bs i.toNat) (ByteArray.mk #[]) && (x.N i.toNat == x.N i.toNat && (x.op i.toNat == 0 && (x.r1 i.toNat == 0 && (x.r2 i.toNat == 0 && true))))))) then
                        .ret (.bool true false) [(0, .tab (x.n) [.ints IntKind.i64 (x.kd), .strs (x.bs), .ints IntKind.i64 (x.N), .ints IntKind.i64 (x.op), .ints IntKind.i64 (x.r1), .ints IntKind.i64 (x.r2)] false), (1168, .tab 32001 [.bools (a)] true), (1360, .cells [(.int false IntKind.i64 (x.kd i.toNat)), (.str (x.bs i.toNat)), (.int false IntKind.i64 (x.N i.toNat)), (.int false IntKind.i64 (x.op i.toNat)), (.int false IntKind.i64 (x.r1 i.toNat)), (.int false IntKind.i64 (x.r2 i.toNat))]), (1472, .cells [(.int false IntKind.i64 (x.kd i.toNat)), (.str ((ByteArray.mk #[]))), (.int false IntKind.i64 (x.N i.toNat)), (.int true IntKind.i64 0), (.int true IntKind.i64 0), (.int true IntKind.i64 0)])]
                      else
                        .norm 159 [(.int false IntKind.i64 (t)), (.sl 0 (x.n)), (.sl 1168 32001), (.int false IntKind.i64 (ar BinOp.add IntKind.i64 i 1))] [(0, .tab (x.n) [.ints IntKind.i64 (x.kd), .strs (x.bs), .ints IntKind.i64 (x.N), .ints IntKind.i64 (x.op), .ints IntKind.i64 (x.r1), .ints IntKind.i64 (x.r2)] false), (1168, .tab 32001 [.bools (a)] true), (1360, .cells [(.int false IntKind.i64 (x.kd i.toNat)), (.str (x.bs i.toNat)), (.int false IntKind.i64 (x.N i.toNat)), (.int false IntKind.i64 (x.op i.toNat)), (.int false IntKind.i64 (x.r1 i.toNat)), (.int false IntKind.i64 (x.r2 i.toNat))]), (1472, .cells [(.int false IntKind.i64 (x.kd i.toNat)), (.str ((ByteArray.mk #[]))), (.int false IntKind.i64 (x.N i.toNat)), (.int true IntKind.i64 0), (.int true IntKind.i64 0), (.int true IntKind.i64 0)])]
                    else .bad
                  else
                    bif (cm BinOp.eql (x.kd i.toNat) 5) then
                      bif (bif bif cm BinOp.geq (x.N i.toNat) 0 then cm BinOp.leq (x.N i.toNat) 32000 else false then allB [decide (0 ≤ x.N i.toNat), decide (x.N i.toNat < 32001), (x.N i.toNat).toNat.blt 32001, (x.N i.toNat).toNat.blt 32001] else true) then
                        bif (bif !bif bif cm BinOp.geq (x.N i.toNat) 0 then cm BinOp.leq (x.N i.toNat) 32000 else false then a (x.N i.toNat).toNat else false then true else !(x.kd i.toNat == x.kd i.toNat && (seq (x.bs i.toNat) (ByteArray.mk #[]) && (x.N i.toNat == x.N i.toNat && (x.op i.toNat == 0 && (x.r1 i.toNat == 0 && (x.r2 i.toNat == 0 && true))))))) then
                          .ret (.bool true false) [(0, .tab (x.n) [.ints IntKind.i64 (x.kd), .strs (x.bs), .ints IntKind.i64 (x.N), .ints IntKind.i64 (x.op), .ints IntKind.i64 (x.r1), .ints IntKind.i64 (x.r2)] false), (1168, .tab 32001 [.bools (a)] true), (1360, .cells [(.int false IntKind.i64 (x.kd i.toNat)), (.str (x.bs i.toNat)), (.int false IntKind.i64 (x.N i.toNat)), (.int false IntKind.i64 (x.op i.toNat)), (.int false IntKind.i64 (x.r1 i.toNat)), (.int false IntKind.i64 (x.r2 i.toNat))]), (1472, .cells [(.int false IntKind.i64 (x.kd i.toNat)), (.str ((ByteArray.mk #[]))), (.int false IntKind.i64 (x.N i.toNat)), (.int true IntKind.i64 0), (.int true IntKind.i64 0), (.int true IntKind.i64 0)])]
                        else
                          .norm 159 [(.int false IntKind.i64 (t)), (.sl 0 (x.n)), (.sl 1168 32001), (.int false IntKind.i64 (ar BinOp.add IntKind.i64 i 1))] [(0, .tab (x.n) [.ints IntKind.i64 (x.kd), .strs (x.bs), .ints IntKind.i64 (x.N), .ints IntKind.i64 (x.op), .ints IntKind.i64 (x.r1), .ints IntKind.i64 (x.r2)] false), (1168, .tab 32001 [.bools (a)] true), (1360, .cells [(.int false IntKind.i64 (x.kd i.toNat)), (.str (x.bs i.toNat)), (.int false IntKind.i64 (x.N i.toNat)), (.int false IntKind.i64 (x.op i.toNat)), (.int false IntKind.i64 (x.r1 i.toNat)), (.int false IntKind.i64 (x.r2 i.toNat))]), (1472, .cells [(.int false IntKind.i64 (x.kd i.toNat)), (.str ((ByteArray.mk #[]))), (.int false IntKind.i64 (x.N i.toNat)), (.int true IntKind.i64 0), (.int true IntKind.i64 0), (.int true IntKind.i64 0)])]
                      else .bad
                    else
                      bif (cm BinOp.eql (x.kd i.toNat) 4) then
                        bif (bif bif cm BinOp.geq (x.N i.toNat) 0 then cm BinOp.leq (x.N i.toNat) 32000 else false then allB [decide (0 ≤ x.N i.toNat), decide (x.N i.toNat < 32001), (x.N i.toNat).toNat.blt 32001, (x.N i.toNat).toNat.blt 32001] else true) then
                          bif (cm BinOp.eql t 1) then
                            bif (bif !bif bif bif cm BinOp.geq (x.N i.toNat) 0 then cm BinOp.leq (x.N i.toNat) 32000 else false then a (x.N i.toNat).toNat else false then bif bif cm BinOp.geq (x.op i.toNat) 5 then cm BinOp.leq (x.op i.toNat) 10 else false then bif bif cm BinOp.geq (x.r1 i.toNat) 0 then cm BinOp.leq (x.r1 i.toNat) 31 else false then bif cm BinOp.geq (x.r2 i.toNat) 0 then cm BinOp.leq (x.r2 i.toNat) 31 else false else false else false else false then true else !(x.kd i.toNat == x.kd i.toNat && (seq (x.bs i.toNat) (ByteArray.mk #[]) && (x.N i.toNat == x.N i.toNat && (x.op i.toNat == x.op i.toNat && (x.r1 i.toNat == x.r1 i.toNat && (x.r2 i.toNat == x.r2 i.toNat && true))))))) then
                              .ret (.bool true false) [(0, .tab (x.n) [.ints IntKind.i64 (x.kd), .strs (x.bs), .ints IntKind.i64 (x.N), .ints IntKind.i64 (x.op), .ints IntKind.i64 (x.r1), .ints IntKind.i64 (x.r2)] false), (1168, .tab 32001 [.bools (a)] true), (1360, .cells [(.int false IntKind.i64 (x.kd i.toNat)), (.str (x.bs i.toNat)), (.int false IntKind.i64 (x.N i.toNat)), (.int false IntKind.i64 (x.op i.toNat)), (.int false IntKind.i64 (x.r1 i.toNat)), (.int false IntKind.i64 (x.r2 i.toNat))]), (1472, .cells [(.int false IntKind.i64 (x.kd i.toNat)), (.str ((ByteArray.mk #[]))), (.int false IntKind.i64 (x.N i.toNat)), (.int false IntKind.i64 (x.op i.toNat)), (.int false IntKind.i64 (x.r1 i.toNat)), (.int false IntKind.i64 (x.r2 i.toNat))])]
                            else
                              .norm 159 [(.int false IntKind.i64 (t)), (.sl 0 (x.n)), (.sl 1168 32001), (.int false IntKind.i64 (ar BinOp.add IntKind.i64 i 1))] [(0, .tab (x.n) [.ints IntKind.i64 (x.kd), .strs (x.bs), .ints IntKind.i64 (x.N), .ints IntKind.i64 (x.op), .ints IntKind.i64 (x.r1), .ints IntKind.i64 (x.r2)] false), (1168, .tab 32001 [.bools (a)] true), (1360, .cells [(.int false IntKind.i64 (x.kd i.toNat)), (.str (x.bs i.toNat)), (.int false IntKind.i64 (x.N i.toNat)), (.int false IntKind.i64 (x.op i.toNat)), (.int false IntKind.i64 (x.r1 i.toNat)), (.int false IntKind.i64 (x.r2 i.toNat))]), (1472, .cells [(.int false IntKind.i64 (x.kd i.toNat)), (.str ((ByteArray.mk #[]))), (.int false IntKind.i64 (x.N i.toNat)), (.int false IntKind.i64 (x.op i.toNat)), (.int false IntKind.i64 (x.r1 i.toNat)), (.int false IntKind.i64 (x.r2 i.toNat))])]
                          else
                            bif (bif !bif bif bif cm BinOp.geq (x.N i.toNat) 0 then cm BinOp.leq (x.N i.toNat) 32000 else false then a (x.N i.toNat).toNat else false then bif cm BinOp.geq (x.op i.toNat) 2 then bif cm BinOp.leq (x.op i.toNat) 7 then true else bif cm BinOp.geq (x.op i.toNat) 12 then cm BinOp.leq (x.op i.toNat) 15 else false else bif cm BinOp.geq (x.op i.toNat) 12 then cm BinOp.leq (x.op i.toNat) 15 else false else false then true else !(x.kd i.toNat == x.kd i.toNat && (seq (x.bs i.toNat) (ByteArray.mk #[]) && (x.N i.toNat == x.N i.toNat && (x.op i.toNat == x.op i.toNat && (x.r1 i.toNat == 0 && (x.r2 i.toNat == 0 && true))))))) then
                              .ret (.bool true false) [(0, .tab (x.n) [.ints IntKind.i64 (x.kd), .strs (x.bs), .ints IntKind.i64 (x.N), .ints IntKind.i64 (x.op), .ints IntKind.i64 (x.r1), .ints IntKind.i64 (x.r2)] false), (1168, .tab 32001 [.bools (a)] true), (1360, .cells [(.int false IntKind.i64 (x.kd i.toNat)), (.str (x.bs i.toNat)), (.int false IntKind.i64 (x.N i.toNat)), (.int false IntKind.i64 (x.op i.toNat)), (.int false IntKind.i64 (x.r1 i.toNat)), (.int false IntKind.i64 (x.r2 i.toNat))]), (1472, .cells [(.int false IntKind.i64 (x.kd i.toNat)), (.str ((ByteArray.mk #[]))), (.int false IntKind.i64 (x.N i.toNat)), (.int false IntKind.i64 (x.op i.toNat)), (.int true IntKind.i64 0), (.int true IntKind.i64 0)])]
                            else
                              .norm 159 [(.int false IntKind.i64 (t)), (.sl 0 (x.n)), (.sl 1168 32001), (.int false IntKind.i64 (ar BinOp.add IntKind.i64 i 1))] [(0, .tab (x.n) [.ints IntKind.i64 (x.kd), .strs (x.bs), .ints IntKind.i64 (x.N), .ints IntKind.i64 (x.op), .ints IntKind.i64 (x.r1), .ints IntKind.i64 (x.r2)] false), (1168, .tab 32001 [.bools (a)] true), (1360, .cells [(.int false IntKind.i64 (x.kd i.toNat)), (.str (x.bs i.toNat)), (.int false IntKind.i64 (x.N i.toNat)), (.int false IntKind.i64 (x.op i.toNat)), (.int false IntKind.i64 (x.r1 i.toNat)), (.int false IntKind.i64 (x.r2 i.toNat))]), (1472, .cells [(.int false IntKind.i64 (x.kd i.toNat)), (.str ((ByteArray.mk #[]))), (.int false IntKind.i64 (x.N i.toNat)), (.int false IntKind.i64 (x.op i.toNat)), (.int true IntKind.i64 0), (.int true IntKind.i64 0)])]
                        else .bad
                      else
                        .ret (.bool true false) [(0, .tab (x.n) [.ints IntKind.i64 (x.kd), .strs (x.bs), .ints IntKind.i64 (x.N), .ints IntKind.i64 (x.op), .ints IntKind.i64 (x.r1), .ints IntKind.i64 (x.r2)] false), (1168, .tab 32001 [.bools (a)] true), (1360, .cells [(.int false IntKind.i64 (x.kd i.toNat)), (.str (x.bs i.toNat)), (.int false IntKind.i64 (x.N i.toNat)), (.int false IntKind.i64 (x.op i.toNat)), (.int false IntKind.i64 (x.r1 i.toNat)), (.int false IntKind.i64 (x.r2 i.toNat))]), (1472, .cells [(.int false IntKind.i64 (x.kd i.toNat)), (.str ((ByteArray.mk #[]))), (.int false IntKind.i64 (x.N i.toNat)), (.int true IntKind.i64 0), (.int true IntKind.i64 0), (.int true IntKind.i64 0)])]
            else .bad
          else .bad
        else .bad
      else .bad
    else
      .exit 2 159 [(.int false IntKind.i64 (t)), (.sl 0 (x.n)), (.sl 1168 32001), (.int false IntKind.i64 (i))] [(0, .tab (x.n) [.ints IntKind.i64 (x.kd), .strs (x.bs), .ints IntKind.i64 (x.N), .ints IntKind.i64 (x.op), .ints IntKind.i64 (x.r1), .ints IntKind.i64 (x.r2)] false), (1168, .tab 32001 [.bools (a)] true)]) := by kernel_rfl

end Go.La
end

section
set_option linter.unusedVariables false
open Go Go.Ev Go.Proofs
namespace Go.La

def isLab (x : It) (j : Nat) : Bool := decide (x.kd j = 2) && (decide (0 ≤ x.N j) && decide (x.N j ≤ 32000))
/-- which labels are there; is none there twice -/
def atK (x : It) : Nat → Nat → Bool
  | 0 => fun _ => false
  | j + 1 => bif isLab x j then upd (atK x j) (x.N j).toNat true else atK x j
def unK (x : It) : Nat → Bool
  | 0 => true
  | j + 1 => unK x j && !(isLab x j && atK x j (x.N j).toNat)
theorem unK_le {x : It} : ∀ {j i : Nat}, i ≤ j → unK x j = true → unK x i = true
  | 0, i, h, hv => by obtain rfl : i = 0 := by omega
                      exact hv
  | j + 1, i, h, hv => by
    by_cases e : i = j + 1
    · subst e; exact hv
    · simp only [unK, Bool.and_eq_true] at hv
      exact unK_le (show i ≤ j by omega) hv.1
noncomputable def unC (x : It) : Bool := clsB (unK x x.n = true)
noncomputable def get10a : List SV → Heap → Option Tr
  | [.int _ .i64 t, .sl ka na, .sl kb nb, .int _ .i64 i], [(j0, .tab n1 [.ints .i64 kd, .strs bs, .ints .i64 N, .ints .i64 op, .ints .i64 r1, .ints .i64 r2] _), (j1, .tab n2 [.bools a] true)] =>
    some (Tr.needs [Nat.beq ka 0, Nat.beq na n1, Nat.beq kb 1168, clsB (nb = 32001), decide (i = 0), Nat.beq j0 0, Nat.beq j1 1168, clsB (n2 = 32001), smB n1, fB a]
      (.node (unC ⟨n1, kd, bs, N, op, r1, r2⟩) (exitT lk10a 0 [.int false .i64 t, .sl 0 n1, .sl 1168 32001, .any] (hA ⟨n1, kd, bs, N, op, r1, r2⟩ (atK ⟨n1, kd, bs, N, op, r1, r2⟩ n1))) (.ret (.bool true false) [])))
  | _, _ => none
noncomputable def lq10a : Lp := { lk10a with get := get10a }
structure X10 where
  x : It
  t : Int
  j : Nat
def ok10a (s : X10) : Prop := s.j ≤ s.x.n ∧ s.x.n ≤ 32000 ∧ unK s.x s.j = true
def vs10a (s : X10) : List SV := v10a s.x s.t s.j
def hp10a (s : X10) : Heap := hA s.x (atK s.x s.j)
noncomputable def out10a (s : X10) : Vw := bif unC s.x then .exit 0 159 [.int false .i64 s.t, .sl 0 s.x.n, .sl 1168 32001, .any] (hA s.x (atK s.x s.x.n)) else .ret (.bool true false) []
theorem hA_wk (x : It) {a a' : Nat → Bool} {f : Bool} (h : a = a') : wkH (rmap []) [(0, .tab x.n x.cols f), (1168, .tab 32001 [.bools a] true)] (hA x a') := by
  subst h
  simp [hA, wkH, wkB, wkCs, wkC, rmap, rlook, Ev.look, It.cols]

theorem entry10a (l : List SV) (H : Heap) (T : Tr) (h : lq10a.get l H = some T) (hb : T.leaf ≠ .bad) : ∃ x r, ok10a x ∧ WkV r lq10a.nm l H (vs10a x) (hp10a x) ∧ T.leaf = toLf lq10a (out10a x) := by
  replace h : get10a l H = some T := h
  unfold get10a at h
  split at h
  · rename_i _ t ka na kb nb _ i j0 n1 kd bs N op r1 r2 _ j1 n2 a
    simp only [Option.some.injEq] at h
    subst h
    obtain ⟨hn, he⟩ := needs_ne hb
    rw [he]
    simp only [allB, Bool.and_eq_true, Bool.and_true, decide_eq_true_eq, Nat.beq_eq, smB_iff, fB, clsB_iff] at hn
    obtain ⟨rfl, rfl, rfl, rfl, rfl, rfl, rfl, rfl, hs, rfl⟩ := hn
    refine ⟨⟨⟨na, kd, bs, N, op, r1, r2⟩, t, 0⟩, [], ⟨Nat.zero_le _, hs, rfl⟩, ?_, ?_⟩
    · exact ⟨rfl, ⟨⟨rfl, rfl⟩, ⟨rfl, rfl⟩, ⟨rfl, rfl⟩, ⟨rfl, rfl⟩, trivial⟩, hA_wk ⟨na, kd, bs, N, op, r1, r2⟩ rfl, rfl, rfl⟩
    · rw [leaf_node, exitT_leaf, out10a, toLf_cond]
      rfl
  · cases h

theorem lq_lp {E : Env} {P : Program} {res : List ResultVar} {c : Code} {n : Nat} {l : List SV} {H : Heap} : evalB E P res c n lq10a l H = evalB E P res c n lp10a l H := rfl
attribute [local irreducible] evalB Tr.view in
theorem round10a (s : X10) (hx : ok10a s) : Round lq10a ok10a (fun s => s.x.n - s.j) vs10a hp10a out10a s ((evalB EP Try.prog Try.f10.results.toList (loopOf Try.f10 0) (0 + 1) lq10a (vs10a s) (hp10a s)).view lq10a.ks) := by
  obtain ⟨x, t, j⟩ := s
  obtain ⟨h0, h1, h2⟩ := hx
  simp only at h0 h1 h2
  have hr := r10a x t (atK x j) j
  rw [show evalB EP Try.prog Try.f10.results.toList (loopOf Try.f10 0) (0 + 1) lq10a (vs10a ⟨x, t, j⟩) (hp10a ⟨x, t, j⟩) = evalB EP Try.prog Try.f10.results.toList (loopOf Try.f10 0) 1 lp10a (v10a x t j) (hA x (atK x j)) from lq_lp, show lq10a.ks = [0, 1, 5, 6] from rfl, hr]
  by_cases hj : j < x.n
  · have e1 : cm .lss (j : Int) (x.n : Int) = true := by rw [cm_lss']; exact decide_eq_true (by omega)
    have e2 : decide (0 ≤ (j : Int)) = true := decide_eq_true (by omega)
    have e3 : decide ((j : Int) < (x.n : Int)) = true := decide_eq_true (by omega)
    have e4 : (bif cm .eql (x.kd j) 2 then bif cm .geq (x.N j) 0 then cm .leq (x.N j) 32000 else false else false) = isLab x j := by
      unfold isLab
      rw [cm_eql', cm_geq', cm_leq']
      cases decide (x.kd j = 2) <;> cases decide (0 ≤ x.N j) <;> rfl
    have e5 : (bif cm .eql (x.kd j) 2 then true else true) = true := by cases cm .eql (x.kd j) 2 <;> rfl
    simp only [e1, e2, e3, e4, e5, blt_t hj, cond_true, Int.toNat_natCast, allB, Bool.and_true, addOne (show j < 9223372036854775807 by omega)]
    have hv : unK x (j + 1) = !(isLab x j && atK x j (x.N j).toNat) := by simp only [unK, h2, Bool.true_and]
    cases hl : isLab x j with
    | false =>
      rw [hl] at hv
      simp only [cond_false]
      refine ⟨rfl, ⟨x, t, j + 1⟩, [], ⟨hj, h1, hv⟩, by show x.n - (j + 1) < x.n - j; omega, rfl, rfl, ?_, ?_, rfl, rfl⟩
      · exact ⟨⟨rfl, rfl⟩, ⟨rfl, rfl⟩, ⟨rfl, rfl⟩, ⟨rfl, rfl⟩, trivial⟩
      · exact hA_wk x (by simp only [atK, hl, cond_false])
    | true =>
      rw [hl, Bool.true_and] at hv
      have hl' := hl
      simp only [isLab, Bool.and_eq_true, decide_eq_true_eq] at hl'
      obtain ⟨_, q0, q1⟩ := hl'
      simp only [cond_true, decide_eq_true q0, decide_eq_true (show x.N j < 32001 by omega), blt_t (show (x.N j).toNat < 32001 by omega)]
      cases ha : atK x j (x.N j).toNat with
      | true =>
        rw [ha] at hv
        simp only [cond_true]
        have : unC x = false := by
          rw [Bool.eq_false_iff]
          intro h'
          have := unK_le (show j + 1 ≤ x.n from hj) (clsB_iff.1 h')
          rw [hv] at this; cases this
        exact ⟨.bool true false, [], [], by simp only [out10a, this, cond_false], rfl, rfl, trivial, rfl⟩
      | false =>
        rw [ha] at hv
        simp only [cond_false]
        refine ⟨rfl, ⟨x, t, j + 1⟩, [], ⟨hj, h1, hv⟩, by show x.n - (j + 1) < x.n - j; omega, rfl, rfl, ?_, ?_, rfl, rfl⟩
        · exact ⟨⟨rfl, rfl⟩, ⟨rfl, rfl⟩, ⟨rfl, rfl⟩, ⟨rfl, rfl⟩, trivial⟩
        · exact hA_wk x (by simp only [atK, hl, cond_true])
  · obtain rfl : j = x.n := by omega
    have e1 : cm .lss (x.n : Int) (x.n : Int) = false := by simp [cm]
    have hu : unC x = true := clsB_iff.2 h2
    simp only [e1, cond_false]
    refine ⟨rfl, [.int false .i64 t, .sl 0 x.n, .sl 1168 32001, .any], _, [], by simp only [out10a, hu, cond_true]; rfl, rfl, ?_, ?_, rfl, rfl⟩
    · exact ⟨⟨rfl, rfl⟩, ⟨rfl, rfl⟩, ⟨rfl, rfl⟩, trivial, trivial⟩
    · exact hA_wk x rfl

end Go.La
end

section
set_option linter.unusedVariables false
open Go Go.Ev Go.Proofs
namespace Go.La

noncomputable def ER : Env := inlF Try.prog (envOf [(28, specOf g28)] noLoop) [26, 27] [] [] 3
theorem namedR : named Try.prog [26, 27] = true := by kernel_rfl
theorem er_calls : CallsOk ER Try.prog := (inlF_calls ((SpecsOk.cons spec28 SpecsOk.nil).calls noLoop) mixed namedR rfl rfl 3).1
theorem er_loop : ER.loop = noLoop := rfl
def hR (x : It) (lg : Nat → Bool) (p q : Nat → Int) : Heap := [(0, .tab x.n x.cols false), (1104, .tab x.n [.bools lg] true), (1168, .tab x.n [.ints .i64 p] true), (1200, .tab 32001 [.ints .i64 q] true)]
/-! the placing -/
def v11b (x : It) (t h i : Int) : List SV := [.int false .i64 t, .sl 0 x.n, .sl 1104 x.n, .sl 1168 x.n, .sl 1200 32001, .int false .i64 h, .int false .i64 i]
def lp11b : Lp := ⟨164, [0, 1, 7, 8, 9, 10, 11], 1264, fun _ _ => none⟩
/-! the bytes -/
def hRb (x : It) (lg : Nat → Bool) (p q : Nat → Int) (m : Nat) (g : Nat → Int) : Heap := hR x lg p q ++ [(1800, .tab m [.ints .u8 g] true)]
def v11d (x : It) (t : Int) (m : Nat) (i : Int) : List SV := [.int false .i64 t, .sl 0 x.n, .sl 1104 x.n, .sl 1168 x.n, .sl 1200 32001, .sl 1800 m, .int false .i64 i]
def lp11d : Lp := ⟨164, [0, 1, 7, 8, 9, 16, 17], 1900, fun _ _ => none⟩
--LEAVES

theorem r11b (x : It) (t : Int) (lg : Nat → Bool) (p : Nat → Int) (q : Nat → Int) (h : Int) (i : Int) : (evalB ER Try.prog Try.f11.results.toList (loopOf Try.f11 1) 2 lp11b (v11b x t h i) (hR x lg p q)).view [0, 1, 7, 8, 9, 10, 11] =
    (bif (cm .lss i (↑x.n : Int)) then
      bif (decide (0 ≤ i)) then
        bif (decide (i < (↑x.n : Int))) then
          bif (Nat.blt (i.toNat) (x.n)) then
            bif (Nat.blt (i.toNat) (x.n)) then
              bif (decide (0 ≤ i)) then
                bif (decide (i < (↑x.n : Int))) then
                  bif (Nat.blt (i.toNat) (x.n)) then
                    bif (Nat.blt (i.toNat) (x.n)) then
                      bif (cm .eql (x.kd i.toNat) 2) then
                        bif (decide (0 ≤ i)) then
                          bif (decide (i < (↑x.n : Int))) then
                            bif (Nat.blt (i.toNat) (x.n)) then
                              bif (Nat.blt (i.toNat) (x.n)) then
                                bif (decide (0 ≤ x.N i.toNat)) then
                                  bif (decide (x.N i.toNat < 32001)) then
                                    bif (Nat.blt ((x.N i.toNat).toNat) (32001)) then
                                      bif (Nat.blt ((x.N i.toNat).toNat) (32001)) then
                                        bif (decide (0 ≤ i)) then
                                          bif (decide (i < (↑x.n : Int))) then
                                            bif (Nat.blt (i.toNat) (x.n)) then
                                              bif (Nat.blt (i.toNat) (x.n)) then
                                                bif (decide (0 ≤ i)) then
                                                  bif (decide (i < (↑x.n : Int))) then
                                                    bif (Nat.blt (i.toNat) (x.n)) then
                                                      bif (Nat.blt (i.toNat) (x.n)) then
                                                        .norm 164 [(.int false .i64 (t)), (.sl 0 (x.n)), (.sl 1104 (x.n)), (.sl 1168 (x.n)), (.sl 1200 32001), (.int false .i64 (ar .add .i64 h (bif cm .eql (x.kd i.toNat) 1 then (↑(x.bs i.toNat).size : Int) else bif cm .eql (x.kd i.toNat) 2 then 0 else bif cm .eql t 1 then bif bif cm .eql (x.kd i.toNat) 4 then lg i.toNat else false then 8 else 4 else bif bif cm .eql (x.kd i.toNat) 5 then true else bif cm .eql (x.kd i.toNat) 3 then lg i.toNat else false then 5 else bif lg i.toNat then 6 else 2))), (.int false .i64 (ar .add .i64 i 1))] [(0, .tab (x.n) [.ints .i64 (x.kd), .strs (x.bs), .ints .i64 (x.N), .ints .i64 (x.op), .ints .i64 (x.r1), .ints .i64 (x.r2)] false), (1104, .tab (x.n) [.bools (lg)] true), (1168, .tab (x.n) [.ints .i64 (upd p i.toNat h)] true), (1200, .tab 32001 [.ints .i64 (upd q (x.N i.toNat).toNat h)] true)]
                                                      else .bad
                                                    else .bad
                                                  else .bad
                                                else .bad
                                              else .bad
                                            else .bad
                                          else .bad
                                        else .bad
                                      else .bad
                                    else .bad
                                  else .bad
                                else .bad
                              else .bad
                            else .bad
                          else .bad
                        else .bad
                      else
                        bif (decide (0 ≤ i)) then
                          bif (decide (i < (↑x.n : Int))) then
                            bif (Nat.blt (i.toNat) (x.n)) then
                              bif (Nat.blt (i.toNat) (x.n)) then
                                bif (decide (0 ≤ i)) then
                                  bif (decide (i < (↑x.n : Int))) then
                                    bif (Nat.blt (i.toNat) (x.n)) then
                                      bif (Nat.blt (i.toNat) (x.n)) then
                                        .norm 164 [(.int false .i64 (t)), (.sl 0 (x.n)), (.sl 1104 (x.n)), (.sl 1168 (x.n)), (.sl 1200 32001), (.int false .i64 (ar .add .i64 h (bif cm .eql (x.kd i.toNat) 1 then (↑(x.bs i.toNat).size : Int) else bif cm .eql (x.kd i.toNat) 2 then 0 else bif cm .eql t 1 then bif bif cm .eql (x.kd i.toNat) 4 then lg i.toNat else false then 8 else 4 else bif bif cm .eql (x.kd i.toNat) 5 then true else bif cm .eql (x.kd i.toNat) 3 then lg i.toNat else false then 5 else bif lg i.toNat then 6 else 2))), (.int false .i64 (ar .add .i64 i 1))] [(0, .tab (x.n) [.ints .i64 (x.kd), .strs (x.bs), .ints .i64 (x.N), .ints .i64 (x.op), .ints .i64 (x.r1), .ints .i64 (x.r2)] false), (1104, .tab (x.n) [.bools (lg)] true), (1168, .tab (x.n) [.ints .i64 (upd p i.toNat h)] true), (1200, .tab 32001 [.ints .i64 (q)] true)]
                                      else .bad
                                    else .bad
                                  else .bad
                                else .bad
                              else .bad
                            else .bad
                          else .bad
                        else .bad
                    else .bad
                  else .bad
                else .bad
              else .bad
            else .bad
          else .bad
        else .bad
      else .bad
    else
      .exit 2 164 [(.int false .i64 (t)), (.sl 0 (x.n)), (.sl 1104 (x.n)), (.sl 1168 (x.n)), (.sl 1200 32001), (.int false .i64 (h)), (.int false .i64 (i))] [(0, .tab (x.n) [.ints .i64 (x.kd), .strs (x.bs), .ints .i64 (x.N), .ints .i64 (x.op), .ints .i64 (x.r1), .ints .i64 (x.r2)] false), (1104, .tab (x.n) [.bools (lg)] true), (1168, .tab (x.n) [.ints .i64 (p)] true), (1200, .tab 32001 [.ints .i64 (q)] true)]) := by kernel_rfl

theorem r11d (x : It) (t : Int) (lg : Nat → Bool) (p : Nat → Int) (q : Nat → Int) (m : Nat) (g : Nat → Int) (i : Int) : (evalB ER Try.prog Try.f11.results.toList (loopOf Try.f11 3) 4 lp11d (v11d x t m i) (hRb x lg p q m g)).view [0, 1, 7, 8, 9, 16, 17] =
    (bif (cm .lss i (↑x.n : Int)) then
      bif (decide (0 ≤ i)) then
        bif (decide (i < (↑x.n : Int))) then
          bif (Nat.blt (i.toNat) (x.n)) then
            bif (Nat.blt (i.toNat) (x.n)) then
              bif (cm .eql (x.kd i.toNat) 1) then
                bif (Nat.ble (m) (m)) then
                  bif (Nat.ble ((m + (x.bs i.toNat).size) * 1) (1099511627776)) then
                    .norm 164 [(.int false .i64 (t)), (.sl 0 (x.n)), (.sl 1104 (x.n)), (.sl 1168 (x.n)), (.sl 1200 32001), (.sl 2172 (m + (x.bs i.toNat).size)), (.int false .i64 (ar .add .i64 i 1))] [(0, .tab (x.n) [.ints .i64 (x.kd), .strs (x.bs), .ints .i64 (x.N), .ints .i64 (x.op), .ints .i64 (x.r1), .ints .i64 (x.r2)] false), (1104, .tab (x.n) [.bools (lg)] true), (1168, .tab (x.n) [.ints .i64 (p)] true), (1200, .tab 32001 [.ints .i64 (q)] true), (1800, .dead), (2028, .cells [(.int false .i64 (x.kd i.toNat)), (.str (x.bs i.toNat)), (.int false .i64 (x.N i.toNat)), (.int false .i64 (x.op i.toNat)), (.int false .i64 (x.r1 i.toNat)), (.int false .i64 (x.r2 i.toNat))]), (2172, .tab (m + (x.bs i.toNat).size) [.ints .u8 (cat m g (chr (x.bs i.toNat)))] true)]
                  else .bad
                else .bad
              else
                bif (cm .eql (x.kd i.toNat) 3) then
                  bif (decide (0 ≤ i)) then
                    bif (decide (i < (↑x.n : Int))) then
                      bif (Nat.blt (i.toNat) (x.n)) then
                        bif (Nat.blt (i.toNat) (x.n)) then
                          bif (decide (0 ≤ x.N i.toNat)) then
                            bif (decide (x.N i.toNat < 32001)) then
                              bif (Nat.blt ((x.N i.toNat).toNat) (32001)) then
                                bif (Nat.blt ((x.N i.toNat).toNat) (32001)) then
                                  bif (decide (0 ≤ i)) then
                                    bif (decide (i < (↑x.n : Int))) then
                                      bif (Nat.blt (i.toNat) (x.n)) then
                                        bif (Nat.blt (i.toNat) (x.n)) then
                                          bif (clsB (x.kd i.toNat = 3 ∨ x.kd i.toNat = 4 ∨ x.kd i.toNat = 5)) then
                                            bif (Nat.ble (m) (m)) then
                                              bif (Nat.ble ((m + (byK t (x.kd i.toNat) (x.op i.toNat) (x.r1 i.toNat) (x.r2 i.toNat) (lg i.toNat) (x.bs i.toNat).size (ar .sub .i64 (q (x.N i.toNat).toNat) (p i.toNat))).size) * 1) (1099511627776)) then
                                                .norm 164 [(.int false .i64 (t)), (.sl 0 (x.n)), (.sl 1104 (x.n)), (.sl 1168 (x.n)), (.sl 1200 32001), (.sl 2444 (m + (byK t (x.kd i.toNat) (x.op i.toNat) (x.r1 i.toNat) (x.r2 i.toNat) (lg i.toNat) (x.bs i.toNat).size (ar .sub .i64 (q (x.N i.toNat).toNat) (p i.toNat))).size)), (.int false .i64 (ar .add .i64 i 1))] [(0, .tab (x.n) [.ints .i64 (x.kd), .strs (x.bs), .ints .i64 (x.N), .ints .i64 (x.op), .ints .i64 (x.r1), .ints .i64 (x.r2)] false), (1104, .tab (x.n) [.bools (lg)] true), (1168, .tab (x.n) [.ints .i64 (p)] true), (1200, .tab 32001 [.ints .i64 (q)] true), (1800, .dead), (2028, .cells [(.int false .i64 (x.kd i.toNat)), (.str (x.bs i.toNat)), (.int false .i64 (x.N i.toNat)), (.int false .i64 (x.op i.toNat)), (.int false .i64 (x.r1 i.toNat)), (.int false .i64 (x.r2 i.toNat))]), (2444, .tab (m + (byK t (x.kd i.toNat) (x.op i.toNat) (x.r1 i.toNat) (x.r2 i.toNat) (lg i.toNat) (x.bs i.toNat).size (ar .sub .i64 (q (x.N i.toNat).toNat) (p i.toNat))).size) [.ints .u8 (cat m g (chr (byK t (x.kd i.toNat) (x.op i.toNat) (x.r1 i.toNat) (x.r2 i.toNat) (lg i.toNat) (x.bs i.toNat).size (ar .sub .i64 (q (x.N i.toNat).toNat) (p i.toNat)))))] true)]
                                              else .bad
                                            else .bad
                                          else .bad
                                        else .bad
                                      else .bad
                                    else .bad
                                  else .bad
                                else .bad
                              else .bad
                            else .bad
                          else .bad
                        else .bad
                      else .bad
                    else .bad
                  else .bad
                else
                  bif (cm .eql (x.kd i.toNat) 4) then
                    bif (decide (0 ≤ i)) then
                      bif (decide (i < (↑x.n : Int))) then
                        bif (Nat.blt (i.toNat) (x.n)) then
                          bif (Nat.blt (i.toNat) (x.n)) then
                            bif (decide (0 ≤ x.N i.toNat)) then
                              bif (decide (x.N i.toNat < 32001)) then
                                bif (Nat.blt ((x.N i.toNat).toNat) (32001)) then
                                  bif (Nat.blt ((x.N i.toNat).toNat) (32001)) then
                                    bif (decide (0 ≤ i)) then
                                      bif (decide (i < (↑x.n : Int))) then
                                        bif (Nat.blt (i.toNat) (x.n)) then
                                          bif (Nat.blt (i.toNat) (x.n)) then
                                            bif (clsB (x.kd i.toNat = 3 ∨ x.kd i.toNat = 4 ∨ x.kd i.toNat = 5)) then
                                              bif (Nat.ble (m) (m)) then
                                                bif (Nat.ble ((m + (byK t (x.kd i.toNat) (x.op i.toNat) (x.r1 i.toNat) (x.r2 i.toNat) (lg i.toNat) (x.bs i.toNat).size (ar .sub .i64 (q (x.N i.toNat).toNat) (p i.toNat))).size) * 1) (1099511627776)) then
                                                  .norm 164 [(.int false .i64 (t)), (.sl 0 (x.n)), (.sl 1104 (x.n)), (.sl 1168 (x.n)), (.sl 1200 32001), (.sl 2476 (m + (byK t (x.kd i.toNat) (x.op i.toNat) (x.r1 i.toNat) (x.r2 i.toNat) (lg i.toNat) (x.bs i.toNat).size (ar .sub .i64 (q (x.N i.toNat).toNat) (p i.toNat))).size)), (.int false .i64 (ar .add .i64 i 1))] [(0, .tab (x.n) [.ints .i64 (x.kd), .strs (x.bs), .ints .i64 (x.N), .ints .i64 (x.op), .ints .i64 (x.r1), .ints .i64 (x.r2)] false), (1104, .tab (x.n) [.bools (lg)] true), (1168, .tab (x.n) [.ints .i64 (p)] true), (1200, .tab 32001 [.ints .i64 (q)] true), (1800, .dead), (2028, .cells [(.int false .i64 (x.kd i.toNat)), (.str (x.bs i.toNat)), (.int false .i64 (x.N i.toNat)), (.int false .i64 (x.op i.toNat)), (.int false .i64 (x.r1 i.toNat)), (.int false .i64 (x.r2 i.toNat))]), (2476, .tab (m + (byK t (x.kd i.toNat) (x.op i.toNat) (x.r1 i.toNat) (x.r2 i.toNat) (lg i.toNat) (x.bs i.toNat).size (ar .sub .i64 (q (x.N i.toNat).toNat) (p i.toNat))).size) [.ints .u8 (cat m g (chr (byK t (x.kd i.toNat) (x.op i.toNat) (x.r1 i.toNat) (x.r2 i.toNat) (lg i.toNat) (x.bs i.toNat).size (ar .sub .i64 (q (x.N i.toNat).toNat) (p i.toNat)))))] true)]
                                                else .bad
                                              else .bad
                                            else .bad
                                          else .bad
                                        else .bad
                                      else .bad
                                    else .bad
                                  else .bad
                                else .bad
                              else .bad
                            else .bad
                          else .bad
                        else .bad
                      else .bad
                    else .bad
                  else
                    bif (cm .eql (x.kd i.toNat) 5) then
                      bif (decide (0 ≤ i)) then
                        bif (decide (i < (↑x.n : Int))) then
                          bif (Nat.blt (i.toNat) (x.n)) then
                            bif (Nat.blt (i.toNat) (x.n)) then
                              bif (decide (0 ≤ x.N i.toNat)) then
                                bif (decide (x.N i.toNat < 32001)) then
                                  bif (Nat.blt ((x.N i.toNat).toNat) (32001)) then
                                    bif (Nat.blt ((x.N i.toNat).toNat) (32001)) then
                                      bif (decide (0 ≤ i)) then
                                        bif (decide (i < (↑x.n : Int))) then
                                          bif (Nat.blt (i.toNat) (x.n)) then
                                            bif (Nat.blt (i.toNat) (x.n)) then
                                              bif (clsB (x.kd i.toNat = 3 ∨ x.kd i.toNat = 4 ∨ x.kd i.toNat = 5)) then
                                                bif (Nat.ble (m) (m)) then
                                                  bif (Nat.ble ((m + (byK t (x.kd i.toNat) (x.op i.toNat) (x.r1 i.toNat) (x.r2 i.toNat) (lg i.toNat) (x.bs i.toNat).size (ar .sub .i64 (q (x.N i.toNat).toNat) (p i.toNat))).size) * 1) (1099511627776)) then
                                                    .norm 164 [(.int false .i64 (t)), (.sl 0 (x.n)), (.sl 1104 (x.n)), (.sl 1168 (x.n)), (.sl 1200 32001), (.sl 2508 (m + (byK t (x.kd i.toNat) (x.op i.toNat) (x.r1 i.toNat) (x.r2 i.toNat) (lg i.toNat) (x.bs i.toNat).size (ar .sub .i64 (q (x.N i.toNat).toNat) (p i.toNat))).size)), (.int false .i64 (ar .add .i64 i 1))] [(0, .tab (x.n) [.ints .i64 (x.kd), .strs (x.bs), .ints .i64 (x.N), .ints .i64 (x.op), .ints .i64 (x.r1), .ints .i64 (x.r2)] false), (1104, .tab (x.n) [.bools (lg)] true), (1168, .tab (x.n) [.ints .i64 (p)] true), (1200, .tab 32001 [.ints .i64 (q)] true), (1800, .dead), (2028, .cells [(.int false .i64 (x.kd i.toNat)), (.str (x.bs i.toNat)), (.int false .i64 (x.N i.toNat)), (.int false .i64 (x.op i.toNat)), (.int false .i64 (x.r1 i.toNat)), (.int false .i64 (x.r2 i.toNat))]), (2508, .tab (m + (byK t (x.kd i.toNat) (x.op i.toNat) (x.r1 i.toNat) (x.r2 i.toNat) (lg i.toNat) (x.bs i.toNat).size (ar .sub .i64 (q (x.N i.toNat).toNat) (p i.toNat))).size) [.ints .u8 (cat m g (chr (byK t (x.kd i.toNat) (x.op i.toNat) (x.r1 i.toNat) (x.r2 i.toNat) (lg i.toNat) (x.bs i.toNat).size (ar .sub .i64 (q (x.N i.toNat).toNat) (p i.toNat)))))] true)]
                                                  else .bad
                                                else .bad
                                              else .bad
                                            else .bad
                                          else .bad
                                        else .bad
                                      else .bad
                                    else .bad
                                  else .bad
                                else .bad
                              else .bad
                            else .bad
                          else .bad
                        else .bad
                      else .bad
                    else
                      .norm 164 [(.int false .i64 (t)), (.sl 0 (x.n)), (.sl 1104 (x.n)), (.sl 1168 (x.n)), (.sl 1200 32001), (.sl 1800 (m)), (.int false .i64 (ar .add .i64 i 1))] [(0, .tab (x.n) [.ints .i64 (x.kd), .strs (x.bs), .ints .i64 (x.N), .ints .i64 (x.op), .ints .i64 (x.r1), .ints .i64 (x.r2)] false), (1104, .tab (x.n) [.bools (lg)] true), (1168, .tab (x.n) [.ints .i64 (p)] true), (1200, .tab 32001 [.ints .i64 (q)] true), (1800, .tab (m) [.ints .u8 (g)] true), (2028, .cells [(.int false .i64 (x.kd i.toNat)), (.str (x.bs i.toNat)), (.int false .i64 (x.N i.toNat)), (.int false .i64 (x.op i.toNat)), (.int false .i64 (x.r1 i.toNat)), (.int false .i64 (x.r2 i.toNat))])]
            else .bad
          else .bad
        else .bad
      else .bad
    else
      .exit 6 164 [(.int false .i64 (t)), (.sl 0 (x.n)), (.sl 1104 (x.n)), (.sl 1168 (x.n)), (.sl 1200 32001), (.sl 1800 (m)), (.int false .i64 (i))] [(0, .tab (x.n) [.ints .i64 (x.kd), .strs (x.bs), .ints .i64 (x.N), .ints .i64 (x.op), .ints .i64 (x.r1), .ints .i64 (x.r2)] false), (1104, .tab (x.n) [.bools (lg)] true), (1168, .tab (x.n) [.ints .i64 (p)] true), (1200, .tab 32001 [.ints .i64 (q)] true), (1800, .tab (m) [.ints .u8 (g)] true)]) := by kernel_rfl

end Go.La
end

section
set_option linter.unusedVariables false
open Go Go.Ev Go.Proofs
namespace Go.La

def lbrB (n : Int) : Bool := decide (0 ≤ n) && decide (n ≤ 32000)
/-- may an item be, with the page's labels -/
def itB (t : Int) (x : It) (a : Nat → Bool) (i : Nat) : Bool :=
  oneB t (x.kd i) (x.bs i) (x.N i) (x.op i) (x.r1 i) (x.r2 i) && (bif decide (x.kd i = 2) then lbrB (x.N i) else bif decide (x.kd i = 3) || (decide (x.kd i = 4) || decide (x.kd i = 5)) then lbrB (x.N i) && a (x.N i).toNat else true)
noncomputable def itC (t : Int) (x : It) (a : Nat → Bool) : Bool := clsB (∀ i, i < x.n → itB t x a i = true)
noncomputable def tgB (t : Int) : Bool := clsB (t = 1 ∨ t = 2)
noncomputable def get10b : List SV → Heap → Option Tr
  | [.int _ .i64 t, .sl ka na, .sl kb nb, .int _ .i64 i], [(j0, .tab n1 [.ints .i64 kd, .strs bs, .ints .i64 N, .ints .i64 op, .ints .i64 r1, .ints .i64 r2] _), (j1, .tab n2 [.bools a] true)] =>
    some (Tr.needs [Nat.beq ka 0, Nat.beq na n1, Nat.beq kb 1168, clsB (nb = 32001), decide (i = 0), Nat.beq j0 0, Nat.beq j1 1168, clsB (n2 = 32001), smB n1, tgB t]
      (.node (itC t ⟨n1, kd, bs, N, op, r1, r2⟩ a) (exitT lk10b 2 [.any, .any, .any, .any] (hA ⟨n1, kd, bs, N, op, r1, r2⟩ a)) (.ret (.bool true false) [])))
  | _, _ => none
noncomputable def lq10b : Lp := { lk10b with get := get10b }
noncomputable def E10 : Env := ⟨EP.call, loopEnv [(0, lq10a), (1, lq10b)]⟩
--LEAVES

theorem t10 (x : It) (t : Int) : (evalF E10 Try.prog 10 [SV.int false IntKind.i64 t, SV.sl 0 x.n] (hI x) 1024).bare =
    (bif (bif !bif cm BinOp.eql t 1 then true else cm BinOp.eql t 2 then true else cm BinOp.gtr (↑x.n : Int) 32000) then
      .ret (.bool true false) []
    else
      bif (Nat.beq (x.n) (x.n)) then
        bif (clsB (32001 = 32001)) then
          bif (clsB (32001 = 32001)) then
            bif (smB x.n) then
              bif (fB fun x => false) then
                bif (unC { n := x.n, kd := x.kd, bs := x.bs, N := x.N, op := x.op, r1 := x.r1, r2 := x.r2 }) then
                  bif (Nat.beq (x.n) (x.n)) then
                    bif (clsB (32001 = 32001)) then
                      bif (clsB (32001 = 32001)) then
                        bif (smB x.n) then
                          bif (tgB t) then
                            bif (itC t { n := x.n, kd := x.kd, bs := x.bs, N := x.N, op := x.op, r1 := x.r1, r2 := x.r2 } (atK { n := x.n, kd := x.kd, bs := x.bs, N := x.N, op := x.op, r1 := x.r1, r2 := x.r2 } x.n)) then
                              .ret (.bool true true) []
                            else
                              .ret (.bool true false) []
                          else .bad
                        else .bad
                      else .bad
                    else .bad
                  else .bad
                else
                  .ret (.bool true false) []
              else .bad
            else .bad
          else .bad
        else .bad
      else .bad) := by kernel_rfl

end Go.La
end

section
set_option linter.unusedVariables false
open Go Go.Ev Go.Proofs
namespace Go.La

structure X10b where
  x : It
  t : Int
  a : Nat → Bool
  j : Nat
def ok10b (s : X10b) : Prop := s.j ≤ s.x.n ∧ s.x.n ≤ 32000 ∧ (s.t = 1 ∨ s.t = 2) ∧ ∀ i, i < s.j → itB s.t s.x s.a i = true
def vs10b (s : X10b) : List SV := v10b s.x s.t s.j
def hp10b (s : X10b) : Heap := hA s.x s.a
noncomputable def out10b (s : X10b) : Vw := bif itC s.t s.x s.a then .exit 2 159 [.any, .any, .any, .any] (hA s.x s.a) else .ret (.bool true false) []

theorem entry10b (l : List SV) (H : Heap) (T : Tr) (h : lq10b.get l H = some T) (hb : T.leaf ≠ .bad) : ∃ x r, ok10b x ∧ WkV r lq10b.nm l H (vs10b x) (hp10b x) ∧ T.leaf = toLf lq10b (out10b x) := by
  replace h : get10b l H = some T := h
  unfold get10b at h
  split at h
  · rename_i _ t ka na kb nb _ i j0 n1 kd bs N op r1 r2 _ j1 n2 a
    simp only [Option.some.injEq] at h
    subst h
    obtain ⟨hn, he⟩ := needs_ne hb
    rw [he]
    simp only [allB, Bool.and_eq_true, Bool.and_true, decide_eq_true_eq, Nat.beq_eq, smB_iff, tgB, clsB_iff] at hn
    obtain ⟨rfl, rfl, rfl, rfl, rfl, rfl, rfl, rfl, hs, ht⟩ := hn
    refine ⟨⟨⟨na, kd, bs, N, op, r1, r2⟩, t, a, 0⟩, [], ⟨Nat.zero_le _, hs, ht, fun i hi => by simp only at hi; omega⟩, ?_, ?_⟩
    · exact ⟨rfl, ⟨⟨rfl, rfl⟩, ⟨rfl, rfl⟩, ⟨rfl, rfl⟩, ⟨rfl, rfl⟩, trivial⟩, hA_wk ⟨na, kd, bs, N, op, r1, r2⟩ rfl, rfl, rfl⟩
    · rw [leaf_node, exitT_leaf, out10b, toLf_cond]
      rfl
  · cases h

theorem hA_wkM (x : It) (a : Nat → Bool) {f : Bool} {more : Heap} : wkH (rmap []) ((0, .tab x.n x.cols f) :: (1168, .tab 32001 [.bools a] true) :: more) (hA x a) := by
  simp [hA, wkH, wkB, wkCs, wkC, rmap, rlook, Ev.look, It.cols]

theorem step10b {x : It} {t : Int} {a : Nat → Bool} {j : Nat} {C : Bool} {H : Heap} {f : Bool} {more : Heap} (h0 : j < x.n) (h1 : x.n ≤ 32000) (ht : t = 1 ∨ t = 2) (h2 : ∀ i, i < j → itB t x a i = true) (hC : C = !itB t x a j) :
    Round lq10b ok10b (fun s => s.x.n - s.j) vs10b hp10b out10b ⟨x, t, a, j⟩ (bif C then .ret (.bool true false) H else .norm 159 [.int false .i64 t, .sl 0 x.n, .sl 1168 32001, .int false .i64 ((j + 1 : Nat) : Int)]
      ((0, .tab x.n x.cols f) :: (1168, .tab 32001 [.bools a] true) :: more)) := by
  subst hC
  cases ho : itB t x a j with
  | false =>
    have : itC t x a = false := by
      rw [Bool.eq_false_iff]
      intro h'
      have := clsB_iff.1 h' j h0
      rw [ho] at this; cases this
    exact ⟨.bool true false, [], [], by simp only [out10b, this, cond_false], rfl, rfl, trivial, rfl⟩
  | true =>
    refine ⟨rfl, ⟨x, t, a, j + 1⟩, [], ⟨h0, h1, ht, fun i hi => ?_⟩, by show x.n - (j + 1) < x.n - j; omega, rfl, rfl, ?_, ?_, rfl, rfl⟩
    · by_cases e : i = j
      · subst e; exact ho
      · exact h2 i (by simp only at hi; omega)
    · exact ⟨⟨rfl, rfl⟩, ⟨rfl, rfl⟩, ⟨rfl, rfl⟩, ⟨rfl, rfl⟩, trivial⟩
    · exact hA_wkM x a
theorem eqI (a b : Int) : (a == b) = decide (a = b) := by rw [Bool.eq_iff_iff]; simp
theorem seq_self (s : ByteArray) : seq s s = true := (seq_iff s s).2 rfl
theorem lt_le31 (a : Int) : decide (a < 32) = decide (a ≤ 31) := by rw [Bool.eq_iff_iff]; simp; omega

theorem lq_lpb {E : Env} {P : Program} {res : List ResultVar} {c : Code} {n : Nat} {l : List SV} {H : Heap} : evalB E P res c n lq10b l H = evalB E P res c n lp10b l H := rfl
attribute [local irreducible] evalB Tr.view in
theorem round10b (s : X10b) (hx : ok10b s) : Round lq10b ok10b (fun s => s.x.n - s.j) vs10b hp10b out10b s ((evalB EP Try.prog Try.f10.results.toList (loopOf Try.f10 1) (1 + 1) lq10b (vs10b s) (hp10b s)).view lq10b.ks) := by
  obtain ⟨x, t, a, j⟩ := s
  obtain ⟨h0, h1, ht, h2⟩ := hx
  simp only at h0 h1 h2 ht
  have hr := r10b x t a j
  rw [show evalB EP Try.prog Try.f10.results.toList (loopOf Try.f10 1) (1 + 1) lq10b (vs10b ⟨x, t, a, j⟩) (hp10b ⟨x, t, a, j⟩) = evalB EP Try.prog Try.f10.results.toList (loopOf Try.f10 1) 2 lp10b (v10b x t j) (hA x a) from lq_lpb, show lq10b.ks = [0, 1, 5, 7] from rfl, hr]
  by_cases hj : j < x.n
  · have e1 : cm .lss (j : Int) (x.n : Int) = true := by rw [cm_lss']; exact decide_eq_true (by omega)
    have e2 : decide (0 ≤ (j : Int)) = true := decide_eq_true (by omega)
    have e3 : decide ((j : Int) < (x.n : Int)) = true := decide_eq_true (by omega)
    have hit : itB t x a j = (oneB t (x.kd j) (x.bs j) (x.N j) (x.op j) (x.r1 j) (x.r2 j) && (bif decide (x.kd j = 2) then lbrB (x.N j) else bif decide (x.kd j = 3) || (decide (x.kd j = 4) || decide (x.kd j = 5)) then lbrB (x.N j) && a (x.N j).toNat else true)) := rfl
    have hst := fun C H f more hC => @step10b x t a j C H f more hj h1 ht h2 hC
    simp only [e1, e2, e3, blt_t hj, cond_true, Int.toNat_natCast, addOne (show j < 9223372036854775807 by omega), cm_eql', cm_leq', cm_geq', eqI, seq_self, decide_true, Bool.true_and, Bool.and_true]
    have hin : (bif (bif decide (0 ≤ x.N j) then decide (x.N j ≤ 32000) else false) then allB [decide (0 ≤ x.N j), decide (x.N j < 32001), (x.N j).toNat.blt 32001, (x.N j).toNat.blt 32001] else true) = true := by
      by_cases q0 : 0 ≤ x.N j
      · by_cases q1 : x.N j ≤ 32000
        · simp only [decide_eq_true q0, decide_eq_true q1, cond_true, allB, decide_eq_true (show x.N j < 32001 by omega), blt_t (show (x.N j).toNat < 32001 by omega), Bool.and_self]
        · simp only [decide_eq_true q0, decide_eq_false q1, cond_true, cond_false]
      · simp only [decide_eq_false q0, cond_false]
    simp only [hin, cond_true]
    unfold oneB condB lbrB at hit
    by_cases k1 : x.kd j = 1
    · rw [k1] at hit ⊢
      have hg : (bif decide (((x.bs j).size : Int) ≤ 64) then allB [bif decide (t = 2) then true else true] else true) = true := by
        cases decide (((x.bs j).size : Int) ≤ 64) <;> cases decide (t = 2) <;> rfl
      simp only [decide_true, cond_true, hg]
      refine hst _ _ _ _ ?_
      rw [hit]
      by_cases hs : (x.bs j).size ≤ 64
      · rw [rem4 _ (by omega), decide_eq_true hs, decide_eq_true (show ((x.bs j).size : Int) ≤ 64 by omega)]
        rcases ht with rfl | rfl <;> cases decide ((x.bs j).size % 4 = 0) <;> cases decide (x.N j = 0) <;> cases decide (x.op j = 0) <;> cases decide (x.r1 j = 0) <;> cases decide (x.r2 j = 0) <;> rfl
      · rw [decide_eq_false hs, decide_eq_false (show ¬ ((x.bs j).size : Int) ≤ 64 by omega)]
        cases decide (x.N j = 0) <;> cases decide (x.op j = 0) <;> cases decide (x.r1 j = 0) <;> cases decide (x.r2 j = 0) <;> rfl
    by_cases k2 : x.kd j = 2
    · rw [k2] at hit ⊢
      simp only [cond_true]
      refine hst _ _ _ _ ?_
      rw [hit]
      cases decide (0 ≤ x.N j) <;> cases decide (x.N j ≤ 32000) <;> cases seq (x.bs j) ⟨#[]⟩ <;> cases decide (x.op j = 0) <;> cases decide (x.r1 j = 0) <;> cases decide (x.r2 j = 0) <;> rfl
    by_cases k3 : x.kd j = 3
    · rw [k3] at hit ⊢
      simp only [cond_true]
      refine hst _ _ _ _ ?_
      rw [hit]
      cases decide (0 ≤ x.N j) <;> cases decide (x.N j ≤ 32000) <;> cases seq (x.bs j) ⟨#[]⟩ <;> cases decide (x.op j = 0) <;> cases decide (x.r1 j = 0) <;> cases decide (x.r2 j = 0) <;> cases a (x.N j).toNat <;> rfl
    by_cases k5 : x.kd j = 5
    · rw [k5] at hit ⊢
      simp only [cond_true]
      refine hst _ _ _ _ ?_
      rw [hit]
      cases decide (0 ≤ x.N j) <;> cases decide (x.N j ≤ 32000) <;> cases seq (x.bs j) ⟨#[]⟩ <;> cases decide (x.op j = 0) <;> cases decide (x.r1 j = 0) <;> cases decide (x.r2 j = 0) <;> cases a (x.N j).toNat <;> rfl
    by_cases k4 : x.kd j = 4
    · rw [k4] at hit ⊢
      simp only [lt_le31] at hit
      rcases ht with rfl | rfl
      · simp only [cond_true]
        refine hst _ _ _ _ ?_
        rw [hit]
        cases decide (0 ≤ x.N j) <;> cases decide (x.N j ≤ 32000) <;> cases seq (x.bs j) ⟨#[]⟩ <;> cases decide (5 ≤ x.op j) <;> cases decide (x.op j ≤ 10) <;> cases decide (0 ≤ x.r1 j) <;> cases decide (0 ≤ x.r2 j) <;> cases decide (x.r1 j ≤ 31) <;> cases decide (x.r2 j ≤ 31) <;> cases a (x.N j).toNat <;> rfl
      · simp only [cond_true, cond_false]
        refine hst _ _ _ _ ?_
        rw [hit]
        cases decide (0 ≤ x.N j) <;> cases decide (x.N j ≤ 32000) <;> cases seq (x.bs j) ⟨#[]⟩ <;> cases decide (2 ≤ x.op j) <;> cases decide (x.op j ≤ 7) <;> cases decide (12 ≤ x.op j) <;> cases decide (x.op j ≤ 15) <;> cases decide (x.r1 j = 0) <;> cases decide (x.r2 j = 0) <;> cases a (x.N j).toNat <;> rfl
    · rw [decide_eq_false k1, decide_eq_false k2, decide_eq_false k3, decide_eq_false k4, decide_eq_false k5] at hit ⊢
      simp only [cond_false]
      have : itC t x a = false := by
        rw [Bool.eq_false_iff]
        intro h'
        have := clsB_iff.1 h' j hj
        rw [hit] at this; cases this
      exact ⟨.bool true false, [], [], by simp only [out10b, this, cond_false], rfl, rfl, trivial, rfl⟩
  · obtain rfl : j = x.n := by omega
    have e1 : cm .lss (x.n : Int) (x.n : Int) = false := by simp [cm]
    have hu : itC t x a = true := clsB_iff.2 h2
    simp only [e1, cond_false]
    refine ⟨rfl, [.any, .any, .any, .any], _, [], by simp only [out10b, hu, cond_true]; rfl, rfl, ?_, ?_, rfl, rfl⟩
    · exact ⟨trivial, trivial, trivial, trivial, trivial⟩
    · exact hA_wk x rfl

theorem e10_calls : CallsOk E10 Try.prog := fun f args H nm r h hn => ep_calls f args H nm r h hn
attribute [local irreducible] evalB Tr.view in
theorem loop10a : LoopOk E10 Try.prog Try.f10 0 (loopOf Try.f10 0) :=
  loop_okE mixed (fun S => rfl) (by decide) ok10a (fun s => s.x.n - s.j) vs10a hp10a out10a entry10a fun x hx => ⟨EP, ep_calls, loops_noLoop ep_loop _ _, round10a x hx⟩
attribute [local irreducible] evalB Tr.view in
theorem loop10b : LoopOk E10 Try.prog Try.f10 1 (loopOf Try.f10 1) :=
  loop_okE mixed (fun S => rfl) (by decide) ok10b (fun s => s.x.n - s.j) vs10b hp10b out10b entry10b fun x hx => ⟨EP, ep_calls, loops_noLoop ep_loop _ _, round10b x hx⟩
theorem fn10 : Try.prog.funcs[10]? = some Try.f10 := by kernel_rfl
theorem b10 : Try.f10.body = some (bodyOf Try.f10) := by kernel_rfl
theorem n10 : (Try.f10.name == "runtime.NumGoroutine") = false := by kernel_rfl
theorem nl10 : Code.loops (bodyOf Try.f10) = 2 := by kernel_rfl
theorem nth10a : nthLoop (bodyOf Try.f10) 0 = some (loopOf Try.f10 0) := by kernel_rfl
theorem nth10b : nthLoop (bodyOf Try.f10) 1 = some (loopOf Try.f10 1) := by kernel_rfl
theorem loops10 : LoopsOk E10 Try.prog Try.f10 (bodyOf Try.f10) 0 := loops2 nl10
  (fun a ha => by rw [nth10a] at ha; simp only [Option.some.injEq] at ha; subst ha; exact loop10a)
  (fun a ha => by rw [nth10b] at ha; simp only [Option.some.injEq] at ha; subst ha; exact loop10b)

/-! the page's labels are the code's -/
theorem isLab_kd {x : It} {j : Nat} (h : isLab x j = true) : x.kd j = 2 ∧ 0 ≤ x.N j ∧ x.N j ≤ 32000 := by
  simpa [isLab] using h
/-- all labels of the first items are in range -/
def inK (x : It) (j : Nat) : Prop := ∀ i, i < j → x.kd i = 2 → 0 ≤ x.N i ∧ x.N i ≤ 32000
theorem isLab_in {x : It} {j m : Nat} (h : inK x m) (hj : j < m) : isLab x j = decide (x.kd j = 2) := by
  unfold isLab
  by_cases e : x.kd j = 2
  · obtain ⟨q0, q1⟩ := h j hj e
    rw [decide_eq_true e, decide_eq_true q0, decide_eq_true q1]; rfl
  · rw [decide_eq_false e]; rfl
theorem dom_at {x : It} {m : Nat} (h : inK x m) : ∀ j, j ≤ m → ∀ c : Int, domK x j c = (lbrB c && atK x j c.toNat)
  | 0, _, c => by simp [domK, atK]
  | j + 1, hj, c => by
    simp only [domK, atK, isLab_in h (show j < m by omega)]
    by_cases e : x.kd j = 2
    · obtain ⟨q0, q1⟩ := h j (by omega) e
      rw [decide_eq_true e, cond_true, cond_true]
      simp only [updI, upd]
      by_cases ec : c = x.N j
      · subst ec
        simp [lbrB, q0, q1]
      · have : (c == x.N j) = false := by simp [ec]
        rw [this, cond_false, dom_at h j (by omega) c]
        by_cases hr : lbrB c = true
        · simp only [lbrB, Bool.and_eq_true, decide_eq_true_eq] at hr
          have : Nat.beq c.toNat (x.N j).toNat = false := by
            rw [Bool.eq_false_iff, ne_eq, Nat.beq_eq]; omega
          rw [this, cond_false]
        · rw [Bool.not_eq_true] at hr
          rw [hr]; rfl
    · rw [decide_eq_false e, cond_false, cond_false]
      exact dom_at h j (by omega) c

theorem val_un {t : Int} {x : It} {m : Nat} (h : inK x m) (ho : ∀ i, i < m → oneB t (x.kd i) (x.bs i) (x.N i) (x.op i) (x.r1 i) (x.r2 i) = true) : ∀ j, j ≤ m → valK t x j = unK x j
  | 0, _ => rfl
  | j + 1, hj => by
    simp only [valK, unK, val_un h ho j (by omega), ho j (by omega), Bool.true_and, isLab_in h (show j < m by omega)]
    by_cases e : x.kd j = 2
    · obtain ⟨q0, q1⟩ := h j (by omega) e
      simp only [decide_eq_true e, cond_true, decide_eq_true q0, decide_eq_true q1, Bool.and_true, Bool.true_and, dom_at h j (by omega)]
      rw [show lbrB (x.N j) = true by simp [lbrB, q0, q1], Bool.true_and]
    · simp only [decide_eq_false e, cond_false, Bool.and_true, Bool.false_and, Bool.not_false]

theorem it_in {t : Int} {x : It} {a : Nat → Bool} (h : ∀ i, i < x.n → itB t x a i = true) : inK x x.n ∧ ∀ i, i < x.n → oneB t (x.kd i) (x.bs i) (x.N i) (x.op i) (x.r1 i) (x.r2 i) = true := by
  refine ⟨fun i hi e => ?_, fun i hi => ?_⟩
  · have := h i hi
    rw [itB, e, Bool.and_eq_true] at this
    have := this.2
    simp only [decide_true, cond_true, lbrB, Bool.and_eq_true, decide_eq_true_eq] at this
    exact this
  · have := h i hi
    rw [itB, Bool.and_eq_true] at this
    exact this.1
theorem val_in {t : Int} {x : It} {m : Nat} (h : valK t x m = true) : inK x m := fun i hi e => by
  have := valK_le (show i + 1 ≤ m from hi) h
  simp only [valK, Bool.and_eq_true, decide_eq_true e, cond_true, decide_eq_true_eq] at this
  exact this.2.2.2
theorem items_iff {t : Int} {x : It} (hs : x.n ≤ 32000) (ht : t = 1 ∨ t = 2) : okP t x ↔ unK x x.n = true ∧ ∀ i, i < x.n → itB t x (atK x x.n) i = true := by
  constructor
  · rintro ⟨_, _, hv, hto⟩
    have hin := val_in hv
    have ho := fun i hi => val_one hv (i := i) hi
    refine ⟨by rw [← val_un hin ho x.n (Nat.le_refl _)]; exact hv, fun i hi => ?_⟩
    rw [itB, ho i hi, Bool.true_and]
    have := hto i hi
    rw [toB, dom_at hin x.n (Nat.le_refl _)] at this
    by_cases e : x.kd i = 2
    · obtain ⟨q0, q1⟩ := hin i hi e
      rw [decide_eq_true e, cond_true, lbrB, decide_eq_true q0, decide_eq_true q1]; rfl
    · rw [decide_eq_false e, cond_false]
      exact this
  · rintro ⟨hu, hi⟩
    obtain ⟨hin, ho⟩ := it_in hi
    refine ⟨hs, ht, by rw [val_un hin ho x.n (Nat.le_refl _)]; exact hu, fun i hii => ?_⟩
    rw [toB, dom_at hin x.n (Nat.le_refl _)]
    have := hi i hii
    rw [itB, ho i hii, Bool.true_and] at this
    by_cases e : x.kd i = 2
    · rw [e]; rfl
    · rw [decide_eq_false e, cond_false] at this
      exact this

end Go.La
end

section
set_option linter.unusedVariables false
open Go Go.Ev Go.Proofs
namespace Go.La

noncomputable def g10T : List SV → Heap → Option R
  | [.int false .i64 t, .sl k n], [(j0, .tab n1 [.ints .i64 kd, .strs bs, .ints .i64 N, .ints .i64 op, .ints .i64 r1, .ints .i64 r2] _)] => match Nat.beq k 0 && Nat.beq j0 0 with
    | true => some ⟨[Nat.beq n n1, okB t ⟨n1, kd, bs, N, op, r1, r2⟩], .bool true true, []⟩
    | false => none
  | _, _ => none
noncomputable def g10F : List SV → Heap → Option R
  | [.int false .i64 t, .sl k n], [(j0, .tab n1 [.ints .i64 kd, .strs bs, .ints .i64 N, .ints .i64 op, .ints .i64 r1, .ints .i64 r2] _)] => match Nat.beq k 0 && Nat.beq j0 0 with
    | true => some ⟨[Nat.beq n n1, noB t ⟨n1, kd, bs, N, op, r1, r2⟩], .bool true false, []⟩
    | false => none
  | _, _ => none
theorem cls_t {p : Prop} (h : p) : clsB p = true := clsB_iff.2 h
theorem cls_f {p : Prop} (h : ¬ p) : clsB p = false := by rw [Bool.eq_false_iff]; exact fun h' => h (clsB_iff.1 h')

theorem head10 {t : Int} {n : Nat} (hs : n ≤ 32000) (ht : t = 1 ∨ t = 2) : (bif !bif cm .eql t 1 then true else cm .eql t 2 then true else cm .gtr (n : Int) 32000) = false := by
  have : cm .gtr (n : Int) 32000 = false := decide_eq_false (by omega)
  rw [this, cm_eql', cm_eql']
  rcases ht with rfl | rfl <;> rfl
theorem head10F {t : Int} {n : Nat} (h : (bif !bif cm .eql t 1 then true else cm .eql t 2 then true else cm .gtr (n : Int) 32000) = false) : n ≤ 32000 ∧ (t = 1 ∨ t = 2) := by
  rw [cm_eql', cm_eql'] at h
  have : cm .gtr (n : Int) 32000 = decide ((32000 : Int) < n) := rfl
  rw [this] at h
  by_cases h1 : t = 1
  · subst h1
    simp at h
    exact ⟨by omega, .inl rfl⟩
  · by_cases h2 : t = 2
    · subst h2
      simp at h
      exact ⟨by omega, .inr rfl⟩
    · simp [h1, h2] at h

attribute [local irreducible] evalF Lf.gives in
theorem spec10T : SpecOk Try.prog 10 (specOf g10T) := spec_okA false e10_calls mixed fn10 b10 n10 loops10 g10T fun a0 H0 r hg hn => by
  unfold g10T at hg
  split at hg
  · rename_i t k n j0 n1 kd bs N op r1 r2 _
    split at hg
    · rename_i hk
      simp only [Bool.and_eq_true, Nat.beq_eq] at hk
      obtain ⟨rfl, rfl⟩ := hk
      simp only [Option.some.injEq] at hg
      subst hg
      simp only [allB, Bool.and_eq_true, Bool.and_true, Nat.beq_eq, okB, clsB_iff] at hn
      obtain ⟨rfl, hok⟩ := hn
      refine ⟨_, id, fun _ => rfl, ?_⟩
      show GivesD _ (evalF E10 Try.prog 10 [.int false .i64 t, .sl 0 n] (hI ⟨n, kd, bs, N, op, r1, r2⟩) 1024).leaf
      refine gives_giv (gives_tree (t10 ⟨n, kd, bs, N, op, r1, r2⟩ t) ?_)
      obtain ⟨hu, hi⟩ := (items_iff hok.1 hok.2.1).1 hok
      have e1 : unC ⟨n, kd, bs, N, op, r1, r2⟩ = true := cls_t hu
      have e2 : itC t ⟨n, kd, bs, N, op, r1, r2⟩ (atK ⟨n, kd, bs, N, op, r1, r2⟩ n) = true := cls_t hi
      have e3 : fB (fun _ => false) = true := cls_t rfl
      have e4 : tgB t = true := cls_t hok.2.1
      simp only [head10 hok.1 hok.2.1, e1, e2, e3, e4, smB_iff.2 hok.1, beq_t, cls_t, cond_true, cond_false]
      exact gives_ret fun σ σ' => rfl
    · cases hg
  · cases hg

attribute [local irreducible] evalF Lf.gives in
theorem spec10F : SpecOk Try.prog 10 (specOf g10F) := spec_okA false e10_calls mixed fn10 b10 n10 loops10 g10F fun a0 H0 r hg hn => by
  unfold g10F at hg
  split at hg
  · rename_i t k n j0 n1 kd bs N op r1 r2 _
    split at hg
    · rename_i hk
      simp only [Bool.and_eq_true, Nat.beq_eq] at hk
      obtain ⟨rfl, rfl⟩ := hk
      simp only [Option.some.injEq] at hg
      subst hg
      simp only [allB, Bool.and_eq_true, Bool.and_true, Nat.beq_eq, noB, clsB_iff] at hn
      obtain ⟨rfl, hno⟩ := hn
      refine ⟨_, id, fun _ => rfl, ?_⟩
      show GivesD _ (evalF E10 Try.prog 10 [.int false .i64 t, .sl 0 n] (hI ⟨n, kd, bs, N, op, r1, r2⟩) 1024).leaf
      refine gives_giv (gives_tree (t10 ⟨n, kd, bs, N, op, r1, r2⟩ t) ?_)
      have e3 : fB (fun _ => false) = true := cls_t rfl
      cases hh : (bif !bif cm .eql t 1 then true else cm .eql t 2 then true else cm .gtr (n : Int) 32000) with
      | true => rw [cond_true]; exact gives_ret fun σ σ' => rfl
      | false =>
        obtain ⟨hs, ht⟩ := head10F hh
        have e4 : tgB t = true := cls_t ht
        simp only [e3, e4, smB_iff.2 hs, beq_t, cls_t, cond_true, cond_false]
        cases e1 : unC ⟨n, kd, bs, N, op, r1, r2⟩ with
        | false => rw [cond_false]; exact gives_ret fun σ σ' => rfl
        | true =>
          cases e2 : itC t ⟨n, kd, bs, N, op, r1, r2⟩ (atK ⟨n, kd, bs, N, op, r1, r2⟩ n) with
          | false => rw [cond_true, cond_false]; exact gives_ret fun σ σ' => rfl
          | true => exact absurd ((items_iff hs ht).2 ⟨clsB_iff.1 e1, clsB_iff.1 e2⟩) hno
    · cases hg
  · cases hg

end Go.La
end

section
set_option linter.unusedVariables false
open Go Go.Ev Go.Proofs
namespace Go.La

/-- where the items lie; where the labels lie, by the page -/
def posP (x : It) (t : Int) (lg : Nat → Bool) : Nat → Int := fun r => (posN (y0 x t lg) r : Int)
def labQ (x : It) (t : Int) (lg : Nat → Bool) : Nat → Int := fun c => bif domK x x.n (c : Int) then (posN (y0 x t lg) (lbK x x.n (c : Int)).toNat : Int) else 0
/-- rows without a label are nought -/
noncomputable def qB (x : It) (q : Nat → Int) : Bool := clsB (∀ c : Nat, domK x x.n (c : Int) = false → q c = 0)
noncomputable def eqI1 (p q : Nat → Int) : Bool := clsB (p = q)
noncomputable def eqB1 (n : Nat) (p q : Nat → Bool) : Bool := clsB (∀ i, i < n → p i = q i)
noncomputable def rowsB (n : Nat) : Bool := clsB (n = 32001)
def lk11b : Lp := lp11b
noncomputable def get11b : List SV → Heap → Option Tr
  | [.int _ .i64 t, .sl ka na, .sl kl nl, .sl kp np, .sl kq nq, .int _ .i64 h, .int _ .i64 i], [(j0, .tab n1 [.ints .i64 kd, .strs bs, .ints .i64 N, .ints .i64 op, .ints .i64 r1, .ints .i64 r2] _), (j1, .tab n2 [.bools lg] true), (j2, .tab n3 [.ints .i64 p] true), (j3, .tab n4 [.ints .i64 q] true)] =>
    some (Tr.needs [Nat.beq ka 0, Nat.beq na n1, Nat.beq kl 1104, Nat.beq nl n1, Nat.beq kp 1168, Nat.beq np n1, Nat.beq kq 1200, rowsB nq, decide (h = 0), decide (i = 0), Nat.beq j0 0, Nat.beq j1 1104, Nat.beq j2 1168, Nat.beq j3 1200, Nat.beq n2 n1, Nat.beq n3 n1, rowsB n4, okB t ⟨n1, kd, bs, N, op, r1, r2⟩, qB ⟨n1, kd, bs, N, op, r1, r2⟩ q]
      (exitT lk11b 2 [.int false .i64 t, .sl 0 n1, .sl 1104 n1, .sl 1168 n1, .sl 1200 32001, .any, .any] (hR ⟨n1, kd, bs, N, op, r1, r2⟩ lg (posP ⟨n1, kd, bs, N, op, r1, r2⟩ t lg) (labQ ⟨n1, kd, bs, N, op, r1, r2⟩ t lg))))
  | _, _ => none
noncomputable def lq11b : Lp := { lk11b with get := get11b }
/-! what turns long -/
def v11c (x : It) (t : Int) (ag : Bool) (i : Int) : List SV := [.int false .i64 t, .sl 0 x.n, .sl 1104 x.n, .sl 1168 x.n, .sl 1200 32001, .bool false ag, .sl 1312 x.n, .int false .i64 i]
def hRc (x : It) (lg : Nat → Bool) (p q : Nat → Int) (nx : Nat → Bool) : Heap := [(0, .tab x.n x.cols false), (1104, .tab x.n [.bools lg] true), (1168, .tab x.n [.ints .i64 p] true), (1200, .tab 32001 [.ints .i64 q] true), (1312, .tab x.n [.bools nx] true)]
def lk11c : Lp := ⟨164, [0, 1, 7, 8, 9, 12, 13, 14], 1360, fun _ _ => none⟩
noncomputable def get11c : List SV → Heap → Option Tr
  | [.int _ .i64 t, .sl ka na, .sl kl nl, .sl kp np, .sl kq nq, .bool _ ag, .sl kx nx, .int _ .i64 i], [(j0, .tab n1 [.ints .i64 kd, .strs bs, .ints .i64 N, .ints .i64 op, .ints .i64 r1, .ints .i64 r2] _), (j1, .tab n2 [.bools lg] true), (j2, .tab n3 [.ints .i64 p] true), (j3, .tab n4 [.ints .i64 q] true), (jd, _), (j4, .tab n5 [.bools nx'] true)] =>
    some (Tr.needs [Nat.beq ka 0, Nat.beq na n1, Nat.beq kl 1104, Nat.beq nl n1, Nat.beq kp 1168, Nat.beq np n1, Nat.beq kq 1200, rowsB nq, !ag, Nat.beq kx 1312, Nat.beq nx n1, decide (i = 0), Nat.beq j0 0, Nat.beq j1 1104, Nat.beq j2 1168, Nat.beq j3 1200, Nat.beq j4 1312, Nat.beq jd 1280, Nat.beq n2 n1, Nat.beq n3 n1, rowsB n4, Nat.beq n5 n1, okB t ⟨n1, kd, bs, N, op, r1, r2⟩, eqI1 p (posP ⟨n1, kd, bs, N, op, r1, r2⟩ t lg), eqI1 q (labQ ⟨n1, kd, bs, N, op, r1, r2⟩ t lg), eqB1 n1 nx' lg]
      (exitT lk11c 4 [.int false .i64 t, .sl 0 n1, .sl 1104 n1, .sl 1168 n1, .sl 1200 32001, .bool false (anyG (yOf ⟨n1, kd, bs, N, op, r1, r2⟩ t lg)), .sl 1312 n1, .any] (hRc ⟨n1, kd, bs, N, op, r1, r2⟩ lg (posP ⟨n1, kd, bs, N, op, r1, r2⟩ t lg) (labQ ⟨n1, kd, bs, N, op, r1, r2⟩ t lg) (growF (yOf ⟨n1, kd, bs, N, op, r1, r2⟩ t lg)))))
  | _, _ => none
noncomputable def lq11c : Lp := { lk11c with get := get11c }
noncomputable def E11c : Env := ⟨ER.call, loopEnv [(1, lq11b), (2, lq11c)]⟩
/-! round after round -/
def v11a (x : It) (t : Int) : List SV := [.int false .i64 t, .sl 0 x.n, .sl 1104 x.n, .sl 1168 x.n, .sl 1200 32001]
def lk11a : Lp := ⟨164, [0, 1, 7, 8, 9], 1232, fun _ _ => none⟩
noncomputable def get11a : List SV → Heap → Option Tr
  | [.int _ .i64 t, .sl ka na, .sl kl nl, .sl kp np, .sl kq nq], [(j0, .tab n1 [.ints .i64 kd, .strs bs, .ints .i64 N, .ints .i64 op, .ints .i64 r1, .ints .i64 r2] _), (j1, .tab n2 [.bools lg] true), (j2, .tab n3 [.ints .i64 p] true), (j3, .tab n4 [.ints .i64 q] true)] =>
    some (Tr.needs [Nat.beq ka 0, Nat.beq na n1, Nat.beq kl 1104, Nat.beq nl n1, Nat.beq kp 1168, Nat.beq np n1, Nat.beq kq 1200, rowsB nq, Nat.beq j0 0, Nat.beq j1 1104, Nat.beq j2 1168, Nat.beq j3 1200, Nat.beq n2 n1, Nat.beq n3 n1, rowsB n4, okB t ⟨n1, kd, bs, N, op, r1, r2⟩, fB lg, eqI1 q (fun _ => 0)]
      (exitT lk11a 0 [.int false .i64 t, .sl 0 n1, .sl 1104 n1, .sl 1168 n1, .sl 1200 32001] (hR ⟨n1, kd, bs, N, op, r1, r2⟩ (lastL ⟨n1, kd, bs, N, op, r1, r2⟩ t) (posP ⟨n1, kd, bs, N, op, r1, r2⟩ t (lastL ⟨n1, kd, bs, N, op, r1, r2⟩ t)) (labQ ⟨n1, kd, bs, N, op, r1, r2⟩ t (lastL ⟨n1, kd, bs, N, op, r1, r2⟩ t)))))
  | _, _ => none
noncomputable def lq11a : Lp := { lk11a with get := get11a }
/-! the bytes -/
def lk11d : Lp := lp11d
noncomputable def get11d : List SV → Heap → Option Tr
  | [.int _ .i64 t, .sl ka na, .sl kl nl, .sl kp np, .sl kq nq, .val (.slice none 0 0), .int _ .i64 i], [(j0, .tab n1 [.ints .i64 kd, .strs bs, .ints .i64 N, .ints .i64 op, .ints .i64 r1, .ints .i64 r2] _), (j1, .tab n2 [.bools lg] true), (j2, .tab n3 [.ints .i64 p] true), (j3, .tab n4 [.ints .i64 q] true)] =>
    some (Tr.needs [Nat.beq ka 0, Nat.beq na n1, Nat.beq kl 1104, Nat.beq nl n1, Nat.beq kp 1168, Nat.beq np n1, Nat.beq kq 1200, rowsB nq, decide (i = 0), Nat.beq j0 0, Nat.beq j1 1104, Nat.beq j2 1168, Nat.beq j3 1200, Nat.beq n2 n1, Nat.beq n3 n1, rowsB n4, okB t ⟨n1, kd, bs, N, op, r1, r2⟩, clsB (lg = lastL ⟨n1, kd, bs, N, op, r1, r2⟩ t), eqI1 p (posP ⟨n1, kd, bs, N, op, r1, r2⟩ t lg), eqI1 q (labQ ⟨n1, kd, bs, N, op, r1, r2⟩ t lg)]
      (exitT lk11d 6 [.any, .any, .any, .sl 1168 n1, .any, .sl 1800 (outB ⟨n1, kd, bs, N, op, r1, r2⟩ t).size, .any] (hRb ⟨n1, kd, bs, N, op, r1, r2⟩ (lastL ⟨n1, kd, bs, N, op, r1, r2⟩ t) (posP ⟨n1, kd, bs, N, op, r1, r2⟩ t (lastL ⟨n1, kd, bs, N, op, r1, r2⟩ t)) (labQ ⟨n1, kd, bs, N, op, r1, r2⟩ t (lastL ⟨n1, kd, bs, N, op, r1, r2⟩ t)) (outB ⟨n1, kd, bs, N, op, r1, r2⟩ t).size (chr (outB ⟨n1, kd, bs, N, op, r1, r2⟩ t)))))
  | _, _ => none
noncomputable def lq11d : Lp := { lk11d with get := get11d }
noncomputable def E11 : Env := ⟨ER.call, loopEnv [(0, lq11a), (3, lq11d)]⟩
--LEAVES

theorem r11c (x : It) (t : Int) (lg : Nat → Bool) (p : Nat → Int) (q : Nat → Int) (nx : Nat → Bool) (ag : Bool) (i : Int) : (evalB ER Try.prog Try.f11.results.toList (loopOf Try.f11 2) 3 lk11c (v11c x t ag i) (hRc x lg p q nx)).view [0, 1, 7, 8, 9, 12, 13, 14] =
    (bif (cm BinOp.lss i (↑x.n : Int)) then
      bif (decide (0 ≤ i)) then
        bif (decide (i < (↑x.n : Int))) then
          bif (Nat.blt (i.toNat) (x.n)) then
            bif (Nat.blt (i.toNat) (x.n)) then
              bif (bif cm BinOp.eql (x.kd i.toNat) 3 then allB [decide (0 ≤ i), decide (i < (↑x.n : Int)), i.toNat.blt x.n, i.toNat.blt x.n, bif !lg i.toNat then allB [decide (0 ≤ i), decide (i < (↑x.n : Int)), i.toNat.blt x.n, i.toNat.blt x.n, decide (0 ≤ i), decide (i < (↑x.n : Int)), i.toNat.blt x.n, i.toNat.blt x.n, decide (0 ≤ x.N i.toNat), decide (x.N i.toNat < 32001), (x.N i.toNat).toNat.blt 32001, (x.N i.toNat).toNat.blt 32001, decide (0 ≤ i), decide (i < (↑x.n : Int)), i.toNat.blt x.n, i.toNat.blt x.n] else true] else allB [bif cm BinOp.eql (x.kd i.toNat) 4 then allB [decide (0 ≤ i), decide (i < (↑x.n : Int)), i.toNat.blt x.n, i.toNat.blt x.n, bif !lg i.toNat then allB [decide (0 ≤ i), decide (i < (↑x.n : Int)), i.toNat.blt x.n, i.toNat.blt x.n, decide (0 ≤ i), decide (i < (↑x.n : Int)), i.toNat.blt x.n, i.toNat.blt x.n, decide (0 ≤ x.N i.toNat), decide (x.N i.toNat < 32001), (x.N i.toNat).toNat.blt 32001, (x.N i.toNat).toNat.blt 32001, decide (0 ≤ i), decide (i < (↑x.n : Int)), i.toNat.blt x.n, i.toNat.blt x.n] else true] else true]) then
                bif (bif cm BinOp.eql (x.kd i.toNat) 3 then bif !lg i.toNat then !bif bif cm BinOp.eql (x.kd i.toNat) 5 then true else bif cm BinOp.eql t 1 then cm BinOp.eql (x.kd i.toNat) 3 else false then true else bif cm BinOp.eql t 1 then bif cm BinOp.geq (ar BinOp.sub IntKind.i64 (q (x.N i.toNat).toNat) (p i.toNat)) (-4096) then cm BinOp.lss (ar BinOp.sub IntKind.i64 (q (x.N i.toNat).toNat) (p i.toNat)) 4096 else false else bif cm BinOp.geq (ar BinOp.sub IntKind.i64 (ar BinOp.sub IntKind.i64 (q (x.N i.toNat).toNat) (p i.toNat)) 2) (-128) then cm BinOp.leq (ar BinOp.sub IntKind.i64 (ar BinOp.sub IntKind.i64 (q (x.N i.toNat).toNat) (p i.toNat)) 2) 127 else false else false else bif cm BinOp.eql (x.kd i.toNat) 4 then bif !lg i.toNat then !bif bif cm BinOp.eql (x.kd i.toNat) 5 then true else bif cm BinOp.eql t 1 then cm BinOp.eql (x.kd i.toNat) 3 else false then true else bif cm BinOp.eql t 1 then bif cm BinOp.geq (ar BinOp.sub IntKind.i64 (q (x.N i.toNat).toNat) (p i.toNat)) (-4096) then cm BinOp.lss (ar BinOp.sub IntKind.i64 (q (x.N i.toNat).toNat) (p i.toNat)) 4096 else false else bif cm BinOp.geq (ar BinOp.sub IntKind.i64 (ar BinOp.sub IntKind.i64 (q (x.N i.toNat).toNat) (p i.toNat)) 2) (-128) then cm BinOp.leq (ar BinOp.sub IntKind.i64 (ar BinOp.sub IntKind.i64 (q (x.N i.toNat).toNat) (p i.toNat)) 2) 127 else false else false else false) then
                  bif (decide (0 ≤ i)) then
                    bif (decide (i < (↑x.n : Int))) then
                      bif (Nat.blt (i.toNat) (x.n)) then
                        bif (Nat.blt (i.toNat) (x.n)) then
                          .norm 164 [(.int false IntKind.i64 (t)), (.sl 0 (x.n)), (.sl 1104 (x.n)), (.sl 1168 (x.n)), (.sl 1200 32001), (.bool true true), (.sl 1312 (x.n)), (.int false IntKind.i64 (ar BinOp.add IntKind.i64 i 1))] [(0, .tab (x.n) [.ints IntKind.i64 (x.kd), .strs (x.bs), .ints IntKind.i64 (x.N), .ints IntKind.i64 (x.op), .ints IntKind.i64 (x.r1), .ints IntKind.i64 (x.r2)] false), (1104, .tab (x.n) [.bools (lg)] true), (1168, .tab (x.n) [.ints IntKind.i64 (p)] true), (1200, .tab 32001 [.ints IntKind.i64 (q)] true), (1312, .tab (x.n) [.bools (upd nx i.toNat true)] true)]
                        else .bad
                      else .bad
                    else .bad
                  else .bad
                else
                  .norm 164 [(.int false IntKind.i64 (t)), (.sl 0 (x.n)), (.sl 1104 (x.n)), (.sl 1168 (x.n)), (.sl 1200 32001), (.bool false (ag)), (.sl 1312 (x.n)), (.int false IntKind.i64 (ar BinOp.add IntKind.i64 i 1))] [(0, .tab (x.n) [.ints IntKind.i64 (x.kd), .strs (x.bs), .ints IntKind.i64 (x.N), .ints IntKind.i64 (x.op), .ints IntKind.i64 (x.r1), .ints IntKind.i64 (x.r2)] false), (1104, .tab (x.n) [.bools (lg)] true), (1168, .tab (x.n) [.ints IntKind.i64 (p)] true), (1200, .tab 32001 [.ints IntKind.i64 (q)] true), (1312, .tab (x.n) [.bools (nx)] true)]
              else .bad
            else .bad
          else .bad
        else .bad
      else .bad
    else
      .exit 4 164 [(.int false IntKind.i64 (t)), (.sl 0 (x.n)), (.sl 1104 (x.n)), (.sl 1168 (x.n)), (.sl 1200 32001), (.bool false (ag)), (.sl 1312 (x.n)), (.int false IntKind.i64 (i))] [(0, .tab (x.n) [.ints IntKind.i64 (x.kd), .strs (x.bs), .ints IntKind.i64 (x.N), .ints IntKind.i64 (x.op), .ints IntKind.i64 (x.r1), .ints IntKind.i64 (x.r2)] false), (1104, .tab (x.n) [.bools (lg)] true), (1168, .tab (x.n) [.ints IntKind.i64 (p)] true), (1200, .tab 32001 [.ints IntKind.i64 (q)] true), (1312, .tab (x.n) [.bools (nx)] true)]) := by kernel_rfl

theorem r11a (x : It) (t : Int) (lg : Nat → Bool) (p : Nat → Int) (q : Nat → Int) : (evalB E11c Try.prog Try.f11.results.toList (loopOf Try.f11 0) 1 lk11a (v11a x t) (hR x lg p q)).view [0, 1, 7, 8, 9] =
    (bif (Nat.beq (x.n) (x.n)) then
      bif (Nat.beq (x.n) (x.n)) then
        bif (Nat.beq (x.n) (x.n)) then
          bif (rowsB 32001) then
            bif (Nat.beq (x.n) (x.n)) then
              bif (Nat.beq (x.n) (x.n)) then
                bif (rowsB 32001) then
                  bif (okB t x) then
                    bif (qB x q) then
                      bif (Nat.ble (x.n) (x.n)) then
                        bif (Nat.ble ((0 + x.n) * 1) (1099511627776)) then
                          bif (Nat.beq (x.n) (x.n)) then
                            bif (Nat.beq (x.n) (x.n)) then
                              bif (Nat.beq (x.n) (x.n)) then
                                bif (rowsB 32001) then
                                  bif (Nat.beq (0 + x.n) (x.n)) then
                                    bif (Nat.beq (x.n) (x.n)) then
                                      bif (Nat.beq (x.n) (x.n)) then
                                        bif (rowsB 32001) then
                                          bif (Nat.beq (0 + x.n) (x.n)) then
                                            bif (okB t x) then
                                              bif (eqI1 (posP x t lg) (posP x t lg)) then
                                                bif (eqI1 (labQ x t lg) (labQ x t lg)) then
                                                  bif (eqB1 x.n (cat 0 (fun x => false) lg) lg) then
                                                    bif (!anyG (yOf x t lg)) then
                                                      .exit 0 164 [(.int false IntKind.i64 (t)), (.sl 0 (x.n)), (.sl 1312 (x.n)), (.sl 1168 (x.n)), (.sl 1200 32001)] [(0, .tab (x.n) [.ints IntKind.i64 (x.kd), .strs (x.bs), .ints IntKind.i64 (x.N), .ints IntKind.i64 (x.op), .ints IntKind.i64 (x.r1), .ints IntKind.i64 (x.r2)] false), (1104, .tab (x.n) [.bools (lg)] true), (1168, .tab (x.n) [.ints IntKind.i64 (posP x t lg)] true), (1200, .tab 32001 [.ints IntKind.i64 (labQ x t lg)] true), (1312, .tab (x.n) [.bools (growF (yOf x t lg))] true)]
                                                    else
                                                      .norm 164 [(.int false IntKind.i64 (t)), (.sl 0 (x.n)), (.sl 1312 (x.n)), (.sl 1168 (x.n)), (.sl 1200 32001)] [(0, .tab (x.n) [.ints IntKind.i64 (x.kd), .strs (x.bs), .ints IntKind.i64 (x.N), .ints IntKind.i64 (x.op), .ints IntKind.i64 (x.r1), .ints IntKind.i64 (x.r2)] false), (1104, .tab (x.n) [.bools (lg)] true), (1168, .tab (x.n) [.ints IntKind.i64 (posP x t lg)] true), (1200, .tab 32001 [.ints IntKind.i64 (labQ x t lg)] true), (1312, .tab (x.n) [.bools (growF (yOf x t lg))] true)]
                                                  else .bad
                                                else .bad
                                              else .bad
                                            else .bad
                                          else .bad
                                        else .bad
                                      else .bad
                                    else .bad
                                  else .bad
                                else .bad
                              else .bad
                            else .bad
                          else .bad
                        else .bad
                      else .bad
                    else .bad
                  else .bad
                else .bad
              else .bad
            else .bad
          else .bad
        else .bad
      else .bad
    else .bad) := by kernel_rfl

theorem t11 (x : It) (t : Int) : (evalF E11 Try.prog 11 [SV.int false IntKind.i64 t, SV.sl 0 x.n] (hI x) 1024).leaf =
    (bif (decide (0 ≤ (↑x.n : Int))) then
      bif (decide ((↑x.n : Int) ≤ (↑x.n : Int))) then
        bif (Nat.ble ((↑x.n : Int).toNat * 1) (140737488355328)) then
          bif (Nat.ble ((↑x.n : Int).toNat) (140737488355328)) then
            bif (decide (0 ≤ (↑x.n : Int))) then
              bif (decide ((↑x.n : Int) ≤ (↑x.n : Int))) then
                bif (Nat.ble ((↑x.n : Int).toNat * 8) (140737488355328)) then
                  bif (Nat.ble ((↑x.n : Int).toNat) (140737488355328)) then
                    bif (Nat.beq (x.n) (x.n)) then
                      bif (Nat.beq ((↑x.n : Int).toNat) (x.n)) then
                        bif (Nat.beq ((↑x.n : Int).toNat) (x.n)) then
                          bif (rowsB 32001) then
                            bif (Nat.beq ((↑x.n : Int).toNat) (x.n)) then
                              bif (Nat.beq ((↑x.n : Int).toNat) (x.n)) then
                                bif (rowsB 32001) then
                                  bif (okB t x) then
                                    bif (fB fun x => false) then
                                      bif (eqI1 (fun x => 0) fun x => 0) then
                                        bif (Nat.beq (x.n) (x.n)) then
                                          bif (Nat.beq (x.n) (x.n)) then
                                            bif (Nat.beq (x.n) (x.n)) then
                                              bif (rowsB 32001) then
                                                bif (Nat.beq (x.n) (x.n)) then
                                                  bif (Nat.beq (x.n) (x.n)) then
                                                    bif (rowsB 32001) then
                                                      bif (okB t x) then
                                                        bif (clsB (lastL x t = lastL x t)) then
                                                          bif (eqI1 (posP x t (lastL x t)) (posP x t (lastL x t))) then
                                                            bif (eqI1 (labQ x t (lastL x t)) (labQ x t (lastL x t))) then
                                                              bif (Nat.ble ((outB x t).size) ((outB x t).size)) then
                                                                .ret (.tup [(.str (strOf (chr (outB x t)) (outB x t).size)), (.sl 1168 (x.n)), (.bool false (cm BinOp.leq (↑(outB x t).size : Int) 258048))]) [(0, .tab (x.n) [.ints IntKind.i64 (x.kd), .strs (x.bs), .ints IntKind.i64 (x.N), .ints IntKind.i64 (x.op), .ints IntKind.i64 (x.r1), .ints IntKind.i64 (x.r2)] false), (1104, .tab (x.n) [.bools (lastL x t)] true), (1168, .tab (x.n) [.ints IntKind.i64 (posP x t (lastL x t))] true), (1200, .tab 32001 [.ints IntKind.i64 (labQ x t (lastL x t))] true), (1800, .tab ((outB x t).size) [.ints IntKind.u8 (chr (outB x t))] true)]
                                                              else .bad
                                                            else .bad
                                                          else .bad
                                                        else .bad
                                                      else .bad
                                                    else .bad
                                                  else .bad
                                                else .bad
                                              else .bad
                                            else .bad
                                          else .bad
                                        else .bad
                                      else .bad
                                    else .bad
                                  else .bad
                                else .bad
                              else .bad
                            else .bad
                          else .bad
                        else .bad
                      else .bad
                    else .bad
                  else .bad
                else .bad
              else .bad
            else .bad
          else .bad
        else .bad
      else .bad
    else .bad) := by kernel_rfl

end Go.La
end

section
set_option linter.unusedVariables false
open Go Go.Ev Go.Proofs
namespace Go.La

theorem one_kd {t kd : Int} {s : ByteArray} {n op r1 r2 : Int} (h : oneB t kd s n op r1 r2 = true) : kd = 1 ∨ kd = 2 ∨ kd = 3 ∨ kd = 4 ∨ kd = 5 := by
  by_cases h1 : kd = 1
  · exact .inl h1
  by_cases h2 : kd = 2
  · exact .inr (.inl h2)
  by_cases h3 : kd = 3
  · exact .inr (.inr (.inl h3))
  by_cases h4 : kd = 4
  · exact .inr (.inr (.inr (.inl h4)))
  by_cases h5 : kd = 5
  · exact .inr (.inr (.inr (.inr h5)))
  · unfold oneB at h
    rw [decide_eq_false h1, decide_eq_false h2, decide_eq_false h3, decide_eq_false h4, decide_eq_false h5] at h
    cases h
theorem ok_in {t : Int} {x : It} (h : okP t x) : inK x x.n := val_in h.2.2.1
theorem ok_one {t : Int} {x : It} (h : okP t x) {i : Nat} (hi : i < x.n) : oneB t (x.kd i) (x.bs i) (x.N i) (x.op i) (x.r1 i) (x.r2 i) = true := val_one h.2.2.1 hi

theorem sz_page {t kd : Int} {m : Nat} {lg : Bool} (h : kd = 1 ∨ kd = 2 ∨ kd = 3 ∨ kd = 4 ∨ kd = 5) :
    (bif cm .eql kd 1 then (m : Int) else bif cm .eql kd 2 then 0 else bif cm .eql t 1 then bif bif cm .eql kd 4 then lg else false then 8 else 4 else bif bif cm .eql kd 5 then true else bif cm .eql kd 3 then lg else false then 5 else bif lg then 6 else 2) = (szN t kd m lg : Int) := by
  simp only [cm_eql']
  rcases h with rfl | rfl | rfl | rfl | rfl <;> simp only [szN] <;> cases decide (t = 1) <;> cases lg <;> rfl

def pK (x : It) (t : Int) (lg : Nat → Bool) (p0 : Nat → Int) (j : Nat) : Nat → Int := fun r => bif Nat.blt r j then (posN (y0 x t lg) r : Int) else p0 r
def qK (x : It) (t : Int) (lg : Nat → Bool) (q0 : Nat → Int) : Nat → Nat → Int
  | 0 => q0
  | j + 1 => bif decide (x.kd j = 2) then upd (qK x t lg q0 j) (x.N j).toNat (posN (y0 x t lg) j : Int) else qK x t lg q0 j
theorem qK_at {x : It} {t : Int} {lg : Nat → Bool} {q0 : Nat → Int} {m : Nat} (h : inK x m) : ∀ j, j ≤ m → ∀ c : Nat, qK x t lg q0 j c = bif domK x j (c : Int) then (posN (y0 x t lg) (lbK x j (c : Int)).toNat : Int) else q0 c
  | 0, _, c => rfl
  | j + 1, hj, c => by
    simp only [qK, domK, lbK]
    by_cases e : x.kd j = 2
    · obtain ⟨q0, q1⟩ := h j (by omega) e
      rw [decide_eq_true e]
      simp only [cond_true, upd, updI]
      by_cases ec : (c : Int) = x.N j
      · have e1 : Nat.beq c (x.N j).toNat = true := by rw [Nat.beq_eq]; omega
        have e2 : ((c : Int) == x.N j) = true := by simp [ec]
        rw [e1, e2]; rfl
      · have e1 : Nat.beq c (x.N j).toNat = false := by rw [Bool.eq_false_iff, ne_eq, Nat.beq_eq]; omega
        have e2 : ((c : Int) == x.N j) = false := by simp [ec]
        rw [e1, e2, cond_false, cond_false, cond_false]
        exact qK_at h j (by omega) c
    · rw [decide_eq_false e, cond_false, cond_false, cond_false]
      exact qK_at h j (by omega) c
theorem qK_lab {x : It} {t : Int} {lg : Nat → Bool} {q0 : Nat → Int} (h : okP t x) (hq : ∀ c : Nat, domK x x.n (c : Int) = false → q0 c = 0) (c : Nat) : qK x t lg q0 x.n c = labQ x t lg c := by
  rw [qK_at (ok_in h) x.n (Nat.le_refl _), labQ]
  cases hd : domK x x.n (c : Int)
  · exact hq c hd
  · rfl
theorem labQ_q {x : It} {t : Int} {lg : Nat → Bool} (c : Nat) (h : domK x x.n (c : Int) = false) : labQ x t lg c = 0 := by
  unfold labQ
  rw [h]; rfl
theorem lab_way {x : It} {t : Int} {lg : Nat → Bool} {i : Nat} (h : okP t x) (hi : i < x.n) (hk : x.kd i = 3 ∨ x.kd i = 4 ∨ x.kd i = 5) : ar .sub .i64 (labQ x t lg (x.N i).toNat) (posP x t lg i) = wyZ (yOf x t lg) i ∧ 0 ≤ x.N i ∧ x.N i ≤ 32000 := by
  have hto := h.2.2.2 i hi
  have hd : domK x x.n (x.N i) = true := by
    unfold toB at hto
    rcases hk with e | e | e <;> rw [e] at hto <;> exact hto
  have hr := dom_at (ok_in h) x.n (Nat.le_refl _) (x.N i)
  rw [hd] at hr
  have hr' : lbrB (x.N i) = true := by
    cases hc : lbrB (x.N i)
    · rw [hc] at hr; cases hr
    · rfl
  simp only [lbrB, Bool.and_eq_true, decide_eq_true_eq] at hr'
  have e : ((x.N i).toNat : Int) = x.N i := by omega
  refine ⟨?_, hr'⟩
  unfold labQ
  rw [e, hd, cond_true]
  rfl

theorem hR_wk (x : It) {f : Bool} {lg lg' : Nat → Bool} {p p' q q' : Nat → Int} {more : Heap} (h1 : ∀ i, i < x.n → lg i = lg' i) (h2 : ∀ i, i < x.n → p i = p' i) (h3 : ∀ i, i < 32001 → q i = q' i) :
    wkH (rmap []) ((0, .tab x.n x.cols f) :: (1104, .tab x.n [.bools lg] true) :: (1168, .tab x.n [.ints .i64 p] true) :: (1200, .tab 32001 [.ints .i64 q] true) :: more) (hR x lg' p' q') := by
  simp only [hR, wkH, wkB, wkCs, wkC, rmap, rlook, Ev.look, It.cols, Nat.beq_eq_true_eq]
  simp
  exact ⟨h1, h2, h3⟩

/-! the placing -/
structure X11b where
  x : It
  t : Int
  lg : Nat → Bool
  p : Nat → Int
  q : Nat → Int
  j : Nat
def ok11b (s : X11b) : Prop := s.j ≤ s.x.n ∧ okP s.t s.x ∧ ∀ c : Nat, domK s.x s.x.n (c : Int) = false → s.q c = 0
def vs11b (s : X11b) : List SV := v11b s.x s.t (posN (y0 s.x s.t s.lg) s.j : Int) s.j
def hp11b (s : X11b) : Heap := hR s.x s.lg (pK s.x s.t s.lg s.p s.j) (qK s.x s.t s.lg s.q s.j)
def out11b (s : X11b) : Vw := .exit 2 164 [.int false .i64 s.t, .sl 0 s.x.n, .sl 1104 s.x.n, .sl 1168 s.x.n, .sl 1200 32001, .any, .any] (hR s.x s.lg (posP s.x s.t s.lg) (labQ s.x s.t s.lg))

theorem entry11b (l : List SV) (H : Heap) (T : Tr) (h : lq11b.get l H = some T) (hb : T.leaf ≠ .bad) : ∃ x r, ok11b x ∧ WkV r lq11b.nm l H (vs11b x) (hp11b x) ∧ T.leaf = toLf lq11b (out11b x) := by
  replace h : get11b l H = some T := h
  unfold get11b at h
  split at h
  · rename_i _ t ka na kl nl kp np kq nq _ h' _ i j0 n1 kd bs N op r1 r2 _ j1 n2 lg j2 n3 p j3 n4 q
    simp only [Option.some.injEq] at h
    subst h
    obtain ⟨hn, he⟩ := needs_ne hb
    rw [he]
    simp only [allB, Bool.and_eq_true, Bool.and_true, decide_eq_true_eq, Nat.beq_eq, rowsB, okB, qB, clsB_iff] at hn
    obtain ⟨rfl, rfl, rfl, rfl, rfl, rfl, rfl, rfl, rfl, rfl, rfl, rfl, rfl, rfl, rfl, rfl, rfl, hok, hq⟩ := hn
    refine ⟨⟨⟨n3, kd, bs, N, op, r1, r2⟩, t, lg, p, q, 0⟩, [], ⟨Nat.zero_le _, hok, hq⟩, ?_, ?_⟩
    · exact ⟨rfl, ⟨⟨rfl, rfl⟩, ⟨rfl, rfl⟩, ⟨rfl, rfl⟩, ⟨rfl, rfl⟩, ⟨rfl, rfl⟩, ⟨rfl, rfl⟩, ⟨rfl, rfl⟩, trivial⟩, hR_wk ⟨n3, kd, bs, N, op, r1, r2⟩ (fun _ _ => rfl) (fun _ _ => rfl) (fun _ _ => rfl), rfl, rfl⟩
    · simp only [exitT_leaf, out11b]
      rfl
  · cases h

theorem lq_11b {E : Env} {P : Program} {res : List ResultVar} {c : Code} {n : Nat} {l : List SV} {H : Heap} : evalB E P res c n lq11b l H = evalB E P res c n lp11b l H := rfl
attribute [local irreducible] evalB Tr.view in
theorem round11b (s : X11b) (hx : ok11b s) : Round lq11b ok11b (fun s => s.x.n - s.j) vs11b hp11b out11b s ((evalB ER Try.prog Try.f11.results.toList (loopOf Try.f11 1) (1 + 1) lq11b (vs11b s) (hp11b s)).view lq11b.ks) := by
  obtain ⟨x, t, lg, p, q, j⟩ := s
  obtain ⟨h0, h1, h2⟩ := hx
  simp only at h0 h1 h2
  have hs := h1.1
  have hr := r11b x t lg (pK x t lg p j) (qK x t lg q j) (posN (y0 x t lg) j) j
  rw [show evalB ER Try.prog Try.f11.results.toList (loopOf Try.f11 1) (1 + 1) lq11b (vs11b ⟨x, t, lg, p, q, j⟩) (hp11b ⟨x, t, lg, p, q, j⟩) = evalB ER Try.prog Try.f11.results.toList (loopOf Try.f11 1) 2 lp11b (v11b x t (posN (y0 x t lg) j) j) (hR x lg (pK x t lg p j) (qK x t lg q j)) from lq_11b, show lq11b.ks = [0, 1, 7, 8, 9, 10, 11] from rfl, hr]
  by_cases hj : j < x.n
  · have hf := fewB_iff.1 (ok_few h1)
    have hb := posN_le (y := y0 x t lg) hf.2 j h0
    have hz : szY (y0 x t lg) j ≤ 64 := szN_le (hf.2 j hj)
    have e1 : cm .lss (j : Int) (x.n : Int) = true := by rw [cm_lss']; exact decide_eq_true (by omega)
    have e2 : decide (0 ≤ (j : Int)) = true := decide_eq_true (by omega)
    have e3 : decide ((j : Int) < (x.n : Int)) = true := decide_eq_true (by omega)
    have e5 : ar .add .i64 (posN (y0 x t lg) j : Int) (szN t (x.kd j) (x.bs j).size (lg j) : Nat) = (posN (y0 x t lg) (j + 1) : Nat) := add64 (by show posN (y0 x t lg) j + szY (y0 x t lg) j < _; omega)
    simp only [e1, e2, e3, blt_t hj, cond_true, Int.toNat_natCast, addOne (show j < 9223372036854775807 by omega), sz_page (one_kd (ok_one h1 hj)), e5]
    have hpk : ∀ i, i < x.n → upd (pK x t lg p j) j (posN (y0 x t lg) j : Int) i = pK x t lg p (j + 1) i := fun i _ => by
      simp only [upd, pK]
      by_cases e : i = j
      · subst e; rw [beq_t, cond_true, blt_t (by omega), cond_true]
      · rw [show Nat.beq i j = false by rw [Bool.eq_false_iff, ne_eq, Nat.beq_eq]; exact e, cond_false]
        by_cases e' : i < j
        · rw [blt_t e', blt_t (show i < j + 1 by omega)]
        · have q1 : Nat.blt i j = false := by rw [Bool.eq_false_iff, ne_eq, Nat.blt_eq]; omega
          have q2 : Nat.blt i (j + 1) = false := by rw [Bool.eq_false_iff, ne_eq, Nat.blt_eq]; omega
          rw [q1, q2]
    by_cases hk : x.kd j = 2
    · obtain ⟨q0, q1⟩ := ok_in h1 j hj hk
      have e4 : cm .eql (x.kd j) 2 = true := by rw [cm_eql']; exact decide_eq_true hk
      simp only [e4, cond_true, decide_eq_true q0, decide_eq_true (show x.N j < 32001 by omega), blt_t (show (x.N j).toNat < 32001 by omega)]
      refine ⟨rfl, ⟨x, t, lg, p, q, j + 1⟩, [], ⟨hj, h1, h2⟩, by show x.n - (j + 1) < x.n - j; omega, rfl, rfl, ?_, ?_, rfl, rfl⟩
      · exact ⟨⟨rfl, rfl⟩, ⟨rfl, rfl⟩, ⟨rfl, rfl⟩, ⟨rfl, rfl⟩, ⟨rfl, rfl⟩, ⟨rfl, rfl⟩, ⟨rfl, rfl⟩, trivial⟩
      · exact hR_wk x (fun _ _ => rfl) hpk (fun _ _ => by simp only [qK, decide_eq_true hk, cond_true])
    · have e4 : cm .eql (x.kd j) 2 = false := by rw [cm_eql']; exact decide_eq_false hk
      simp only [e4, cond_false]
      refine ⟨rfl, ⟨x, t, lg, p, q, j + 1⟩, [], ⟨hj, h1, h2⟩, by show x.n - (j + 1) < x.n - j; omega, rfl, rfl, ?_, ?_, rfl, rfl⟩
      · exact ⟨⟨rfl, rfl⟩, ⟨rfl, rfl⟩, ⟨rfl, rfl⟩, ⟨rfl, rfl⟩, ⟨rfl, rfl⟩, ⟨rfl, rfl⟩, ⟨rfl, rfl⟩, trivial⟩
      · exact hR_wk x (fun _ _ => rfl) hpk (fun _ _ => by simp only [qK, decide_eq_false hk, cond_false])
  · obtain rfl : j = x.n := by omega
    have e1 : cm .lss (x.n : Int) (x.n : Int) = false := by simp [cm]
    simp only [e1, cond_false]
    refine ⟨rfl, [.int false .i64 t, .sl 0 x.n, .sl 1104 x.n, .sl 1168 x.n, .sl 1200 32001, .any, .any], _, [], rfl, rfl, ?_, ?_, rfl, rfl⟩
    · exact ⟨⟨rfl, rfl⟩, ⟨rfl, rfl⟩, ⟨rfl, rfl⟩, ⟨rfl, rfl⟩, ⟨rfl, rfl⟩, trivial, trivial, trivial⟩
    · exact hR_wk x (fun _ _ => rfl) (fun i hi => by simp only [pK, blt_t hi, cond_true, posP]) (fun i _ => qK_lab h1 h2 i)

/-! what turns long -/
structure X11c where
  x : It
  t : Int
  lg : Nat → Bool
  j : Nat
def agK (y : Y) : Nat → Bool
  | 0 => false
  | j + 1 => agK y j || mayB y j
def nxK (y : Y) (j : Nat) : Nat → Bool := fun r => y.lg r || (Nat.blt r j && mayB y r)
theorem agK_iff {y : Y} : ∀ j, agK y j = true ↔ ∃ i, i < j ∧ mayB y i = true
  | 0 => by simp [agK]
  | j + 1 => by
    simp only [agK, Bool.or_eq_true, agK_iff j]
    constructor
    · rintro (⟨i, hi, h⟩ | h)
      · exact ⟨i, by omega, h⟩
      · exact ⟨j, by omega, h⟩
    · rintro ⟨i, hi, h⟩
      by_cases e : i = j
      · subst e; exact .inr h
      · exact .inl ⟨i, by omega, h⟩
theorem agK_any (y : Y) : agK y y.n = anyG y := by
  rw [Bool.eq_iff_iff, agK_iff, anyG_iff]
def ok11c (s : X11c) : Prop := s.j ≤ s.x.n ∧ okP s.t s.x
def vs11c (s : X11c) : List SV := v11c s.x s.t (agK (yOf s.x s.t s.lg) s.j) s.j
def hp11c (s : X11c) : Heap := hRc s.x s.lg (posP s.x s.t s.lg) (labQ s.x s.t s.lg) (nxK (yOf s.x s.t s.lg) s.j)
def out11c (s : X11c) : Vw := .exit 4 164 [.int false .i64 s.t, .sl 0 s.x.n, .sl 1104 s.x.n, .sl 1168 s.x.n, .sl 1200 32001, .bool false (anyG (yOf s.x s.t s.lg)), .sl 1312 s.x.n, .any]
  (hRc s.x s.lg (posP s.x s.t s.lg) (labQ s.x s.t s.lg) (growF (yOf s.x s.t s.lg)))
theorem hRc_wk (x : It) {f : Bool} {lg nx nx' : Nat → Bool} {p q : Nat → Int} (h1 : ∀ i, i < x.n → nx i = nx' i) :
    wkH (rmap []) [(0, .tab x.n x.cols f), (1104, .tab x.n [.bools lg] true), (1168, .tab x.n [.ints .i64 p] true), (1200, .tab 32001 [.ints .i64 q] true), (1312, .tab x.n [.bools nx] true)] (hRc x lg p q nx') := by
  simp only [hRc, wkH, wkB, wkCs, wkC, rmap, rlook, Ev.look, It.cols, Nat.beq_eq_true_eq]
  simp
  exact h1
theorem hRc_wkD (x : It) {f : Bool} {b : Blk} {lg nx nx' : Nat → Bool} {p q : Nat → Int} (h1 : ∀ i, i < x.n → nx i = nx' i) :
    wkH (rmap []) [(0, .tab x.n x.cols f), (1104, .tab x.n [.bools lg] true), (1168, .tab x.n [.ints .i64 p] true), (1200, .tab 32001 [.ints .i64 q] true), (1280, b), (1312, .tab x.n [.bools nx] true)] (hRc x lg p q nx') := by
  simp only [hRc, wkH, wkB, wkCs, wkC, rmap, rlook, Ev.look, It.cols, Nat.beq_eq_true_eq]
  simp
  exact h1

theorem entry11c (l : List SV) (H : Heap) (T : Tr) (h : lq11c.get l H = some T) (hb : T.leaf ≠ .bad) : ∃ x r, ok11c x ∧ WkV r lq11c.nm l H (vs11c x) (hp11c x) ∧ T.leaf = toLf lq11c (out11c x) := by
  replace h : get11c l H = some T := h
  unfold get11c at h
  split at h
  · rename_i _ t ka na kl nl kp np kq nq _ ag kx nx _ i j0 n1 kd bs N op r1 r2 _ j1 n2 lg j2 n3 p j3 n4 q jd _ j4 n5 nx'
    simp only [Option.some.injEq] at h
    subst h
    obtain ⟨hn, he⟩ := needs_ne hb
    rw [he]
    simp only [allB, Bool.and_eq_true, Bool.and_true, decide_eq_true_eq, Nat.beq_eq, rowsB, okB, eqI1, eqB1, clsB_iff, Bool.not_eq_true'] at hn
    obtain ⟨rfl, rfl, rfl, rfl, rfl, rfl, rfl, rfl, rfl, rfl, rfl, rfl, rfl, rfl, rfl, rfl, rfl, rfl, rfl, rfl, rfl, rfl, hok, rfl, rfl, hnx⟩ := hn
    refine ⟨⟨⟨n5, kd, bs, N, op, r1, r2⟩, t, lg, 0⟩, [], ⟨Nat.zero_le _, hok⟩, ?_, ?_⟩
    · refine ⟨rfl, ⟨⟨rfl, rfl⟩, ⟨rfl, rfl⟩, ⟨rfl, rfl⟩, ⟨rfl, rfl⟩, ⟨rfl, rfl⟩, rfl, ⟨rfl, rfl⟩, ⟨rfl, rfl⟩, trivial⟩, hRc_wkD ⟨n5, kd, bs, N, op, r1, r2⟩ (fun i hi => ?_), rfl, rfl⟩
      rw [hnx i hi]
      simp only [nxK, show Nat.blt i 0 = false from rfl, Bool.false_and, Bool.or_false]
      rfl
    · simp only [exitT_leaf, out11c]
      rfl
  · cases h

theorem page_may {x : It} {t : Int} {lg : Nat → Bool} {j : Nat} (h : okP t x) (hj : j < x.n) :
    (bif cm .eql (x.kd j) 3 then bif !lg j then !bif bif cm .eql (x.kd j) 5 then true else bif cm .eql t 1 then cm .eql (x.kd j) 3 else false then true else bif cm .eql t 1 then bif cm .geq (ar .sub .i64 (labQ x t lg (x.N j).toNat) (posP x t lg j)) (-4096) then cm .lss (ar .sub .i64 (labQ x t lg (x.N j).toNat) (posP x t lg j)) 4096 else false else bif cm .geq (ar .sub .i64 (ar .sub .i64 (labQ x t lg (x.N j).toNat) (posP x t lg j)) 2) (-128) then cm .leq (ar .sub .i64 (ar .sub .i64 (labQ x t lg (x.N j).toNat) (posP x t lg j)) 2) 127 else false else false else bif cm .eql (x.kd j) 4 then bif !lg j then !bif bif cm .eql (x.kd j) 5 then true else bif cm .eql t 1 then cm .eql (x.kd j) 3 else false then true else bif cm .eql t 1 then bif cm .geq (ar .sub .i64 (labQ x t lg (x.N j).toNat) (posP x t lg j)) (-4096) then cm .lss (ar .sub .i64 (labQ x t lg (x.N j).toNat) (posP x t lg j)) 4096 else false else bif cm .geq (ar .sub .i64 (ar .sub .i64 (labQ x t lg (x.N j).toNat) (posP x t lg j)) 2) (-128) then cm .leq (ar .sub .i64 (ar .sub .i64 (labQ x t lg (x.N j).toNat) (posP x t lg j)) 2) 127 else false else false else false) = mayB (yOf x t lg) j := by
  have hle : ∀ a : Int, decide (a ≤ 127) = decide (a < 128) := fun a => by rw [Bool.eq_iff_iff]; simp; omega
  simp only [cm_eql', cm_geq', cm_lss', cm_leq', hle]
  show _ = (!lg j && !shB t (x.kd j) (wyZ (yOf x t lg) j))
  by_cases k3 : x.kd j = 3
  · rw [(lab_way (lg := lg) h hj (.inl k3)).1, k3]
    simp only [shB]
    rcases h.2.1 with rfl | rfl
    · cases lg j <;> rfl
    · cases lg j <;> cases decide (-128 ≤ ar .sub .i64 (wyZ (yOf x 2 lg) j) 2) <;> cases decide (ar .sub .i64 (wyZ (yOf x 2 lg) j) 2 < 128) <;> rfl
  by_cases k4 : x.kd j = 4
  · rw [(lab_way (lg := lg) h hj (.inr (.inl k4))).1, k4]
    simp only [shB]
    rcases h.2.1 with rfl | rfl
    · cases lg j <;> cases decide (-4096 ≤ (wyZ (yOf x 1 lg) j)) <;> cases decide ((wyZ (yOf x 1 lg) j) < 4096) <;> rfl
    · cases lg j <;> cases decide (-128 ≤ ar .sub .i64 (wyZ (yOf x 2 lg) j) 2) <;> cases decide (ar .sub .i64 (wyZ (yOf x 2 lg) j) 2 < 128) <;> rfl
  · simp only [shB, decide_eq_false k3, decide_eq_false k4]
    cases lg j <;> rfl

attribute [local irreducible] evalB Tr.view in
theorem round11c (s : X11c) (hx : ok11c s) : Round lq11c ok11c (fun s => s.x.n - s.j) vs11c hp11c out11c s ((evalB ER Try.prog Try.f11.results.toList (loopOf Try.f11 2) (2 + 1) lk11c (vs11c s) (hp11c s)).view lq11c.ks) := by
  obtain ⟨x, t, lg, j⟩ := s
  obtain ⟨h0, h1⟩ := hx
  simp only at h0 h1
  have hs := h1.1
  have hr := r11c x t lg (posP x t lg) (labQ x t lg) (nxK (yOf x t lg) j) (agK (yOf x t lg) j) j
  rw [show evalB ER Try.prog Try.f11.results.toList (loopOf Try.f11 2) (2 + 1) lk11c (vs11c ⟨x, t, lg, j⟩) (hp11c ⟨x, t, lg, j⟩) = evalB ER Try.prog Try.f11.results.toList (loopOf Try.f11 2) 3 lk11c (v11c x t (agK (yOf x t lg) j) j) (hRc x lg (posP x t lg) (labQ x t lg) (nxK (yOf x t lg) j)) from rfl, show lq11c.ks = [0, 1, 7, 8, 9, 12, 13, 14] from rfl, hr]
  by_cases hj : j < x.n
  · have e1 : cm .lss (j : Int) (x.n : Int) = true := by rw [cm_lss']; exact decide_eq_true (by omega)
    have e2 : decide (0 ≤ (j : Int)) = true := decide_eq_true (by omega)
    have e3 : decide ((j : Int) < (x.n : Int)) = true := decide_eq_true (by omega)
    have hg3 : x.kd j = 3 ∨ x.kd j = 4 ∨ x.kd j = 5 → decide (0 ≤ x.N j) = true ∧ decide (x.N j < 32001) = true ∧ Nat.blt (x.N j).toNat 32001 = true := fun hk => by
      obtain ⟨_, q0, q1⟩ := lab_way (lg := lg) h1 hj hk
      exact ⟨decide_eq_true q0, decide_eq_true (by omega), blt_t (by omega)⟩
    have hguard : (bif cm .eql (x.kd j) 3 then allB [true, true, true, true, bif !lg j then allB [true, true, true, true, true, true, true, true, decide (0 ≤ x.N j), decide (x.N j < 32001), (x.N j).toNat.blt 32001, (x.N j).toNat.blt 32001, true, true, true, true] else true] else allB [bif cm .eql (x.kd j) 4 then allB [true, true, true, true, bif !lg j then allB [true, true, true, true, true, true, true, true, decide (0 ≤ x.N j), decide (x.N j < 32001), (x.N j).toNat.blt 32001, (x.N j).toNat.blt 32001, true, true, true, true] else true] else true]) = true := by
      simp only [cm_eql']
      by_cases k3 : x.kd j = 3
      · obtain ⟨a1, a2, a3⟩ := hg3 (.inl k3)
        rw [a1, a2, a3, decide_eq_true k3]
        cases lg j <;> rfl
      · rw [decide_eq_false k3]
        by_cases k4 : x.kd j = 4
        · obtain ⟨a1, a2, a3⟩ := hg3 (.inr (.inl k4))
          rw [a1, a2, a3, decide_eq_true k4]
          cases lg j <;> rfl
        · rw [decide_eq_false k4]; rfl
    simp only [e1, e2, e3, blt_t hj, cond_true, Int.toNat_natCast, addOne (show j < 9223372036854775807 by omega)]
    simp only [hguard, page_may h1 hj, cond_true]
    cases hm : mayB (yOf x t lg) j with
    | true =>
      simp only [cond_true]
      refine ⟨rfl, ⟨x, t, lg, j + 1⟩, [], ⟨hj, h1⟩, by show x.n - (j + 1) < x.n - j; omega, rfl, rfl, ?_, ?_, rfl, rfl⟩
      · refine ⟨⟨rfl, rfl⟩, ⟨rfl, rfl⟩, ⟨rfl, rfl⟩, ⟨rfl, rfl⟩, ⟨rfl, rfl⟩, ?_, ⟨rfl, rfl⟩, ⟨rfl, rfl⟩, trivial⟩
        show true = agK (yOf x t lg) (j + 1)
        simp only [agK, hm, Bool.or_true]
      · refine hRc_wk x fun i hi => ?_
        simp only [upd, nxK]
        by_cases e : i = j
        · subst e; rw [beq_t, cond_true, blt_t (by omega), hm, Bool.and_self, Bool.or_true]
        · rw [show Nat.beq i j = false by rw [Bool.eq_false_iff, ne_eq, Nat.beq_eq]; exact e, cond_false]
          by_cases e' : i < j
          · rw [blt_t e', blt_t (show i < j + 1 by omega)]
          · have q1 : Nat.blt i j = false := by rw [Bool.eq_false_iff, ne_eq, Nat.blt_eq]; omega
            have q2 : Nat.blt i (j + 1) = false := by rw [Bool.eq_false_iff, ne_eq, Nat.blt_eq]; omega
            rw [q1, q2]
    | false =>
      simp only [cond_false]
      refine ⟨rfl, ⟨x, t, lg, j + 1⟩, [], ⟨hj, h1⟩, by show x.n - (j + 1) < x.n - j; omega, rfl, rfl, ?_, ?_, rfl, rfl⟩
      · refine ⟨⟨rfl, rfl⟩, ⟨rfl, rfl⟩, ⟨rfl, rfl⟩, ⟨rfl, rfl⟩, ⟨rfl, rfl⟩, ?_, ⟨rfl, rfl⟩, ⟨rfl, rfl⟩, trivial⟩
        show agK (yOf x t lg) j = agK (yOf x t lg) (j + 1)
        simp only [agK, hm, Bool.or_false]
      · refine hRc_wk x fun i hi => ?_
        simp only [nxK]
        by_cases e : i = j
        · subst e; rw [hm, Bool.and_false, Bool.and_false]
        · by_cases e' : i < j
          · rw [blt_t e', blt_t (show i < j + 1 by omega)]
          · have q1 : Nat.blt i j = false := by rw [Bool.eq_false_iff, ne_eq, Nat.blt_eq]; omega
            have q2 : Nat.blt i (j + 1) = false := by rw [Bool.eq_false_iff, ne_eq, Nat.blt_eq]; omega
            rw [q1, q2]
  · obtain rfl : j = x.n := by omega
    have e1 : cm .lss (x.n : Int) (x.n : Int) = false := by simp [cm]
    simp only [e1, cond_false]
    refine ⟨rfl, [.int false .i64 t, .sl 0 x.n, .sl 1104 x.n, .sl 1168 x.n, .sl 1200 32001, .bool false (anyG (yOf x t lg)), .sl 1312 x.n, .any], _, [], rfl, rfl, ?_, ?_, rfl, rfl⟩
    · exact ⟨⟨rfl, rfl⟩, ⟨rfl, rfl⟩, ⟨rfl, rfl⟩, ⟨rfl, rfl⟩, ⟨rfl, rfl⟩, agK_any (yOf x t lg), ⟨rfl, rfl⟩, trivial, trivial⟩
    · refine hRc_wk x fun i hi => ?_
      simp only [nxK, blt_t hi, Bool.true_and, growF]

end Go.La
end
