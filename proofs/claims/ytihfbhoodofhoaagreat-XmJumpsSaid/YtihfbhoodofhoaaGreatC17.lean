/-
  xm: XmSteps.
-/
import Derived.Test.YtihfbhoodofhoaaGreatC15
import Derived.Test.YtihfbhoodofhoaaGreatB16
set_option linter.unusedSimpArgs false
set_option linter.unusedVariables false
set_option linter.unusedVariables false
open Go Go.Ev Go.Proofs
namespace Go.Rv

/-- what an ask's numbers are -/
structure PaOk (p : Pa) : Prop where
  sL : p.nL ≤ reachBytes
  sW : p.nW ≤ reachBytes
  sX : p.nX ≤ reachBytes
  sM : p.nM ≤ reachBytes
  sI : p.nI ≤ reachBytes
  X : ∀ i, i < p.nX → inR (p.cX i)
  M : ∀ i, i < p.nM → 0 ≤ p.cM i ∧ p.cM i < 256
  I : ∀ i, i < p.nI → inR (p.cI i)
structure KaOk (k : Ka) : Prop where
  sK : k.nK ≤ reachBytes
  sS : k.nS ≤ reachBytes
  str : ∀ i, i < k.nS → (k.cs i).size ≤ reachBytes
  n : ∀ i, i < k.nK → inR (k.k4 i)

theorem hvP_small {p : Pa} (h : PaOk p) (hv : hvP p = false) : p.nX + p.nM + p.nI + p.nL + p.nW ≤ 2000 := by
  have h1 := h.sL
  have h2 := h.sW
  have h3 := h.sX
  have h4 := h.sM
  have h5 := h.sI
  have hr : reachBytes = 140737488351232 := rfl
  unfold hvP at hv
  simp only [cm, decide_eq_false_iff_not, ar, IntKind.wrap_i64] at hv
  omega
theorem hvS_small {k : Ka} (h : KaOk k) : ∀ (f i : Nat) (n : Int), 0 ≤ n → n ≤ 562949953421312 → k.nS ≤ i + f → hvS k f i n ≤ 3000 → n ≤ 3000 ∧ ∀ j, i ≤ j → j < k.nS → (k.cs j).size ≤ 3000
  | 0, i, n, _, _, hf, hv => ⟨hv, fun j hj hj2 => by omega⟩
  | f + 1, i, n, h0, h1, hf, hv => by
    have hr : reachBytes = 140737488351232 := rfl
    unfold hvS at hv
    by_cases hi : i < k.nS
    · have e1 : cm .lss (i : Int) (k.nS : Int) = true := by rw [cm_lss']; exact decide_eq_true (by omega)
      rw [e1, cond_true] at hv
      by_cases hn : n < 1048576
      · have e2 : cm .lss n 1048576 = true := by rw [cm_lss']; exact decide_eq_true hn
        have hs := h.str i hi
        have ea : ar .add .i64 n ((k.cs i).size : Int) = n + ((k.cs i).size : Int) := by simp only [ar, IntKind.wrap_i64]; omega
        rw [e2, cond_true, ea] at hv
        obtain ⟨a, b⟩ := hvS_small h f (i + 1) (n + ((k.cs i).size : Int)) (by omega) (by omega) (by omega) hv
        refine ⟨by omega, fun j hj hj2 => ?_⟩
        by_cases hij : j = i
        · subst hij; omega
        · exact b j (by omega) hj2
      · have e2 : cm .lss n 1048576 = false := by rw [cm_lss']; exact decide_eq_false hn
        rw [e2, cond_false] at hv
        omega
    · have e1 : cm .lss (i : Int) (k.nS : Int) = false := by rw [cm_lss']; exact decide_eq_false (by omega)
      rw [e1, cond_false, cond_false] at hv
      exact ⟨hv, fun j hj hj2 => by omega⟩
theorem hvK_small {k : Ka} (h : KaOk k) (hv : hvK k = false) : k.nK + k.nS ≤ 3000 ∧ ∀ j, j < k.nS → (k.cs j).size ≤ 3000 := by
  have h1 := h.sK
  have h2 := h.sS
  have hr : reachBytes = 140737488351232 := rfl
  unfold hvK at hv
  have ea : ar .add .i64 (k.nK : Int) (k.nS : Int) = ((k.nK + k.nS : Nat) : Int) := by simp only [ar, IntKind.wrap_i64]; omega
  rw [ea, X.cm_gtr'] at hv
  have hv := of_decide_eq_false hv
  obtain ⟨a, b⟩ := hvS_small h k.nS 0 ((k.nK + k.nS : Nat) : Int) (by omega) (by omega) (by omega) (by omega)
  exact ⟨by omega, fun j hj => b j (Nat.zero_le _) hj⟩
theorem hvQ_small {k : Ka} {p : Pa} (hk : KaOk k) (hp : PaOk p) (hv : hvQ k p = false) : (∀ j, j < k.nS → (k.cs j).size ≤ 3000) ∧ p.nI ≤ 2000 := by
  unfold hvQ at hv
  cases h : hvK k with
  | true => rw [h] at hv; cases hv
  | false =>
    rw [h, cond_false] at hv
    have := hvP_small hp hv
    exact ⟨(hvK_small hk h).2, by omega⟩

theorem cutF_in {n : Nat} {g : Nat → Int} (h : ∀ i, i < n → inR (g i)) : ∀ i, inR (cutF n g i) := by
  intro i
  unfold cutF
  cases hb : Nat.blt i n with
  | true => rw [cond_true]; rw [Nat.blt_eq] at hb; exact h i hb
  | false => exact in0
theorem mach_mx {p : Pa} (h : PaOk p) (F : Int) : MX (machQ p F) := by
  have hx : ∀ r, inR (xA p.cX p.nX r) := by
    intro r
    rw [xA_eq]
    split
    · rename_i hr; exact h.X r hr.2
    · exact in0
  refine ⟨?_, fun r => ?_, fun r => ?_, cutF_in h.I, .inl rfl⟩
  · show inR 4096
    unfold inR; omega
  · show inR (xQ p r)
    unfold xQ
    cases hc : cm .gtr (p.nX : Int) 0 with
    | true =>
      rw [cond_true]
      refine upd_in hx 0 (h.X 0 ?_) r
      rw [X.cm_gtr'] at hc
      have := of_decide_eq_true hc
      omega
    | false => exact hx r
  · show 0 ≤ mA (atP p).toNat p.cM p.nM r ∧ mA (atP p).toNat p.cM p.nM r < 256
    rw [mA_eq]
    split
    · rename_i hr; exact h.M _ (by omega)
    · exact byte0

structure X3 where
  s : ByteArray
  m : M
  i : Nat
def ok3 (x : X3) : Prop := x.i ≤ 12 ∧ StepG x.s x.m 12
def vs3 (x : X3) : List SV := v3 x.s x.i
noncomputable def hp3 (x : X3) : Heap := h3S (runM x.s x.i x.m)
def out3 (x : X3) : Vw := .exit 0 40 [.any, .any, .any, .any] []

theorem entry3 (l : List SV) (H : Heap) (T : Tr) (h : lp3.get l H = some T) (hb : T.leaf ≠ .bad) : ∃ x r, ok3 x ∧ WkV r lp3.nm l H (vs3 x) (hp3 x) ∧ T.leaf = toLf lp3 (out3 x) := by
  replace h : get3 l H = some T := h
  unfold get3 at h
  split at h
  · rename_i s k0 r0 c0 k1 r1 c1 _ i
    split at h
    · rename_i nn m nn' m' hu hu'
      simp only [Option.some.injEq] at h
      subst h
      obtain ⟨hn, he⟩ := needs_ne hb
      rw [he]
      rw [allB_append, allB_append] at hn
      simp only [allB, Bool.and_eq_true, Bool.and_true, decide_eq_true_eq, Nat.beq_eq, idB_iff, stepB_iff] at hn
      obtain ⟨⟨rfl, rfl, rfl, rfl, rfl, rfl, rfl, rfl, hs⟩, hnn, hnn'⟩ := hn
      refine ⟨⟨s, m, 0⟩, [], ⟨Nat.zero_le _, hs⟩, ⟨rfl, ?_, wkH_append (macAt_wk hu hnn _ _ _ _ _ _ rfl rfl rfl rfl rfl) (macAt_wk hu' hnn' _ _ _ _ _ _ rfl rfl rfl rfl rfl), rfl, rfl⟩, ?_⟩
      · simp [vs3, v3, wkF, wkS, sim, rmap, rlook]
      · simp only [exitT_leaf, out3]
        rfl
    · cases h
  · cases h

theorem h3N_wk (m m0 : M) : wkH (rmap [(1154, .old 2192), (1155, .old 2193), (1184, .old 2064), (1185, .old 2065), (1186, .old 2066), (1187, .old 2067)]) (h3N m m0) (h3S m) := by
  simp [wkH, h3N, h3S, hMac, cpuL, rmap, rlook, Ev.look, wkB, simL, sim, wkCs, wkC]

theorem same_self {m : M} (h : MS m) : SameM m m :=
  ⟨rfl, fun _ _ => rfl, rfl, rfl, rfl, rfl, fun _ _ => rfl, rfl, fun _ _ => rfl, rfl, fun _ _ => rfl, rfl, rfl, h.nI, by have := h.mg.nO; omega⟩
theorem runM_ms {s : ByteArray} {m : M} {n : Nat} (h : MX m) (hI : m.nI ≤ 100000000) (j : Nat) (hj : j ≤ n) (hO : m.nO + n < 1000000) : MS (runM s j m) := by
  obtain ⟨h1, h2, h3⟩ := runM_mi (s := s) h j
  exact h1.ms (by omega) (by omega)

attribute [local irreducible] evalB Tr.view runM stepM in
theorem round3 (x : X3) (hx : ok3 x) : Round lp3 ok3 (fun x => 12 - x.i) vs3 hp3 out3 x ((evalB ELw Tryz.prog Tryz.f3.results.toList (loopOf Tryz.f3 0) (0 + 1) lp3 (vs3 x) (hp3 x)).view lp3.ks) := by
  obtain ⟨s, m, i⟩ := x
  obtain ⟨h0, hg⟩ := hx
  simp only at h0 hg
  have hr := r3 s (runM s i m) i
  rw [show evalB ELw Tryz.prog Tryz.f3.results.toList (loopOf Tryz.f3 0) (0 + 1) lp3 (vs3 ⟨s, m, i⟩) (hp3 ⟨s, m, i⟩) = evalB ELw Tryz.prog Tryz.f3.results.toList (loopOf Tryz.f3 0) 1 lp3 (v3 s i) (h3S (runM s i m)) from rfl, show lp3.ks = [3, 4, 5, 6] from rfl, hr]
  have hms := runM_ms (s := s) hg.mx hg.nI i h0 hg.nO
  have hrun : runM s (i + 1) m = stepM s (runM s i m) := by with_unfolding_all rfl
  by_cases hi : i < 12
  · have hms2 := runM_ms (s := s) hg.mx hg.nI (i + 1) hi hg.nO
    have e1 : cm .lss (i : Int) 12 = true := by rw [cm_lss']; exact decide_eq_true (by omega)
    have e2 : msB (runM s i m) = true := msB_iff.2 hms
    have e3 : codeB s = true := codeB_iff.2 hg.size
    have e4 : goodB (runM s i m) = true := goodB_iff.2 hms.mg
    have e5 : sizeB s = true := sizeB_iff.2 (by have := hg.size; omega)
    have e6 : eqMB (runM s (i + 1) m) (runM s (i + 1) m) = true := eqMB_iff.2 (same_self hms2)
    have e7 : (bif false then true else allB [true, true, true, true, true]) = true := rfl
    rw [← hrun, e1, e2, e3, e4, e5, e6, beq_t, beq_t, beq_t, beq_t, e7, addOne (show i < 9223372036854775807 by omega)]
    simp only [cond_true]
    refine ⟨rfl, ⟨s, m, i + 1⟩, [(1154, .old 2192), (1155, .old 2193), (1184, .old 2064), (1185, .old 2065), (1186, .old 2066), (1187, .old 2067)], ⟨hi, hg⟩, by show 12 - (i + 1) < 12 - i; omega, rfl, rfl, ?_, h3N_wk _ _, rfl, rfl⟩
    simp [vs3, v3, wkF, wkS, sim, rmap, rlook]
  · have e1 : cm .lss (i : Int) 12 = false := by rw [cm_lss']; exact decide_eq_false (by omega)
    rw [e1, cond_false]
    refine ⟨rfl, [.any, .any, .any, .any], [], [], rfl, rfl, ?_, trivial, rfl, rfl⟩
    simp [v3, wkF, wkS, sim, rmap, rlook]

theorem el3_calls : CallsOk EL3 Tryz.prog := fun f args H nm r h hn => elw_calls f args H nm r h hn
attribute [local irreducible] evalB Tr.view in
theorem loop3L : LoopOk EL3 Tryz.prog Tryz.f3 0 (loopOf Tryz.f3 0) :=
  loop_okE mixed (fun S => rfl) (by decide) ok3 (fun x => 12 - x.i) vs3 hp3 out3 entry3 fun x hx => ⟨ELw, elw_calls, loops_noLoop elw_loop _ _, round3 x hx⟩
theorem fn3L : Tryz.prog.funcs[3]? = some Tryz.f3 := by kernel_rfl
theorem b3L : Tryz.f3.body = some (bodyOf Tryz.f3) := by kernel_rfl
theorem nl3L : Code.loops (bodyOf Tryz.f3) = 1 := by kernel_rfl
theorem nth3L : nthLoop (bodyOf Tryz.f3) 0 = some (loopOf Tryz.f3 0) := by kernel_rfl
theorem loops3L : LoopsOk EL3 Tryz.prog Tryz.f3 (bodyOf Tryz.f3) 0 := loops1 nl3L fun a ha => by
  rw [nth3L] at ha
  simp only [Option.some.injEq] at ha
  subst ha
  exact loop3L


attribute [local irreducible] evalF Tr.bare machQ codeQ in
theorem law3 {k : Ka} {p : Pa} (F : Int) (hk : KaOk k) (h : PaOk p) : (evalF EL3 Tryz.prog 3 [.agg (vAk k p F)] (hAk k p) 1024).bare = .ret (.bool true true) [] := by
  have hS : k.nS ≤ 9223372036854775807 := by
    have h2 := hk.sS
    have hr : reachBytes = 140737488351232 := rfl
    omega
  rw [t3, bx_true (ble_t hS), lnK_ok]
  cases hv : hvQ k p with
  | true => rfl
  | false =>
    obtain ⟨hs, hI⟩ := hvQ_small hk h hv
    have hm := mach_mx h F
    have hnO : (machQ p F).nO = 0 := by with_unfolding_all rfl
    have hnI : (machQ p F).nI = p.nI := by with_unfolding_all rfl
    have hc := codeQ_size hs p
    rw [cond_false, bx_true (smB_iff.2 hs), lnK_ok, lnP_ok, bx_true (ble_t (by omega)), lnK_ok, lnP_ok, bx_true (ble_t (by omega)), lnK_ok, lnP_ok, bx_true (idB_iff.2 rfl), bx_true (stepB_iff.2 ⟨hm, by omega, by omega, by omega⟩), bx_true (beq_t _), bx_true (beq_t _)]

/-! an argument is an ask -/
def shapesQ : List AK := [.slice [.int .i64, .int .i64, .int .i64, .int .i64, .int .i64], .slice [.str], .slice [.int .i64, .int .i64, .int .i64, .int .i64, .int .i64], .slice [.int .u32], .slice [.int .i64], .slice [.int .u8], .flat (.int .i64), .slice [.int .i64], .flat (.int .i64), .flat .bool, .flat (.int .i64)]
theorem ask_qa (al : List AD) (h : adsIs shapesQ al) (hz : adsSmall al) (hs : adsStr al) : ∃ k p F, svs al 0 = vAk k p F ∧ heapOf al 0 = hAk k p ∧ KaOk k ∧ PaOk p := by
  unfold shapesQ at h
  obtain ⟨b0, al, rfl, g0, h⟩ := adsIs_cons h
  obtain ⟨b1, al, rfl, g1, h⟩ := adsIs_cons h
  obtain ⟨a0, al, rfl, h0, h⟩ := adsIs_cons h
  obtain ⟨a1, al, rfl, h1, h⟩ := adsIs_cons h
  obtain ⟨a2, al, rfl, h2, h⟩ := adsIs_cons h
  obtain ⟨a3, al, rfl, h3, h⟩ := adsIs_cons h
  obtain ⟨a4, al, rfl, h4, h⟩ := adsIs_cons h
  obtain ⟨a5, al, rfl, h5, h⟩ := adsIs_cons h
  obtain ⟨a6, al, rfl, h6, h⟩ := adsIs_cons h
  obtain ⟨a7, al, rfl, h7, h⟩ := adsIs_cons h
  obtain ⟨a8, al, rfl, h8, h⟩ := adsIs_cons h
  obtain rfl := adsIs_nil h
  obtain ⟨nK, cols, rfl, _, hc⟩ := adIs_slice g0
  obtain ⟨k0, cols, rfl, _, hc⟩ := colsIs_int hc
  obtain ⟨k1, cols, rfl, _, hc⟩ := colsIs_int hc
  obtain ⟨k2, cols, rfl, _, hc⟩ := colsIs_int hc
  obtain ⟨k3, cols, rfl, _, hc⟩ := colsIs_int hc
  obtain ⟨k4, cols, rfl, gk, hc⟩ := colsIs_int hc
  obtain rfl := colsIs_nil hc
  obtain ⟨nS, cols, rfl, _, hc⟩ := adIs_slice g1
  obtain ⟨cs, cols, rfl, _, hc⟩ := colsIs_str hc
  obtain rfl := colsIs_nil hc
  obtain ⟨nL, cols, rfl, _, hc⟩ := adIs_slice h0
  obtain ⟨c0, cols, rfl, _, hc⟩ := colsIs_int hc
  obtain ⟨c1, cols, rfl, _, hc⟩ := colsIs_int hc
  obtain ⟨c2, cols, rfl, _, hc⟩ := colsIs_int hc
  obtain ⟨c3, cols, rfl, _, hc⟩ := colsIs_int hc
  obtain ⟨c4, cols, rfl, _, hc⟩ := colsIs_int hc
  obtain rfl := colsIs_nil hc
  obtain ⟨nW, cols, rfl, _, hc⟩ := adIs_slice h1
  obtain ⟨cw, cols, rfl, _, hc⟩ := colsIs_int hc
  obtain rfl := colsIs_nil hc
  obtain ⟨nX, cols, rfl, _, hc⟩ := adIs_slice h2
  obtain ⟨cX, cols, rfl, gX, hc⟩ := colsIs_int hc
  obtain rfl := colsIs_nil hc
  obtain ⟨nM, cols, rfl, _, hc⟩ := adIs_slice h3
  obtain ⟨cM, cols, rfl, gM, hc⟩ := colsIs_int hc
  obtain rfl := colsIs_nil hc
  obtain ⟨at_, rfl, _⟩ := adIs_int h4
  obtain ⟨nI, cols, rfl, _, hc⟩ := adIs_slice h5
  obtain ⟨cI, cols, rfl, gI, hc⟩ := colsIs_int hc
  obtain rfl := colsIs_nil hc
  obtain ⟨pc, rfl, gp⟩ := adIs_int h6
  obtain ⟨raw, rfl⟩ := adIs_bool h7
  obtain ⟨F, rfl, _⟩ := adIs_int h8
  simp only [adsSmall, and_true] at hz
  obtain ⟨y0, y1, z0, z1, z2, z3, z4⟩ := hz
  have hs := hs.2.1 0 cs rfl
  have e1 : IntKind.i64.min = -9223372036854775808 := by decide
  have e2 : IntKind.i64.max = 9223372036854775807 := by decide
  have e3 : IntKind.u8.min = 0 := by decide
  have e4 : IntKind.u8.max = 255 := by decide
  refine ⟨⟨nK, nS, k0, k1, k2, k3, k4, cs⟩, ⟨nL, nW, nX, nM, nI, c0, c1, c2, c3, c4, cw, cX, cM, cI, at_, pc, raw⟩, F, rfl, rfl, ⟨y0, y1, hs, fun i hi => ?_⟩, z0, z1, z2, z3, z4, fun i hi => ?_, fun i hi => ?_, fun i hi => ?_⟩
  · have := gk i hi; unfold inR; simp only; omega
  · have := gX i hi; unfold inR; simp only; omega
  · have := gM i hi; simp only; omega
  · have := gI i hi; unfold inR; simp only; omega

end Go.Rv
