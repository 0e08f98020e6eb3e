/-
  rvm: RvmSteps.
-/
import Derived.Test.YtngponflocmgiaaC17
import Derived.Test.YtngponflocmgiaaB18
set_option linter.unusedSimpArgs false
set_option linter.unusedVariables false
set_option linter.unusedVariables false
open Go Go.Ev Go.Proofs
namespace Go.Rv

/-- what an ask's numbers are -/
structure PaOk (p : Pa) : Prop where
  sL : p.nL ≤ reachBytes
  sW : p.nW ≤ reachBytes
  sX : p.nX ≤ reachBytes
  sM : p.nM ≤ reachBytes
  sI : p.nI ≤ reachBytes
  X : ∀ i, i < p.nX → inR (p.cX i)
  M : ∀ i, i < p.nM → 0 ≤ p.cM i ∧ p.cM i < 256
  I : ∀ i, i < p.nI → inR (p.cI i)
  pc : inR p.pc

theorem hv_small {p : Pa} (h : PaOk p) (hv : hvP p = false) : p.nX + p.nM + p.nI + p.nL + p.nW ≤ 2000 := by
  have h1 := h.sL
  have h2 := h.sW
  have h3 := h.sX
  have h4 := h.sM
  have h5 := h.sI
  have hr : reachBytes = 140737488351232 := rfl
  unfold hvP at hv
  simp only [cm, decide_eq_false_iff_not, ar, IntKind.wrap_i64] at hv
  omega

theorem cutF_in {n : Nat} {g : Nat → Int} (h : ∀ i, i < n → inR (g i)) : ∀ i, inR (cutF n g i) := by
  intro i
  unfold cutF
  cases hb : Nat.blt i n with
  | true => rw [cond_true]; rw [Nat.blt_eq] at hb; exact h i hb
  | false => exact in0

theorem mach_mx {p : Pa} (h : PaOk p) : MX (machM p) := by
  refine ⟨fun r => ?_, fun r => ?_, cutF_in h.I⟩
  · show inR (xA p.cX p.nX r)
    rw [xA_eq]
    split
    · rename_i hr; exact h.X r hr.2
    · exact in0
  · show 0 ≤ mA (atP p).toNat p.cM p.nM r ∧ mA (atP p).toNat p.cM p.nM r < 256
    rw [mA_eq]
    split
    · rename_i hr; exact h.M _ (by omega)
    · exact byte0

theorem mach_ms {p : Pa} (h : PaOk p) (hn : p.nI ≤ 2000) : MS (machM p) := by
  refine ⟨⟨mach_mx h, ?_, rfl, rfl, rfl, rfl, .inl rfl⟩, ?_, ?_, ?_⟩
  · show xA p.cX p.nX 0 = 0
    rw [xA_eq, if_neg (by omega)]
  · show inR 4096
    unfold inR; omega
  · show 0 < 1000000
    omega
  · show p.nI ≤ 100000000
    omega

structure X3 where
  s : ByteArray
  m : M
  i : Nat
def ok3 (x : X3) : Prop := x.i ≤ 12 ∧ StepG x.s x.m 12
def vs3 (x : X3) : List SV := v3 x.s x.i
def hp3 (x : X3) : Heap := h3S (runM x.s x.i x.m)
def out3 (x : X3) : Vw := .exit 0 40 [.any, .any, .any, .any] []

theorem entry3 (l : List SV) (H : Heap) (T : Tr) (h : lp3.get l H = some T) (hb : T.leaf ≠ .bad) : ∃ x r, ok3 x ∧ WkV r lp3.nm l H (vs3 x) (hp3 x) ∧ T.leaf = toLf lp3 (out3 x) := by
  replace h : get3 l H = some T := h
  unfold get3 at h
  split at h
  · rename_i s k0 r0 c0 k1 r1 c1 _ i
    split at h
    · rename_i nn m nn' m' hu hu'
      simp only [Option.some.injEq] at h
      subst h
      obtain ⟨hn, he⟩ := needs_ne hb
      rw [he]
      rw [allB_append, allB_append] at hn
      simp only [allB, Bool.and_eq_true, Bool.and_true, decide_eq_true_eq, Nat.beq_eq, idB_iff, stepB_iff] at hn
      obtain ⟨⟨rfl, rfl, rfl, rfl, rfl, rfl, rfl, rfl, hs⟩, hnn, hnn'⟩ := hn
      refine ⟨⟨s, m, 0⟩, [], ⟨Nat.zero_le _, hs⟩, ⟨rfl, ?_, wkH_append (macAt_wk hu hnn _ _ _ _ _ _ rfl rfl rfl rfl rfl) (macAt_wk hu' hnn' _ _ _ _ _ _ rfl rfl rfl rfl rfl), rfl, rfl⟩, ?_⟩
      · simp [vs3, v3, wkF, wkS, sim, rmap, rlook]
      · simp only [exitT_leaf, out3]
        rfl
    · cases h
  · cases h

theorem h3N_wk (m m0 : M) : wkH (rmap [(1154, .old 2192), (1155, .old 2193), (1216, .old 2064), (1217, .old 2065), (1218, .old 2066), (1219, .old 2067)]) (h3N m m0) (h3S m) := by
  simp [wkH, h3N, h3S, hMac, cpuL, rmap, rlook, Ev.look, wkB, simL, sim, wkCs, wkC]

theorem same_self {m : M} (h : MS m) : SameM m m :=
  ⟨rfl, fun _ _ => rfl, rfl, rfl, rfl, rfl, fun _ _ => rfl, rfl, fun _ _ => rfl, rfl, fun _ _ => rfl, rfl, rfl, h.nI, by have := h.nO; omega⟩

attribute [local irreducible] evalB Tr.view runM stepM in
theorem round3 (x : X3) (hx : ok3 x) : Round lp3 ok3 (fun x => 12 - x.i) vs3 hp3 out3 x ((evalB ELw Try.prog Try.f3.results.toList (loopOf Try.f3 0) (0 + 1) lp3 (vs3 x) (hp3 x)).view lp3.ks) := by
  obtain ⟨s, m, i⟩ := x
  obtain ⟨h0, hg⟩ := hx
  simp only at h0 hg
  have hr := r3 s (runM s i m) i
  rw [show evalB ELw Try.prog Try.f3.results.toList (loopOf Try.f3 0) (0 + 1) lp3 (vs3 ⟨s, m, i⟩) (hp3 ⟨s, m, i⟩) = evalB ELw Try.prog Try.f3.results.toList (loopOf Try.f3 0) 1 lp3 (v3 s i) (h3S (runM s i m)) from rfl, show lp3.ks = [3, 4, 5, 6] from rfl, hr]
  have hms := runM_ms (s := s) (fuel := 12) hg.ms (show (i : Int) ≤ 12 by omega) (by have := hg.nO; omega)
  have hrun : runM s (i + 1) m = stepM s (runM s i m) := by with_unfolding_all rfl
  by_cases hi : i < 12
  · have hms2 := runM_ms (s := s) (j := i + 1) (fuel := 12) hg.ms (by omega) (by have := hg.nO; omega)
    have e1 : cm .lss (i : Int) 12 = true := by rw [cm_lss']; exact decide_eq_true (by omega)
    have e2 : msB (runM s i m) = true := msB_iff.2 hms
    have e3 : codeB s = true := codeB_iff.2 hg.size
    have e4 : goodB (runM s i m) = true := goodB_iff.2 ⟨hms.mv.mx.X, hms.mv.mx.mem, hms.nO⟩
    have e5 : sizeB s = true := sizeB_iff.2 (by have := hg.size; omega)
    have e6 : eqMB (runM s (i + 1) m) (runM s (i + 1) m) = true := eqMB_iff.2 (same_self hms2)
    have e7 : (bif false then true else allB [true, true, true, true, true]) = true := rfl
    rw [← hrun, e1, e2, e3, e4, e5, e6, beq_t, beq_t, beq_t, beq_t, e7, addOne (show i < 9223372036854775807 by omega)]
    simp only [cond_true]
    refine ⟨rfl, ⟨s, m, i + 1⟩, [(1154, .old 2192), (1155, .old 2193), (1216, .old 2064), (1217, .old 2065), (1218, .old 2066), (1219, .old 2067)], ⟨hi, hg⟩, by show 12 - (i + 1) < 12 - i; omega, rfl, rfl, ?_, h3N_wk _ _, rfl, rfl⟩
    simp [vs3, v3, wkF, wkS, sim, rmap, rlook]
  · have e1 : cm .lss (i : Int) 12 = false := by rw [cm_lss']; exact decide_eq_false (by omega)
    rw [e1, cond_false]
    refine ⟨rfl, [.any, .any, .any, .any], [], [], rfl, rfl, ?_, trivial, rfl, rfl⟩
    simp [v3, wkF, wkS, sim, rmap, rlook]

theorem el3_calls : CallsOk EL3 Try.prog := fun f args H nm r h hn => elw_calls f args H nm r h hn
attribute [local irreducible] evalB Tr.view in
theorem loop3L : LoopOk EL3 Try.prog Try.f3 0 (loopOf Try.f3 0) :=
  loop_okE mixed (fun S => rfl) (by decide) ok3 (fun x => 12 - x.i) vs3 hp3 out3 entry3 fun x hx => ⟨ELw, elw_calls, loops_noLoop elw_loop _ _, round3 x hx⟩
theorem fn3L : Try.prog.funcs[3]? = some Try.f3 := by kernel_rfl
theorem b3L : Try.f3.body = some (bodyOf Try.f3) := by kernel_rfl
theorem nl3L : Code.loops (bodyOf Try.f3) = 1 := by kernel_rfl
theorem nth3L : nthLoop (bodyOf Try.f3) 0 = some (loopOf Try.f3 0) := by kernel_rfl
theorem loops3L : LoopsOk EL3 Try.prog Try.f3 (bodyOf Try.f3) 0 := loops1 nl3L fun a ha => by
  rw [nth3L] at ha
  simp only [Option.some.injEq] at ha
  subst ha
  exact loop3L

theorem lnP_ok (p : Pa) (x : Lf) : lnP p x = x := by
  unfold lnP
  rw [bx_true (beq_t _), bx_true (beq_t _), bx_true (beq_t _), bx_true (beq_t _), bx_true (beq_t _)]

attribute [local irreducible] evalF Tr.bare machM codeP in
theorem law3 {p : Pa} (h : PaOk p) : (evalF EL3 Try.prog 3 [.agg (vP p)] (hP p) 1024).bare = .ret (.bool true true) [] := by
  rw [t3]
  cases hv : hvP p with
  | true => rfl
  | false =>
    have hs := hv_small h hv
    have hm := mach_ms h (show p.nI ≤ 2000 by omega)
    have hnO : (machM p).nO = 0 := by with_unfolding_all rfl
    have hc := codeP_size p
    rw [cond_false, lnP_ok, lnP_ok, lnP_ok, bx_true (ble_t (by omega)), bx_true (ble_t (by omega)), bx_true (idB_iff.2 rfl), bx_true (stepB_iff.2 ⟨hm, by omega, by omega⟩), bx_true (beq_t _), bx_true (beq_t _)]

/-! an argument is an ask -/
def shapesR : List AK := [.slice [.int .i64, .int .i64, .int .i64, .int .i64, .int .i64], .slice [.int .u32], .slice [.int .i64], .slice [.int .u8], .flat (.int .i64), .slice [.int .i64], .flat (.int .i64), .flat .bool]
theorem ask_pa (al : List AD) (h : adsIs shapesR al) (hz : adsSmall al) : ∃ p : Pa, svs al 0 = vP p ∧ heapOf al 0 = hP p ∧ PaOk p := by
  unfold shapesR at h
  obtain ⟨a0, al, rfl, h0, h⟩ := adsIs_cons h
  obtain ⟨a1, al, rfl, h1, h⟩ := adsIs_cons h
  obtain ⟨a2, al, rfl, h2, h⟩ := adsIs_cons h
  obtain ⟨a3, al, rfl, h3, h⟩ := adsIs_cons h
  obtain ⟨a4, al, rfl, h4, h⟩ := adsIs_cons h
  obtain ⟨a5, al, rfl, h5, h⟩ := adsIs_cons h
  obtain ⟨a6, al, rfl, h6, h⟩ := adsIs_cons h
  obtain ⟨a7, al, rfl, h7, h⟩ := adsIs_cons h
  obtain rfl := adsIs_nil h
  obtain ⟨nL, cols, rfl, _, hc⟩ := adIs_slice h0
  obtain ⟨c0, cols, rfl, _, hc⟩ := colsIs_int hc
  obtain ⟨c1, cols, rfl, _, hc⟩ := colsIs_int hc
  obtain ⟨c2, cols, rfl, _, hc⟩ := colsIs_int hc
  obtain ⟨c3, cols, rfl, _, hc⟩ := colsIs_int hc
  obtain ⟨c4, cols, rfl, _, hc⟩ := colsIs_int hc
  obtain rfl := colsIs_nil hc
  obtain ⟨nW, cols, rfl, _, hc⟩ := adIs_slice h1
  obtain ⟨cw, cols, rfl, _, hc⟩ := colsIs_int hc
  obtain rfl := colsIs_nil hc
  obtain ⟨nX, cols, rfl, _, hc⟩ := adIs_slice h2
  obtain ⟨cX, cols, rfl, gX, hc⟩ := colsIs_int hc
  obtain rfl := colsIs_nil hc
  obtain ⟨nM, cols, rfl, _, hc⟩ := adIs_slice h3
  obtain ⟨cM, cols, rfl, gM, hc⟩ := colsIs_int hc
  obtain rfl := colsIs_nil hc
  obtain ⟨at_, rfl, _⟩ := adIs_int h4
  obtain ⟨nI, cols, rfl, _, hc⟩ := adIs_slice h5
  obtain ⟨cI, cols, rfl, gI, hc⟩ := colsIs_int hc
  obtain rfl := colsIs_nil hc
  obtain ⟨pc, rfl, gp⟩ := adIs_int h6
  obtain ⟨raw, rfl⟩ := adIs_bool h7
  simp only [adsSmall, and_true] at hz
  obtain ⟨z0, z1, z2, z3, z4⟩ := hz
  have e1 : IntKind.i64.min = -9223372036854775808 := by decide
  have e2 : IntKind.i64.max = 9223372036854775807 := by decide
  have e3 : IntKind.u8.min = 0 := by decide
  have e4 : IntKind.u8.max = 255 := by decide
  refine ⟨⟨nL, nW, nX, nM, nI, c0, c1, c2, c3, c4, cw, cX, cM, cI, at_, pc, raw⟩, rfl, rfl, z0, z1, z2, z3, z4, fun i hi => ?_, fun i hi => ?_, fun i hi => ?_, ?_⟩
  · have := gX i hi; unfold inR; simp only; omega
  · have := gM i hi; simp only; omega
  · have := gI i hi; unfold inR; simp only; omega
  · unfold inR; simp only; omega

end Go.Rv
