/-
  xm: the laws' Heavy, code, machine: prints.
-/
import Derived.Test.YtihfbhoodofhoaaGreatC14
import Derived.Test.YtihfbhoodofhoaaGreatC13
import Derived.Test.YtihfbhoodofhoaaGreatB11
set_option linter.unusedSimpArgs false
set_option linter.unusedVariables false
section
set_option linter.unusedVariables false
open Go Go.Ev Go.Proofs
namespace Go.Rv

/-- an ask's instructions and strings -/
structure Ka where
  nK : Nat
  nS : Nat
  k0 : Nat → Int
  k1 : Nat → Int
  k2 : Nat → Int
  k3 : Nat → Int
  k4 : Nat → Int
  cs : Nat → ByteArray
def vK (k : Ka) : List SV := [.sl 0 k.nK, .sl 1 k.nS]
def hK (k : Ka) : Heap := [(0, .tab k.nK [.ints .i64 k.k0, .ints .i64 k.k1, .ints .i64 k.k2, .ints .i64 k.k3, .ints .i64 k.k4] false), (1, .tab k.nS [.strs k.cs] false)]
def vAk (k : Ka) (p : Pa) (F : Int) : List SV := [.sl 0 k.nK, .sl 1 k.nS, .sl 2 p.nL, .sl 3 p.nW, .sl 4 p.nX, .sl 5 p.nM, .int false .i64 p.at_, .sl 6 p.nI, .int false .i64 p.pc, .bool false p.raw, .int false .i64 F]
def hAk (k : Ka) (p : Pa) : Heap := hK k ++ [(2, .tab p.nL [.ints .i64 p.c0, .ints .i64 p.c1, .ints .i64 p.c2, .ints .i64 p.c3, .ints .i64 p.c4] false), (3, .tab p.nW [.ints .u32 p.cw] false), (4, .tab p.nX [.ints .i64 p.cX] false), (5, .tab p.nM [.ints .u8 p.cM] false), (6, .tab p.nI [.ints .i64 p.cI] false)]

/-! law 20's Heavy -/
noncomputable def ECk : Env := inlF Tryz.prog (envOf [(26, specOf X.g7)] noLoop) [] [] [] 1
theorem eck_calls : CallsOk ECk Tryz.prog := (inlF_calls ((SpecsOk.cons X.spec8 SpecsOk.nil).calls noLoop) mixed rfl rfl rfl 1).1
theorem eck_loop : ECk.loop = noLoop := rfl
/-- how much the strings weigh -/
def hvS (k : Ka) : Nat → Nat → Int → Int
  | 0, _, n => n
  | f + 1, i, n => bif (bif cm .lss (i : Int) (k.nS : Int) then cm .lss n 1048576 else false) then hvS k f (i + 1) (ar .add .i64 n ((k.cs i).size : Int)) else n
def h24 (k : Ka) : Heap := hK k ++ [(1024, .cells (vK k))]
def v24a (n i : Int) : List SV := [.ptr 1024 0 0, .int false .i64 n, .int false .i64 i]
def lk24a : Lp := ⟨33, [1, 3, 4], 2048, fun _ _ => none⟩
def unK (H : Heap) : Option (List Bool × Ka) :=
  match H with
  | [(j0, .tab nL [.ints .i64 c0, .ints .i64 c1, .ints .i64 c2, .ints .i64 c3, .ints .i64 c4] _), (j1, .tab nS [.strs cs] _)] => some ([Nat.beq j0 0, Nat.beq j1 1], ⟨nL, nS, c0, c1, c2, c3, c4, cs⟩)
  | _ => none
def get24a : List SV → Heap → Option Tr
  | [.ptr k1 r1 p1, .int _ .i64 n, .int _ .i64 i], [(j0, .tab nL [.ints .i64 c0, .ints .i64 c1, .ints .i64 c2, .ints .i64 c3, .ints .i64 c4] false), (j1, .tab nS [.strs cs] false), (j2, .cells [.sl s0 m0, .sl s1 m1])] =>
    some (Tr.needs [Nat.beq k1 1024, Nat.beq r1 0, Nat.beq p1 0, decide (i = 0), Nat.beq j0 0, Nat.beq j1 1, Nat.beq j2 1024, Nat.beq s0 0, Nat.beq m0 nL, Nat.beq s1 1, Nat.beq m1 nS, Nat.ble nS 9223372036854775807]
      (exitT lk24a 0 [.ptr 1024 0 0, .int false .i64 (hvS ⟨nL, nS, c0, c1, c2, c3, c4, cs⟩ nS 0 n), .any] (h24 ⟨nL, nS, c0, c1, c2, c3, c4, cs⟩)))
  | _, _ => none
def lp24a : Lp := { lk24a with get := get24a }
noncomputable def E24a : Env := ⟨ECk.call, loopEnv [(0, lp24a)]⟩

/-! code -/
def addK (k : Ka) (i : Nat) (s : ByteArray) : ByteArray := bif cm .eql (X.errX (k.k0 i) (k.k1 i) (k.k2 i) (k.k3 i) (k.k4 i)) 0 then s ++ X.strX (k.k0 i) (k.k1 i) (k.k2 i) (k.k3 i) (k.k4 i) else s
def codeK (k : Ka) : Nat → Nat → ByteArray → ByteArray
  | 0, _, s => s
  | f + 1, i, s => bif Nat.blt i k.nK then codeK k f (i + 1) (addK k i s) else s
def codeS (k : Ka) (raw : Bool) : Nat → Nat → ByteArray → ByteArray
  | 0, _, s => s
  | f + 1, i, s => bif (bif Nat.blt i k.nS then raw else false) then codeS k raw f (i + 1) (s ++ k.cs i) else s
def h16 (k : Ka) (p : Pa) (F : Int) : Heap := hK k ++ [(1024, .cells (vAk k p F))]
def unC (H : Heap) : Option (List Bool × Ka × Pa × Int) :=
  match Ev.look H 0, Ev.look H 1, cL H 1024 with
  | some (.tab nK [.ints .i64 c0, .ints .i64 c1, .ints .i64 c2, .ints .i64 c3, .ints .i64 c4] _), some (.tab nS [.strs cs] _), some [.sl b0 n0, .sl b1 n1, .sl b2 nL, .sl b3 nW, .sl b4 nX, .sl b5 nM, .int _ .i64 at_, .sl b6 nI, .int _ .i64 pc, .bool _ raw, .int _ .i64 F] =>
    some ([Nat.beq b0 0, Nat.beq b1 1, Nat.beq b2 2, Nat.beq b3 3, Nat.beq b4 4, Nat.beq b5 5, Nat.beq b6 6, Nat.beq n0 nK, Nat.beq n1 nS],
      ⟨nK, nS, c0, c1, c2, c3, c4, cs⟩, ⟨nL, nW, nX, nM, nI, fun _ => 0, fun _ => 0, fun _ => 0, fun _ => 0, fun _ => 0, fun _ => 0, fun _ => 0, fun _ => 0, fun _ => 0, at_, pc, raw⟩, F)
  | _, _, _ => none
noncomputable def lessB (s : ByteArray) (n : Nat) : Bool := @decide (s.size ≤ n) (Classical.propDecidable _)
theorem lessB_iff {s : ByteArray} {n : Nat} : lessB s n = true ↔ s.size ≤ n := @decide_eq_true_iff _ (Classical.propDecidable _)
/-- no string is long -/
noncomputable def smB (k : Ka) : Bool := @decide (∀ i, i < k.nS → (k.cs i).size ≤ 3000) (Classical.propDecidable _)
theorem smB_iff {k : Ka} : smB k = true ↔ ∀ i, i < k.nS → (k.cs i).size ≤ 3000 := @decide_eq_true_iff _ (Classical.propDecidable _)
def v16a (s : ByteArray) (i : Int) : List SV := [.ptr 1024 0 0, .str s, .int false .i64 i]
def lk16a : Lp := ⟨61, [1, 3, 4], 1300, fun _ _ => none⟩
def get16a : List SV → Heap → Option Tr
  | [.ptr kp rp cp, .str s, .int _ .i64 i], H => match unC H with
    | some (nn, k, p, F) => some (Tr.needs ([Nat.beq kp 1024, Nat.beq rp 0, Nat.beq cp 0, decide (i = 0), Nat.beq s.size 0] ++ nn)
      (exitT lk16a 0 [.ptr 1024 0 0, .str (codeK k 20 0 s), .any] (h16 k p F)))
    | none => none
  | _, _ => none
def lp16a : Lp := { lk16a with get := get16a }
def v16b (s : ByteArray) (i : Int) : List SV := [.ptr 1024 0 0, .str s, .int false .i64 i]
def lk16b : Lp := ⟨61, [1, 3, 7], 1500, fun _ _ => none⟩
noncomputable def get16b : List SV → Heap → Option Tr
  | [.ptr kp rp cp, .str s, .int _ .i64 i], H => match unC H with
    | some (nn, k, p, F) => some (Tr.needs ([Nat.beq kp 1024, Nat.beq rp 0, Nat.beq cp 0, decide (i = 0), lessB s 300, smB k] ++ nn)
      (exitT lk16b 2 [.ptr 1024 0 0, .str (codeS k p.raw 3 0 s), .any] (h16 k p F)))
    | none => none
  | _, _ => none
noncomputable def lp16b : Lp := { lk16b with get := get16b }
noncomputable def E16 : Env := ⟨ECk.call, loopEnv [(0, lp16a), (1, lp16b)]⟩

/-! machine -/
noncomputable def E17 : Env := inlF Tryz.prog (envOf [(27, specOf g18M)] noLoop) [] [] [] 1
theorem e17_calls : CallsOk E17 Tryz.prog := (inlF_calls ((SpecsOk.cons spec18M SpecsOk.nil).calls noLoop) mixed rfl rfl rfl 1).1
theorem e17_loop : E17.loop = noLoop := rfl
def bitF (F b : Int) : Bool := cm .eql (ar .and .i64 F b) b
def mQ (p : Pa) (F : Int) (X : Nat → Int) : M := ⟨4096, bitF F 1, bitF F 2, bitF F 4, bitF F 8, 0, 0, X, mA (atP p).toNat p.cM p.nM, p.nI, cutF p.nI p.cI, 0, fun _ => 0⟩
def xQ (p : Pa) : Nat → Int := bif cm .gtr (p.nX : Int) 0 then upd (xA p.cX p.nX) 0 (p.cX 0) else xA p.cX p.nX
def machQ (p : Pa) (F : Int) : M := mQ p F (xQ p)
/-- an ask's tables are as long as its slices -/
def lnP (p : Pa) (x : Lf) : Lf := bx (Nat.beq p.nL p.nL) (bx (Nat.beq p.nW p.nW) (bx (Nat.beq p.nX p.nX) (bx (Nat.beq p.nM p.nM) (bx (Nat.beq p.nI p.nI) x))))
def retQ (m : M) : Lf := .ret (.agg (cpuL m 1088 1089 1090 1091)) [(1088, .tab 16 [.ints .i64 m.X] true), (1089, .tab 196608 [.ints .u8 m.mem] true), (1090, .tab m.nI [.ints .i64 m.inp] true), (1091, .tab m.nO [.ints .i64 m.out] true)]
theorem l17Q (k : Ka) (p : Pa) (F : Int) : (evalF E17 Tryz.prog 17 [.agg (vAk k p F)] (hAk k p) 1024).retH [1088, 1089, 1090, 1091] =
    bx (Nat.ble p.nI 100000000) (lnP p (bif cm .gtr (p.nX : Int) 0 then bx (decide (0 < (p.nX : Int))) (bx (Nat.blt 0 p.nX) (bx (Nat.blt 0 p.nX) (retQ (mQ p F (upd (xA p.cX p.nX) 0 (p.cX 0)))))) else retQ (mQ p F (xA p.cX p.nX)))) := by kernel_rfl

theorem r24a (k : Ka) (n : Int) (i : Int) : (evalB ECk Tryz.prog Tryz.f24.results.toList (loopOf Tryz.f24 0) 1 lp24a (v24a n i) (h24 k)).view [1, 3, 4] =
    (bif (bif cm .lss i (↑k.nS : Int) then cm .lss n 1048576 else false) then
      bif (decide (0 ≤ i)) then
        bif (decide (i < (↑k.nS : Int))) then
          bif (Nat.blt (i.toNat) (k.nS)) then
            bif (Nat.blt (i.toNat) (k.nS)) then
              .norm 33 [(.ptr 1024 0 0), (.int false .i64 (ar .add .i64 n (↑(k.cs i.toNat).size : Int))), (.int false .i64 (ar .add .i64 i 1))] (h24 k)
            else .bad
          else .bad
        else .bad
      else .bad
    else
      .exit 0 33 [(.ptr 1024 0 0), (.int false .i64 (n)), (.int false .i64 (i))] (h24 k)) := by kernel_rfl

theorem t24a (k : Ka) : (evalF E24a Tryz.prog 24 [SV.agg (vK k)] (hK k) 1024).bare =
    (bif (Nat.beq (k.nK) (k.nK)) then
      bif (Nat.beq (k.nS) (k.nS)) then
        bif (Nat.ble (k.nS) (9223372036854775807)) then
          .ret (.bool false (cm .gtr (hvS k k.nS 0 (ar .add .i64 (↑k.nK : Int) (↑k.nS : Int))) 3000)) []
        else .bad
      else .bad
    else .bad) := by kernel_rfl

theorem r16a (k : Ka) (p : Pa) (F : Int) (s : ByteArray) (i : Int) : (evalB ECk Tryz.prog Tryz.f16.results.toList (loopOf Tryz.f16 0) 1 lp16a (v16a s i) (h16 k p F)).view [1, 3, 4] =
    (bif (bif cm .lss i (↑k.nK : Int) then cm .lss i 20 else false) then
      bif (decide (0 ≤ i)) then
        bif (decide (i < (↑k.nK : Int))) then
          bif (Nat.blt (i.toNat) (k.nK)) then
            bif (Nat.blt (i.toNat) (k.nK)) then
              bif (cm .eql (X.errX (k.k0 i.toNat) (k.k1 i.toNat) (k.k2 i.toNat) (k.k3 i.toNat) (k.k4 i.toNat)) 0) then
                bif (Nat.ble (s.size + (X.strX (k.k0 i.toNat) (k.k1 i.toNat) (k.k2 i.toNat) (k.k3 i.toNat) (k.k4 i.toNat)).size) (9223372036854775807)) then
                  .norm 61 [(.ptr 1024 0 0), (.str (s ++ X.strX (k.k0 i.toNat) (k.k1 i.toNat) (k.k2 i.toNat) (k.k3 i.toNat) (k.k4 i.toNat))), (.int false .i64 (ar .add .i64 i 1))] (h16 k p F)
                else .bad
              else
                .norm 61 [(.ptr 1024 0 0), (.str (s)), (.int false .i64 (ar .add .i64 i 1))] (h16 k p F)
            else .bad
          else .bad
        else .bad
      else .bad
    else
      .exit 0 61 [(.ptr 1024 0 0), (.str (s)), (.int false .i64 (i))] (h16 k p F)) := by kernel_rfl

theorem r16b (k : Ka) (p : Pa) (F : Int) (s : ByteArray) (i : Int) : (evalB ECk Tryz.prog Tryz.f16.results.toList (loopOf Tryz.f16 1) 2 lp16b (v16b s i) (h16 k p F)).view [1, 3, 7] =
    (bif (bif cm .lss i (↑k.nS : Int) then bif cm .lss i 3 then p.raw else false else false) then
      bif (decide (0 ≤ i)) then
        bif (decide (i < (↑k.nS : Int))) then
          bif (Nat.blt (i.toNat) (k.nS)) then
            bif (Nat.blt (i.toNat) (k.nS)) then
              bif (Nat.ble (s.size + (k.cs i.toNat).size) (9223372036854775807)) then
                .norm 61 [(.ptr 1024 0 0), (.str (s ++ k.cs i.toNat)), (.int false .i64 (ar .add .i64 i 1))] (h16 k p F)
              else .bad
            else .bad
          else .bad
        else .bad
      else .bad
    else
      .exit 2 61 [(.ptr 1024 0 0), (.str (s)), (.int false .i64 (i))] (h16 k p F)) := by kernel_rfl

theorem t16 (k : Ka) (p : Pa) (F : Int) : (evalF E16 Tryz.prog 16 [SV.agg (vAk k p F)] (hAk k p) 1024).bare =
    (bif (Nat.beq (k.nK) (k.nK)) then
      bif (Nat.beq (k.nS) (k.nS)) then
        bif (lessB (codeK k 20 0 (ByteArray.mk #[])) 300) then
          bif (smB k) then
            bif (Nat.beq (k.nK) (k.nK)) then
              bif (Nat.beq (k.nS) (k.nS)) then
                .ret (.str (codeS k p.raw 3 0 (codeK k 20 0 (ByteArray.mk #[])))) []
              else .bad
            else .bad
          else .bad
        else .bad
      else .bad
    else .bad) := by kernel_rfl

end Go.Rv
end

section
set_option linter.unusedVariables false
open Go Go.Ev Go.Proofs
namespace Go.Rv

/-! law 20's Heavy -/
structure X24 where
  k : Ka
  n : Int
  i : Nat
def ok24 (x : X24) : Prop := x.i ≤ x.k.nS ∧ x.k.nS ≤ 9223372036854775807
def vs24 (x : X24) : List SV := v24a x.n x.i
def hp24 (x : X24) : Heap := h24 x.k
def out24H (x : X24) : Vw := .exit 0 33 [.ptr 1024 0 0, .int false .i64 (hvS x.k (x.k.nS - x.i) x.i x.n), .any] (h24 x.k)

theorem entry24 (l : List SV) (H : Heap) (T : Tr) (h : lp24a.get l H = some T) (hb : T.leaf ≠ .bad) : ∃ x r, ok24 x ∧ WkV r lp24a.nm l H (vs24 x) (hp24 x) ∧ T.leaf = toLf lp24a (out24H x) := by
  replace h : get24a l H = some T := h
  unfold get24a at h
  split at h
  · rename_i k1 r1 p1 _ n _ i j0 nL c0 c1 c2 c3 c4 j1 nS cs j2 s0 m0 s1 m1
    simp only [Option.some.injEq] at h
    subst h
    obtain ⟨hn, he⟩ := needs_ne hb
    rw [he]
    simp only [allB, Bool.and_eq_true, Bool.and_true, decide_eq_true_eq, Nat.beq_eq, Nat.ble_eq] at hn
    obtain ⟨rfl, rfl, rfl, rfl, rfl, rfl, rfl, rfl, rfl, rfl, rfl, hS⟩ := hn
    refine ⟨⟨⟨m0, m1, c0, c1, c2, c3, c4, cs⟩, n, 0⟩, [], ⟨Nat.zero_le _, hS⟩, ?_, ?_⟩
    · simp [WkV, vs24, hp24, v24a, h24, hK, vK, wkF, wkS, sim, simL, wkH, wkB, wkCs, wkC, rmap, rlook, Ev.look, oldsOf, uniqN, mem, SV.al, SV.alL, Ev.hal, Blk.al, lt, rok, lp24a, lk24a]
    · simp only [exitT_leaf, out24H]
      rfl
  · cases h
theorem h24_self (k : Ka) : wkH (rmap []) (h24 k) (h24 k) := by
  simp [wkH, h24, hK, vK, rmap, rlook, Ev.look, wkB, simL, sim, wkCs, wkC]

attribute [local irreducible] evalB Tr.view in
theorem round24 (x : X24) (hx : ok24 x) : Round lp24a ok24 (fun x => x.k.nS - x.i) vs24 hp24 out24H x ((evalB ECk Tryz.prog Tryz.f24.results.toList (loopOf Tryz.f24 0) (0 + 1) lp24a (vs24 x) (hp24 x)).view lp24a.ks) := by
  obtain ⟨k, n, i⟩ := x
  obtain ⟨hi, hS⟩ := hx
  simp only at hi hS
  have hr := r24a k n i
  rw [show evalB ECk Tryz.prog Tryz.f24.results.toList (loopOf Tryz.f24 0) (0 + 1) lp24a (vs24 ⟨k, n, i⟩) (hp24 ⟨k, n, i⟩) = evalB ECk Tryz.prog Tryz.f24.results.toList (loopOf Tryz.f24 0) 1 lp24a (v24a n i) (h24 k) from rfl, show lp24a.ks = [1, 3, 4] from rfl, hr]
  cases hc : (bif cm .lss (i : Int) (k.nS : Int) then cm .lss n 1048576 else false) with
  | true =>
    have hlt : i < k.nS := by
      rw [cm_lss'] at hc
      by_cases h : (i : Int) < k.nS
      · omega
      · rw [decide_eq_false h] at hc; cases hc
    have e2 : decide (0 ≤ (i : Int)) = true := decide_eq_true (by omega)
    have e3 : decide ((i : Int) < (k.nS : Int)) = true := decide_eq_true (by omega)
    have e4 : Nat.blt i k.nS = true := by rw [Nat.blt_eq]; exact hlt
    simp only [e2, e3, e4, cond_true, Int.toNat_natCast, addOne (show i < 9223372036854775807 by omega)]
    refine ⟨rfl, ⟨k, ar .add .i64 n ((k.cs i).size : Int), i + 1⟩, [], ⟨hlt, hS⟩, by show k.nS - (i + 1) < k.nS - i; omega, ?_, rfl, ?_, h24_self k, rfl, rfl⟩
    · simp only [out24H]
      obtain ⟨f, hf⟩ : ∃ f, k.nS - i = f + 1 := ⟨k.nS - i - 1, by omega⟩
      rw [hf, show k.nS - (i + 1) = f by omega]
      simp only [hvS, hc, cond_true]
    · simp [vs24, v24a, wkF, wkS, sim, rmap, rlook]
  | false =>
    simp only [cond_false]
    have hv : hvS k (k.nS - i) i n = n := by
      cases hf : k.nS - i with
      | zero => rfl
      | succ f => simp only [hvS, hc, cond_false]
    refine ⟨rfl, [.ptr 1024 0 0, .int false .i64 n, .any], h24 k, [], ?_, rfl, ?_, h24_self k, rfl, rfl⟩
    · simp only [out24H, hv]
      rfl
    · simp [wkF, wkS, sim, rmap, rlook]

theorem e24_calls : CallsOk E24a Tryz.prog := fun f args H nm r h hn => eck_calls f args H nm r h hn
attribute [local irreducible] evalB Tr.view in
theorem loop24 : LoopOk E24a Tryz.prog Tryz.f24 0 (loopOf Tryz.f24 0) :=
  loop_okE mixed (fun S => rfl) (by decide) ok24 (fun x => x.k.nS - x.i) vs24 hp24 out24H entry24 fun x hx => ⟨ECk, eck_calls, loops_noLoop eck_loop _ _, round24 x hx⟩
theorem fn24H : Tryz.prog.funcs[24]? = some Tryz.f24 := by kernel_rfl
theorem b24H : Tryz.f24.body = some (bodyOf Tryz.f24) := by kernel_rfl
theorem n24H : (Tryz.f24.name == "runtime.NumGoroutine") = false := by kernel_rfl
theorem nl24 : Code.loops (bodyOf Tryz.f24) = 1 := by kernel_rfl
theorem nth24 : nthLoop (bodyOf Tryz.f24) 0 = some (loopOf Tryz.f24 0) := by kernel_rfl
theorem loops24 : LoopsOk E24a Tryz.prog Tryz.f24 (bodyOf Tryz.f24) 0 := loops1 nl24 fun a ha => by
  rw [nth24] at ha
  simp only [Option.some.injEq] at ha
  subst ha
  exact loop24

/-- is it let go, by its own instructions? -/
def hvK (k : Ka) : Bool := cm .gtr (hvS k k.nS 0 (ar .add .i64 (k.nK : Int) (k.nS : Int))) 3000
def unKa (l : List SV) (H : Heap) : Option (List Bool × Ka) :=
  match l, H with
  | [.sl s0 m0, .sl s1 m1], [(j0, .tab nL [.ints .i64 c0, .ints .i64 c1, .ints .i64 c2, .ints .i64 c3, .ints .i64 c4] _), (j1, .tab nS [.strs cs] _)] =>
    match Nat.beq s0 0 && (Nat.beq s1 1 && (Nat.beq j0 0 && Nat.beq j1 1)) with
    | true => some ([Nat.beq nL m0, Nat.beq nS m1], ⟨m0, m1, c0, c1, c2, c3, c4, cs⟩)
    | false => none
  | _, _ => none
theorem unKa_all {l : List SV} {H : Heap} {nn : List Bool} {k : Ka} (h : unKa l H = some (nn, k)) (hn : allB nn = true) : l = vK k ∧ roH [] H = hK k := by
  unfold unKa at h
  split at h
  · split at h
    · rename_i hb
      simp only [Option.some.injEq, Prod.mk.injEq] at h
      obtain ⟨rfl, rfl⟩ := h
      simp only [Bool.and_eq_true, Nat.beq_eq] at hb
      obtain ⟨rfl, rfl, rfl, rfl⟩ := hb
      simp only [allB, Bool.and_true, Bool.and_eq_true, Nat.beq_eq] at hn
      obtain ⟨rfl, rfl⟩ := hn
      exact ⟨rfl, rfl⟩
    · cases h
  · cases h
def g24H : List SV → Heap → Option R
  | [.agg l], H => match unKa l H with
    | some (nn, k) => some ⟨Nat.ble k.nS 9223372036854775807 :: nn, .bool false (hvK k), []⟩
    | none => none
  | _, _ => none
attribute [local irreducible] evalF Tr.bare Tr.leaf in
theorem spec24H : SpecOk Tryz.prog 24 (specOf g24H) := spec_okU false mixed fn24H b24H n24H g24H fun a0 H0 r hg hn => by
  unfold g24H at hg
  split at hg
  · rename_i l
    split at hg
    · rename_i nn k hm
      simp only [Option.some.injEq] at hg
      subst hg
      simp only [allB, Bool.and_eq_true] at hn
      obtain ⟨hS, hnn⟩ := hn
      obtain ⟨rfl, hr⟩ := unKa_all hm hnn
      refine ⟨E24a, [.agg (vK k)], [], e24_calls, loops24, fun h => h, fun σ => rfl, fun k hk => (by cases hk), ?_⟩
      rw [hr]
      refine gives_giv (gives_tree (t24a k) ?_)
      rw [beq_t, beq_t, hS, cond_true, cond_true, cond_true]
      exact gives_ret fun σ σ' => rfl
    · cases hg
  · cases hg

/-! code -/
theorem lastL_length : ∀ (l : List Int) (k : Int), (X.lastL l k).length = l.length
  | [], _ => rfl
  | [_], _ => rfl
  | _ :: b :: l, k => by simp [X.lastL, lastL_length (b :: l) k]
theorem strX_size (op w rd rs n : Int) : (X.strX op w rd rs n).size ≤ 14 := by
  unfold X.strX
  cases he : X.errX op w rd rs n == 0 with
  | false => rw [cond_false]; exact Nat.zero_le _
  | true =>
    rw [cond_true, X.S_size]
    have hop : 1 ≤ op ∧ op ≤ 46 := by
      have he : X.errX op w rd rs n = 0 := by simpa using he
      unfold X.errX at he
      by_cases h : op < 1 ∨ 46 < op
      · have : (decide (op < 1) || decide (46 < op)) = true := by simpa using h
        rw [this] at he
        cases he
      · omega
    obtain ⟨⟨hc, _, hc2⟩, _⟩ := X.code_is hop.1 hop.2
    have ht : (X.tailL n (X.longX (X.shX op) (X.imX op))).length ≤ 8 := by
      rw [X.tail_length]
      rcases X.long_is (X.shX op) (X.imX op) with h | h | h | h <;> omega
    unfold X.encL
    repeat' split
    all_goals
      simp only [List.length_cons, List.length_append, lastL_length, X.tail_length] at ht ⊢
      try (cases nth X.aheads false (op - 1).toNat <;> simp only [cond_true, cond_false, List.length_cons, List.length_nil] <;> omega)
      try omega
    · cases nth X.turns false (op - 1).toNat <;> simp only [cond_true, cond_false, List.length_cons, List.length_append, X.tail_length] <;> omega
theorem addK_size (k : Ka) (i : Nat) (s : ByteArray) : (addK k i s).size ≤ s.size + 14 := by
  unfold addK
  cases cm .eql (X.errX (k.k0 i) (k.k1 i) (k.k2 i) (k.k3 i) (k.k4 i)) 0 with
  | true => rw [cond_true, ByteArray.size_append]; have := strX_size (k.k0 i) (k.k1 i) (k.k2 i) (k.k3 i) (k.k4 i); omega
  | false => rw [cond_false]; omega
theorem codeK_size (k : Ka) : ∀ f i s, (codeK k f i s).size ≤ s.size + 14 * f
  | 0, _, s => Nat.le_refl _
  | f + 1, i, s => by
    unfold codeK
    cases Nat.blt i k.nK with
    | true => rw [cond_true]; have := codeK_size k f (i + 1) (addK k i s); have := addK_size k i s; omega
    | false => rw [cond_false]; omega
theorem codeS_size (k : Ka) (raw : Bool) (h : ∀ i, i < k.nS → (k.cs i).size ≤ 3000) : ∀ f i s, (codeS k raw f i s).size ≤ s.size + 3000 * f
  | 0, _, s => Nat.le_refl _
  | f + 1, i, s => by
    unfold codeS
    cases hb : (bif Nat.blt i k.nS then raw else false) with
    | true =>
      rw [cond_true]
      have hi : i < k.nS := by
        cases hb2 : Nat.blt i k.nS with
        | true => rw [Nat.blt_eq] at hb2; exact hb2
        | false => rw [hb2] at hb; cases hb
      have := codeS_size k raw h f (i + 1) (s ++ k.cs i)
      rw [ByteArray.size_append] at this
      have := h i hi
      omega
    | false => rw [cond_false]; omega

theorem unC_wk {H : Heap} {nn : List Bool} {k : Ka} {p : Pa} {F : Int} (h : unC H = some (nn, k, p, F)) (hn : allB nn = true) : wkH (rmap []) H (h16 k p F) := by
  unfold unC at h
  split at h
  · rename_i q1 q2 q3
    simp only [Option.some.injEq, Prod.mk.injEq] at h
    obtain ⟨rfl, rfl, rfl, rfl⟩ := h
    simp only [allB, Bool.and_true, Bool.and_eq_true, Nat.beq_eq] at hn
    obtain ⟨rfl, rfl, rfl, rfl, rfl, rfl, rfl, rfl, rfl⟩ := hn
    have q3 := cL_spec q3
    have r0 : ∀ j, rmap [] j = .old j := fun j => rfl
    simp only [wkH, h16, hK, List.cons_append, List.nil_append, r0, q1, q2, q3, wkB, and_true]
    simp [wkCs, wkC, vAk, simL, sim, rmap, rlook]
  · cases h
theorem h16_self (k : Ka) (p : Pa) (F : Int) : wkH (rmap []) (h16 k p F) (h16 k p F) := by
  simp [wkH, h16, hK, vAk, rmap, rlook, Ev.look, wkB, simL, sim, wkCs, wkC]

structure X16 where
  k : Ka
  p : Pa
  F : Int
  s : ByteArray
  i : Nat
def ok16a (x : X16) : Prop := x.i ≤ 20 ∧ x.s.size ≤ 14 * x.i
def vs16a (x : X16) : List SV := v16a x.s x.i
def hp16 (x : X16) : Heap := h16 x.k x.p x.F
def out16a (x : X16) : Vw := .exit 0 61 [.ptr 1024 0 0, .str (codeK x.k (20 - x.i) x.i x.s), .any] (h16 x.k x.p x.F)

theorem entry16a (l : List SV) (H : Heap) (T : Tr) (h : lp16a.get l H = some T) (hb : T.leaf ≠ .bad) : ∃ x r, ok16a x ∧ WkV r lp16a.nm l H (vs16a x) (hp16 x) ∧ T.leaf = toLf lp16a (out16a x) := by
  replace h : get16a l H = some T := h
  unfold get16a at h
  split at h
  · rename_i kp rp cp s _ i
    split at h
    · rename_i nn k p F hu
      simp only [Option.some.injEq] at h
      subst h
      obtain ⟨hn, he⟩ := needs_ne hb
      rw [he]
      rw [allB_append] at hn
      simp only [allB, Bool.and_eq_true, Bool.and_true, decide_eq_true_eq, Nat.beq_eq] at hn
      obtain ⟨⟨rfl, rfl, rfl, rfl, hs⟩, hnn⟩ := hn
      refine ⟨⟨k, p, F, s, 0⟩, [], ⟨Nat.zero_le _, by simp only; omega⟩, ⟨rfl, ?_, unC_wk hu hnn, rfl, rfl⟩, ?_⟩
      · simp [vs16a, v16a, wkF, wkS, sim, rmap, rlook]
      · simp only [exitT_leaf, out16a]
        rfl
    · cases h
  · cases h

attribute [local irreducible] evalB Tr.view X.strX X.errX in
theorem round16a (x : X16) (hx : ok16a x) : Round lp16a ok16a (fun x => 20 - x.i) vs16a hp16 out16a x ((evalB ECk Tryz.prog Tryz.f16.results.toList (loopOf Tryz.f16 0) (0 + 1) lp16a (vs16a x) (hp16 x)).view lp16a.ks) := by
  obtain ⟨k, p, F, s, i⟩ := x
  obtain ⟨h0, h1⟩ := hx
  simp only at h0 h1
  have hr := r16a k p F s i
  rw [show evalB ECk Tryz.prog Tryz.f16.results.toList (loopOf Tryz.f16 0) (0 + 1) lp16a (vs16a ⟨k, p, F, s, i⟩) (hp16 ⟨k, p, F, s, i⟩) = evalB ECk Tryz.prog Tryz.f16.results.toList (loopOf Tryz.f16 0) 1 lp16a (v16a s i) (h16 k p F) from rfl, show lp16a.ks = [1, 3, 4] from rfl, hr]
  by_cases hc : i < k.nK ∧ i < 20
  · obtain ⟨c1, c2⟩ := hc
    have e1 : cm .lss (i : Int) (k.nK : Int) = true := by rw [cm_lss']; exact decide_eq_true (by omega)
    have e2 : cm .lss (i : Int) 20 = true := by rw [cm_lss']; exact decide_eq_true (by omega)
    have e3 : decide (0 ≤ (i : Int)) = true := decide_eq_true (by omega)
    have e4 : decide ((i : Int) < (k.nK : Int)) = true := decide_eq_true (by omega)
    have e5 : Nat.blt i k.nK = true := blt_t c1
    obtain ⟨f, hf⟩ : ∃ f, 20 - i = f + 1 := ⟨19 - i, by omega⟩
    have hf2 : 20 - (i + 1) = f := by omega
    have hstep : codeK k (20 - i) i s = codeK k (20 - (i + 1)) (i + 1) (addK k i s) := by
      rw [hf, hf2]
      show (bif Nat.blt i k.nK then codeK k f (i + 1) (addK k i s) else s) = _
      rw [e5, cond_true]
    rw [addOne (show i < 9223372036854775807 by omega), Int.toNat_natCast, e1, e2, e3, e4, e5]
    simp only [cond_true]
    have hnext : ∀ s', s' = addK k i s → Round lp16a ok16a (fun x => 20 - x.i) vs16a hp16 out16a ⟨k, p, F, s, i⟩ (.norm 61 [.ptr 1024 0 0, .str s', .int false .i64 ((i + 1 : Nat) : Int)] (h16 k p F)) := by
      intro s' hs'
      subst hs'
      have hsz := addK_size k i s
      refine ⟨rfl, ⟨k, p, F, addK k i s, i + 1⟩, [], ⟨c2, by show (addK k i s).size ≤ 14 * (i + 1); omega⟩, by show 20 - (i + 1) < 20 - i; omega, ?_, rfl, ?_, h16_self k p F, rfl, rfl⟩
      · simp only [out16a, hstep]
      · simp [vs16a, v16a, wkF, wkS, sim, rmap, rlook]
    refine Round_cond (fun hq => ?_) (fun hq => ?_)
    · refine Round_cond (fun _ => ?_) (fun hbad => ?_)
      · refine hnext _ ?_
        unfold addK
        rw [hq, cond_true]
      · exfalso
        have hw := strX_size (k.k0 i) (k.k1 i) (k.k2 i) (k.k3 i) (k.k4 i)
        rw [ble_t (by omega)] at hbad
        cases hbad
    · refine hnext _ ?_
      unfold addK
      rw [hq, cond_false]
  · have e : (bif cm .lss (i : Int) (k.nK : Int) then cm .lss (i : Int) 20 else false) = false := by
      rw [cm_lss', cm_lss']
      by_cases c1 : i < k.nK
      · have c2 : ¬ (i : Int) < 20 := by have := fun h => hc ⟨c1, h⟩; omega
        simp only [decide_eq_false c2]; cases decide ((i : Int) < (k.nK : Int)) <;> rfl
      · have c2 : ¬ (i : Int) < k.nK := by omega
        simp only [decide_eq_false c2]; rfl
    have hend : codeK k (20 - i) i s = s := by
      by_cases c1 : i < 20
      · obtain ⟨f, hf⟩ : ∃ f, 20 - i = f + 1 := ⟨19 - i, by omega⟩
        rw [hf]
        have : Nat.blt i k.nK = false := by cases hb : Nat.blt i k.nK with | false => rfl | true => rw [Nat.blt_eq] at hb; exact absurd ⟨hb, c1⟩ hc
        show (bif Nat.blt i k.nK then codeK k f (i + 1) (addK k i s) else s) = s
        rw [this, cond_false]
      · rw [show 20 - i = 0 by omega]; rfl
    rw [e, cond_false]
    refine ⟨rfl, [.ptr 1024 0 0, .str s, .any], h16 k p F, [], ?_, rfl, ?_, h16_self k p F, rfl, rfl⟩
    · simp only [out16a, hend]
      rfl
    · simp [wkF, wkS, sim, rmap, rlook]

def ok16b (x : X16) : Prop := x.i ≤ 3 ∧ x.s.size ≤ 300 + 3000 * x.i ∧ ∀ i, i < x.k.nS → (x.k.cs i).size ≤ 3000
def vs16b (x : X16) : List SV := v16b x.s x.i
def out16b (x : X16) : Vw := .exit 2 61 [.ptr 1024 0 0, .str (codeS x.k x.p.raw (3 - x.i) x.i x.s), .any] (h16 x.k x.p x.F)

theorem entry16b (l : List SV) (H : Heap) (T : Tr) (h : lp16b.get l H = some T) (hb : T.leaf ≠ .bad) : ∃ x r, ok16b x ∧ WkV r lp16b.nm l H (vs16b x) (hp16 x) ∧ T.leaf = toLf lp16b (out16b x) := by
  replace h : get16b l H = some T := h
  unfold get16b at h
  split at h
  · rename_i kp rp cp s _ i
    split at h
    · rename_i nn k p F hu
      simp only [Option.some.injEq] at h
      subst h
      obtain ⟨hn, he⟩ := needs_ne hb
      rw [he]
      rw [allB_append] at hn
      simp only [allB, Bool.and_eq_true, Bool.and_true, decide_eq_true_eq, Nat.beq_eq, lessB_iff, smB_iff] at hn
      obtain ⟨⟨rfl, rfl, rfl, rfl, hs, hsm⟩, hnn⟩ := hn
      refine ⟨⟨k, p, F, s, 0⟩, [], ⟨Nat.zero_le _, by simp only; omega, hsm⟩, ⟨rfl, ?_, unC_wk hu hnn, rfl, rfl⟩, ?_⟩
      · simp [vs16b, v16b, wkF, wkS, sim, rmap, rlook]
      · simp only [exitT_leaf, out16b]
        rfl
    · cases h
  · cases h

attribute [local irreducible] evalB Tr.view in
theorem round16b (x : X16) (hx : ok16b x) : Round lp16b ok16b (fun x => 3 - x.i) vs16b hp16 out16b x ((evalB ECk Tryz.prog Tryz.f16.results.toList (loopOf Tryz.f16 1) (1 + 1) lp16b (vs16b x) (hp16 x)).view lp16b.ks) := by
  obtain ⟨k, p, F, s, i⟩ := x
  obtain ⟨h0, h1, hsm⟩ := hx
  simp only at h0 h1 hsm
  have hr := r16b k p F s i
  rw [show evalB ECk Tryz.prog Tryz.f16.results.toList (loopOf Tryz.f16 1) (1 + 1) lp16b (vs16b ⟨k, p, F, s, i⟩) (hp16 ⟨k, p, F, s, i⟩) = evalB ECk Tryz.prog Tryz.f16.results.toList (loopOf Tryz.f16 1) 2 lp16b (v16b s i) (h16 k p F) from rfl, show lp16b.ks = [1, 3, 7] from rfl, hr]
  by_cases hc : (i < k.nS ∧ i < 3) ∧ p.raw = true
  · obtain ⟨⟨c1, c2⟩, c3⟩ := hc
    have e1 : cm .lss (i : Int) (k.nS : Int) = true := by rw [cm_lss']; exact decide_eq_true (by omega)
    have e2 : cm .lss (i : Int) 3 = true := by rw [cm_lss']; exact decide_eq_true (by omega)
    have e3 : decide (0 ≤ (i : Int)) = true := decide_eq_true (by omega)
    have e4 : decide ((i : Int) < (k.nS : Int)) = true := decide_eq_true (by omega)
    have e5 : Nat.blt i k.nS = true := blt_t c1
    obtain ⟨f, hf⟩ : ∃ f, 3 - i = f + 1 := ⟨2 - i, by omega⟩
    have hf2 : 3 - (i + 1) = f := by omega
    have hstep : codeS k p.raw (3 - i) i s = codeS k p.raw (3 - (i + 1)) (i + 1) (s ++ k.cs i) := by
      rw [hf, hf2]
      show (bif (bif Nat.blt i k.nS then p.raw else false) then codeS k p.raw f (i + 1) (s ++ k.cs i) else s) = _
      rw [e5, c3]; rfl
    have hw := hsm i c1
    have e6 : (bif cm .lss (i : Int) (k.nS : Int) then bif cm .lss (i : Int) 3 then p.raw else false else false) = true := by rw [e1, e2, c3]; rfl
    rw [addOne (show i < 9223372036854775807 by omega), Int.toNat_natCast, e6, e3, e4, e5, ble_t (show s.size + (k.cs i).size ≤ 9223372036854775807 by omega)]
    simp only [cond_true]
    refine ⟨rfl, ⟨k, p, F, s ++ k.cs i, i + 1⟩, [], ⟨c2, by show (s ++ k.cs i).size ≤ 300 + 3000 * (i + 1); rw [ByteArray.size_append]; omega, hsm⟩, by show 3 - (i + 1) < 3 - i; omega, ?_, rfl, ?_, h16_self k p F, rfl, rfl⟩
    · simp only [out16b, hstep]
    · simp [vs16b, v16b, wkF, wkS, sim, rmap, rlook]
  · have e : (bif cm .lss (i : Int) (k.nS : Int) then bif cm .lss (i : Int) 3 then p.raw else false else false) = false := by
      cases hA : cm .lss (i : Int) (k.nS : Int) with
      | false => rfl
      | true => cases hB : cm .lss (i : Int) 3 with
        | false => rfl
        | true => cases hR : p.raw with
          | false => rfl
          | true =>
            rw [cm_lss'] at hA hB
            have hA := of_decide_eq_true hA
            have hB := of_decide_eq_true hB
            exact absurd ⟨⟨by omega, by omega⟩, hR⟩ hc
    have hend : codeS k p.raw (3 - i) i s = s := by
      by_cases c1 : i < 3
      · obtain ⟨f, hf⟩ : ∃ f, 3 - i = f + 1 := ⟨2 - i, by omega⟩
        rw [hf]
        have : (bif Nat.blt i k.nS then p.raw else false) = false := by
          cases hb : Nat.blt i k.nS with
          | false => rfl
          | true => cases hR : p.raw with
            | false => rfl
            | true => rw [Nat.blt_eq] at hb; exact absurd ⟨⟨hb, c1⟩, hR⟩ hc
        show (bif (bif Nat.blt i k.nS then p.raw else false) then codeS k p.raw f (i + 1) (s ++ k.cs i) else s) = s
        rw [this, cond_false]
      · rw [show 3 - i = 0 by omega]; rfl
    rw [e, cond_false]
    refine ⟨rfl, [.ptr 1024 0 0, .str s, .any], h16 k p F, [], ?_, rfl, ?_, h16_self k p F, rfl, rfl⟩
    · simp only [out16b, hend]
      rfl
    · simp [wkF, wkS, sim, rmap, rlook]

theorem e16_calls : CallsOk E16 Tryz.prog := fun f args H nm r h hn => eck_calls f args H nm r h hn
attribute [local irreducible] evalB Tr.view in
theorem loop16a : LoopOk E16 Tryz.prog Tryz.f16 0 (loopOf Tryz.f16 0) :=
  loop_okE mixed (fun S => rfl) (by decide) ok16a (fun x => 20 - x.i) vs16a hp16 out16a entry16a fun x hx => ⟨ECk, eck_calls, loops_noLoop eck_loop _ _, round16a x hx⟩
attribute [local irreducible] evalB Tr.view in
theorem loop16b : LoopOk E16 Tryz.prog Tryz.f16 1 (loopOf Tryz.f16 1) :=
  loop_okE mixed (fun S => rfl) (by decide) ok16b (fun x => 3 - x.i) vs16b hp16 out16b entry16b fun x hx => ⟨ECk, eck_calls, loops_noLoop eck_loop _ _, round16b x hx⟩
theorem fn16C : Tryz.prog.funcs[16]? = some Tryz.f16 := by kernel_rfl
theorem b16C : Tryz.f16.body = some (bodyOf Tryz.f16) := by kernel_rfl
theorem n16C : (Tryz.f16.name == "runtime.NumGoroutine") = false := by kernel_rfl
theorem nl16C : Code.loops (bodyOf Tryz.f16) = 2 := by kernel_rfl
theorem nth16a : nthLoop (bodyOf Tryz.f16) 0 = some (loopOf Tryz.f16 0) := by kernel_rfl
theorem nth16b : nthLoop (bodyOf Tryz.f16) 1 = some (loopOf Tryz.f16 1) := by kernel_rfl
theorem loops16 : LoopsOk E16 Tryz.prog Tryz.f16 (bodyOf Tryz.f16) 0 := loops2 nl16C
  (fun a ha => by rw [nth16a] at ha; simp only [Option.some.injEq] at ha; subst ha; exact loop16a)
  (fun a ha => by rw [nth16b] at ha; simp only [Option.some.injEq] at ha; subst ha; exact loop16b)

/-- the code of an ask -/
def codeQ (k : Ka) (p : Pa) : ByteArray := codeS k p.raw 3 0 (codeK k 20 0 (ByteArray.mk #[]))
theorem codeK_280 (k : Ka) : (codeK k 20 0 (ByteArray.mk #[])).size ≤ 280 := by
  have := codeK_size k 20 0 (ByteArray.mk #[])
  have e : (ByteArray.mk #[]).size = 0 := rfl
  omega
theorem codeQ_size {k : Ka} (h : ∀ i, i < k.nS → (k.cs i).size ≤ 3000) (p : Pa) : (codeQ k p).size ≤ 10000 := by
  have := codeS_size k p.raw h 3 0 (codeK k 20 0 (ByteArray.mk #[]))
  have := codeK_280 k
  unfold codeQ
  omega

def unAk (l : List SV) (H : Heap) : Option (List Bool × Ka × Pa × Int) :=
  match l, H with
  | [.sl i0 n0, .sl i1 n1, .sl i2 n2, .sl i3 n3, .sl i4 n4, .sl i5 n5, .int false .i64 at_, .sl i6 n6, .int false .i64 pc, .bool false raw, .int false .i64 F],
    [(j0, .tab t0 [.ints .i64 a0, .ints .i64 a1, .ints .i64 a2, .ints .i64 a3, .ints .i64 a4] _), (j1, .tab t1 [.strs cs] _), (j2, .tab t2 [.ints .i64 c0, .ints .i64 c1, .ints .i64 c2, .ints .i64 c3, .ints .i64 c4] _), (j3, .tab t3 [.ints .u32 cw] _), (j4, .tab t4 [.ints .i64 cX] _), (j5, .tab t5 [.ints .u8 cM] _), (j6, .tab t6 [.ints .i64 cI] _)] =>
    match Nat.beq i0 0 && (Nat.beq i1 1 && (Nat.beq i2 2 && (Nat.beq i3 3 && (Nat.beq i4 4 && (Nat.beq i5 5 && (Nat.beq i6 6 && (Nat.beq j0 0 && (Nat.beq j1 1 && (Nat.beq j2 2 && (Nat.beq j3 3 && (Nat.beq j4 4 && (Nat.beq j5 5 && Nat.beq j6 6)))))))))))) with
    | true => some ([Nat.beq t0 n0, Nat.beq t1 n1, Nat.beq t2 n2, Nat.beq t3 n3, Nat.beq t4 n4, Nat.beq t5 n5, Nat.beq t6 n6], ⟨n0, n1, a0, a1, a2, a3, a4, cs⟩, ⟨n2, n3, n4, n5, n6, c0, c1, c2, c3, c4, cw, cX, cM, cI, at_, pc, raw⟩, F)
    | false => none
  | _, _ => none
theorem unAk_all {l : List SV} {H : Heap} {nn : List Bool} {k : Ka} {p : Pa} {F : Int} (h : unAk l H = some (nn, k, p, F)) (hn : allB nn = true) : l = vAk k p F ∧ roH [] H = hAk k p := by
  unfold unAk at h
  split at h
  · split at h
    · rename_i hb
      simp only [Option.some.injEq, Prod.mk.injEq] at h
      obtain ⟨rfl, rfl, rfl, rfl⟩ := h
      simp only [Bool.and_eq_true, Nat.beq_eq] at hb
      obtain ⟨rfl, rfl, rfl, rfl, rfl, rfl, rfl, rfl, rfl, rfl, rfl, rfl, rfl, rfl⟩ := hb
      simp only [allB, Bool.and_true, Bool.and_eq_true, Nat.beq_eq] at hn
      obtain ⟨rfl, rfl, rfl, rfl, rfl, rfl, rfl⟩ := hn
      exact ⟨rfl, rfl⟩
    · cases h
  · cases h

noncomputable def g16C : List SV → Heap → Option R
  | [.agg l], H => match unAk l H with
    | some (nn, k, p, F) => some ⟨smB k :: nn, .str (codeQ k p), []⟩
    | none => none
  | _, _ => none
attribute [local irreducible] evalF Tr.bare Tr.leaf codeK codeS in
theorem spec16C : SpecOk Tryz.prog 16 (specOf g16C) := spec_okU false mixed fn16C b16C n16C g16C fun a0 H0 r hg hn => by
  unfold g16C at hg
  split at hg
  · rename_i l
    split at hg
    · rename_i nn k p F hm
      simp only [Option.some.injEq] at hg
      subst hg
      simp only [allB, Bool.and_eq_true] at hn
      obtain ⟨hsm, hnn⟩ := hn
      obtain ⟨rfl, hr⟩ := unAk_all hm hnn
      refine ⟨E16, [.agg (vAk k p F)], [], e16_calls, loops16, fun h => h, fun σ => rfl, fun k hk => (by cases hk), ?_⟩
      rw [hr]
      refine gives_giv (gives_tree (t16 k p F) ?_)
      rw [beq_t, beq_t, hsm, lessB_iff.2 (Nat.le_trans (codeK_280 k) (by decide))]
      exact gives_ret fun σ σ' => rfl
    · cases hg
  · cases hg

/-! machine -/
def g17Q : List SV → Heap → Option R
  | [.agg l], H => match unAk l H with
    | some (nn, k, p, F) => some (out18 (Nat.ble p.nI 100000000 :: nn) (machQ p F))
    | none => none
  | _, _ => none
theorem fn17Q : Tryz.prog.funcs[17]? = some Tryz.f17 := by kernel_rfl
theorem b17Q : Tryz.f17.body = some (bodyOf Tryz.f17) := by kernel_rfl
theorem n17Q : (Tryz.f17.name == "runtime.NumGoroutine") = false := by kernel_rfl
theorem lnP_ok (p : Pa) (x : Lf) : lnP p x = x := by
  unfold lnP
  rw [bx_true (beq_t _), bx_true (beq_t _), bx_true (beq_t _), bx_true (beq_t _), bx_true (beq_t _)]
theorem body17Q (p : Pa) (F : Int) : (bif cm .gtr (p.nX : Int) 0 then bx (decide (0 < (p.nX : Int))) (bx (Nat.blt 0 p.nX) (bx (Nat.blt 0 p.nX) (retQ (mQ p F (upd (xA p.cX p.nX) 0 (p.cX 0)))))) else retQ (mQ p F (xA p.cX p.nX))) = retQ (machQ p F) := by
  unfold machQ xQ
  cases hc : cm .gtr (p.nX : Int) 0 with
  | true =>
    have h : 0 < p.nX := by
      rw [X.cm_gtr'] at hc
      have := of_decide_eq_true hc
      omega
    rw [cond_true, cond_true, bx_true (decide_eq_true (by omega)), bx_true (blt_t h), bx_true (blt_t h)]
  | false => rfl
attribute [local irreducible] evalF Tr.retH Tr.leaf in
theorem spec17Q : SpecOk Tryz.prog 17 (specOf g17Q) := spec_okU false mixed fn17Q b17Q n17Q g17Q fun a0 H0 r hg hn => by
  unfold g17Q at hg
  split at hg
  · rename_i l
    split at hg
    · rename_i nn k p F hm
      simp only [Option.some.injEq] at hg
      subst hg
      simp only [out18, allB, Bool.and_eq_true] at hn
      obtain ⟨h2, hnn⟩ := hn
      obtain ⟨rfl, hr⟩ := unAk_all hm hnn
      refine ⟨E17, [.agg (vAk k p F)], [], e17_calls, loops_noLoop e17_loop _ _, fun h => h, fun σ => rfl, fun k hk => (by cases hk), ?_⟩
      rw [hr]
      refine gives_retH _ (l17Q k p F) ?_
      rw [bx_true h2, lnP_ok, body17Q]
      refine ⟨[(1024, .old 1088), (1025, .old 1089), (1026, .old 1090), (1027, .old 1091)], rfl, sim_den _ _ ?_, ?_, rfl⟩
      · simp [out18, retQ, cpuL, sim, simL, rmap, rlook]
      · simp [out18, retQ, wkH, cpuL, rmap, rlook, Ev.look, wkB, simL, sim, wkCs, wkC]
    · cases hg
  · cases hg

end Go.Rv
end

section
set_option linter.unusedVariables false
open Go Go.Ev Go.Proofs
namespace Go.Rv

def sWk : ByteArray := ByteArray.mk #[72, 199, 193, 5, 0, 0, 0]
def mBl : M := ⟨4096, false, false, false, false, 0, 0, fun _ => 0, fun _ => 0, 0, fun _ => 0, 0, fun _ => 0⟩

theorem str2 : X.strX 2 8 1 0 5 = sWk := by kernel_rfl
theorem err2 : X.errX 2 8 1 0 5 = 0 := by kernel_rfl
theorem enc1 (w rd rs n : Int) : X.encL 1 w rd rs n = X.rexI w rs rd :: 137 :: X.modI 192 rs rd :: X.tailL n 0 := by kernel_rfl
theorem no1 : ¬ X.hitX 1 sWk := by
  rintro ⟨w, rd, rs, n, he, hn, hs⟩
  rw [enc1] at hs
  have h := hs.2 1 (by simp)
  have e : chr sWk 1 = 199 := by kernel_rfl
  rw [e] at h
  simp at h
theorem decWk : X.decX sWk = ⟨2, 8, 1, 0, 5, 7, true⟩ := by
  refine X.decX_is ⟨by decide, by decide, (X.hit_iff err2 (by constructor <;> decide)).2 ?_, ?_, rfl, fun j h1 h2 => ?_⟩
  · rw [show X.strX _ _ _ _ _ = sWk from str2]
    exact ⟨Nat.le_refl _, by kernel_rfl⟩
  · rw [show X.strX _ _ _ _ _ = sWk from str2]
    rfl
  · have : j = 1 := by simp only at h2; omega
    subst this
    exact no1

def g72w : List SV → Heap → Option R
  | [.str s], [] => some ⟨[seq s sWk], .tup [.agg [.int true .i64 2, .int true .i64 8, .int true .i64 1, .int true .i64 0, .int true .i64 5], .int true .i64 7, .int true .i64 0], []⟩
  | _, _ => none
attribute [local irreducible] evalF Lf.gives X.decX in
theorem spec72w : SpecOk Tryz.prog 72 (specC true g72w) := spec_okA true X.e10l_calls mixed X.fn10 X.b10 X.n10 X.loops10 g72w fun a0 H0 r hg hn => by
  unfold g72w at hg
  split at hg
  · rename_i s
    simp only [Option.some.injEq] at hg
    subst hg
    simp only [allB, Bool.and_true, X.seq_iff] at hn
    subst hn
    exact ⟨_, id, fun _ => rfl, gives_giv (gives_same (gives10 sWk) fun σ => by simp only [X.decT, decWk, den, denL, cond_true])⟩
  · cases hg

noncomputable def ESw : Env := inlF Tryz.prog (envOf [(62, specOf (gCl .i64)), (63, specOf (gCl .u8)), (72, specC true g72w), (65, specOf gDo)] noLoop) [] [29, 30] [28, 61, 31, 64] 4
theorem esw_calls : CallsOk ESw Tryz.prog := (inlF_calls ((SpecsOk.cons spec55 (SpecsOk.cons spec56 (SpecsOk.cons spec72w (SpecsOk.cons specDo SpecsOk.nil)))).calls noLoop) mixed rfl namedS1 namedS2 4).1
theorem esw_loop : ESw.loop = noLoop := rfl
noncomputable def E48 : Env := ⟨ESw.call, fun n S => match n with | 0 => some (unr ESw Tryz.prog Tryz.f48.results.toList (loopOf Tryz.f48 0) 0 3 S) | _ => none⟩
theorem fn48R : Tryz.prog.funcs[48]? = some Tryz.f48 := by kernel_rfl
theorem b48R : Tryz.f48.body = some (bodyOf Tryz.f48) := by kernel_rfl
theorem n48R : (Tryz.f48.name == "runtime.NumGoroutine") = false := by kernel_rfl
theorem nl48R : Code.loops (bodyOf Tryz.f48) = 1 := by kernel_rfl
theorem nth48R : nthLoop (bodyOf Tryz.f48) 0 = some (loopOf Tryz.f48 0) := by kernel_rfl
theorem e48_calls : CallsOk E48 Tryz.prog := fun f args H nm r h hn => esw_calls f args H nm r h hn
theorem loops48R : LoopsOk E48 Tryz.prog Tryz.f48 (bodyOf Tryz.f48) 0 := loops1 nl48R fun a ha => by
  rw [nth48R] at ha
  simp only [Option.some.injEq] at ha
  subst ha
  exact unr_ok esw_calls mixed 3 (fun S => rfl) (loops_noLoop esw_loop _ _)

/-- where it ends -/
def mW : M := ⟨4103, false, false, false, false, 5, 0, (exM 2 8 1 0 5 7 mBl).X, (exM 2 8 1 0 5 7 mBl).mem, 0, (exM 2 8 1 0 5 7 mBl).inp, 0, (exM 2 8 1 0 5 7 mBl).out⟩
def cpuW (m : M) : List SV := [.int false .i64 m.pc, .sl 1296 16, .bool false m.zf, .bool false m.sf, .bool false m.cf, .bool false m.of_, .sl 1297 196608, .sl 1520 m.nI, .sl 1521 m.nO, .int true .i64 m.kind, .int false .i64 m.code]
theorem l48W (b : Bool) : (evalF E48 Tryz.prog 48 [.str sWk, .agg (cpuL mBl 0 1 2 3), .int true .i64 5] (hG mBl b) 1024).retH [0, 1, 2, 3, 1296, 1297, 1298, 1299, 1520, 1521] =
    bx (goodB mBl) (bx (insB 2 8 1 0 5) (.ret (.tup [.agg (cpuW mW), .int true .i64 2, .int true .i64 0]) (hG mBl b ++ [(1296, .tab 16 [.ints .i64 mW.X] true), (1297, .tab 196608 [.ints .u8 mW.mem] true), (1298, .dead), (1299, .dead), (1520, .tab mW.nI [.ints .i64 mW.inp] false), (1521, .tab mW.nO [.ints .i64 mW.out] true)]))) := by
  cases b <;> kernel_rfl

/-- machines that are the same -/
noncomputable def idB (m m' : M) : Bool := @decide (m = m') (Classical.propDecidable _)
theorem idB_iff {m m' : M} : idB m m' = true ↔ m = m' := @decide_eq_true_iff _ (Classical.propDecidable _)
def outW (nn : List Bool) (b : Bool) (m0 m : M) : R := ⟨nn, .tup [.agg (cpuL m 1024 1025 1026 1027), .int true .i64 2, .int true .i64 0], hG m0 b ++ [(1024, .tab 16 [.ints .i64 m.X] true), (1025, .tab 196608 [.ints .u8 m.mem] true), (1026, .tab m.nI [.ints .i64 m.inp] false), (1027, .tab m.nO [.ints .i64 m.out] true)]⟩
noncomputable def g48W : List SV → Heap → Option R
  | [.str s, .agg l, .int _ .i64 f], H => match unT l H with
    | some (nn, m, b) => some (outW (idB m mBl :: seq s sWk :: decide (f = 5) :: nn) b mBl mW)
    | none => none
  | _, _ => none
theorem in0 : inR 0 := by unfold inR; decide
theorem byte0 : (0 : Int) ≤ 0 ∧ (0 : Int) < 256 := by decide
theorem good_bl : goodB mBl = true := goodB_iff.2 ⟨by unfold mBl inR; decide, fun _ => in0, fun _ => byte0, by unfold mBl; decide⟩
theorem ins_wk : insB 2 8 1 0 5 = true := by
  have h := X.decX_cases sWk
  have e := decWk
  generalize X.decX sWk = v at h e
  subst e
  rcases h with h | h
  · exact insB_iff.2 (dec_ins h).1
  · cases h.1
attribute [local irreducible] evalF Tr.retH Tr.leaf exM mW sWk in
theorem spec48W : SpecOk Tryz.prog 48 (specOf g48W) := spec_okU false mixed fn48R b48R n48R g48W fun a0 H0 r hg hn => by
  unfold g48W at hg
  split at hg
  · rename_i s l _ f
    split at hg
    · rename_i nn m b hm
      simp only [Option.some.injEq] at hg
      subst hg
      simp only [outW, allB, Bool.and_eq_true, idB_iff, X.seq_iff, decide_eq_true_eq] at hn
      obtain ⟨rfl, rfl, rfl, hnn⟩ := hn
      obtain ⟨rfl, rfl⟩ := unT_all hm hnn
      refine ⟨E48, [.str sWk, .agg (cpuL mBl 0 1 2 3), .int true .i64 5], [0, 1, 2, 3], e48_calls, loops48R, fun h => h, fun σ => by simp only [denL, den], subN rfl, ?_⟩
      rw [roH_hG]
      refine gives_retH _ (l48W b) ?_
      rw [bx_true good_bl, bx_true ins_wk]
      refine ⟨[(1024, .old 1296), (1025, .old 1297), (1026, .old 1520), (1027, .old 1521)], rfl, sim_den _ _ ?_, ?_, ?_⟩
      · simp [outW, cpuL, cpuW, sim, simL, rmap, rlook]
      · simp [outW, hG, wkH, cpuL, rmap, rlook, Ev.look, wkB, simL, sim, wkCs, wkC]
      · rfl
    · cases hg
  · cases hg

noncomputable def EWk : Env := inlF Tryz.prog (envOf [(48, specOf g48W), (49, specOf g28)] noLoop) [20] [] [] 1
theorem named20 : named Tryz.prog [20] = true := by kernel_rfl
theorem ewk_calls : CallsOk EWk Tryz.prog := (inlF_calls ((SpecsOk.cons spec48W (SpecsOk.cons spec28 SpecsOk.nil)).calls noLoop) mixed named20 rfl rfl 1).1
theorem ewk_loop : EWk.loop = noLoop := rfl
theorem t22W : (evalF EWk Tryz.prog 22 [] [] 1024).bare = bx (idB mBl mBl) (.ret (.bool false true) []) := by kernel_rfl
def g22W : List SV → Heap → Option R
  | [], [] => some ⟨[], .bool true true, []⟩
  | _, _ => none
theorem fn22W : Tryz.prog.funcs[22]? = some Tryz.f22 := by kernel_rfl
theorem b22W : Tryz.f22.body = some (bodyOf Tryz.f22) := by kernel_rfl
theorem n22W : (Tryz.f22.name == "runtime.NumGoroutine") = false := by kernel_rfl
attribute [local irreducible] evalF Tr.bare Tr.leaf in
theorem spec22W : SpecOk Tryz.prog 22 (specOf g22W) := spec_okU false mixed fn22W b22W n22W g22W fun a0 H0 r hg hn => by
  unfold g22W at hg
  split at hg
  · simp only [Option.some.injEq] at hg
    subst hg
    refine ⟨EWk, [], [], ewk_calls, loops_noLoop ewk_loop _ _, fun h => h, fun σ => rfl, fun k hk => (by cases hk), ?_⟩
    show GivesD _ (evalF EWk Tryz.prog 22 [] [] 1024).leaf
    refine gives_giv (gives_tree t22W ?_)
    rw [bx_true (idB_iff.2 rfl)]
    exact gives_ret fun σ σ' => by simp only [den]
  · cases hg

end Go.Rv
end

section
set_option linter.unusedVariables false
open Go Go.Ev Go.Proofs
namespace Go.Rv

/-- what a machine's numbers are -/
structure MX (m : M) : Prop where
  pc : inR m.pc
  X : ∀ r, inR (m.X r)
  mem : ∀ r, 0 ≤ m.mem r ∧ m.mem r < 256
  inp : ∀ i, inR (m.inp i)
  kd : m.kind = 0 ∨ m.kind = 1 ∨ m.kind = 4 ∨ m.kind = 5
structure MI (m0 m : M) : Prop where
  mx : MX m
  nO : m.nO ≤ m0.nO + 1
  nI : m.nI ≤ m0.nI

theorem cond_in {b : Bool} {x y : Int} (h1 : inR x) (h2 : inR y) : inR (bif b then x else y) := by cases b <;> assumption
theorem upd_in {X : Nat → Int} (h : ∀ r, inR (X r)) (k : Nat) {v : Int} (hv : inR v) : ∀ r, inR (upd X k v r) := by
  intro r
  unfold upd
  exact cond_in hv (h r)
theorem storeX_in {mem : Nat → Int} (h : ∀ r, 0 ≤ mem r ∧ mem r < 256) (a v : Int) : ∀ n r, 0 ≤ storeX mem a v n r ∧ storeX mem a v n r < 256
  | 0, r => h r
  | n + 1, r => by
    show 0 ≤ upd (storeX mem a v n) (ixX a n) _ r ∧ upd (storeX mem a v n) (ixX a n) _ r < 256
    unfold upd
    cases Nat.beq r (ixX a n) with
    | true => simp only [cond_true, conv, IntKind.wrap_u8]; omega
    | false => exact storeX_in h a v n r
theorem storeA_in {mem : Nat → Int} (h : ∀ r, 0 ≤ mem r ∧ mem r < 256) (a v : Int) (n : Nat) : ∀ r, 0 ≤ storeA mem a v n r ∧ storeA mem a v n r < 256 := by
  unfold storeA
  cases decide (accX a n = 0) with
  | true => exact storeX_in h a v n
  | false => exact h
theorem accX_kd (a : Int) (n : Nat) : accX a n = 0 ∨ accX a n = 1 ∨ accX a n = 4 ∨ accX a n = 5 := by
  unfold accX
  cases anyB (overX a) n <;> cases anyB (badX a) n <;> simp
theorem kindA_kd {k : Int} (h : k = 0 ∨ k = 1 ∨ k = 4 ∨ k = 5) (a : Int) (n : Nat) : kindA k a n = 0 ∨ kindA k a n = 1 ∨ kindA k a n = 4 ∨ kindA k a n = 5 := by
  have h2 := accX_kd a n
  unfold kindA
  cases decide (accX a n = 0) <;> assumption

variable {m : M}
theorem mi_refl (h : MX m) : MI m m := ⟨h, Nat.le_succ _, Nat.le_refl _⟩
theorem mi_mp (h : MX m) (len : Int) : MI m (mp len m) := ⟨⟨add_in _ _, h.X, h.mem, h.inp, h.kd⟩, Nat.le_succ _, Nat.le_refl _⟩
theorem mi_set {m0 : M} (h : MI m0 m) (rd : Int) {v : Int} (hv : inR v) : MI m0 (sX rd v m) := ⟨⟨h.mx.pc, upd_in h.mx.X _ hv, h.mx.mem, h.mx.inp, h.mx.kd⟩, h.nO, h.nI⟩
theorem mi_fM {m0 : M} (h : MI m0 m) (c x z s y : Bool) : MI m0 (fM c x z s y m) := ⟨⟨h.mx.pc, h.mx.X, h.mx.mem, h.mx.inp, h.mx.kd⟩, h.nO, h.nI⟩
theorem mi_end (h : MX m) : MI m (endM m) := ⟨⟨h.pc, h.X, h.mem, h.inp, .inr (.inr (.inr rfl))⟩, Nat.le_succ _, Nat.le_refl _⟩
theorem mi_kA {m0 : M} (h : MI m0 m) (A : Int) (s : Nat) : MI m0 (kA A s m) := ⟨⟨h.mx.pc, h.mx.X, h.mx.mem, h.mx.inp, kindA_kd h.mx.kd _ _⟩, h.nO, h.nI⟩
theorem mi_sA {m0 : M} (h : MI m0 m) (A v : Int) (s : Nat) : MI m0 (sA A v s m) := ⟨⟨h.mx.pc, h.mx.X, storeA_in h.mx.mem _ _ _, h.mx.inp, kindA_kd h.mx.kd _ _⟩, h.nO, h.nI⟩
theorem mi_pc {m0 : M} (h : MI m0 m) {v : Int} (hv : inR v) : MI m0 { m with pc := v } := ⟨⟨hv, h.mx.X, h.mx.mem, h.mx.inp, h.mx.kd⟩, h.nO, h.nI⟩
theorem mi_up {m0 : M} (h : MI m0 m) {X : Nat → Int} (hX : ∀ r, inR (X r)) : MI m0 { m with X := X } := ⟨⟨h.mx.pc, hX, h.mx.mem, h.mx.inp, h.mx.kd⟩, h.nO, h.nI⟩
theorem mi_cond {m0 m' : M} {b : Bool} (h1 : MI m0 m) (h2 : MI m0 m') : MI m0 (bif b then m else m') := by cases b <;> assumption
theorem mi_push (h : MX m) (v len n : Int) (j : Bool) : MI m (pushM v len n j m) := by
  unfold pushM
  refine mi_cond (mi_sA (mi_refl h) _ _ _) (mi_sA (mi_pc (mi_up (mi_refl h) (upd_in h.X _ (sub_in _ _))) (cond_in (add_in _ _) (add_in _ _))) _ _ _)
theorem inR0 : inR 0 := ⟨by decide, by decide⟩
theorem mi_sys (h : MX m) (len : Int) : MI m (sysM len m) := by
  unfold sysM
  refine mi_cond ⟨⟨add_in _ _, h.X, h.mem, h.inp, h.kd⟩, Nat.le_refl _, Nat.le_refl _⟩ (mi_cond (mi_cond ?_ ?_) (mi_cond ?_ (mi_end h)))
  · exact ⟨⟨add_in _ _, upd_in h.X _ (h.inp 0), h.mem, fun i => h.inp (1 + i), h.kd⟩, Nat.le_succ _, Nat.sub_le _ _⟩
  · exact mi_up (mi_mp h len) (upd_in h.X _ inR0)
  · exact ⟨⟨h.pc, h.X, h.mem, h.inp, .inr (.inl rfl)⟩, Nat.le_succ _, Nat.le_refl _⟩
theorem exV_in (K : Nat) (b : Int) : inR (exV K b) := by unfold exV; split <;> exact conv_in _
theorem ldM_in (K : Nat) (b : Int) : inR (ldM K b) := by unfold ldM; split <;> exact conv_in _

set_option maxRecDepth 4000 in
theorem exM_mi {K : Nat} {w rd rs n len : Int} (h1 : 1 ≤ K) (h2 : K ≤ 46) (hw : w = 4 ∨ w = 8) (hn : inR n) (h : MX m) : MI m (exM K w rd rs n len m) := by
  have hp := mi_mp h len
  have ms : ∀ {v}, inR v → inR (mskR w v) := fun hv => msk_in hw hv
  have key : K = 1 ∨ K = 2 ∨ K = 3 ∨ K = 4 ∨ K = 5 ∨ K = 6 ∨ K = 7 ∨ K = 8 ∨ K = 9 ∨ K = 10 ∨ K = 11 ∨ K = 12 ∨ K = 13 ∨ K = 14 ∨ K = 15 ∨ K = 16 ∨ K = 17 ∨ K = 18 ∨ K = 19 ∨ K = 20 ∨ (21 ≤ K ∧ K ≤ 36) ∨ K = 37 ∨ K = 38 ∨ K = 39 ∨ K = 40 ∨ K = 41 ∨ K = 42 ∨ K = 43 ∨ K = 44 ∨ K = 45 ∨ K = 46 := by omega
  rcases key with rfl | rfl | rfl | rfl | rfl | rfl | rfl | rfl | rfl | rfl | rfl | rfl | rfl | rfl | rfl | rfl | rfl | rfl | rfl | rfl | ⟨k0, k1⟩ | rfl | rfl | rfl | rfl | rfl | rfl | rfl | rfl | rfl | rfl
  · exact mi_set hp rd (ms (h.X _))
  · exact mi_set hp rd hn
  · exact mi_set hp rd hn
  · exact mi_fM (mi_set hp rd (ms (add_in _ _))) _ _ _ _ _
  · exact mi_fM (mi_set hp rd (ms (sub_in _ _))) _ _ _ _ _
  · exact mi_fM (mi_set hp rd (ms (and_in _ _))) false false _ _ false
  · exact mi_fM (mi_set hp rd (ms (or_in _ _))) false false _ _ false
  · exact mi_fM (mi_set hp rd (ms (xor_in _ _))) false false _ _ false
  · exact mi_fM hp _ _ _ _ _
  · exact mi_set hp rd (ms (mul_in _ _))
  · exact mi_fM (mi_set hp rd (ms (sub_in _ _))) _ _ _ _ _
  · exact mi_set hp rd (ms (xor_in _ _))
  · exact mi_cond (mi_end h) (mi_cond (mi_end h) (mi_up hp (upd_in (upd_in h.X _ (ms (quo_in _ _))) _ (ms (rem_in (sgn_in hw (h.X _)))))))
  · exact mi_cond (mi_end h) (mi_cond (mi_end h) (mi_up hp (upd_in (upd_in h.X _ (conv_in _)) _ (conv_in _))))
  · exact mi_set hp rd (ms (shl_in _ _))
  · exact mi_set hp rd (conv_in _)
  · exact mi_set hp rd (ms (shr_in (sgn_in hw (h.X _)) _))
  · exact mi_up hp (upd_in h.X _ (ms (shr_in (sgn_in hw (h.X _)) _)))
  · exact mi_fM (mi_set hp rd (ms (add_in _ _))) _ _ _ _ _
  · exact mi_set hp rd (cond_in (or_in _ _) (andNot_in _ _))
  · have ee : exM K w rd rs n len m = bif Nat.ble K 25 then sX rd (exV K (m.X rs.toNat)) (mp len m)
        else bif Nat.ble K 32 then (bif decide (accX (aX m (m.X rs.toNat) n) (szM K) = 0) then kA (aX m (m.X rs.toNat) n) (szM K) (sX rd (ldM K (loadX m.mem (aX m (m.X rs.toNat) n) (szM K))) (mp len m)) else kA (aX m (m.X rs.toNat) n) (szM K) m)
        else bif decide (accX (aX m (m.X rs.toNat) n) (szM K) = 0) then sA (aX m (m.X rs.toNat) n) (m.X rd.toNat) (szM K) (mp len m) else sA (aX m (m.X rs.toNat) n) (m.X rd.toNat) (szM K) m := by
      have : K = 21 ∨ K = 22 ∨ K = 23 ∨ K = 24 ∨ K = 25 ∨ K = 26 ∨ K = 27 ∨ K = 28 ∨ K = 29 ∨ K = 30 ∨ K = 31 ∨ K = 32 ∨ K = 33 ∨ K = 34 ∨ K = 35 ∨ K = 36 := by omega
      rcases this with rfl | rfl | rfl | rfl | rfl | rfl | rfl | rfl | rfl | rfl | rfl | rfl | rfl | rfl | rfl | rfl <;> rfl
    rw [ee]
    exact mi_cond (mi_set hp rd (exV_in _ _)) (mi_cond (mi_cond (mi_kA (mi_set hp rd (ldM_in _ _)) _ _) (mi_kA (mi_refl h) _ _)) (mi_cond (mi_sA hp _ _ _) (mi_sA (mi_refl h) _ _ _)))
  · exact mi_set hp rd (add_in _ _)
  · exact mi_push h _ _ _ _
  · exact mi_cond (mi_kA (mi_pc (mi_set (mi_up (mi_refl h) (upd_in h.X _ (add_in _ _))) rd (conv_in _)) (add_in _ _)) _ _) (mi_kA (mi_refl h) _ _)
  · exact mi_push h _ _ _ _
  · exact mi_cond (mi_kA (mi_pc (mi_up (mi_refl h) (upd_in h.X _ (add_in _ _))) (conv_in _)) _ _) (mi_kA (mi_refl h) _ _)
  · exact mi_pc hp (add_in _ _)
  · exact mi_pc hp (add_in _ _)
  · exact mi_cond (mi_pc hp (add_in _ _)) hp
  · exact mi_cond (mi_pc hp (add_in _ _)) hp
  · exact mi_sys h len

theorem stepM_mi {s : ByteArray} (h : MX m) : MI m (stepM s m) := by
  unfold stepM
  cases cm .neq m.kind 0 with
  | true => exact mi_refl h
  | false => cases outP s m.pc with
    | true => exact mi_end h
    | false =>
      rcases X.decX_cases (winS s m.pc) with hd | hd
      · obtain ⟨hi, _⟩ := dec_ins hd
        rw [hd.2.2.2.2.1]
        exact exM_mi (by have := hi.k0; omega) (by have := hi.k1; omega) hi.hw hi.hn h
      · rw [hd.1]
        exact mi_end h

/-- so many steps; none behind the end -/
noncomputable def runM (s : ByteArray) : Nat → M → M
  | 0, m => m
  | n + 1, m => stepM s (runM s n m)
theorem runM_mi {s : ByteArray} (h : MX m) : ∀ n, MX (runM s n m) ∧ (runM s n m).nO ≤ m.nO + n ∧ (runM s n m).nI ≤ m.nI
  | 0 => ⟨h, Nat.le_refl _, Nat.le_refl _⟩
  | n + 1 => by
    obtain ⟨h1, h2, h3⟩ := runM_mi h n
    obtain ⟨a, b, c⟩ := stepM_mi (s := s) h1
    exact ⟨a, by simp only [runM]; omega, by simp only [runM]; omega⟩
theorem MX.ms (h : MX m) (hO : m.nO < 1000000) (hI : m.nI ≤ 100000000) : MS m := ⟨⟨h.pc, h.X, h.mem, hO⟩, h.kd, hI⟩

end Go.Rv
end

section
set_option linter.unusedVariables false
open Go Go.Ev Go.Proofs
namespace Go.Rv

/-- the laws' environment -/
noncomputable def ELw : Env := inlF Tryz.prog (envOf [(16, specOf g16C), (17, specOf g17Q), (18, specOf gXs), (19, specOf gSt), (21, specOf gEq), (22, specOf g22W), (24, specOf g24H), (51, specOf g24), (26, specOf X.g7)] noLoop) [20, 50] [] [15, 25] 2
theorem namedLw : named Tryz.prog [20, 50] = true := by kernel_rfl
theorem namedLf : named Tryz.prog [15, 25] = true := by kernel_rfl
theorem elw_calls : CallsOk ELw Tryz.prog := (inlF_calls ((SpecsOk.cons spec16C (SpecsOk.cons spec17Q (SpecsOk.cons specXs (SpecsOk.cons specSt (SpecsOk.cons specEq (SpecsOk.cons spec22W (SpecsOk.cons spec24H (SpecsOk.cons spec24 (SpecsOk.cons X.spec8 SpecsOk.nil))))))))).calls noLoop) mixed namedLw rfl namedLf 2).1
theorem elw_loop : ELw.loop = noLoop := rfl

/-- a machine in memory: its record and its tables, by name -/
def hMac (m : M) (k a b c d : Nat) : Heap := [(k, .cells (cpuL m a b c d)), (a, .tab 16 [.ints .i64 m.X] true), (b, .tab 196608 [.ints .u8 m.mem] true), (c, .tab m.nI [.ints .i64 m.inp] false), (d, .tab m.nO [.ints .i64 m.out] true)]
def macAt (H : Heap) (k a b c d : Nat) : Option (List Bool × M) :=
  match cL H k, tI .i64 true H a, tI .u8 true H b, tI .i64 false H c, tI .i64 true H d with
  | some [.int _ .i64 pc, .sl k1 n1, .bool _ zf, .bool _ sf, .bool _ cf, .bool _ of_, .sl k2 n2, .sl k3 n3, .sl k4 n4, .int _ .i64 kind, .int _ .i64 code], some (t1, X), some (t2, mem), some (t3, inp), some (t4, out) =>
    some ([Nat.beq k1 a, Nat.beq k2 b, Nat.beq k3 c, Nat.beq k4 d, Nat.beq n1 16, Nat.beq n2 196608, Nat.beq t1 16, Nat.beq t2 196608, Nat.beq t3 n3, Nat.beq t4 n4], ⟨pc, zf, sf, cf, of_, kind, code, X, mem, n3, inp, n4, out⟩)
  | _, _, _, _, _ => none
theorem macAt_wk {H : Heap} {k a b c d : Nat} {nn : List Bool} {m : M} (h : macAt H k a b c d = some (nn, m)) (hn : allB nn = true) (ρ : Rn) (k' a' b' c' d' : Nat) (h0 : ρ k' = .old k) (h1 : ρ a' = .old a) (h2 : ρ b' = .old b) (h3 : ρ c' = .old c) (h4 : ρ d' = .old d) :
    wkH ρ H (hMac m k' a' b' c' d') := by
  unfold macAt at h
  split at h
  · rename_i q0 q1 q2 q3 q4
    simp only [Option.some.injEq, Prod.mk.injEq] at h
    obtain ⟨rfl, rfl⟩ := h
    simp only [allB, Bool.and_true, Bool.and_eq_true, Nat.beq_eq] at hn
    obtain ⟨rfl, rfl, rfl, rfl, rfl, rfl, rfl, rfl, rfl, rfl⟩ := hn
    have q0 := cL_spec q0
    obtain ⟨w1, q1, g1⟩ := tI_spec q1
    obtain ⟨w2, q2, g2⟩ := tI_spec q2
    obtain ⟨w3, q3, g3⟩ := tI_spec q3
    obtain ⟨w4, q4, g4⟩ := tI_spec q4
    simp only [wkH, hMac, h0, h1, h2, h3, h4, q0, q1, q2, q3, q4, wkB, and_true]
    refine ⟨?_, ⟨Nat.le_refl _, fun _ => g1 rfl, ?_⟩, ⟨Nat.le_refl _, fun _ => g2 rfl, ?_⟩, ⟨Nat.le_refl _, fun h => (by cases h), ?_⟩, ⟨Nat.le_refl _, fun _ => g4 rfl, ?_⟩⟩
    · simp [cpuL, simL, sim, h1, h2, h3, h4]
    all_goals simp [wkCs, wkC]
  · cases h
theorem wkH_append {ρ : Rn} {H : Heap} : ∀ {A B : Heap}, wkH ρ H A → wkH ρ H B → wkH ρ H (A ++ B)
  | [], _, _, h => h
  | (_, _) :: _, _, h, h' => ⟨h.1, wkH_append h.2 h'⟩

/-- so many steps may be done -/
structure StepG (s : ByteArray) (m : M) (n : Nat) : Prop where
  mx : MX m
  nI : m.nI ≤ 100000000
  size : s.size ≤ 258048
  nO : m.nO + n < 1000000
noncomputable def stepB (s : ByteArray) (m : M) (n : Nat) : Bool := @decide (StepG s m n) (Classical.propDecidable _)
theorem stepB_iff {s : ByteArray} {m : M} {n : Nat} : stepB s m n = true ↔ StepG s m n := @decide_eq_true_iff _ (Classical.propDecidable _)

def v3 (s : ByteArray) (i : Int) : List SV := [.str s, .ptr 1200 0 0, .ptr 1216 0 0, .int false .i64 i]
def h3S (m : M) : Heap := hMac m 1200 1152 1153 1154 1155 ++ hMac m 1216 1184 1185 1186 1187
def lk3 : Lp := ⟨40, [3, 4, 5, 6], 2000, fun _ _ => none⟩
noncomputable def get3 : List SV → Heap → Option Tr
  | [.str s, .ptr k0 r0 c0, .ptr k1 r1 c1, .int _ .i64 i], H => match macAt H 1200 1152 1153 1154 1155, macAt H 1216 1184 1185 1186 1187 with
    | some (nn, m), some (nn', m') => some (Tr.needs ([Nat.beq k0 1200, Nat.beq r0 0, Nat.beq c0 0, Nat.beq k1 1216, Nat.beq r1 0, Nat.beq c1 0, decide (i = 0), idB m m', stepB s m 12] ++ (nn ++ nn'))
      (exitT lk3 0 [.any, .any, .any, .any] []))
    | _, _ => none
  | _, _ => none
noncomputable def lp3 : Lp := { lk3 with get := get3 }
noncomputable def EL3 : Env := ⟨ELw.call, loopEnv [(0, lp3)]⟩
/-- where a round leaves both machines -/
def h3N (m m0 : M) : Heap := [(1200, .cells (cpuL m 1152 1153 2192 2193)), (1152, .tab 16 [.ints .i64 m.X] true), (1153, .tab 196608 [.ints .u8 m.mem] true), (1154, .dead), (1155, .dead), (1216, .cells (cpuL m 2064 2065 2066 2067)), (1184, .tab 16 [.ints .i64 m0.X] true), (1185, .tab 196608 [.ints .u8 m0.mem] true), (1186, .tab m0.nI [.ints .i64 m0.inp] false), (1187, .tab m0.nO [.ints .i64 m0.out] true),
  (2064, .tab 16 [.ints .i64 m.X] true), (2065, .tab 196608 [.ints .u8 m.mem] true), (2066, .tab m.nI [.ints .i64 m.inp] false), (2067, .tab m.nO [.ints .i64 m.out] true), (2128, .cells (cpuL m 2064 2065 2066 2067)), (2192, .tab m.nI [.ints .i64 m.inp] false), (2193, .tab m.nO [.ints .i64 m.out] true)]
theorem r3 (s : ByteArray) (m : M) (i : Int) : (evalB ELw Tryz.prog Tryz.f3.results.toList (loopOf Tryz.f3 0) 1 lp3 (v3 s i) (h3S m)).view [3, 4, 5, 6] =
    bif cm .lss i 12 then bif msB m then bif codeB s then bif Nat.beq m.nI m.nI then bif Nat.beq m.nO m.nO then bif goodB m then bif sizeB s then bif Nat.beq m.nI m.nI then bif Nat.beq m.nO m.nO then
      bif (bif false then true else allB [eqMB (stepM s m) (stepM s m), Nat.beq (stepM s m).nI (stepM s m).nI, Nat.beq (stepM s m).nO (stepM s m).nO, Nat.beq (stepM s m).nI (stepM s m).nI, Nat.beq (stepM s m).nO (stepM s m).nO]) then
        .norm 40 (v3 s (ar .add .i64 i 1)) (h3N (stepM s m) m)
      else .bad else .bad else .bad else .bad else .bad else .bad else .bad else .bad else .bad
    else .exit 0 40 (v3 s i) (h3S m) := by kernel_rfl
/-- is it let go? -/
def hvP (p : Pa) : Bool := cm .gtr (ar .add .i64 (ar .add .i64 (ar .add .i64 (ar .add .i64 (p.nX : Int) (p.nM : Int)) (p.nI : Int)) (p.nL : Int)) (p.nW : Int)) 2000
def hvQ (k : Ka) (p : Pa) : Bool := bif hvK k then true else hvP p
def lnK (k : Ka) (x : Lf) : Lf := bx (Nat.beq k.nK k.nK) (bx (Nat.beq k.nS k.nS) x)
theorem lnK_ok (k : Ka) (x : Lf) : lnK k x = x := by
  unfold lnK
  rw [bx_true (beq_t _), bx_true (beq_t _)]
theorem t3 (k : Ka) (p : Pa) (F : Int) : (evalF EL3 Tryz.prog 3 [.agg (vAk k p F)] (hAk k p) 1024).bare =
    bx (Nat.ble k.nS 9223372036854775807) (lnK k (bif hvQ k p then .ret (.bool true true) [] else
      bx (smB k) (lnK k (lnP p (bx (Nat.ble p.nI 100000000) (lnK k (lnP p (bx (Nat.ble p.nI 100000000) (lnK k (lnP p (bx (idB (machQ p F) (machQ p F)) (bx (stepB (codeQ k p) (machQ p F) 12) (bx (Nat.beq p.nI p.nI) (bx (Nat.beq p.nI p.nI) (.ret (.bool true true) []))))))))))))))) := by kernel_rfl

end Go.Rv
end
