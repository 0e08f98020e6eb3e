/-
  x86: its table of forms.
-/
import Derived.Test.YtihfbhoodofhoaaGreatB3
import Derived.Test.YtihfbhoodofhoaaGreatProg
import Derived.KernelRfl
set_option linter.unusedSimpArgs false
set_option linter.unusedVariables false
section
set_option linter.unusedVariables false
open Go Go.Ev Go.Proofs
namespace Go.X

def shapes : List Int := [0, 1, 3, 0, 0, 0, 0, 0, 0, 0, 1, 1, 1, 1, 1, 1, 1, 6, 1, 7, 0, 0, 0, 0, 0, 2, 2, 2, 2, 2, 2, 2, 2, 2, 2, 2, 2, 4, 4, 8, 5, 8, 9, 10, 11, 5]
def codes : List ByteArray := [⟨#[137]⟩, ⟨#[199]⟩, ⟨#[184]⟩, ⟨#[1]⟩, ⟨#[41]⟩, ⟨#[33]⟩, ⟨#[9]⟩, ⟨#[49]⟩, ⟨#[57]⟩, ⟨#[15, 175]⟩, ⟨#[247]⟩, ⟨#[247]⟩, ⟨#[247]⟩, ⟨#[247]⟩, ⟨#[211]⟩, ⟨#[211]⟩, ⟨#[211]⟩, ⟨#[153]⟩, ⟨#[129]⟩, ⟨#[15, 144]⟩, ⟨#[15, 182]⟩, ⟨#[15, 183]⟩, ⟨#[15, 190]⟩, ⟨#[15, 191]⟩, ⟨#[99]⟩, ⟨#[139]⟩, ⟨#[139]⟩, ⟨#[99]⟩, ⟨#[15, 191]⟩, ⟨#[15, 190]⟩, ⟨#[15, 183]⟩, ⟨#[15, 182]⟩, ⟨#[137]⟩, ⟨#[137]⟩, ⟨#[137]⟩, ⟨#[136]⟩, ⟨#[141]⟩, ⟨#[80]⟩, ⟨#[88]⟩, ⟨#[232]⟩, ⟨#[195]⟩, ⟨#[233]⟩, ⟨#[235]⟩, ⟨#[15, 128]⟩, ⟨#[112]⟩, ⟨#[15, 5]⟩]
def mids : List Int := [0, 0, 0, 0, 0, 0, 0, 0, 0, 0, 3, 2, 7, 6, 4, 5, 7, 0, 0, 0, 0, 0, 0, 0, 0, 0, 0, 0, 0, 0, 0, 0, 0, 0, 0, 0, 0, 0, 0, 0, 0, 0, 0, 0, 0, 0]
def turns : List Bool := [false, false, false, false, false, false, false, false, false, true, false, false, false, false, false, false, false, false, false, false, true, true, true, true, true, false, false, false, false, false, false, false, false, false, false, false, false, false, false, false, false, false, false, false, false, false]
def ws : List Int := [0, 8, 8, 0, 0, 0, 0, 0, 0, 0, 0, 0, 0, 0, 0, 0, 0, 0, 8, 4, 8, 8, 8, 8, 8, 8, 4, 8, 8, 8, 8, 8, 8, 4, 4, 4, 8, 4, 4, 4, 4, 4, 4, 4, 4, 4]
def imms : List Bool := [false, true, false, false, false, false, false, false, false, false, false, false, false, false, false, false, false, false, true, false, false, false, false, false, false, false, false, false, false, false, false, false, false, false, false, false, false, false, false, false, false, false, false, false, false, false]
def aheads : List Bool := [false, false, false, false, false, false, false, false, false, false, false, false, false, false, false, false, false, false, false, false, false, false, false, false, false, false, false, false, false, false, false, false, false, false, true, false, false, false, false, false, false, false, false, false, false, false]

def cols : List Col := [.ints .i64 (nth shapes 0), .strs (nth codes .empty), .ints .i64 (nth mids 0), .bools (nth turns false), .ints .i64 (nth ws 0), .bools (nth imms false), .bools (nth aheads false)]
def colsL : List Col := [.lit (shapes.map (.int .i64)), .lit (codes.map .string), .lit (mids.map (.int .i64)), .lit (turns.map .bool), .lit (ws.map (.int .i64)), .lit (imms.map .bool), .lit (aheads.map .bool)]

def g13 : List SV → Heap → Option R := fun a H => match a, H with
  | [], [] => some ⟨[], .sl 1024 46, [(1024, .tab 46 cols true)]⟩
  | _, _ => none
/-- rows that are told by number -/
def g13L : List SV → Heap → Option R := fun a H => match a, H with
  | [], [] => some ⟨[], .sl 1024 46, [(1024, .tab 46 colsL true)]⟩
  | _, _ => none

theorem mixed : Tryz.prog.follows .mixedOrders = true := by kernel_rfl
noncomputable def E0 : Env := inl Tryz.prog (envOf [] noLoop) [101, 102, 103, 104, 105] 2
theorem named0 : named Tryz.prog [101, 102, 103, 104, 105] = true := by kernel_rfl
theorem e0_calls : CallsOk E0 Tryz.prog := (inl_calls (SpecsOk.nil.calls noLoop) mixed named0 2).1
theorem e0_loop : E0.loop = noLoop := rfl
theorem t13 : (evalF E0 Tryz.prog 82 [] [] 1024).leaf = .ret (.sl 2496 46) [(2496, .tab 46 cols true)] := by kernel_rfl
theorem fn13 : Tryz.prog.funcs[82]? = some Tryz.f82 := by kernel_rfl
theorem b13 : Tryz.f82.body = some (bodyOf Tryz.f82) := by kernel_rfl
theorem n13 : (Tryz.f82.name == "runtime.NumGoroutine") = false := by kernel_rfl

theorem lit_ints (k : IntKind) (l : List Int) (n : Nat) (h : n ≤ l.length) : wkC n (.ints k (nth l 0)) (.lit (l.map (.int k))) := by
  intro r hr σ
  have : r < l.length := by omega
  simp [Col.get, nth, List.getD, this, litSV, den]
theorem lit_strs (l : List ByteArray) (n : Nat) (h : n ≤ l.length) : wkC n (.strs (nth l .empty)) (.lit (l.map .string)) := by
  intro r hr σ
  have : r < l.length := by omega
  simp [Col.get, nth, List.getD, this, litSV, den]
theorem lit_bools (l : List Bool) (n : Nat) (h : n ≤ l.length) : wkC n (.bools (nth l false)) (.lit (l.map .bool)) := by
  intro r hr σ
  have : r < l.length := by omega
  simp [Col.get, nth, List.getD, this, litSV, den]

attribute [local irreducible] evalF in
theorem ok13 : SpecOk Tryz.prog 82 (specOf g13) := by
  refine spec_ok e0_calls mixed fn13 b13 n13 (loops_noLoop e0_loop _ _) g13 fun a0 H0 r h hn => ?_
  unfold g13 at h
  split at h
  · simp only [Option.some.injEq] at h
    subst h
    rw [show roH (namesH [(1024, Blk.tab 46 cols true)]) [] = [] from rfl, show base = 1024 from rfl, t13]
    exact ⟨[(1024, .old 2496)], rfl, ⟨rfl, rfl⟩, ⟨⟨Nat.le_refl _, fun h => h, wkCs_refl _ _⟩, trivial⟩, rfl⟩
  · cases h

attribute [local irreducible] evalF in
theorem ok13L : SpecOk Tryz.prog 82 (specOf g13L) := by
  refine spec_ok e0_calls mixed fn13 b13 n13 (loops_noLoop e0_loop _ _) g13L fun a0 H0 r h hn => ?_
  unfold g13L at h
  split at h
  · simp only [Option.some.injEq] at h
    subst h
    rw [show roH (namesH [(1024, Blk.tab 46 colsL true)]) [] = [] from rfl, show base = 1024 from rfl, t13]
    exact ⟨[(1024, .old 2496)], rfl, ⟨rfl, rfl⟩, ⟨⟨Nat.le_refl _, fun h => h, lit_ints _ _ _ (by decide), lit_strs _ _ (by decide), lit_ints _ _ _ (by decide), lit_bools _ _ (by decide), lit_ints _ _ _ (by decide), lit_bools _ _ (by decide), lit_bools _ _ (by decide), trivial⟩, trivial⟩, rfl⟩
  · cases h

end Go.X
end

section
set_option linter.unusedVariables false
open Go Go.Ev Go.Proofs
namespace Go.X

def ps1 : List Nat := [109, 107, 110, 116, 117, 118, 119]
def hs1 : List Nat := [111, 120]
theorem namedp1 : named Tryz.prog ps1 = true := by kernel_rfl
theorem namedh1 : named Tryz.prog hs1 = true := by kernel_rfl
noncomputable def E1 : Env := inlA Tryz.prog (envOf [(82, specOf g13L)] noLoop) ps1 hs1 3
theorem e1_calls : CallsOk E1 Tryz.prog := (inlA_calls ((SpecsOk.cons ok13L SpecsOk.nil).calls noLoop) mixed namedp1 namedh1 3).1

end Go.X
end

section
set_option linter.unusedVariables false
open Go Go.Ev Go.Proofs
namespace Go.X

/-- a number's byte, as the program reads it -/
def bat (n : Int) (t : Nat) : Int := conv .u8 (ar .shr .i64 n (ar .mul .i64 8 (t : Int)))
def v7 (m : Nat) (N j : Int) : List SV := [.ptr 1024 0 0, .sl 1500 m, .int false .i64 N, .int false .i64 j]
def h7 (op w rd rs n : Int) (m : Nat) (g : Nat → Int) : Heap := [(1024, .cells [.int false .i64 op, .int false .i64 w, .int false .i64 rd, .int false .i64 rs, .int false .i64 n]), (1500, .tab m [.ints .u8 g] true)]
def lk7 : Lp := ⟨79, [1, 6, 63, 64], 2500, fun _ _ => none⟩
def get7 : List SV → Heap → Option Tr
  | [.ptr k1 r1 p1, .sl kb m, .int _ .i64 N, .int _ .i64 j], (j0, .cells [.int _ .i64 op, .int _ .i64 w, .int _ .i64 rd, .int _ .i64 rs, .int _ .i64 n]) :: rest => match Ev.look rest kb with
    | some (.tab m' [.ints .u8 g] true) =>
      some (Tr.needs [Nat.beq k1 1024, Nat.beq r1 0, Nat.beq p1 0, Nat.beq j0 1024, Nat.beq m' m, decide (j = 0), decide (0 ≤ N), decide (N ≤ 100), Nat.ble m 100, Nat.blt 1024 kb]
        (exitT lk7 0 [.ptr 1024 0 0, .sl 1500 (m + N.toNat), .any, .any] (h7 op w rd rs n (m + N.toNat) (cat m g (bat n)))))
    | _ => none
  | _, _ => none
def lp7 : Lp := { lk7 with get := get7 }

theorem r7 (op : Int) (w : Int) (rd : Int) (rs : Int) (n : Int) (N : Int) (j : Int) (m : Nat) (g : Nat → Int) : (evalB E1 Tryz.prog Tryz.f84.results.toList (loopOf Tryz.f84 0) 1 lp7 (v7 m N j) (h7 op w rd rs n m g)).view [1, 6, 63, 64] =
    (bif (cm .lss j N) then
 bif (decide (0 ≤ ar .mul .i64 8 j)) then
 bif (m.ble m) then
 bif (((m + 1) * 1).ble 1099511627776) then
 .norm 79 [.ptr 1024 0 0, .sl 2676 (m + 1), .int false .i64 (N), .int false .i64 (ar .add .i64 j 1)] [(1024, .cells [.int false .i64 (op), .int false .i64 (w), .int false .i64 (rd), .int false .i64 (rs), .int false .i64 (n)]), (1500, .dead), (2660, .tab 1 [.ints .u8 (nth [conv .u8 (ar .shr .i64 n (ar .mul .i64 8 j))] 0)] true), (2676, .tab (m + 1) [.ints .u8 (cat m g (nth [conv .u8 (ar .shr .i64 n (ar .mul .i64 8 j))] 0))] true)]
 else .bad
 else .bad
 else .bad
 else
 .exit 0 79 [.ptr 1024 0 0, .sl 1500 (m), .int false .i64 (N), .int false .i64 (j)] [(1024, .cells [.int false .i64 (op), .int false .i64 (w), .int false .i64 (rd), .int false .i64 (rs), .int false .i64 (n)]), (1500, .tab (m) [.ints .u8 (g)] true)]) := by kernel_rfl

end Go.X
end

section
set_option linter.unusedVariables false
open Go Go.Ev Go.Proofs
namespace Go.X

structure X7 where
  op : Int
  w : Int
  rd : Int
  rs : Int
  n : Int
  N : Int
  j : Nat
  m : Nat
  g : Nat → Int

def ok7 (x : X7) : Prop := 0 ≤ x.N ∧ (x.j : Int) ≤ x.N ∧ x.N ≤ 100 ∧ x.m ≤ 100
def vs7 (x : X7) : List SV := v7 (x.m + x.j) x.N x.j
def hp7 (x : X7) : Heap := h7 x.op x.w x.rd x.rs x.n (x.m + x.j) (cat x.m x.g (bat x.n))
def out7 (x : X7) : Vw := .exit 0 79 [.ptr 1024 0 0, .sl 1500 (x.m + x.N.toNat), .any, .any] (h7 x.op x.w x.rd x.rs x.n (x.m + x.N.toNat) (cat x.m x.g (bat x.n)))

theorem cat_lt {α : Type} {n : Nat} {f g : Nat → α} {r : Nat} (h : r < n) : cat n f g r = f r := by
  have : Nat.blt r n = true := by rw [Nat.blt_eq]; exact h
  simp [cat, this]
theorem cat_ge {α : Type} {n : Nat} {f g : Nat → α} {r : Nat} (h : n ≤ r) : cat n f g r = g (r - n) := by
  have : Nat.blt r n = false := by
    cases hb : Nat.blt r n with
    | true => rw [Nat.blt_eq] at hb; omega
    | false => rfl
  simp [cat, this]

theorem addOne {i : Nat} (h : i < 9223372036854775807) : ar .add .i64 (i : Int) 1 = ((i + 1 : Nat) : Int) := by
  simp only [ar, IntKind.wrap_i64]; omega
theorem mul8 {j : Nat} (h : j ≤ 1000) : ar .mul .i64 8 (j : Int) = ((8 * j : Nat) : Int) := by
  simp only [ar, IntKind.wrap_i64]; omega

theorem entry7 (l : List SV) (H : Heap) (T : Tr) (h : lp7.get l H = some T) (hb : T.leaf ≠ .bad) : ∃ x r, ok7 x ∧ WkV r lp7.nm l H (vs7 x) (hp7 x) ∧ T.leaf = toLf lp7 (out7 x) := by
  replace h : get7 l H = some T := h
  unfold get7 at h
  split at h
  · rename_i k1 r1 p1 kb m _ N _ j j0 _ op _ w _ rd _ rs _ n rest
    split at h
    · rename_i m' g hl
      simp only [Option.some.injEq] at h
      subst h
      obtain ⟨hn, he⟩ := needs_ne hb
      rw [he]
      simp only [allB, Bool.and_eq_true, Bool.and_true, decide_eq_true_eq, Nat.beq_eq, Nat.ble_eq, Nat.blt_eq] at hn
      obtain ⟨rfl, rfl, rfl, rfl, rfl, rfl, hN0, hN1, hm, hkb⟩ := hn
      refine ⟨⟨op, w, rd, rs, n, N, 0, m', g⟩, [(1500, .old kb)], ⟨hN0, hN0, hN1, hm⟩, ?_, ?_⟩
      · have hne : Nat.beq 1024 kb = false := by
          cases hq : Nat.beq 1024 kb with
          | true => have := Nat.eq_of_beq_eq_true hq; omega
          | false => rfl
        have hne2 : Nat.beq kb 1024 = false := by
          cases hq : Nat.beq kb 1024 with
          | true => have := Nat.eq_of_beq_eq_true hq; omega
          | false => rfl
        have hne3 : ¬ 1024 = kb := by omega
        refine ⟨rfl, ?_, ⟨?_, ?_, trivial⟩, ?_, rfl⟩
        · exact ⟨⟨rfl, rfl, rfl⟩, ⟨rfl, rfl⟩, ⟨rfl, rfl⟩, ⟨rfl, rfl⟩, trivial⟩
        · simp [rmap, rlook, Ev.look, wkB, simL, sim]
        · simp [rmap, rlook, Ev.look, hne, hl, wkB, wkCs, wkC]
          intro r hr
          rw [cat_lt hr]
        · simp [hp7, h7, oldsOf, rmap, rlook, uniqN, mem, hne2, hne]
      · simp only [exitT_leaf, out7]
        rfl
    · cases h
  · cases h

attribute [local irreducible] evalB Tr.view in
theorem round7 (x : X7) (hx : ok7 x) : Round lp7 ok7 (fun x => x.N.toNat - x.j) vs7 hp7 out7 x ((evalB E1 Tryz.prog Tryz.f84.results.toList (loopOf Tryz.f84 0) (0 + 1) lp7 (vs7 x) (hp7 x)).view lp7.ks) := by
  obtain ⟨op, w, rd, rs, n, N, j, m, g⟩ := x
  obtain ⟨h0, h1, h2, h3⟩ := hx
  simp only at h0 h1 h2 h3
  have hr := r7 op w rd rs n N j (m + j) (cat m g (bat n))
  rw [show evalB E1 Tryz.prog Tryz.f84.results.toList (loopOf Tryz.f84 0) (0 + 1) lp7 (vs7 ⟨op, w, rd, rs, n, N, j, m, g⟩) (hp7 ⟨op, w, rd, rs, n, N, j, m, g⟩) = evalB E1 Tryz.prog Tryz.f84.results.toList (loopOf Tryz.f84 0) 1 lp7 (v7 (m + j) N j) (h7 op w rd rs n (m + j) (cat m g (bat n))) from rfl, show lp7.ks = [1, 6, 63, 64] from rfl, hr]
  by_cases h : (j : Int) < N
  · have e1 : cm .lss (j : Int) N = true := decide_eq_true h
    have e2 : decide (0 ≤ ar .mul .i64 8 (j : Int)) = true := by rw [mul8 (by omega)]; exact decide_eq_true (Int.natCast_nonneg _)
    have e3 : Nat.ble (m + j) (m + j) = true := by simp
    have e4 : Nat.ble ((m + j + 1) * 1) 1099511627776 = true := by
      have : 1 = 1 := by kernel_rfl
      rw [this, Nat.ble_eq]; omega
    simp only [e1, e2, e3, e4, cond_true, addOne (show j < 9223372036854775807 by omega)]
    refine ⟨rfl, ⟨op, w, rd, rs, n, N, j + 1, m, g⟩, [(1500, .old 2676)], ⟨h0, by simp only []; omega, h2, h3⟩, by simp only []; omega, rfl, ?_⟩
    refine ⟨rfl, ?_, ⟨?_, ?_, trivial⟩, rfl, rfl⟩
    · exact ⟨⟨rfl, rfl, rfl⟩, ⟨rfl, rfl⟩, ⟨rfl, rfl⟩, ⟨rfl, rfl⟩, trivial⟩
    · simp [rmap, rlook, Ev.look, wkB, simL, sim]
    · simp [rmap, rlook, Ev.look, wkB, wkCs, wkC]
      refine ⟨by omega, fun r hr => ?_⟩
      by_cases hlt : r < m + j
      · rw [cat_lt hlt]
      · obtain rfl : r = m + j := by omega
        rw [cat_ge (Nat.le_refl _), cat_ge (by omega)]
        simp [nth, bat]
  · have e1 : cm .lss (j : Int) N = false := decide_eq_false h
    simp only [e1, cond_false]
    have hj : j = N.toNat := by omega
    refine ⟨rfl, _, _, [], rfl, ?_⟩
    subst hj
    refine ⟨rfl, ?_, ⟨?_, ?_, trivial⟩, rfl, rfl⟩
    · exact ⟨⟨rfl, rfl, rfl⟩, ⟨rfl, rfl⟩, trivial, trivial, trivial⟩
    · simp [rmap, rlook, Ev.look, wkB, simL, sim]
    · simp [rmap, rlook, Ev.look, wkB, wkCs, wkC]

noncomputable def E7 : Env := ⟨E1.call, loopEnv [(0, lp7)]⟩
theorem e7_calls : CallsOk E7 Tryz.prog := fun f args H nm r h hn => e1_calls f args H nm r h hn
theorem e1_loop : E1.loop = noLoop := rfl
attribute [local irreducible] evalB Tr.view in
theorem loop7 : LoopOk E7 Tryz.prog Tryz.f84 0 (loopOf Tryz.f84 0) :=
  loop_okE mixed (fun S => rfl) (by decide) ok7 (fun x => x.N.toNat - x.j) vs7 hp7 out7 entry7 fun x hx => ⟨E1, e1_calls, loops_noLoop e1_loop _ _, round7 x hx⟩
theorem fn7 : Tryz.prog.funcs[84]? = some Tryz.f84 := by kernel_rfl
theorem b7 : Tryz.f84.body = some (bodyOf Tryz.f84) := by kernel_rfl
theorem n7 : (Tryz.f84.name == "runtime.NumGoroutine") = false := by kernel_rfl
theorem nl7 : Code.loops (bodyOf Tryz.f84) = 1 := by kernel_rfl
theorem nth7 : nthLoop (bodyOf Tryz.f84) 0 = some (loopOf Tryz.f84 0) := by kernel_rfl
theorem loops7 : LoopsOk E7 Tryz.prog Tryz.f84 (bodyOf Tryz.f84) 0 := loops1 nl7 fun a ha => by
  rw [nth7] at ha
  simp only [Option.some.injEq] at ha
  subst ha
  exact loop7

/-- Encode of an op that is told by number -/
noncomputable abbrev T7 (k w rd rs n : Int) : Tr := evalF E7 Tryz.prog 84 [.agg [.int true .i64 k, .int false .i64 w, .int false .i64 rd, .int false .i64 rs, .int false .i64 n]] [] 1024

end Go.X
end

section
set_option linter.unusedVariables false
open Go Go.Ev Go.Proofs
namespace Go.X

/-- a string of bytes -/
def S (l : List Int) : ByteArray := ⟨(l.map fun x => UInt8.ofNat x.toNat).toArray⟩
theorem strOf_S (g : Nat → Int) (m : Nat) : strOf g m = S ((List.range m).map g) := by simp [strOf, S]

theorem cm_eql' (a b : Int) : cm .eql a b = decide (a = b) := by simp only [cm]; rfl
theorem cm_neq' (a b : Int) : cm .neq a b = !decide (a = b) := by simp only [cm]; rfl
theorem cm_lss' (a b : Int) : cm .lss a b = decide (a < b) := rfl
theorem cm_leq' (a b : Int) : cm .leq a b = decide (a ≤ b) := rfl
theorem cm_gtr' (a b : Int) : cm .gtr a b = decide (b < a) := rfl
theorem cm_geq' (a b : Int) : cm .geq a b = decide (b ≤ a) := rfl

def rexI (w m l : Int) : Int := 64 + (bif cm .eql w 8 then 8 else 0) + (bif cm .geq m 8 then 4 else 0) + (bif cm .geq l 8 then 1 else 0)
def modI (mode m l : Int) : Int := mode + 8 * (m % 8) + l % 8
def rexA (w m l : Int) : Int := bif cm .eql w 8 then ar .or .u8 (ar .or .u8 (ar .or .u8 64 8) (ar .shl .u8 (conv .u8 (ar .shr .i64 m 3)) 2)) (conv .u8 (ar .shr .i64 l 3))
  else ar .or .u8 (ar .or .u8 64 (ar .shl .u8 (conv .u8 (ar .shr .i64 m 3)) 2)) (conv .u8 (ar .shr .i64 l 3))
def modA (mode m l : Int) : Int := ar .or .u8 (ar .or .u8 mode (ar .shl .u8 (conv .u8 (ar .and .i64 m 7)) 3)) (conv .u8 (ar .and .i64 l 7))

def small (x : Int) : Prop := 0 ≤ x ∧ x < 16
theorem small_nat {x : Int} (h : small x) : ∃ i : Nat, i < 16 ∧ x = Int.ofNat i := ⟨x.toNat, by have := h.1; have := h.2; omega, by have := h.1; simp only [Int.ofNat_eq_natCast]; omega⟩

theorem rex_all : ((List.range 16).all fun i => (List.range 16).all fun j => [(4 : Int), 8].all fun w => rexA w (Int.ofNat i) (Int.ofNat j) == rexI w (Int.ofNat i) (Int.ofNat j)) = true := by kernel_rfl
theorem rexA_eq {w m l : Int} (hw : w = 4 ∨ w = 8) (hm : small m) (hl : small l) : rexA w m l = rexI w m l := by
  obtain ⟨i, hi, rfl⟩ := small_nat hm
  obtain ⟨j, hj, rfl⟩ := small_nat hl
  have := List.all_eq_true.1 (List.all_eq_true.1 (List.all_eq_true.1 rex_all i (List.mem_range.2 hi)) j (List.mem_range.2 hj)) w (by rcases hw with rfl | rfl <;> simp)
  simpa using this
theorem mod_all : ((List.range 16).all fun i => (List.range 16).all fun j => [(192 : Int), 128].all fun w => modA w (Int.ofNat i) (Int.ofNat j) == modI w (Int.ofNat i) (Int.ofNat j)) = true := by kernel_rfl
theorem modA_eq {w m l : Int} (hw : w = 192 ∨ w = 128) (hm : small m) (hl : small l) : modA w m l = modI w m l := by
  obtain ⟨i, hi, rfl⟩ := small_nat hm
  obtain ⟨j, hj, rfl⟩ := small_nat hl
  have := List.all_eq_true.1 (List.all_eq_true.1 (List.all_eq_true.1 mod_all i (List.mem_range.2 hi)) j (List.mem_range.2 hj)) w (by rcases hw with rfl | rfl <;> simp)
  simpa using this

theorem and7 (n : Int) : ar .and .i64 n 7 = n % 8 := by
  have hm : (BitVec.ofInt 64 n &&& BitVec.ofInt 64 7).toNat = (n % 8).toNat := by
    rw [BitVec.toNat_and]
    have : (BitVec.ofInt 64 7).toNat = 2 ^ 3 - 1 := by decide
    rw [this, Nat.and_two_pow_sub_one_eq_mod, BitVec.toNat_ofInt]
    omega
  have he : ar .and .i64 n 7 = IntKind.i64.wrap ((BitVec.ofInt 64 n &&& BitVec.ofInt 64 7).toNat : Int) := rfl
  rw [he, hm, IntKind.wrap_i64]
  omega

def condX (n : Int) : Bool := (decide (2 ≤ n) && decide (n ≤ 7)) || (decide (12 ≤ n) && decide (n ≤ 15))
def regX (n : Int) : Bool := decide (0 ≤ n) && decide (n < 16)
def namedX (sh : Int) (im : Bool) (rd rs n : Int) : Bool :=
  if sh = 0 then regX rd && (regX rs && decide (n = 0))
  else if sh = 1 then regX rd && (decide (rs = 0) && (im || decide (n = 0)))
  else if sh = 2 then regX rd && (regX rs && !decide (rs % 8 = 4))
  else if sh = 3 then regX rd && decide (rs = 0)
  else if sh = 4 then regX rd && (decide (rs = 0) && decide (n = 0))
  else if sh = 7 then regX rd && (decide (rs = 0) && condX n)
  else if sh = 8 ∨ sh = 9 then decide (rd = 0) && decide (rs = 0)
  else if sh = 10 ∨ sh = 11 then condX rd && decide (rs = 0)
  else decide (rd = 0) && (decide (rs = 0) && decide (n = 0))
def longX (sh : Int) (im : Bool) : Nat := if sh = 3 then 8 else if sh = 2 ∨ sh = 8 ∨ sh = 10 then 4 else if sh = 9 ∨ sh = 11 then 1 else bif im then 4 else 0
def fitsX (k : Nat) (n : Int) : Bool := if k = 4 then decide (-2147483648 ≤ n) && decide (n ≤ 2147483647) else if k = 1 then decide (-128 ≤ n) && decide (n ≤ 127) else true

def shX (op : Int) : Int := nth shapes 0 (op - 1).toNat
def imX (op : Int) : Bool := nth imms false (op - 1).toNat
def wX (op : Int) : Int := nth ws 0 (op - 1).toNat
def errX (op w rd rs n : Int) : Int :=
  bif decide (op < 1) || decide (46 < op) then 1
  else bif (decide (w = 4) || decide (w = 8)) && ((decide (wX op = 0) || decide (w = wX op)) && namedX (shX op) (imX op) rd rs n) then
    (bif fitsX (longX (shX op) (imX op)) n || decide (shX op = 7) then 0 else 10)
  else 1

def codeL (op : Int) : List Int := (nth codes .empty (op - 1).toNat).toList.map fun b => (b.toNat : Int)
/-- the last one has something added -/
def lastL : List Int → Int → List Int
  | [], _ => []
  | [a], k => [a + k]
  | a :: l, k => a :: lastL l k
def tailL (n : Int) (k : Nat) : List Int := (List.range k).map (bat n)
def encL (op w rd rs n : Int) : List Int :=
  let c := codeL op
  let t := tailL n (longX (shX op) (imX op))
  if shX op = 0 then (bif nth turns false (op - 1).toNat then rexI w rd rs :: (c ++ (modI 192 rd rs :: t)) else rexI w rs rd :: (c ++ (modI 192 rs rd :: t)))
  else if shX op = 1 then rexI w 0 rd :: (c ++ (modI 192 (nth mids 0 (op - 1).toNat) rd :: t))
  else if shX op = 2 then (bif nth aheads false (op - 1).toNat then [102] else []) ++ (rexI w rd rs :: (c ++ (modI 128 rd rs :: t)))
  else if shX op = 3 ∨ shX op = 4 then rexI w 0 rd :: (lastL c (rd % 8) ++ t)
  else if shX op = 6 then rexI w 0 0 :: (c ++ t)
  else if shX op = 7 then rexI w 0 rd :: (lastL c n ++ (modI 192 0 rd :: t))
  else if shX op = 10 ∨ shX op = 11 then lastL c rd ++ t
  else c ++ t
def strX (op w rd rs n : Int) : ByteArray := bif errX op w rd rs n == 0 then S (encL op w rd rs n) else .empty

/-- x86.Encode -/
def g7 : List SV → Heap → Option R := fun a H => match a, H with
  | [.agg [.int false .i64 op, .int false .i64 w, .int false .i64 rd, .int false .i64 rs, .int false .i64 n]], [] => some ⟨[], .tup [.str (strX op w rd rs n), .int false .i64 (errX op w rd rs n)], []⟩
  | _, _ => none

theorem givesE {l1 : Bool} {s s' : ByteArray} {b b' : Int} (h1 : s = s') (h2 : b = b') : (Lf.ret (.tup [.str s, .int l1 .i64 b]) []).gives (.tup [.str s', .int false .i64 b']) := by
  subst h1; subst h2
  intro σ σ'
  simp only [den, denL]

theorem strX_bad {op w rd rs n e : Int} (h : errX op w rd rs n = e) (he : e ≠ 0) : ByteArray.mk #[] = strX op w rd rs n := by
  have : (errX op w rd rs n == 0) = false := by rw [h]; exact beq_eq_false_iff_ne.2 he
  unfold strX; rw [this]; rfl
theorem strX_ok {op w rd rs n : Int} (h : errX op w rd rs n = 0) : strX op w rd rs n = S (encL op w rd rs n) := by
  have : (errX op w rd rs n == 0) = true := by rw [h]; rfl
  unfold strX; rw [this]; rfl

instance (x : Int) : Decidable (small x) := inferInstanceAs (Decidable (_ ∧ _))
theorem addReg_all : ((List.range 16).all fun i => [(184 : Int), 80, 88].all fun c => ar .add .u8 c (conv .u8 (ar .and .i64 (Int.ofNat i) 7)) == c + (Int.ofNat i) % 8) = true := by kernel_rfl
theorem addReg {c x : Int} (hc : c ∈ [(184 : Int), 80, 88]) (hx : small x) : ar .add .u8 c (conv .u8 (ar .and .i64 x 7)) = c + x % 8 := by
  obtain ⟨i, hi, rfl⟩ := small_nat hx
  simpa using List.all_eq_true.1 (List.all_eq_true.1 addReg_all i (List.mem_range.2 hi)) c hc
theorem addCond_all : ((List.range 16).all fun i => [(144 : Int), 128, 112].all fun c => ar .add .u8 c (conv .u8 (Int.ofNat i)) == c + Int.ofNat i) = true := by kernel_rfl
theorem addCond {c x : Int} (hc : c ∈ [(144 : Int), 128, 112]) (hx : small x) : ar .add .u8 c (conv .u8 x) = c + x := by
  obtain ⟨i, hi, rfl⟩ := small_nat hx
  simpa using List.all_eq_true.1 (List.all_eq_true.1 addCond_all i (List.mem_range.2 hi)) c hc

/-- how comparisons are read -/
theorem cms : (∀ a b, cm .eql a b = decide (a = b)) ∧ (∀ a b, cm .neq a b = !decide (a = b)) ∧ (∀ a b, cm .lss a b = decide (a < b)) ∧ (∀ a b, cm .leq a b = decide (a ≤ b)) ∧ (∀ a b, cm .gtr a b = decide (b < a)) ∧ (∀ a b, cm .geq a b = decide (b ≤ a)) ∧
    (∀ n, regX n = (decide (0 ≤ n) && decide (n < 16))) ∧ (∀ n, condX n = ((decide (2 ≤ n) && decide (n ≤ 7)) || (decide (12 ≤ n) && decide (n ≤ 15)))) ∧ ∀ n, ar .and .i64 n 7 = n % 8 :=
  ⟨cm_eql', cm_neq', cm_lss', cm_leq', cm_gtr', cm_geq', fun _ => rfl, fun _ => rfl, and7⟩

end Go.X
end
