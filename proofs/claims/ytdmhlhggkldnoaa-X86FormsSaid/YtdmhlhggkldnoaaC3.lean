/-
  x86: its table of forms.
-/
import Derived.Test.YtdmhlhggkldnoaaB2
import Derived.Test.YtdmhlhggkldnoaaProg
import Derived.KernelRfl
set_option linter.unusedSimpArgs false
set_option linter.unusedVariables false
section
set_option linter.unusedVariables false
open Go Go.Ev Go.Proofs
namespace Go.X

def shapes : List Int := [0, 1, 3, 0, 0, 0, 0, 0, 0, 0, 1, 1, 1, 1, 1, 1, 1, 6, 1, 7, 0, 0, 0, 0, 0, 2, 2, 2, 2, 2, 2, 2, 2, 2, 2, 2, 2, 4, 4, 8, 5, 8, 9, 10, 11, 5]
def codes : List ByteArray := [⟨#[137]⟩, ⟨#[199]⟩, ⟨#[184]⟩, ⟨#[1]⟩, ⟨#[41]⟩, ⟨#[33]⟩, ⟨#[9]⟩, ⟨#[49]⟩, ⟨#[57]⟩, ⟨#[15, 175]⟩, ⟨#[247]⟩, ⟨#[247]⟩, ⟨#[247]⟩, ⟨#[247]⟩, ⟨#[211]⟩, ⟨#[211]⟩, ⟨#[211]⟩, ⟨#[153]⟩, ⟨#[129]⟩, ⟨#[15, 144]⟩, ⟨#[15, 182]⟩, ⟨#[15, 183]⟩, ⟨#[15, 190]⟩, ⟨#[15, 191]⟩, ⟨#[99]⟩, ⟨#[139]⟩, ⟨#[139]⟩, ⟨#[99]⟩, ⟨#[15, 191]⟩, ⟨#[15, 190]⟩, ⟨#[15, 183]⟩, ⟨#[15, 182]⟩, ⟨#[137]⟩, ⟨#[137]⟩, ⟨#[137]⟩, ⟨#[136]⟩, ⟨#[141]⟩, ⟨#[80]⟩, ⟨#[88]⟩, ⟨#[232]⟩, ⟨#[195]⟩, ⟨#[233]⟩, ⟨#[235]⟩, ⟨#[15, 128]⟩, ⟨#[112]⟩, ⟨#[15, 5]⟩]
def mids : List Int := [0, 0, 0, 0, 0, 0, 0, 0, 0, 0, 3, 2, 7, 6, 4, 5, 7, 0, 0, 0, 0, 0, 0, 0, 0, 0, 0, 0, 0, 0, 0, 0, 0, 0, 0, 0, 0, 0, 0, 0, 0, 0, 0, 0, 0, 0]
def turns : List Bool := [false, false, false, false, false, false, false, false, false, true, false, false, false, false, false, false, false, false, false, false, true, true, true, true, true, false, false, false, false, false, false, false, false, false, false, false, false, false, false, false, false, false, false, false, false, false]
def ws : List Int := [0, 8, 8, 0, 0, 0, 0, 0, 0, 0, 0, 0, 0, 0, 0, 0, 0, 0, 8, 4, 8, 8, 8, 8, 8, 8, 4, 8, 8, 8, 8, 8, 8, 4, 4, 4, 8, 4, 4, 4, 4, 4, 4, 4, 4, 4]
def imms : List Bool := [false, true, false, false, false, false, false, false, false, false, false, false, false, false, false, false, false, false, true, false, false, false, false, false, false, false, false, false, false, false, false, false, false, false, false, false, false, false, false, false, false, false, false, false, false, false]
def aheads : List Bool := [false, false, false, false, false, false, false, false, false, false, false, false, false, false, false, false, false, false, false, false, false, false, false, false, false, false, false, false, false, false, false, false, false, false, true, false, false, false, false, false, false, false, false, false, false, false]

def cols : List Col := [.ints .i64 (nth shapes 0), .strs (nth codes .empty), .ints .i64 (nth mids 0), .bools (nth turns false), .ints .i64 (nth ws 0), .bools (nth imms false), .bools (nth aheads false)]
def colsL : List Col := [.lit (shapes.map (.int .i64)), .lit (codes.map .string), .lit (mids.map (.int .i64)), .lit (turns.map .bool), .lit (ws.map (.int .i64)), .lit (imms.map .bool), .lit (aheads.map .bool)]

def g13 : List SV → Heap → Option R := fun a H => match a, H with
  | [], [] => some ⟨[], .sl 1024 46, [(1024, .tab 46 cols true)]⟩
  | _, _ => none
/-- rows that are told by number -/
def g13L : List SV → Heap → Option R := fun a H => match a, H with
  | [], [] => some ⟨[], .sl 1024 46, [(1024, .tab 46 colsL true)]⟩
  | _, _ => none

theorem mixed : Try.prog.follows .mixedOrders = true := by kernel_rfl
noncomputable def E0 : Env := inl Try.prog (envOf [] noLoop) [30, 31, 32, 33, 34] 2
theorem named0 : named Try.prog [30, 31, 32, 33, 34] = true := by kernel_rfl
theorem e0_calls : CallsOk E0 Try.prog := (inl_calls (SpecsOk.nil.calls noLoop) mixed named0 2).1
theorem e0_loop : E0.loop = noLoop := rfl
theorem t13 : (evalF E0 Try.prog 13 [] [] 1024).leaf = .ret (.sl 2496 46) [(2496, .tab 46 cols true)] := by kernel_rfl
theorem fn13 : Try.prog.funcs[13]? = some Try.f13 := by kernel_rfl
theorem b13 : Try.f13.body = some (bodyOf Try.f13) := by kernel_rfl
theorem n13 : (Try.f13.name == "runtime.NumGoroutine") = false := by kernel_rfl

theorem lit_ints (k : IntKind) (l : List Int) (n : Nat) (h : n ≤ l.length) : wkC n (.ints k (nth l 0)) (.lit (l.map (.int k))) := by
  intro r hr σ
  have : r < l.length := by omega
  simp [Col.get, nth, List.getD, this, litSV, den]
theorem lit_strs (l : List ByteArray) (n : Nat) (h : n ≤ l.length) : wkC n (.strs (nth l .empty)) (.lit (l.map .string)) := by
  intro r hr σ
  have : r < l.length := by omega
  simp [Col.get, nth, List.getD, this, litSV, den]
theorem lit_bools (l : List Bool) (n : Nat) (h : n ≤ l.length) : wkC n (.bools (nth l false)) (.lit (l.map .bool)) := by
  intro r hr σ
  have : r < l.length := by omega
  simp [Col.get, nth, List.getD, this, litSV, den]

attribute [local irreducible] evalF in
theorem ok13 : SpecOk Try.prog 13 (specOf g13) := by
  refine spec_ok e0_calls mixed fn13 b13 n13 (loops_noLoop e0_loop _ _) g13 fun a0 H0 r h hn => ?_
  unfold g13 at h
  split at h
  · simp only [Option.some.injEq] at h
    subst h
    rw [show roH (namesH [(1024, Blk.tab 46 cols true)]) [] = [] from rfl, show base = 1024 from rfl, t13]
    exact ⟨[(1024, .old 2496)], rfl, ⟨rfl, rfl⟩, ⟨⟨Nat.le_refl _, fun h => h, wkCs_refl _ _⟩, trivial⟩, rfl⟩
  · cases h

attribute [local irreducible] evalF in
theorem ok13L : SpecOk Try.prog 13 (specOf g13L) := by
  refine spec_ok e0_calls mixed fn13 b13 n13 (loops_noLoop e0_loop _ _) g13L fun a0 H0 r h hn => ?_
  unfold g13L at h
  split at h
  · simp only [Option.some.injEq] at h
    subst h
    rw [show roH (namesH [(1024, Blk.tab 46 colsL true)]) [] = [] from rfl, show base = 1024 from rfl, t13]
    exact ⟨[(1024, .old 2496)], rfl, ⟨rfl, rfl⟩, ⟨⟨Nat.le_refl _, fun h => h, lit_ints _ _ _ (by decide), lit_strs _ _ (by decide), lit_ints _ _ _ (by decide), lit_bools _ _ (by decide), lit_ints _ _ _ (by decide), lit_bools _ _ (by decide), lit_bools _ _ (by decide), trivial⟩, trivial⟩, rfl⟩
  · cases h

end Go.X
end

section
set_option linter.unusedVariables false
open Go Go.Ev Go.Proofs
namespace Go.X

def ps1 : List Nat := [14, 15, 16, 35, 36, 37, 38]
def hs1 : List Nat := [17, 39]
theorem namedp1 : named Try.prog ps1 = true := by kernel_rfl
theorem namedh1 : named Try.prog hs1 = true := by kernel_rfl
noncomputable def E1 : Env := inlA Try.prog (envOf [(13, specOf g13L)] noLoop) ps1 hs1 3
theorem e1_calls : CallsOk E1 Try.prog := (inlA_calls ((SpecsOk.cons ok13L SpecsOk.nil).calls noLoop) mixed namedp1 namedh1 3).1

end Go.X
end

section
set_option linter.unusedVariables false
open Go Go.Ev Go.Proofs
namespace Go.X

/-- a number's byte, as the program reads it -/
def bat (n : Int) (t : Nat) : Int := conv .u8 (ar .shr .i64 n (ar .mul .i64 8 (t : Int)))
def v7 (m : Nat) (N j : Int) : List SV := [.ptr 1024 0 0, .sl 1500 m, .int false .i64 N, .int false .i64 j]
def h7 (op w rd rs n : Int) (m : Nat) (g : Nat → Int) : Heap := [(1024, .cells [.int false .i64 op, .int false .i64 w, .int false .i64 rd, .int false .i64 rs, .int false .i64 n]), (1500, .tab m [.ints .u8 g] true)]
def lk7 : Lp := ⟨79, [1, 6, 63, 64], 2500, fun _ _ => none⟩
def get7 : List SV → Heap → Option Tr
  | [.ptr k1 r1 p1, .sl kb m, .int _ .i64 N, .int _ .i64 j], (j0, .cells [.int _ .i64 op, .int _ .i64 w, .int _ .i64 rd, .int _ .i64 rs, .int _ .i64 n]) :: rest => match Ev.look rest kb with
    | some (.tab m' [.ints .u8 g] true) =>
      some (Tr.needs [Nat.beq k1 1024, Nat.beq r1 0, Nat.beq p1 0, Nat.beq j0 1024, Nat.beq m' m, decide (j = 0), decide (0 ≤ N), decide (N ≤ 100), Nat.ble m 100, Nat.blt 1024 kb]
        (exitT lk7 0 [.ptr 1024 0 0, .sl 1500 (m + N.toNat), .any, .any] (h7 op w rd rs n (m + N.toNat) (cat m g (bat n)))))
    | _ => none
  | _, _ => none
def lp7 : Lp := { lk7 with get := get7 }

theorem r7 (op : Int) (w : Int) (rd : Int) (rs : Int) (n : Int) (N : Int) (j : Int) (m : Nat) (g : Nat → Int) : (evalB E1 Try.prog Try.f7.results.toList (loopOf Try.f7 0) 1 lp7 (v7 m N j) (h7 op w rd rs n m g)).view [1, 6, 63, 64] =
    (bif (cm .lss j N) then
 bif (decide (0 ≤ ar .mul .i64 8 j)) then
 bif (m.ble m) then
 bif (((m + 1) * Try.prog.types[5].bytes).ble 1099511627776) then
 .norm 79 [.ptr 1024 0 0, .sl 2676 (m + 1), .int false .i64 (N), .int false .i64 (ar .add .i64 j 1)] [(1024, .cells [.int false .i64 (op), .int false .i64 (w), .int false .i64 (rd), .int false .i64 (rs), .int false .i64 (n)]), (1500, .dead), (2660, .tab 1 [.ints .u8 (nth [conv .u8 (ar .shr .i64 n (ar .mul .i64 8 j))] 0)] true), (2676, .tab (m + 1) [.ints .u8 (cat m g (nth [conv .u8 (ar .shr .i64 n (ar .mul .i64 8 j))] 0))] true)]
 else .bad
 else .bad
 else .bad
 else
 .exit 0 79 [.ptr 1024 0 0, .sl 1500 (m), .int false .i64 (N), .int false .i64 (j)] [(1024, .cells [.int false .i64 (op), .int false .i64 (w), .int false .i64 (rd), .int false .i64 (rs), .int false .i64 (n)]), (1500, .tab (m) [.ints .u8 (g)] true)]) := by kernel_rfl

end Go.X
end

section
set_option linter.unusedVariables false
open Go Go.Ev Go.Proofs
namespace Go.X

structure X7 where
  op : Int
  w : Int
  rd : Int
  rs : Int
  n : Int
  N : Int
  j : Nat
  m : Nat
  g : Nat → Int

def ok7 (x : X7) : Prop := 0 ≤ x.N ∧ (x.j : Int) ≤ x.N ∧ x.N ≤ 100 ∧ x.m ≤ 100
def vs7 (x : X7) : List SV := v7 (x.m + x.j) x.N x.j
def hp7 (x : X7) : Heap := h7 x.op x.w x.rd x.rs x.n (x.m + x.j) (cat x.m x.g (bat x.n))
def out7 (x : X7) : Vw := .exit 0 79 [.ptr 1024 0 0, .sl 1500 (x.m + x.N.toNat), .any, .any] (h7 x.op x.w x.rd x.rs x.n (x.m + x.N.toNat) (cat x.m x.g (bat x.n)))

theorem cat_lt {α : Type} {n : Nat} {f g : Nat → α} {r : Nat} (h : r < n) : cat n f g r = f r := by
  have : Nat.blt r n = true := by rw [Nat.blt_eq]; exact h
  simp [cat, this]
theorem cat_ge {α : Type} {n : Nat} {f g : Nat → α} {r : Nat} (h : n ≤ r) : cat n f g r = g (r - n) := by
  have : Nat.blt r n = false := by
    cases hb : Nat.blt r n with
    | true => rw [Nat.blt_eq] at hb; omega
    | false => rfl
  simp [cat, this]

theorem addOne {i : Nat} (h : i < 9223372036854775807) : ar .add .i64 (i : Int) 1 = ((i + 1 : Nat) : Int) := by
  simp only [ar, IntKind.wrap_i64]; omega
theorem mul8 {j : Nat} (h : j ≤ 1000) : ar .mul .i64 8 (j : Int) = ((8 * j : Nat) : Int) := by
  simp only [ar, IntKind.wrap_i64]; omega

theorem entry7 (l : List SV) (H : Heap) (T : Tr) (h : lp7.get l H = some T) (hb : T.leaf ≠ .bad) : ∃ x r, ok7 x ∧ WkV r lp7.nm l H (vs7 x) (hp7 x) ∧ T.leaf = toLf lp7 (out7 x) := by
  replace h : get7 l H = some T := h
  unfold get7 at h
  split at h
  · rename_i k1 r1 p1 kb m _ N _ j j0 _ op _ w _ rd _ rs _ n rest
    split at h
    · rename_i m' g hl
      simp only [Option.some.injEq] at h
      subst h
      obtain ⟨hn, he⟩ := needs_ne hb
      rw [he]
      simp only [allB, Bool.and_eq_true, Bool.and_true, decide_eq_true_eq, Nat.beq_eq, Nat.ble_eq, Nat.blt_eq] at hn
      obtain ⟨rfl, rfl, rfl, rfl, rfl, rfl, hN0, hN1, hm, hkb⟩ := hn
      refine ⟨⟨op, w, rd, rs, n, N, 0, m', g⟩, [(1500, .old kb)], ⟨hN0, hN0, hN1, hm⟩, ?_, ?_⟩
      · have hne : Nat.beq 1024 kb = false := by
          cases hq : Nat.beq 1024 kb with
          | true => have := Nat.eq_of_beq_eq_true hq; omega
          | false => rfl
        have hne2 : Nat.beq kb 1024 = false := by
          cases hq : Nat.beq kb 1024 with
          | true => have := Nat.eq_of_beq_eq_true hq; omega
          | false => rfl
        have hne3 : ¬ 1024 = kb := by omega
        refine ⟨rfl, ?_, ⟨?_, ?_, trivial⟩, ?_, rfl⟩
        · exact ⟨⟨rfl, rfl, rfl⟩, ⟨rfl, rfl⟩, ⟨rfl, rfl⟩, ⟨rfl, rfl⟩, trivial⟩
        · simp [rmap, rlook, Ev.look, wkB, simL, sim]
        · simp [rmap, rlook, Ev.look, hne, hl, wkB, wkCs, wkC]
          intro r hr
          rw [cat_lt hr]
        · simp [hp7, h7, oldsOf, rmap, rlook, uniqN, mem, hne2, hne]
      · simp only [exitT_leaf, out7]
        rfl
    · cases h
  · cases h

attribute [local irreducible] evalB Tr.view in
theorem round7 (x : X7) (hx : ok7 x) : Round lp7 ok7 (fun x => x.N.toNat - x.j) vs7 hp7 out7 x ((evalB E1 Try.prog Try.f7.results.toList (loopOf Try.f7 0) (0 + 1) lp7 (vs7 x) (hp7 x)).view lp7.ks) := by
  obtain ⟨op, w, rd, rs, n, N, j, m, g⟩ := x
  obtain ⟨h0, h1, h2, h3⟩ := hx
  simp only at h0 h1 h2 h3
  have hr := r7 op w rd rs n N j (m + j) (cat m g (bat n))
  rw [show evalB E1 Try.prog Try.f7.results.toList (loopOf Try.f7 0) (0 + 1) lp7 (vs7 ⟨op, w, rd, rs, n, N, j, m, g⟩) (hp7 ⟨op, w, rd, rs, n, N, j, m, g⟩) = evalB E1 Try.prog Try.f7.results.toList (loopOf Try.f7 0) 1 lp7 (v7 (m + j) N j) (h7 op w rd rs n (m + j) (cat m g (bat n))) from rfl, show lp7.ks = [1, 6, 63, 64] from rfl, hr]
  by_cases h : (j : Int) < N
  · have e1 : cm .lss (j : Int) N = true := decide_eq_true h
    have e2 : decide (0 ≤ ar .mul .i64 8 (j : Int)) = true := by rw [mul8 (by omega)]; exact decide_eq_true (Int.natCast_nonneg _)
    have e3 : Nat.ble (m + j) (m + j) = true := by simp
    have e4 : Nat.ble ((m + j + 1) * Try.prog.types[5].bytes) 1099511627776 = true := by
      have : Try.prog.types[5].bytes = 1 := by kernel_rfl
      rw [this, Nat.ble_eq]; omega
    simp only [e1, e2, e3, e4, cond_true, addOne (show j < 9223372036854775807 by omega)]
    refine ⟨rfl, ⟨op, w, rd, rs, n, N, j + 1, m, g⟩, [(1500, .old 2676)], ⟨h0, by simp only []; omega, h2, h3⟩, by simp only []; omega, rfl, ?_⟩
    refine ⟨rfl, ?_, ⟨?_, ?_, trivial⟩, rfl, rfl⟩
    · exact ⟨⟨rfl, rfl, rfl⟩, ⟨rfl, rfl⟩, ⟨rfl, rfl⟩, ⟨rfl, rfl⟩, trivial⟩
    · simp [rmap, rlook, Ev.look, wkB, simL, sim]
    · simp [rmap, rlook, Ev.look, wkB, wkCs, wkC]
      refine ⟨by omega, fun r hr => ?_⟩
      by_cases hlt : r < m + j
      · rw [cat_lt hlt]
      · obtain rfl : r = m + j := by omega
        rw [cat_ge (Nat.le_refl _), cat_ge (by omega)]
        simp [nth, bat]
  · have e1 : cm .lss (j : Int) N = false := decide_eq_false h
    simp only [e1, cond_false]
    have hj : j = N.toNat := by omega
    refine ⟨rfl, _, _, [], rfl, ?_⟩
    subst hj
    refine ⟨rfl, ?_, ⟨?_, ?_, trivial⟩, rfl, rfl⟩
    · exact ⟨⟨rfl, rfl, rfl⟩, ⟨rfl, rfl⟩, trivial, trivial, trivial⟩
    · simp [rmap, rlook, Ev.look, wkB, simL, sim]
    · simp [rmap, rlook, Ev.look, wkB, wkCs, wkC]

noncomputable def E7 : Env := ⟨E1.call, loopEnv [(0, lp7)]⟩
theorem e7_calls : CallsOk E7 Try.prog := fun f args H nm r h hn => e1_calls f args H nm r h hn
theorem e1_loop : E1.loop = noLoop := rfl
attribute [local irreducible] evalB Tr.view in
theorem loop7 : LoopOk E7 Try.prog Try.f7 0 (loopOf Try.f7 0) :=
  loop_okE mixed (fun S => rfl) (by decide) ok7 (fun x => x.N.toNat - x.j) vs7 hp7 out7 entry7 fun x hx => ⟨E1, e1_calls, loops_noLoop e1_loop _ _, round7 x hx⟩
theorem fn7 : Try.prog.funcs[7]? = some Try.f7 := by kernel_rfl
theorem b7 : Try.f7.body = some (bodyOf Try.f7) := by kernel_rfl
theorem n7 : (Try.f7.name == "runtime.NumGoroutine") = false := by kernel_rfl
theorem nl7 : Code.loops (bodyOf Try.f7) = 1 := by kernel_rfl
theorem nth7 : nthLoop (bodyOf Try.f7) 0 = some (loopOf Try.f7 0) := by kernel_rfl
theorem loops7 : LoopsOk E7 Try.prog Try.f7 (bodyOf Try.f7) 0 := loops1 nl7 fun a ha => by
  rw [nth7] at ha
  simp only [Option.some.injEq] at ha
  subst ha
  exact loop7

/-- Encode of an op that is told by number -/
noncomputable abbrev T7 (k w rd rs n : Int) : Tr := evalF E7 Try.prog 7 [.agg [.int true .i64 k, .int false .i64 w, .int false .i64 rd, .int false .i64 rs, .int false .i64 n]] [] 1024

end Go.X
end

section
set_option linter.unusedVariables false
open Go Go.Ev Go.Proofs
namespace Go.X

/-- a string of bytes -/
def S (l : List Int) : ByteArray := ⟨(l.map fun x => UInt8.ofNat x.toNat).toArray⟩
theorem strOf_S (g : Nat → Int) (m : Nat) : strOf g m = S ((List.range m).map g) := by simp [strOf, S]

theorem cm_eql' (a b : Int) : cm .eql a b = decide (a = b) := by simp only [cm]; rfl
theorem cm_neq' (a b : Int) : cm .neq a b = !decide (a = b) := by simp only [cm]; rfl
theorem cm_lss' (a b : Int) : cm .lss a b = decide (a < b) := rfl
theorem cm_leq' (a b : Int) : cm .leq a b = decide (a ≤ b) := rfl
theorem cm_gtr' (a b : Int) : cm .gtr a b = decide (b < a) := rfl
theorem cm_geq' (a b : Int) : cm .geq a b = decide (b ≤ a) := rfl

def rexI (w m l : Int) : Int := 64 + (bif cm .eql w 8 then 8 else 0) + (bif cm .geq m 8 then 4 else 0) + (bif cm .geq l 8 then 1 else 0)
def modI (mode m l : Int) : Int := mode + 8 * (m % 8) + l % 8
def rexA (w m l : Int) : Int := bif cm .eql w 8 then ar .or .u8 (ar .or .u8 (ar .or .u8 64 8) (ar .shl .u8 (conv .u8 (ar .shr .i64 m 3)) 2)) (conv .u8 (ar .shr .i64 l 3))
  else ar .or .u8 (ar .or .u8 64 (ar .shl .u8 (conv .u8 (ar .shr .i64 m 3)) 2)) (conv .u8 (ar .shr .i64 l 3))
def modA (mode m l : Int) : Int := ar .or .u8 (ar .or .u8 mode (ar .shl .u8 (conv .u8 (ar .and .i64 m 7)) 3)) (conv .u8 (ar .and .i64 l 7))

def small (x : Int) : Prop := 0 ≤ x ∧ x < 16
theorem small_nat {x : Int} (h : small x) : ∃ i : Nat, i < 16 ∧ x = Int.ofNat i := ⟨x.toNat, by have := h.1; have := h.2; omega, by have := h.1; simp only [Int.ofNat_eq_natCast]; omega⟩

theorem rex_all : ((List.range 16).all fun i => (List.range 16).all fun j => [(4 : Int), 8].all fun w => rexA w (Int.ofNat i) (Int.ofNat j) == rexI w (Int.ofNat i) (Int.ofNat j)) = true := by kernel_rfl
theorem rexA_eq {w m l : Int} (hw : w = 4 ∨ w = 8) (hm : small m) (hl : small l) : rexA w m l = rexI w m l := by
  obtain ⟨i, hi, rfl⟩ := small_nat hm
  obtain ⟨j, hj, rfl⟩ := small_nat hl
  have := List.all_eq_true.1 (List.all_eq_true.1 (List.all_eq_true.1 rex_all i (List.mem_range.2 hi)) j (List.mem_range.2 hj)) w (by rcases hw with rfl | rfl <;> simp)
  simpa using this
theorem mod_all : ((List.range 16).all fun i => (List.range 16).all fun j => [(192 : Int), 128].all fun w => modA w (Int.ofNat i) (Int.ofNat j) == modI w (Int.ofNat i) (Int.ofNat j)) = true := by kernel_rfl
theorem modA_eq {w m l : Int} (hw : w = 192 ∨ w = 128) (hm : small m) (hl : small l) : modA w m l = modI w m l := by
  obtain ⟨i, hi, rfl⟩ := small_nat hm
  obtain ⟨j, hj, rfl⟩ := small_nat hl
  have := List.all_eq_true.1 (List.all_eq_true.1 (List.all_eq_true.1 mod_all i (List.mem_range.2 hi)) j (List.mem_range.2 hj)) w (by rcases hw with rfl | rfl <;> simp)
  simpa using this

theorem and7 (n : Int) : ar .and .i64 n 7 = n % 8 := by
  have hm : (BitVec.ofInt 64 n &&& BitVec.ofInt 64 7).toNat = (n % 8).toNat := by
    rw [BitVec.toNat_and]
    have : (BitVec.ofInt 64 7).toNat = 2 ^ 3 - 1 := by decide
    rw [this, Nat.and_two_pow_sub_one_eq_mod, BitVec.toNat_ofInt]
    omega
  have he : ar .and .i64 n 7 = IntKind.i64.wrap ((BitVec.ofInt 64 n &&& BitVec.ofInt 64 7).toNat : Int) := rfl
  rw [he, hm, IntKind.wrap_i64]
  omega

def condX (n : Int) : Bool := (decide (2 ≤ n) && decide (n ≤ 7)) || (decide (12 ≤ n) && decide (n ≤ 15))
def regX (n : Int) : Bool := decide (0 ≤ n) && decide (n < 16)
def namedX (sh : Int) (im : Bool) (rd rs n : Int) : Bool :=
  if sh = 0 then regX rd && (regX rs && decide (n = 0))
  else if sh = 1 then regX rd && (decide (rs = 0) && (im || decide (n = 0)))
  else if sh = 2 then regX rd && (regX rs && !decide (rs % 8 = 4))
  else if sh = 3 then regX rd && decide (rs = 0)
  else if sh = 4 then regX rd && (decide (rs = 0) && decide (n = 0))
  else if sh = 7 then regX rd && (decide (rs = 0) && condX n)
  else if sh = 8 ∨ sh = 9 then decide (rd = 0) && decide (rs = 0)
  else if sh = 10 ∨ sh = 11 then condX rd && decide (rs = 0)
  else decide (rd = 0) && (decide (rs = 0) && decide (n = 0))
def longX (sh : Int) (im : Bool) : Nat := if sh = 3 then 8 else if sh = 2 ∨ sh = 8 ∨ sh = 10 then 4 else if sh = 9 ∨ sh = 11 then 1 else bif im then 4 else 0
def fitsX (k : Nat) (n : Int) : Bool := if k = 4 then decide (-2147483648 ≤ n) && decide (n ≤ 2147483647) else if k = 1 then decide (-128 ≤ n) && decide (n ≤ 127) else true

def shX (op : Int) : Int := nth shapes 0 (op - 1).toNat
def imX (op : Int) : Bool := nth imms false (op - 1).toNat
def wX (op : Int) : Int := nth ws 0 (op - 1).toNat
def errX (op w rd rs n : Int) : Int :=
  bif decide (op < 1) || decide (46 < op) then 1
  else bif (decide (w = 4) || decide (w = 8)) && ((decide (wX op = 0) || decide (w = wX op)) && namedX (shX op) (imX op) rd rs n) then
    (bif fitsX (longX (shX op) (imX op)) n || decide (shX op = 7) then 0 else 10)
  else 1

def codeL (op : Int) : List Int := (nth codes .empty (op - 1).toNat).toList.map fun b => (b.toNat : Int)
/-- the last one has something added -/
def lastL : List Int → Int → List Int
  | [], _ => []
  | [a], k => [a + k]
  | a :: l, k => a :: lastL l k
def tailL (n : Int) (k : Nat) : List Int := (List.range k).map (bat n)
def encL (op w rd rs n : Int) : List Int :=
  let c := codeL op
  let t := tailL n (longX (shX op) (imX op))
  if shX op = 0 then (bif nth turns false (op - 1).toNat then rexI w rd rs :: (c ++ (modI 192 rd rs :: t)) else rexI w rs rd :: (c ++ (modI 192 rs rd :: t)))
  else if shX op = 1 then rexI w 0 rd :: (c ++ (modI 192 (nth mids 0 (op - 1).toNat) rd :: t))
  else if shX op = 2 then (bif nth aheads false (op - 1).toNat then [102] else []) ++ (rexI w rd rs :: (c ++ (modI 128 rd rs :: t)))
  else if shX op = 3 ∨ shX op = 4 then rexI w 0 rd :: (lastL c (rd % 8) ++ t)
  else if shX op = 6 then rexI w 0 0 :: (c ++ t)
  else if shX op = 7 then rexI w 0 rd :: (lastL c n ++ (modI 192 0 rd :: t))
  else if shX op = 10 ∨ shX op = 11 then lastL c rd ++ t
  else c ++ t
def strX (op w rd rs n : Int) : ByteArray := bif errX op w rd rs n == 0 then S (encL op w rd rs n) else .empty

/-- x86.Encode -/
def g7 : List SV → Heap → Option R := fun a H => match a, H with
  | [.agg [.int false .i64 op, .int false .i64 w, .int false .i64 rd, .int false .i64 rs, .int false .i64 n]], [] => some ⟨[], .tup [.str (strX op w rd rs n), .int false .i64 (errX op w rd rs n)], []⟩
  | _, _ => none

theorem givesE {l1 : Bool} {s s' : ByteArray} {b b' : Int} (h1 : s = s') (h2 : b = b') : (Lf.ret (.tup [.str s, .int l1 .i64 b]) []).gives (.tup [.str s', .int false .i64 b']) := by
  subst h1; subst h2
  intro σ σ'
  simp only [den, denL]

theorem strX_bad {op w rd rs n e : Int} (h : errX op w rd rs n = e) (he : e ≠ 0) : ByteArray.mk #[] = strX op w rd rs n := by
  have : (errX op w rd rs n == 0) = false := by rw [h]; exact beq_eq_false_iff_ne.2 he
  unfold strX; rw [this]; rfl
theorem strX_ok {op w rd rs n : Int} (h : errX op w rd rs n = 0) : strX op w rd rs n = S (encL op w rd rs n) := by
  have : (errX op w rd rs n == 0) = true := by rw [h]; rfl
  unfold strX; rw [this]; rfl

instance (x : Int) : Decidable (small x) := inferInstanceAs (Decidable (_ ∧ _))
theorem addReg_all : ((List.range 16).all fun i => [(184 : Int), 80, 88].all fun c => ar .add .u8 c (conv .u8 (ar .and .i64 (Int.ofNat i) 7)) == c + (Int.ofNat i) % 8) = true := by kernel_rfl
theorem addReg {c x : Int} (hc : c ∈ [(184 : Int), 80, 88]) (hx : small x) : ar .add .u8 c (conv .u8 (ar .and .i64 x 7)) = c + x % 8 := by
  obtain ⟨i, hi, rfl⟩ := small_nat hx
  simpa using List.all_eq_true.1 (List.all_eq_true.1 addReg_all i (List.mem_range.2 hi)) c hc
theorem addCond_all : ((List.range 16).all fun i => [(144 : Int), 128, 112].all fun c => ar .add .u8 c (conv .u8 (Int.ofNat i)) == c + Int.ofNat i) = true := by kernel_rfl
theorem addCond {c x : Int} (hc : c ∈ [(144 : Int), 128, 112]) (hx : small x) : ar .add .u8 c (conv .u8 x) = c + x := by
  obtain ⟨i, hi, rfl⟩ := small_nat hx
  simpa using List.all_eq_true.1 (List.all_eq_true.1 addCond_all i (List.mem_range.2 hi)) c hc

/-- how comparisons are read -/
theorem cms : (∀ a b, cm .eql a b = decide (a = b)) ∧ (∀ a b, cm .neq a b = !decide (a = b)) ∧ (∀ a b, cm .lss a b = decide (a < b)) ∧ (∀ a b, cm .leq a b = decide (a ≤ b)) ∧ (∀ a b, cm .gtr a b = decide (b < a)) ∧ (∀ a b, cm .geq a b = decide (b ≤ a)) ∧
    (∀ n, regX n = (decide (0 ≤ n) && decide (n < 16))) ∧ (∀ n, condX n = ((decide (2 ≤ n) && decide (n ≤ 7)) || (decide (12 ≤ n) && decide (n ≤ 15)))) ∧ ∀ n, ar .and .i64 n 7 = n % 8 :=
  ⟨cm_eql', cm_neq', cm_lss', cm_leq', cm_gtr', cm_geq', fun _ => rfl, fun _ => rfl, and7⟩

end Go.X
end

section
set_option linter.unusedVariables false
open Go Go.Ev Go.Proofs
namespace Go.X

theorem t7_1 (w : Int) (rd : Int) (rs : Int) (n : Int) : (T7 1 w rd rs n).bare =
    (bif (bif cm .neq w 4 then bif cm .neq w 8 then true else !bif bif cm .geq rd 0 then cm .lss rd 16 else false then bif bif cm .geq rs 0 then cm .lss rs 16 else false then cm .eql n 0 else false else false else !bif bif cm .geq rd 0 then cm .lss rd 16 else false then bif bif cm .geq rs 0 then cm .lss rs 16 else false then cm .eql n 0 else false else false) then
 .ret (.tup [.str ⟨#[]⟩, .int true .i64 1]) []
 else
 bif (bif cm .eql w 8 then allB [decide (0 ≤ 3), decide (0 ≤ 2), decide (0 ≤ 3)] else allB [decide (0 ≤ 3), decide (0 ≤ 2), decide (0 ≤ 3)]) then
 .ret (.tup [(.str (strOf (cat (1 + (ByteArray.mk #[137]).size + 1) (cat (1 + (ByteArray.mk #[137]).size) (cat 1 (nth [bif cm .eql w 8 then ar .or .u8 (ar .or .u8 (ar .or .u8 64 8) (ar .shl .u8 (conv .u8 (ar .shr .i64 rs 3)) 2)) (conv .u8 (ar .shr .i64 rd 3)) else ar .or .u8 (ar .or .u8 64 (ar .shl .u8 (conv .u8 (ar .shr .i64 rs 3)) 2)) (conv .u8 (ar .shr .i64 rd 3))] 0) (chr (ByteArray.mk #[137]))) (nth [ar .or .u8 (ar .or .u8 192 (ar .shl .u8 (conv .u8 (ar .and .i64 rs 7)) 3)) (conv .u8 (ar .and .i64 rd 7))] 0)) (bat n)) (1 + (ByteArray.mk #[137]).size + 1 + Int.toNat 0))), .int true .i64 0]) []
 else .bad) := by kernel_rfl

theorem t7_2 (w : Int) (rd : Int) (rs : Int) (n : Int) : (T7 2 w rd rs n).bare =
    (bif (bif cm .neq w 4 then bif cm .neq w 8 then true else bif cm .neq w 8 then true else !bif bif cm .geq rd 0 then cm .lss rd 16 else false then bif cm .eql rs 0 then true else false else false else bif cm .neq w 8 then true else !bif bif cm .geq rd 0 then cm .lss rd 16 else false then bif cm .eql rs 0 then true else false else false) then
 .ret (.tup [.str ⟨#[]⟩, .int true .i64 1]) []
 else
 bif (bif !bif cm .geq n (-2147483648) then cm .leq n 2147483647 else false then cm .neq 1 7 else false) then
 .ret (.tup [.str ⟨#[]⟩, .int true .i64 10]) []
 else
 bif (bif cm .eql w 8 then allB [decide (0 ≤ 3), decide (0 ≤ 2), decide (0 ≤ 3)] else allB [decide (0 ≤ 3), decide (0 ≤ 2), decide (0 ≤ 3)]) then
 .ret (.tup [(.str (strOf (cat (1 + (ByteArray.mk #[199]).size + 1) (cat (1 + (ByteArray.mk #[199]).size) (cat 1 (nth [bif cm .eql w 8 then ar .or .u8 (ar .or .u8 (ar .or .u8 64 8) (ar .shl .u8 (conv .u8 (ar .shr .i64 0 3)) 2)) (conv .u8 (ar .shr .i64 rd 3)) else ar .or .u8 (ar .or .u8 64 (ar .shl .u8 (conv .u8 (ar .shr .i64 0 3)) 2)) (conv .u8 (ar .shr .i64 rd 3))] 0) (chr (ByteArray.mk #[199]))) (nth [ar .or .u8 (ar .or .u8 192 (ar .shl .u8 (conv .u8 (ar .and .i64 0 7)) 3)) (conv .u8 (ar .and .i64 rd 7))] 0)) (bat n)) (1 + (ByteArray.mk #[199]).size + 1 + Int.toNat 4))), .int true .i64 0]) []
 else .bad) := by kernel_rfl

theorem t7_3 (w : Int) (rd : Int) (rs : Int) (n : Int) : (T7 3 w rd rs n).bare =
    (bif (bif cm .neq w 4 then bif cm .neq w 8 then true else bif cm .neq w 8 then true else !bif bif cm .geq rd 0 then cm .lss rd 16 else false then cm .eql rs 0 else false else bif cm .neq w 8 then true else !bif bif cm .geq rd 0 then cm .lss rd 16 else false then cm .eql rs 0 else false) then
 .ret (.tup [.str ⟨#[]⟩, .int true .i64 1]) []
 else
 bif (bif cm .eql w 8 then allB [decide (0 ≤ 3), decide (0 ≤ 2), decide (0 ≤ 3)] else allB [decide (0 ≤ 3), decide (0 ≤ 2), decide (0 ≤ 3)]) then
 .ret (.tup [(.str (strOf (cat (1 + (ByteArray.mk #[184]).size) (cat 1 (nth [bif cm .eql w 8 then ar .or .u8 (ar .or .u8 (ar .or .u8 64 8) (ar .shl .u8 (conv .u8 (ar .shr .i64 0 3)) 2)) (conv .u8 (ar .shr .i64 rd 3)) else ar .or .u8 (ar .or .u8 64 (ar .shl .u8 (conv .u8 (ar .shr .i64 0 3)) 2)) (conv .u8 (ar .shr .i64 rd 3))] 0) (upd (chr (ByteArray.mk #[184])) (ar .sub .i64 (↑(ByteArray.mk #[184]).size) 1).toNat (ar .add .u8 (chr (ByteArray.mk #[184]) (ar .sub .i64 (↑(ByteArray.mk #[184]).size) 1).toNat) (conv .u8 (ar .and .i64 rd 7))))) (bat n)) (1 + (ByteArray.mk #[184]).size + Int.toNat 8))), .int true .i64 0]) []
 else .bad) := by kernel_rfl

theorem t7_4 (w : Int) (rd : Int) (rs : Int) (n : Int) : (T7 4 w rd rs n).bare =
    (bif (bif cm .neq w 4 then bif cm .neq w 8 then true else !bif bif cm .geq rd 0 then cm .lss rd 16 else false then bif bif cm .geq rs 0 then cm .lss rs 16 else false then cm .eql n 0 else false else false else !bif bif cm .geq rd 0 then cm .lss rd 16 else false then bif bif cm .geq rs 0 then cm .lss rs 16 else false then cm .eql n 0 else false else false) then
 .ret (.tup [.str ⟨#[]⟩, .int true .i64 1]) []
 else
 bif (bif cm .eql w 8 then allB [decide (0 ≤ 3), decide (0 ≤ 2), decide (0 ≤ 3)] else allB [decide (0 ≤ 3), decide (0 ≤ 2), decide (0 ≤ 3)]) then
 .ret (.tup [(.str (strOf (cat (1 + (ByteArray.mk #[1]).size + 1) (cat (1 + (ByteArray.mk #[1]).size) (cat 1 (nth [bif cm .eql w 8 then ar .or .u8 (ar .or .u8 (ar .or .u8 64 8) (ar .shl .u8 (conv .u8 (ar .shr .i64 rs 3)) 2)) (conv .u8 (ar .shr .i64 rd 3)) else ar .or .u8 (ar .or .u8 64 (ar .shl .u8 (conv .u8 (ar .shr .i64 rs 3)) 2)) (conv .u8 (ar .shr .i64 rd 3))] 0) (chr (ByteArray.mk #[1]))) (nth [ar .or .u8 (ar .or .u8 192 (ar .shl .u8 (conv .u8 (ar .and .i64 rs 7)) 3)) (conv .u8 (ar .and .i64 rd 7))] 0)) (bat n)) (1 + (ByteArray.mk #[1]).size + 1 + Int.toNat 0))), .int true .i64 0]) []
 else .bad) := by kernel_rfl

theorem t7_5 (w : Int) (rd : Int) (rs : Int) (n : Int) : (T7 5 w rd rs n).bare =
    (bif (bif cm .neq w 4 then bif cm .neq w 8 then true else !bif bif cm .geq rd 0 then cm .lss rd 16 else false then bif bif cm .geq rs 0 then cm .lss rs 16 else false then cm .eql n 0 else false else false else !bif bif cm .geq rd 0 then cm .lss rd 16 else false then bif bif cm .geq rs 0 then cm .lss rs 16 else false then cm .eql n 0 else false else false) then
 .ret (.tup [.str ⟨#[]⟩, .int true .i64 1]) []
 else
 bif (bif cm .eql w 8 then allB [decide (0 ≤ 3), decide (0 ≤ 2), decide (0 ≤ 3)] else allB [decide (0 ≤ 3), decide (0 ≤ 2), decide (0 ≤ 3)]) then
 .ret (.tup [(.str (strOf (cat (1 + (ByteArray.mk #[41]).size + 1) (cat (1 + (ByteArray.mk #[41]).size) (cat 1 (nth [bif cm .eql w 8 then ar .or .u8 (ar .or .u8 (ar .or .u8 64 8) (ar .shl .u8 (conv .u8 (ar .shr .i64 rs 3)) 2)) (conv .u8 (ar .shr .i64 rd 3)) else ar .or .u8 (ar .or .u8 64 (ar .shl .u8 (conv .u8 (ar .shr .i64 rs 3)) 2)) (conv .u8 (ar .shr .i64 rd 3))] 0) (chr (ByteArray.mk #[41]))) (nth [ar .or .u8 (ar .or .u8 192 (ar .shl .u8 (conv .u8 (ar .and .i64 rs 7)) 3)) (conv .u8 (ar .and .i64 rd 7))] 0)) (bat n)) (1 + (ByteArray.mk #[41]).size + 1 + Int.toNat 0))), .int true .i64 0]) []
 else .bad) := by kernel_rfl

theorem t7_6 (w : Int) (rd : Int) (rs : Int) (n : Int) : (T7 6 w rd rs n).bare =
    (bif (bif cm .neq w 4 then bif cm .neq w 8 then true else !bif bif cm .geq rd 0 then cm .lss rd 16 else false then bif bif cm .geq rs 0 then cm .lss rs 16 else false then cm .eql n 0 else false else false else !bif bif cm .geq rd 0 then cm .lss rd 16 else false then bif bif cm .geq rs 0 then cm .lss rs 16 else false then cm .eql n 0 else false else false) then
 .ret (.tup [.str ⟨#[]⟩, .int true .i64 1]) []
 else
 bif (bif cm .eql w 8 then allB [decide (0 ≤ 3), decide (0 ≤ 2), decide (0 ≤ 3)] else allB [decide (0 ≤ 3), decide (0 ≤ 2), decide (0 ≤ 3)]) then
 .ret (.tup [(.str (strOf (cat (1 + (ByteArray.mk #[33]).size + 1) (cat (1 + (ByteArray.mk #[33]).size) (cat 1 (nth [bif cm .eql w 8 then ar .or .u8 (ar .or .u8 (ar .or .u8 64 8) (ar .shl .u8 (conv .u8 (ar .shr .i64 rs 3)) 2)) (conv .u8 (ar .shr .i64 rd 3)) else ar .or .u8 (ar .or .u8 64 (ar .shl .u8 (conv .u8 (ar .shr .i64 rs 3)) 2)) (conv .u8 (ar .shr .i64 rd 3))] 0) (chr (ByteArray.mk #[33]))) (nth [ar .or .u8 (ar .or .u8 192 (ar .shl .u8 (conv .u8 (ar .and .i64 rs 7)) 3)) (conv .u8 (ar .and .i64 rd 7))] 0)) (bat n)) (1 + (ByteArray.mk #[33]).size + 1 + Int.toNat 0))), .int true .i64 0]) []
 else .bad) := by kernel_rfl

theorem t7_7 (w : Int) (rd : Int) (rs : Int) (n : Int) : (T7 7 w rd rs n).bare =
    (bif (bif cm .neq w 4 then bif cm .neq w 8 then true else !bif bif cm .geq rd 0 then cm .lss rd 16 else false then bif bif cm .geq rs 0 then cm .lss rs 16 else false then cm .eql n 0 else false else false else !bif bif cm .geq rd 0 then cm .lss rd 16 else false then bif bif cm .geq rs 0 then cm .lss rs 16 else false then cm .eql n 0 else false else false) then
 .ret (.tup [.str ⟨#[]⟩, .int true .i64 1]) []
 else
 bif (bif cm .eql w 8 then allB [decide (0 ≤ 3), decide (0 ≤ 2), decide (0 ≤ 3)] else allB [decide (0 ≤ 3), decide (0 ≤ 2), decide (0 ≤ 3)]) then
 .ret (.tup [(.str (strOf (cat (1 + (ByteArray.mk #[9]).size + 1) (cat (1 + (ByteArray.mk #[9]).size) (cat 1 (nth [bif cm .eql w 8 then ar .or .u8 (ar .or .u8 (ar .or .u8 64 8) (ar .shl .u8 (conv .u8 (ar .shr .i64 rs 3)) 2)) (conv .u8 (ar .shr .i64 rd 3)) else ar .or .u8 (ar .or .u8 64 (ar .shl .u8 (conv .u8 (ar .shr .i64 rs 3)) 2)) (conv .u8 (ar .shr .i64 rd 3))] 0) (chr (ByteArray.mk #[9]))) (nth [ar .or .u8 (ar .or .u8 192 (ar .shl .u8 (conv .u8 (ar .and .i64 rs 7)) 3)) (conv .u8 (ar .and .i64 rd 7))] 0)) (bat n)) (1 + (ByteArray.mk #[9]).size + 1 + Int.toNat 0))), .int true .i64 0]) []
 else .bad) := by kernel_rfl

theorem t7_8 (w : Int) (rd : Int) (rs : Int) (n : Int) : (T7 8 w rd rs n).bare =
    (bif (bif cm .neq w 4 then bif cm .neq w 8 then true else !bif bif cm .geq rd 0 then cm .lss rd 16 else false then bif bif cm .geq rs 0 then cm .lss rs 16 else false then cm .eql n 0 else false else false else !bif bif cm .geq rd 0 then cm .lss rd 16 else false then bif bif cm .geq rs 0 then cm .lss rs 16 else false then cm .eql n 0 else false else false) then
 .ret (.tup [.str ⟨#[]⟩, .int true .i64 1]) []
 else
 bif (bif cm .eql w 8 then allB [decide (0 ≤ 3), decide (0 ≤ 2), decide (0 ≤ 3)] else allB [decide (0 ≤ 3), decide (0 ≤ 2), decide (0 ≤ 3)]) then
 .ret (.tup [(.str (strOf (cat (1 + (ByteArray.mk #[49]).size + 1) (cat (1 + (ByteArray.mk #[49]).size) (cat 1 (nth [bif cm .eql w 8 then ar .or .u8 (ar .or .u8 (ar .or .u8 64 8) (ar .shl .u8 (conv .u8 (ar .shr .i64 rs 3)) 2)) (conv .u8 (ar .shr .i64 rd 3)) else ar .or .u8 (ar .or .u8 64 (ar .shl .u8 (conv .u8 (ar .shr .i64 rs 3)) 2)) (conv .u8 (ar .shr .i64 rd 3))] 0) (chr (ByteArray.mk #[49]))) (nth [ar .or .u8 (ar .or .u8 192 (ar .shl .u8 (conv .u8 (ar .and .i64 rs 7)) 3)) (conv .u8 (ar .and .i64 rd 7))] 0)) (bat n)) (1 + (ByteArray.mk #[49]).size + 1 + Int.toNat 0))), .int true .i64 0]) []
 else .bad) := by kernel_rfl

theorem t7_9 (w : Int) (rd : Int) (rs : Int) (n : Int) : (T7 9 w rd rs n).bare =
    (bif (bif cm .neq w 4 then bif cm .neq w 8 then true else !bif bif cm .geq rd 0 then cm .lss rd 16 else false then bif bif cm .geq rs 0 then cm .lss rs 16 else false then cm .eql n 0 else false else false else !bif bif cm .geq rd 0 then cm .lss rd 16 else false then bif bif cm .geq rs 0 then cm .lss rs 16 else false then cm .eql n 0 else false else false) then
 .ret (.tup [.str ⟨#[]⟩, .int true .i64 1]) []
 else
 bif (bif cm .eql w 8 then allB [decide (0 ≤ 3), decide (0 ≤ 2), decide (0 ≤ 3)] else allB [decide (0 ≤ 3), decide (0 ≤ 2), decide (0 ≤ 3)]) then
 .ret (.tup [(.str (strOf (cat (1 + (ByteArray.mk #[57]).size + 1) (cat (1 + (ByteArray.mk #[57]).size) (cat 1 (nth [bif cm .eql w 8 then ar .or .u8 (ar .or .u8 (ar .or .u8 64 8) (ar .shl .u8 (conv .u8 (ar .shr .i64 rs 3)) 2)) (conv .u8 (ar .shr .i64 rd 3)) else ar .or .u8 (ar .or .u8 64 (ar .shl .u8 (conv .u8 (ar .shr .i64 rs 3)) 2)) (conv .u8 (ar .shr .i64 rd 3))] 0) (chr (ByteArray.mk #[57]))) (nth [ar .or .u8 (ar .or .u8 192 (ar .shl .u8 (conv .u8 (ar .and .i64 rs 7)) 3)) (conv .u8 (ar .and .i64 rd 7))] 0)) (bat n)) (1 + (ByteArray.mk #[57]).size + 1 + Int.toNat 0))), .int true .i64 0]) []
 else .bad) := by kernel_rfl

theorem t7_10 (w : Int) (rd : Int) (rs : Int) (n : Int) : (T7 10 w rd rs n).bare =
    (bif (bif cm .neq w 4 then bif cm .neq w 8 then true else !bif bif cm .geq rd 0 then cm .lss rd 16 else false then bif bif cm .geq rs 0 then cm .lss rs 16 else false then cm .eql n 0 else false else false else !bif bif cm .geq rd 0 then cm .lss rd 16 else false then bif bif cm .geq rs 0 then cm .lss rs 16 else false then cm .eql n 0 else false else false) then
 .ret (.tup [.str ⟨#[]⟩, .int true .i64 1]) []
 else
 bif (bif cm .eql w 8 then allB [decide (0 ≤ 3), decide (0 ≤ 2), decide (0 ≤ 3)] else allB [decide (0 ≤ 3), decide (0 ≤ 2), decide (0 ≤ 3)]) then
 .ret (.tup [(.str (strOf (cat (1 + (ByteArray.mk #[15, 175]).size + 1) (cat (1 + (ByteArray.mk #[15, 175]).size) (cat 1 (nth [bif cm .eql w 8 then ar .or .u8 (ar .or .u8 (ar .or .u8 64 8) (ar .shl .u8 (conv .u8 (ar .shr .i64 rd 3)) 2)) (conv .u8 (ar .shr .i64 rs 3)) else ar .or .u8 (ar .or .u8 64 (ar .shl .u8 (conv .u8 (ar .shr .i64 rd 3)) 2)) (conv .u8 (ar .shr .i64 rs 3))] 0) (chr (ByteArray.mk #[15, 175]))) (nth [ar .or .u8 (ar .or .u8 192 (ar .shl .u8 (conv .u8 (ar .and .i64 rd 7)) 3)) (conv .u8 (ar .and .i64 rs 7))] 0)) (bat n)) (1 + (ByteArray.mk #[15, 175]).size + 1 + Int.toNat 0))), .int true .i64 0]) []
 else .bad) := by kernel_rfl

theorem t7_11 (w : Int) (rd : Int) (rs : Int) (n : Int) : (T7 11 w rd rs n).bare =
    (bif (bif cm .neq w 4 then bif cm .neq w 8 then true else !bif bif cm .geq rd 0 then cm .lss rd 16 else false then bif cm .eql rs 0 then cm .eql n 0 else false else false else !bif bif cm .geq rd 0 then cm .lss rd 16 else false then bif cm .eql rs 0 then cm .eql n 0 else false else false) then
 .ret (.tup [.str ⟨#[]⟩, .int true .i64 1]) []
 else
 bif (bif cm .eql w 8 then allB [decide (0 ≤ 3), decide (0 ≤ 2), decide (0 ≤ 3)] else allB [decide (0 ≤ 3), decide (0 ≤ 2), decide (0 ≤ 3)]) then
 .ret (.tup [(.str (strOf (cat (1 + (ByteArray.mk #[247]).size + 1) (cat (1 + (ByteArray.mk #[247]).size) (cat 1 (nth [bif cm .eql w 8 then ar .or .u8 (ar .or .u8 (ar .or .u8 64 8) (ar .shl .u8 (conv .u8 (ar .shr .i64 3 3)) 2)) (conv .u8 (ar .shr .i64 rd 3)) else ar .or .u8 (ar .or .u8 64 (ar .shl .u8 (conv .u8 (ar .shr .i64 3 3)) 2)) (conv .u8 (ar .shr .i64 rd 3))] 0) (chr (ByteArray.mk #[247]))) (nth [ar .or .u8 (ar .or .u8 192 (ar .shl .u8 (conv .u8 (ar .and .i64 3 7)) 3)) (conv .u8 (ar .and .i64 rd 7))] 0)) (bat n)) (1 + (ByteArray.mk #[247]).size + 1 + Int.toNat 0))), .int true .i64 0]) []
 else .bad) := by kernel_rfl

theorem t7_12 (w : Int) (rd : Int) (rs : Int) (n : Int) : (T7 12 w rd rs n).bare =
    (bif (bif cm .neq w 4 then bif cm .neq w 8 then true else !bif bif cm .geq rd 0 then cm .lss rd 16 else false then bif cm .eql rs 0 then cm .eql n 0 else false else false else !bif bif cm .geq rd 0 then cm .lss rd 16 else false then bif cm .eql rs 0 then cm .eql n 0 else false else false) then
 .ret (.tup [.str ⟨#[]⟩, .int true .i64 1]) []
 else
 bif (bif cm .eql w 8 then allB [decide (0 ≤ 3), decide (0 ≤ 2), decide (0 ≤ 3)] else allB [decide (0 ≤ 3), decide (0 ≤ 2), decide (0 ≤ 3)]) then
 .ret (.tup [(.str (strOf (cat (1 + (ByteArray.mk #[247]).size + 1) (cat (1 + (ByteArray.mk #[247]).size) (cat 1 (nth [bif cm .eql w 8 then ar .or .u8 (ar .or .u8 (ar .or .u8 64 8) (ar .shl .u8 (conv .u8 (ar .shr .i64 2 3)) 2)) (conv .u8 (ar .shr .i64 rd 3)) else ar .or .u8 (ar .or .u8 64 (ar .shl .u8 (conv .u8 (ar .shr .i64 2 3)) 2)) (conv .u8 (ar .shr .i64 rd 3))] 0) (chr (ByteArray.mk #[247]))) (nth [ar .or .u8 (ar .or .u8 192 (ar .shl .u8 (conv .u8 (ar .and .i64 2 7)) 3)) (conv .u8 (ar .and .i64 rd 7))] 0)) (bat n)) (1 + (ByteArray.mk #[247]).size + 1 + Int.toNat 0))), .int true .i64 0]) []
 else .bad) := by kernel_rfl

end Go.X
end

section
set_option linter.unusedVariables false
open Go Go.Ev Go.Proofs
namespace Go.X

attribute [local irreducible] evalF Lf.gives in
theorem enc7_1 (w rd rs n : Int) : (T7 1 w rd rs n).leaf.gives (.tup [.str (strX 1 w rd rs n), .int false .i64 (errX 1 w rd rs n)]) := by
  have hE : errX 1 w rd rs n = (bif (decide (w = 4) || decide (w = 8)) && ((true || decide (w = 0)) && (regX rd && (regX rs && decide (n = 0)))) then (bif ((true) || false) then 0 else 10) else 1) := by kernel_rfl
  refine gives_tree (t7_1 w rd rs n) ?_
  refine gives_cond (fun h1 => ?_) (fun h1 => ?_)
  · have hA : ((decide (w = 4) || decide (w = 8)) && ((true || decide (w = 0)) && (regX rd && (regX rs && decide (n = 0))))) = false := by
      simp [cms] at h1 ⊢
      first | done | omega | (split at h1 <;> omega) | ((repeat' split at h1) <;> omega) | skip
    have he : errX 1 w rd rs n = 1 := by rw [hE, hA]; rfl
    exact givesE (strX_bad he (by decide)) he.symm
  · have hA : ((decide (w = 4) || decide (w = 8)) && ((true || decide (w = 0)) && (regX rd && (regX rs && decide (n = 0))))) = true := by
      simp [cms] at h1 ⊢
      first | done | omega | (split at h1 <;> omega) | ((repeat' split at h1) <;> omega) | skip
    have he : errX 1 w rd rs n = 0 := by rw [hE, hA]; rfl
    refine gives_cond (fun _ => ?_) (fun h3 => ?_)
    case refine_2 => exfalso; revert h3; cases cm .eql w 8 <;> simp [allB]
    have hrd : small rd := by simp [regX] at hA; simp only [small]; omega
    have hrs : small rs := by simp [regX] at hA; simp only [small]; omega
    have hw : w = 4 ∨ w = 8 := by simp at hA; omega
    refine givesE ?_ he.symm
    rw [strX_ok he, strOf_S]
    exact congrArg S (Eq.trans (b := [rexA w rs rd, 137, modA 192 rs rd]) (by kernel_rfl) (Eq.trans (b := [rexI w rs rd, 137, modI 192 rs rd]) (by rw [rexA_eq hw hrs hrd, modA_eq (.inl rfl) hrs hrd]) (by kernel_rfl)))

attribute [local irreducible] evalF Lf.gives in
theorem enc7_2 (w rd rs n : Int) : (T7 2 w rd rs n).leaf.gives (.tup [.str (strX 2 w rd rs n), .int false .i64 (errX 2 w rd rs n)]) := by
  have hE : errX 2 w rd rs n = (bif (decide (w = 4) || decide (w = 8)) && ((false || decide (w = 8)) && (regX rd && (decide (rs = 0) && (true || decide (n = 0))))) then (bif ((decide (-2147483648 ≤ n) && decide (n ≤ 2147483647)) || false) then 0 else 10) else 1) := by kernel_rfl
  refine gives_tree (t7_2 w rd rs n) ?_
  refine gives_cond (fun h1 => ?_) (fun h1 => ?_)
  · have hA : ((decide (w = 4) || decide (w = 8)) && ((false || decide (w = 8)) && (regX rd && (decide (rs = 0) && (true || decide (n = 0)))))) = false := by
      simp [cms] at h1 ⊢
      first | done | omega | (split at h1 <;> omega) | ((repeat' split at h1) <;> omega) | skip
    have he : errX 2 w rd rs n = 1 := by rw [hE, hA]; rfl
    exact givesE (strX_bad he (by decide)) he.symm
  · have hA : ((decide (w = 4) || decide (w = 8)) && ((false || decide (w = 8)) && (regX rd && (decide (rs = 0) && (true || decide (n = 0)))))) = true := by
      simp [cms] at h1 ⊢
      first | done | omega | (split at h1 <;> omega) | ((repeat' split at h1) <;> omega) | skip
    refine gives_cond (fun h2 => ?_) (fun h2 => ?_)
    · have hF : ((decide (-2147483648 ≤ n) && decide (n ≤ 2147483647)) || false) = false := by
        simp [cms] at h2 ⊢
        first | done | omega | skip
      have he : errX 2 w rd rs n = 10 := by rw [hE, hA, hF]; rfl
      exact givesE (strX_bad he (by decide)) he.symm
    · have hF : ((decide (-2147483648 ≤ n) && decide (n ≤ 2147483647)) || false) = true := by
        simp [cms] at h2 ⊢
        first | done | omega | skip
      have he : errX 2 w rd rs n = 0 := by rw [hE, hA, hF]; rfl
      refine gives_cond (fun _ => ?_) (fun h3 => ?_)
      case refine_2 => exfalso; revert h3; cases cm .eql w 8 <;> simp [allB]
      have hrd : small rd := by simp [regX] at hA; simp only [small]; omega
      have hw : w = 4 ∨ w = 8 := by simp at hA; omega
      refine givesE ?_ he.symm
      rw [strX_ok he, strOf_S]
      exact congrArg S (Eq.trans (b := [rexA w 0 rd, 199, modA 192 0 rd, bat n 0, bat n 1, bat n 2, bat n 3]) (by kernel_rfl) (Eq.trans (b := [rexI w 0 rd, 199, modI 192 0 rd, bat n 0, bat n 1, bat n 2, bat n 3]) (by rw [rexA_eq hw (by decide : small 0) hrd, modA_eq (.inl rfl) (by decide : small 0) hrd] <;> rfl) (by kernel_rfl)))

attribute [local irreducible] evalF Lf.gives in
theorem enc7_3 (w rd rs n : Int) : (T7 3 w rd rs n).leaf.gives (.tup [.str (strX 3 w rd rs n), .int false .i64 (errX 3 w rd rs n)]) := by
  have hE : errX 3 w rd rs n = (bif (decide (w = 4) || decide (w = 8)) && ((false || decide (w = 8)) && (regX rd && decide (rs = 0))) then (bif ((true) || false) then 0 else 10) else 1) := by kernel_rfl
  refine gives_tree (t7_3 w rd rs n) ?_
  refine gives_cond (fun h1 => ?_) (fun h1 => ?_)
  · have hA : ((decide (w = 4) || decide (w = 8)) && ((false || decide (w = 8)) && (regX rd && decide (rs = 0)))) = false := by
      simp [cms] at h1 ⊢
      first | done | omega | (split at h1 <;> omega) | ((repeat' split at h1) <;> omega) | skip
    have he : errX 3 w rd rs n = 1 := by rw [hE, hA]; rfl
    exact givesE (strX_bad he (by decide)) he.symm
  · have hA : ((decide (w = 4) || decide (w = 8)) && ((false || decide (w = 8)) && (regX rd && decide (rs = 0)))) = true := by
      simp [cms] at h1 ⊢
      first | done | omega | (split at h1 <;> omega) | ((repeat' split at h1) <;> omega) | skip
    have he : errX 3 w rd rs n = 0 := by rw [hE, hA]; rfl
    refine gives_cond (fun _ => ?_) (fun h3 => ?_)
    case refine_2 => exfalso; revert h3; cases cm .eql w 8 <;> simp [allB]
    have hrd : small rd := by simp [regX] at hA; simp only [small]; omega
    have hw : w = 4 ∨ w = 8 := by simp at hA; omega
    refine givesE ?_ he.symm
    rw [strX_ok he, strOf_S]
    exact congrArg S (Eq.trans (b := [rexA w 0 rd, ar .add .u8 184 (conv .u8 (ar .and .i64 rd 7)), bat n 0, bat n 1, bat n 2, bat n 3, bat n 4, bat n 5, bat n 6, bat n 7]) (by kernel_rfl) (Eq.trans (b := [rexI w 0 rd, 184 + rd % 8, bat n 0, bat n 1, bat n 2, bat n 3, bat n 4, bat n 5, bat n 6, bat n 7]) (by rw [rexA_eq hw (by decide : small 0) hrd, addReg (by decide) hrd]) (by kernel_rfl)))

attribute [local irreducible] evalF Lf.gives in
theorem enc7_4 (w rd rs n : Int) : (T7 4 w rd rs n).leaf.gives (.tup [.str (strX 4 w rd rs n), .int false .i64 (errX 4 w rd rs n)]) := by
  have hE : errX 4 w rd rs n = (bif (decide (w = 4) || decide (w = 8)) && ((true || decide (w = 0)) && (regX rd && (regX rs && decide (n = 0)))) then (bif ((true) || false) then 0 else 10) else 1) := by kernel_rfl
  refine gives_tree (t7_4 w rd rs n) ?_
  refine gives_cond (fun h1 => ?_) (fun h1 => ?_)
  · have hA : ((decide (w = 4) || decide (w = 8)) && ((true || decide (w = 0)) && (regX rd && (regX rs && decide (n = 0))))) = false := by
      simp [cms] at h1 ⊢
      first | done | omega | (split at h1 <;> omega) | ((repeat' split at h1) <;> omega) | skip
    have he : errX 4 w rd rs n = 1 := by rw [hE, hA]; rfl
    exact givesE (strX_bad he (by decide)) he.symm
  · have hA : ((decide (w = 4) || decide (w = 8)) && ((true || decide (w = 0)) && (regX rd && (regX rs && decide (n = 0))))) = true := by
      simp [cms] at h1 ⊢
      first | done | omega | (split at h1 <;> omega) | ((repeat' split at h1) <;> omega) | skip
    have he : errX 4 w rd rs n = 0 := by rw [hE, hA]; rfl
    refine gives_cond (fun _ => ?_) (fun h3 => ?_)
    case refine_2 => exfalso; revert h3; cases cm .eql w 8 <;> simp [allB]
    have hrd : small rd := by simp [regX] at hA; simp only [small]; omega
    have hrs : small rs := by simp [regX] at hA; simp only [small]; omega
    have hw : w = 4 ∨ w = 8 := by simp at hA; omega
    refine givesE ?_ he.symm
    rw [strX_ok he, strOf_S]
    exact congrArg S (Eq.trans (b := [rexA w rs rd, 1, modA 192 rs rd]) (by kernel_rfl) (Eq.trans (b := [rexI w rs rd, 1, modI 192 rs rd]) (by rw [rexA_eq hw hrs hrd, modA_eq (.inl rfl) hrs hrd]) (by kernel_rfl)))

attribute [local irreducible] evalF Lf.gives in
theorem enc7_5 (w rd rs n : Int) : (T7 5 w rd rs n).leaf.gives (.tup [.str (strX 5 w rd rs n), .int false .i64 (errX 5 w rd rs n)]) := by
  have hE : errX 5 w rd rs n = (bif (decide (w = 4) || decide (w = 8)) && ((true || decide (w = 0)) && (regX rd && (regX rs && decide (n = 0)))) then (bif ((true) || false) then 0 else 10) else 1) := by kernel_rfl
  refine gives_tree (t7_5 w rd rs n) ?_
  refine gives_cond (fun h1 => ?_) (fun h1 => ?_)
  · have hA : ((decide (w = 4) || decide (w = 8)) && ((true || decide (w = 0)) && (regX rd && (regX rs && decide (n = 0))))) = false := by
      simp [cms] at h1 ⊢
      first | done | omega | (split at h1 <;> omega) | ((repeat' split at h1) <;> omega) | skip
    have he : errX 5 w rd rs n = 1 := by rw [hE, hA]; rfl
    exact givesE (strX_bad he (by decide)) he.symm
  · have hA : ((decide (w = 4) || decide (w = 8)) && ((true || decide (w = 0)) && (regX rd && (regX rs && decide (n = 0))))) = true := by
      simp [cms] at h1 ⊢
      first | done | omega | (split at h1 <;> omega) | ((repeat' split at h1) <;> omega) | skip
    have he : errX 5 w rd rs n = 0 := by rw [hE, hA]; rfl
    refine gives_cond (fun _ => ?_) (fun h3 => ?_)
    case refine_2 => exfalso; revert h3; cases cm .eql w 8 <;> simp [allB]
    have hrd : small rd := by simp [regX] at hA; simp only [small]; omega
    have hrs : small rs := by simp [regX] at hA; simp only [small]; omega
    have hw : w = 4 ∨ w = 8 := by simp at hA; omega
    refine givesE ?_ he.symm
    rw [strX_ok he, strOf_S]
    exact congrArg S (Eq.trans (b := [rexA w rs rd, 41, modA 192 rs rd]) (by kernel_rfl) (Eq.trans (b := [rexI w rs rd, 41, modI 192 rs rd]) (by rw [rexA_eq hw hrs hrd, modA_eq (.inl rfl) hrs hrd]) (by kernel_rfl)))

attribute [local irreducible] evalF Lf.gives in
theorem enc7_6 (w rd rs n : Int) : (T7 6 w rd rs n).leaf.gives (.tup [.str (strX 6 w rd rs n), .int false .i64 (errX 6 w rd rs n)]) := by
  have hE : errX 6 w rd rs n = (bif (decide (w = 4) || decide (w = 8)) && ((true || decide (w = 0)) && (regX rd && (regX rs && decide (n = 0)))) then (bif ((true) || false) then 0 else 10) else 1) := by kernel_rfl
  refine gives_tree (t7_6 w rd rs n) ?_
  refine gives_cond (fun h1 => ?_) (fun h1 => ?_)
  · have hA : ((decide (w = 4) || decide (w = 8)) && ((true || decide (w = 0)) && (regX rd && (regX rs && decide (n = 0))))) = false := by
      simp [cms] at h1 ⊢
      first | done | omega | (split at h1 <;> omega) | ((repeat' split at h1) <;> omega) | skip
    have he : errX 6 w rd rs n = 1 := by rw [hE, hA]; rfl
    exact givesE (strX_bad he (by decide)) he.symm
  · have hA : ((decide (w = 4) || decide (w = 8)) && ((true || decide (w = 0)) && (regX rd && (regX rs && decide (n = 0))))) = true := by
      simp [cms] at h1 ⊢
      first | done | omega | (split at h1 <;> omega) | ((repeat' split at h1) <;> omega) | skip
    have he : errX 6 w rd rs n = 0 := by rw [hE, hA]; rfl
    refine gives_cond (fun _ => ?_) (fun h3 => ?_)
    case refine_2 => exfalso; revert h3; cases cm .eql w 8 <;> simp [allB]
    have hrd : small rd := by simp [regX] at hA; simp only [small]; omega
    have hrs : small rs := by simp [regX] at hA; simp only [small]; omega
    have hw : w = 4 ∨ w = 8 := by simp at hA; omega
    refine givesE ?_ he.symm
    rw [strX_ok he, strOf_S]
    exact congrArg S (Eq.trans (b := [rexA w rs rd, 33, modA 192 rs rd]) (by kernel_rfl) (Eq.trans (b := [rexI w rs rd, 33, modI 192 rs rd]) (by rw [rexA_eq hw hrs hrd, modA_eq (.inl rfl) hrs hrd]) (by kernel_rfl)))

attribute [local irreducible] evalF Lf.gives in
theorem enc7_7 (w rd rs n : Int) : (T7 7 w rd rs n).leaf.gives (.tup [.str (strX 7 w rd rs n), .int false .i64 (errX 7 w rd rs n)]) := by
  have hE : errX 7 w rd rs n = (bif (decide (w = 4) || decide (w = 8)) && ((true || decide (w = 0)) && (regX rd && (regX rs && decide (n = 0)))) then (bif ((true) || false) then 0 else 10) else 1) := by kernel_rfl
  refine gives_tree (t7_7 w rd rs n) ?_
  refine gives_cond (fun h1 => ?_) (fun h1 => ?_)
  · have hA : ((decide (w = 4) || decide (w = 8)) && ((true || decide (w = 0)) && (regX rd && (regX rs && decide (n = 0))))) = false := by
      simp [cms] at h1 ⊢
      first | done | omega | (split at h1 <;> omega) | ((repeat' split at h1) <;> omega) | skip
    have he : errX 7 w rd rs n = 1 := by rw [hE, hA]; rfl
    exact givesE (strX_bad he (by decide)) he.symm
  · have hA : ((decide (w = 4) || decide (w = 8)) && ((true || decide (w = 0)) && (regX rd && (regX rs && decide (n = 0))))) = true := by
      simp [cms] at h1 ⊢
      first | done | omega | (split at h1 <;> omega) | ((repeat' split at h1) <;> omega) | skip
    have he : errX 7 w rd rs n = 0 := by rw [hE, hA]; rfl
    refine gives_cond (fun _ => ?_) (fun h3 => ?_)
    case refine_2 => exfalso; revert h3; cases cm .eql w 8 <;> simp [allB]
    have hrd : small rd := by simp [regX] at hA; simp only [small]; omega
    have hrs : small rs := by simp [regX] at hA; simp only [small]; omega
    have hw : w = 4 ∨ w = 8 := by simp at hA; omega
    refine givesE ?_ he.symm
    rw [strX_ok he, strOf_S]
    exact congrArg S (Eq.trans (b := [rexA w rs rd, 9, modA 192 rs rd]) (by kernel_rfl) (Eq.trans (b := [rexI w rs rd, 9, modI 192 rs rd]) (by rw [rexA_eq hw hrs hrd, modA_eq (.inl rfl) hrs hrd]) (by kernel_rfl)))

attribute [local irreducible] evalF Lf.gives in
theorem enc7_8 (w rd rs n : Int) : (T7 8 w rd rs n).leaf.gives (.tup [.str (strX 8 w rd rs n), .int false .i64 (errX 8 w rd rs n)]) := by
  have hE : errX 8 w rd rs n = (bif (decide (w = 4) || decide (w = 8)) && ((true || decide (w = 0)) && (regX rd && (regX rs && decide (n = 0)))) then (bif ((true) || false) then 0 else 10) else 1) := by kernel_rfl
  refine gives_tree (t7_8 w rd rs n) ?_
  refine gives_cond (fun h1 => ?_) (fun h1 => ?_)
  · have hA : ((decide (w = 4) || decide (w = 8)) && ((true || decide (w = 0)) && (regX rd && (regX rs && decide (n = 0))))) = false := by
      simp [cms] at h1 ⊢
      first | done | omega | (split at h1 <;> omega) | ((repeat' split at h1) <;> omega) | skip
    have he : errX 8 w rd rs n = 1 := by rw [hE, hA]; rfl
    exact givesE (strX_bad he (by decide)) he.symm
  · have hA : ((decide (w = 4) || decide (w = 8)) && ((true || decide (w = 0)) && (regX rd && (regX rs && decide (n = 0))))) = true := by
      simp [cms] at h1 ⊢
      first | done | omega | (split at h1 <;> omega) | ((repeat' split at h1) <;> omega) | skip
    have he : errX 8 w rd rs n = 0 := by rw [hE, hA]; rfl
    refine gives_cond (fun _ => ?_) (fun h3 => ?_)
    case refine_2 => exfalso; revert h3; cases cm .eql w 8 <;> simp [allB]
    have hrd : small rd := by simp [regX] at hA; simp only [small]; omega
    have hrs : small rs := by simp [regX] at hA; simp only [small]; omega
    have hw : w = 4 ∨ w = 8 := by simp at hA; omega
    refine givesE ?_ he.symm
    rw [strX_ok he, strOf_S]
    exact congrArg S (Eq.trans (b := [rexA w rs rd, 49, modA 192 rs rd]) (by kernel_rfl) (Eq.trans (b := [rexI w rs rd, 49, modI 192 rs rd]) (by rw [rexA_eq hw hrs hrd, modA_eq (.inl rfl) hrs hrd]) (by kernel_rfl)))

attribute [local irreducible] evalF Lf.gives in
theorem enc7_9 (w rd rs n : Int) : (T7 9 w rd rs n).leaf.gives (.tup [.str (strX 9 w rd rs n), .int false .i64 (errX 9 w rd rs n)]) := by
  have hE : errX 9 w rd rs n = (bif (decide (w = 4) || decide (w = 8)) && ((true || decide (w = 0)) && (regX rd && (regX rs && decide (n = 0)))) then (bif ((true) || false) then 0 else 10) else 1) := by kernel_rfl
  refine gives_tree (t7_9 w rd rs n) ?_
  refine gives_cond (fun h1 => ?_) (fun h1 => ?_)
  · have hA : ((decide (w = 4) || decide (w = 8)) && ((true || decide (w = 0)) && (regX rd && (regX rs && decide (n = 0))))) = false := by
      simp [cms] at h1 ⊢
      first | done | omega | (split at h1 <;> omega) | ((repeat' split at h1) <;> omega) | skip
    have he : errX 9 w rd rs n = 1 := by rw [hE, hA]; rfl
    exact givesE (strX_bad he (by decide)) he.symm
  · have hA : ((decide (w = 4) || decide (w = 8)) && ((true || decide (w = 0)) && (regX rd && (regX rs && decide (n = 0))))) = true := by
      simp [cms] at h1 ⊢
      first | done | omega | (split at h1 <;> omega) | ((repeat' split at h1) <;> omega) | skip
    have he : errX 9 w rd rs n = 0 := by rw [hE, hA]; rfl
    refine gives_cond (fun _ => ?_) (fun h3 => ?_)
    case refine_2 => exfalso; revert h3; cases cm .eql w 8 <;> simp [allB]
    have hrd : small rd := by simp [regX] at hA; simp only [small]; omega
    have hrs : small rs := by simp [regX] at hA; simp only [small]; omega
    have hw : w = 4 ∨ w = 8 := by simp at hA; omega
    refine givesE ?_ he.symm
    rw [strX_ok he, strOf_S]
    exact congrArg S (Eq.trans (b := [rexA w rs rd, 57, modA 192 rs rd]) (by kernel_rfl) (Eq.trans (b := [rexI w rs rd, 57, modI 192 rs rd]) (by rw [rexA_eq hw hrs hrd, modA_eq (.inl rfl) hrs hrd]) (by kernel_rfl)))

attribute [local irreducible] evalF Lf.gives in
theorem enc7_10 (w rd rs n : Int) : (T7 10 w rd rs n).leaf.gives (.tup [.str (strX 10 w rd rs n), .int false .i64 (errX 10 w rd rs n)]) := by
  have hE : errX 10 w rd rs n = (bif (decide (w = 4) || decide (w = 8)) && ((true || decide (w = 0)) && (regX rd && (regX rs && decide (n = 0)))) then (bif ((true) || false) then 0 else 10) else 1) := by kernel_rfl
  refine gives_tree (t7_10 w rd rs n) ?_
  refine gives_cond (fun h1 => ?_) (fun h1 => ?_)
  · have hA : ((decide (w = 4) || decide (w = 8)) && ((true || decide (w = 0)) && (regX rd && (regX rs && decide (n = 0))))) = false := by
      simp [cms] at h1 ⊢
      first | done | omega | (split at h1 <;> omega) | ((repeat' split at h1) <;> omega) | skip
    have he : errX 10 w rd rs n = 1 := by rw [hE, hA]; rfl
    exact givesE (strX_bad he (by decide)) he.symm
  · have hA : ((decide (w = 4) || decide (w = 8)) && ((true || decide (w = 0)) && (regX rd && (regX rs && decide (n = 0))))) = true := by
      simp [cms] at h1 ⊢
      first | done | omega | (split at h1 <;> omega) | ((repeat' split at h1) <;> omega) | skip
    have he : errX 10 w rd rs n = 0 := by rw [hE, hA]; rfl
    refine gives_cond (fun _ => ?_) (fun h3 => ?_)
    case refine_2 => exfalso; revert h3; cases cm .eql w 8 <;> simp [allB]
    have hrd : small rd := by simp [regX] at hA; simp only [small]; omega
    have hrs : small rs := by simp [regX] at hA; simp only [small]; omega
    have hw : w = 4 ∨ w = 8 := by simp at hA; omega
    refine givesE ?_ he.symm
    rw [strX_ok he, strOf_S]
    exact congrArg S (Eq.trans (b := [rexA w rd rs, 15, 175, modA 192 rd rs]) (by kernel_rfl) (Eq.trans (b := [rexI w rd rs, 15, 175, modI 192 rd rs]) (by rw [rexA_eq hw hrd hrs, modA_eq (.inl rfl) hrd hrs]) (by kernel_rfl)))

attribute [local irreducible] evalF Lf.gives in
theorem enc7_11 (w rd rs n : Int) : (T7 11 w rd rs n).leaf.gives (.tup [.str (strX 11 w rd rs n), .int false .i64 (errX 11 w rd rs n)]) := by
  have hE : errX 11 w rd rs n = (bif (decide (w = 4) || decide (w = 8)) && ((true || decide (w = 0)) && (regX rd && (decide (rs = 0) && (false || decide (n = 0))))) then (bif ((true) || false) then 0 else 10) else 1) := by kernel_rfl
  refine gives_tree (t7_11 w rd rs n) ?_
  refine gives_cond (fun h1 => ?_) (fun h1 => ?_)
  · have hA : ((decide (w = 4) || decide (w = 8)) && ((true || decide (w = 0)) && (regX rd && (decide (rs = 0) && (false || decide (n = 0)))))) = false := by
      simp [cms] at h1 ⊢
      first | done | omega | (split at h1 <;> omega) | ((repeat' split at h1) <;> omega) | skip
    have he : errX 11 w rd rs n = 1 := by rw [hE, hA]; rfl
    exact givesE (strX_bad he (by decide)) he.symm
  · have hA : ((decide (w = 4) || decide (w = 8)) && ((true || decide (w = 0)) && (regX rd && (decide (rs = 0) && (false || decide (n = 0)))))) = true := by
      simp [cms] at h1 ⊢
      first | done | omega | (split at h1 <;> omega) | ((repeat' split at h1) <;> omega) | skip
    have he : errX 11 w rd rs n = 0 := by rw [hE, hA]; rfl
    refine gives_cond (fun _ => ?_) (fun h3 => ?_)
    case refine_2 => exfalso; revert h3; cases cm .eql w 8 <;> simp [allB]
    have hrd : small rd := by simp [regX] at hA; simp only [small]; omega
    have hw : w = 4 ∨ w = 8 := by simp at hA; omega
    refine givesE ?_ he.symm
    rw [strX_ok he, strOf_S]
    exact congrArg S (Eq.trans (b := [rexA w 3 rd, 247, modA 192 3 rd]) (by kernel_rfl) (Eq.trans (b := [rexI w 0 rd, 247, modI 192 3 rd]) (by rw [rexA_eq hw (by decide : small 3) hrd, modA_eq (.inl rfl) (by decide : small 3) hrd] <;> rfl) (by kernel_rfl)))

attribute [local irreducible] evalF Lf.gives in
theorem enc7_12 (w rd rs n : Int) : (T7 12 w rd rs n).leaf.gives (.tup [.str (strX 12 w rd rs n), .int false .i64 (errX 12 w rd rs n)]) := by
  have hE : errX 12 w rd rs n = (bif (decide (w = 4) || decide (w = 8)) && ((true || decide (w = 0)) && (regX rd && (decide (rs = 0) && (false || decide (n = 0))))) then (bif ((true) || false) then 0 else 10) else 1) := by kernel_rfl
  refine gives_tree (t7_12 w rd rs n) ?_
  refine gives_cond (fun h1 => ?_) (fun h1 => ?_)
  · have hA : ((decide (w = 4) || decide (w = 8)) && ((true || decide (w = 0)) && (regX rd && (decide (rs = 0) && (false || decide (n = 0)))))) = false := by
      simp [cms] at h1 ⊢
      first | done | omega | (split at h1 <;> omega) | ((repeat' split at h1) <;> omega) | skip
    have he : errX 12 w rd rs n = 1 := by rw [hE, hA]; rfl
    exact givesE (strX_bad he (by decide)) he.symm
  · have hA : ((decide (w = 4) || decide (w = 8)) && ((true || decide (w = 0)) && (regX rd && (decide (rs = 0) && (false || decide (n = 0)))))) = true := by
      simp [cms] at h1 ⊢
      first | done | omega | (split at h1 <;> omega) | ((repeat' split at h1) <;> omega) | skip
    have he : errX 12 w rd rs n = 0 := by rw [hE, hA]; rfl
    refine gives_cond (fun _ => ?_) (fun h3 => ?_)
    case refine_2 => exfalso; revert h3; cases cm .eql w 8 <;> simp [allB]
    have hrd : small rd := by simp [regX] at hA; simp only [small]; omega
    have hw : w = 4 ∨ w = 8 := by simp at hA; omega
    refine givesE ?_ he.symm
    rw [strX_ok he, strOf_S]
    exact congrArg S (Eq.trans (b := [rexA w 2 rd, 247, modA 192 2 rd]) (by kernel_rfl) (Eq.trans (b := [rexI w 0 rd, 247, modI 192 2 rd]) (by rw [rexA_eq hw (by decide : small 2) hrd, modA_eq (.inl rfl) (by decide : small 2) hrd] <;> rfl) (by kernel_rfl)))

end Go.X
end

section
set_option linter.unusedVariables false
open Go Go.Ev Go.Proofs
namespace Go.X

theorem t7_13 (w : Int) (rd : Int) (rs : Int) (n : Int) : (T7 13 w rd rs n).bare =
    (bif (bif cm .neq w 4 then bif cm .neq w 8 then true else !bif bif cm .geq rd 0 then cm .lss rd 16 else false then bif cm .eql rs 0 then cm .eql n 0 else false else false else !bif bif cm .geq rd 0 then cm .lss rd 16 else false then bif cm .eql rs 0 then cm .eql n 0 else false else false) then
 .ret (.tup [.str ⟨#[]⟩, .int true .i64 1]) []
 else
 bif (bif cm .eql w 8 then allB [decide (0 ≤ 3), decide (0 ≤ 2), decide (0 ≤ 3)] else allB [decide (0 ≤ 3), decide (0 ≤ 2), decide (0 ≤ 3)]) then
 .ret (.tup [(.str (strOf (cat (1 + (ByteArray.mk #[247]).size + 1) (cat (1 + (ByteArray.mk #[247]).size) (cat 1 (nth [bif cm .eql w 8 then ar .or .u8 (ar .or .u8 (ar .or .u8 64 8) (ar .shl .u8 (conv .u8 (ar .shr .i64 7 3)) 2)) (conv .u8 (ar .shr .i64 rd 3)) else ar .or .u8 (ar .or .u8 64 (ar .shl .u8 (conv .u8 (ar .shr .i64 7 3)) 2)) (conv .u8 (ar .shr .i64 rd 3))] 0) (chr (ByteArray.mk #[247]))) (nth [ar .or .u8 (ar .or .u8 192 (ar .shl .u8 (conv .u8 (ar .and .i64 7 7)) 3)) (conv .u8 (ar .and .i64 rd 7))] 0)) (bat n)) (1 + (ByteArray.mk #[247]).size + 1 + Int.toNat 0))), .int true .i64 0]) []
 else .bad) := by kernel_rfl

theorem t7_14 (w : Int) (rd : Int) (rs : Int) (n : Int) : (T7 14 w rd rs n).bare =
    (bif (bif cm .neq w 4 then bif cm .neq w 8 then true else !bif bif cm .geq rd 0 then cm .lss rd 16 else false then bif cm .eql rs 0 then cm .eql n 0 else false else false else !bif bif cm .geq rd 0 then cm .lss rd 16 else false then bif cm .eql rs 0 then cm .eql n 0 else false else false) then
 .ret (.tup [.str ⟨#[]⟩, .int true .i64 1]) []
 else
 bif (bif cm .eql w 8 then allB [decide (0 ≤ 3), decide (0 ≤ 2), decide (0 ≤ 3)] else allB [decide (0 ≤ 3), decide (0 ≤ 2), decide (0 ≤ 3)]) then
 .ret (.tup [(.str (strOf (cat (1 + (ByteArray.mk #[247]).size + 1) (cat (1 + (ByteArray.mk #[247]).size) (cat 1 (nth [bif cm .eql w 8 then ar .or .u8 (ar .or .u8 (ar .or .u8 64 8) (ar .shl .u8 (conv .u8 (ar .shr .i64 6 3)) 2)) (conv .u8 (ar .shr .i64 rd 3)) else ar .or .u8 (ar .or .u8 64 (ar .shl .u8 (conv .u8 (ar .shr .i64 6 3)) 2)) (conv .u8 (ar .shr .i64 rd 3))] 0) (chr (ByteArray.mk #[247]))) (nth [ar .or .u8 (ar .or .u8 192 (ar .shl .u8 (conv .u8 (ar .and .i64 6 7)) 3)) (conv .u8 (ar .and .i64 rd 7))] 0)) (bat n)) (1 + (ByteArray.mk #[247]).size + 1 + Int.toNat 0))), .int true .i64 0]) []
 else .bad) := by kernel_rfl

theorem t7_15 (w : Int) (rd : Int) (rs : Int) (n : Int) : (T7 15 w rd rs n).bare =
    (bif (bif cm .neq w 4 then bif cm .neq w 8 then true else !bif bif cm .geq rd 0 then cm .lss rd 16 else false then bif cm .eql rs 0 then cm .eql n 0 else false else false else !bif bif cm .geq rd 0 then cm .lss rd 16 else false then bif cm .eql rs 0 then cm .eql n 0 else false else false) then
 .ret (.tup [.str ⟨#[]⟩, .int true .i64 1]) []
 else
 bif (bif cm .eql w 8 then allB [decide (0 ≤ 3), decide (0 ≤ 2), decide (0 ≤ 3)] else allB [decide (0 ≤ 3), decide (0 ≤ 2), decide (0 ≤ 3)]) then
 .ret (.tup [(.str (strOf (cat (1 + (ByteArray.mk #[211]).size + 1) (cat (1 + (ByteArray.mk #[211]).size) (cat 1 (nth [bif cm .eql w 8 then ar .or .u8 (ar .or .u8 (ar .or .u8 64 8) (ar .shl .u8 (conv .u8 (ar .shr .i64 4 3)) 2)) (conv .u8 (ar .shr .i64 rd 3)) else ar .or .u8 (ar .or .u8 64 (ar .shl .u8 (conv .u8 (ar .shr .i64 4 3)) 2)) (conv .u8 (ar .shr .i64 rd 3))] 0) (chr (ByteArray.mk #[211]))) (nth [ar .or .u8 (ar .or .u8 192 (ar .shl .u8 (conv .u8 (ar .and .i64 4 7)) 3)) (conv .u8 (ar .and .i64 rd 7))] 0)) (bat n)) (1 + (ByteArray.mk #[211]).size + 1 + Int.toNat 0))), .int true .i64 0]) []
 else .bad) := by kernel_rfl

theorem t7_16 (w : Int) (rd : Int) (rs : Int) (n : Int) : (T7 16 w rd rs n).bare =
    (bif (bif cm .neq w 4 then bif cm .neq w 8 then true else !bif bif cm .geq rd 0 then cm .lss rd 16 else false then bif cm .eql rs 0 then cm .eql n 0 else false else false else !bif bif cm .geq rd 0 then cm .lss rd 16 else false then bif cm .eql rs 0 then cm .eql n 0 else false else false) then
 .ret (.tup [.str ⟨#[]⟩, .int true .i64 1]) []
 else
 bif (bif cm .eql w 8 then allB [decide (0 ≤ 3), decide (0 ≤ 2), decide (0 ≤ 3)] else allB [decide (0 ≤ 3), decide (0 ≤ 2), decide (0 ≤ 3)]) then
 .ret (.tup [(.str (strOf (cat (1 + (ByteArray.mk #[211]).size + 1) (cat (1 + (ByteArray.mk #[211]).size) (cat 1 (nth [bif cm .eql w 8 then ar .or .u8 (ar .or .u8 (ar .or .u8 64 8) (ar .shl .u8 (conv .u8 (ar .shr .i64 5 3)) 2)) (conv .u8 (ar .shr .i64 rd 3)) else ar .or .u8 (ar .or .u8 64 (ar .shl .u8 (conv .u8 (ar .shr .i64 5 3)) 2)) (conv .u8 (ar .shr .i64 rd 3))] 0) (chr (ByteArray.mk #[211]))) (nth [ar .or .u8 (ar .or .u8 192 (ar .shl .u8 (conv .u8 (ar .and .i64 5 7)) 3)) (conv .u8 (ar .and .i64 rd 7))] 0)) (bat n)) (1 + (ByteArray.mk #[211]).size + 1 + Int.toNat 0))), .int true .i64 0]) []
 else .bad) := by kernel_rfl

theorem t7_17 (w : Int) (rd : Int) (rs : Int) (n : Int) : (T7 17 w rd rs n).bare =
    (bif (bif cm .neq w 4 then bif cm .neq w 8 then true else !bif bif cm .geq rd 0 then cm .lss rd 16 else false then bif cm .eql rs 0 then cm .eql n 0 else false else false else !bif bif cm .geq rd 0 then cm .lss rd 16 else false then bif cm .eql rs 0 then cm .eql n 0 else false else false) then
 .ret (.tup [.str ⟨#[]⟩, .int true .i64 1]) []
 else
 bif (bif cm .eql w 8 then allB [decide (0 ≤ 3), decide (0 ≤ 2), decide (0 ≤ 3)] else allB [decide (0 ≤ 3), decide (0 ≤ 2), decide (0 ≤ 3)]) then
 .ret (.tup [(.str (strOf (cat (1 + (ByteArray.mk #[211]).size + 1) (cat (1 + (ByteArray.mk #[211]).size) (cat 1 (nth [bif cm .eql w 8 then ar .or .u8 (ar .or .u8 (ar .or .u8 64 8) (ar .shl .u8 (conv .u8 (ar .shr .i64 7 3)) 2)) (conv .u8 (ar .shr .i64 rd 3)) else ar .or .u8 (ar .or .u8 64 (ar .shl .u8 (conv .u8 (ar .shr .i64 7 3)) 2)) (conv .u8 (ar .shr .i64 rd 3))] 0) (chr (ByteArray.mk #[211]))) (nth [ar .or .u8 (ar .or .u8 192 (ar .shl .u8 (conv .u8 (ar .and .i64 7 7)) 3)) (conv .u8 (ar .and .i64 rd 7))] 0)) (bat n)) (1 + (ByteArray.mk #[211]).size + 1 + Int.toNat 0))), .int true .i64 0]) []
 else .bad) := by kernel_rfl

theorem t7_18 (w : Int) (rd : Int) (rs : Int) (n : Int) : (T7 18 w rd rs n).bare =
    (bif (bif cm .neq w 4 then bif cm .neq w 8 then true else !bif cm .eql rd 0 then bif cm .eql rs 0 then cm .eql n 0 else false else false else !bif cm .eql rd 0 then bif cm .eql rs 0 then cm .eql n 0 else false else false) then
 .ret (.tup [.str ⟨#[]⟩, .int true .i64 1]) []
 else
 bif (bif cm .eql w 8 then allB [decide (0 ≤ 3), decide (0 ≤ 2), decide (0 ≤ 3)] else allB [decide (0 ≤ 3), decide (0 ≤ 2), decide (0 ≤ 3)]) then
 .ret (.tup [(.str (strOf (cat (1 + (ByteArray.mk #[153]).size) (cat 1 (nth [bif cm .eql w 8 then ar .or .u8 (ar .or .u8 (ar .or .u8 64 8) (ar .shl .u8 (conv .u8 (ar .shr .i64 0 3)) 2)) (conv .u8 (ar .shr .i64 0 3)) else ar .or .u8 (ar .or .u8 64 (ar .shl .u8 (conv .u8 (ar .shr .i64 0 3)) 2)) (conv .u8 (ar .shr .i64 0 3))] 0) (chr (ByteArray.mk #[153]))) (bat n)) (1 + (ByteArray.mk #[153]).size + Int.toNat 0))), .int true .i64 0]) []
 else .bad) := by kernel_rfl

theorem t7_19 (w : Int) (rd : Int) (rs : Int) (n : Int) : (T7 19 w rd rs n).bare =
    (bif (bif cm .neq w 4 then bif cm .neq w 8 then true else bif cm .neq w 8 then true else !bif bif cm .geq rd 0 then cm .lss rd 16 else false then bif cm .eql rs 0 then true else false else false else bif cm .neq w 8 then true else !bif bif cm .geq rd 0 then cm .lss rd 16 else false then bif cm .eql rs 0 then true else false else false) then
 .ret (.tup [.str ⟨#[]⟩, .int true .i64 1]) []
 else
 bif (bif !bif cm .geq n (-2147483648) then cm .leq n 2147483647 else false then cm .neq 1 7 else false) then
 .ret (.tup [.str ⟨#[]⟩, .int true .i64 10]) []
 else
 bif (bif cm .eql w 8 then allB [decide (0 ≤ 3), decide (0 ≤ 2), decide (0 ≤ 3)] else allB [decide (0 ≤ 3), decide (0 ≤ 2), decide (0 ≤ 3)]) then
 .ret (.tup [(.str (strOf (cat (1 + (ByteArray.mk #[129]).size + 1) (cat (1 + (ByteArray.mk #[129]).size) (cat 1 (nth [bif cm .eql w 8 then ar .or .u8 (ar .or .u8 (ar .or .u8 64 8) (ar .shl .u8 (conv .u8 (ar .shr .i64 0 3)) 2)) (conv .u8 (ar .shr .i64 rd 3)) else ar .or .u8 (ar .or .u8 64 (ar .shl .u8 (conv .u8 (ar .shr .i64 0 3)) 2)) (conv .u8 (ar .shr .i64 rd 3))] 0) (chr (ByteArray.mk #[129]))) (nth [ar .or .u8 (ar .or .u8 192 (ar .shl .u8 (conv .u8 (ar .and .i64 0 7)) 3)) (conv .u8 (ar .and .i64 rd 7))] 0)) (bat n)) (1 + (ByteArray.mk #[129]).size + 1 + Int.toNat 4))), .int true .i64 0]) []
 else .bad) := by kernel_rfl

theorem t7_20 (w : Int) (rd : Int) (rs : Int) (n : Int) : (T7 20 w rd rs n).bare =
    (bif (bif cm .neq w 4 then bif cm .neq w 8 then true else bif cm .neq w 4 then true else !bif bif cm .geq rd 0 then cm .lss rd 16 else false then bif cm .eql rs 0 then bif cm .geq n 2 then bif cm .leq n 7 then true else bif cm .geq n 12 then cm .leq n 15 else false else bif cm .geq n 12 then cm .leq n 15 else false else false else false else bif cm .neq w 4 then true else !bif bif cm .geq rd 0 then cm .lss rd 16 else false then bif cm .eql rs 0 then bif cm .geq n 2 then bif cm .leq n 7 then true else bif cm .geq n 12 then cm .leq n 15 else false else bif cm .geq n 12 then cm .leq n 15 else false else false else false) then
 .ret (.tup [.str ⟨#[]⟩, .int true .i64 1]) []
 else
 bif (bif cm .eql w 8 then allB [decide (0 ≤ 3), decide (0 ≤ 2), decide (0 ≤ 3)] else allB [decide (0 ≤ 3), decide (0 ≤ 2), decide (0 ≤ 3)]) then
 .ret (.tup [(.str (strOf (cat (1 + (ByteArray.mk #[15, 144]).size + 1) (cat (1 + (ByteArray.mk #[15, 144]).size) (cat 1 (nth [bif cm .eql w 8 then ar .or .u8 (ar .or .u8 (ar .or .u8 64 8) (ar .shl .u8 (conv .u8 (ar .shr .i64 0 3)) 2)) (conv .u8 (ar .shr .i64 rd 3)) else ar .or .u8 (ar .or .u8 64 (ar .shl .u8 (conv .u8 (ar .shr .i64 0 3)) 2)) (conv .u8 (ar .shr .i64 rd 3))] 0) (upd (chr (ByteArray.mk #[15, 144])) (ar .sub .i64 (↑(ByteArray.mk #[15, 144]).size) 1).toNat (ar .add .u8 (chr (ByteArray.mk #[15, 144]) (ar .sub .i64 (↑(ByteArray.mk #[15, 144]).size) 1).toNat) (conv .u8 n)))) (nth [ar .or .u8 (ar .or .u8 192 (ar .shl .u8 (conv .u8 (ar .and .i64 0 7)) 3)) (conv .u8 (ar .and .i64 rd 7))] 0)) (bat n)) (1 + (ByteArray.mk #[15, 144]).size + 1 + Int.toNat 0))), .int true .i64 0]) []
 else .bad) := by kernel_rfl

theorem t7_21 (w : Int) (rd : Int) (rs : Int) (n : Int) : (T7 21 w rd rs n).bare =
    (bif (bif cm .neq w 4 then bif cm .neq w 8 then true else bif cm .neq w 8 then true else !bif bif cm .geq rd 0 then cm .lss rd 16 else false then bif bif cm .geq rs 0 then cm .lss rs 16 else false then cm .eql n 0 else false else false else bif cm .neq w 8 then true else !bif bif cm .geq rd 0 then cm .lss rd 16 else false then bif bif cm .geq rs 0 then cm .lss rs 16 else false then cm .eql n 0 else false else false) then
 .ret (.tup [.str ⟨#[]⟩, .int true .i64 1]) []
 else
 bif (bif cm .eql w 8 then allB [decide (0 ≤ 3), decide (0 ≤ 2), decide (0 ≤ 3)] else allB [decide (0 ≤ 3), decide (0 ≤ 2), decide (0 ≤ 3)]) then
 .ret (.tup [(.str (strOf (cat (1 + (ByteArray.mk #[15, 182]).size + 1) (cat (1 + (ByteArray.mk #[15, 182]).size) (cat 1 (nth [bif cm .eql w 8 then ar .or .u8 (ar .or .u8 (ar .or .u8 64 8) (ar .shl .u8 (conv .u8 (ar .shr .i64 rd 3)) 2)) (conv .u8 (ar .shr .i64 rs 3)) else ar .or .u8 (ar .or .u8 64 (ar .shl .u8 (conv .u8 (ar .shr .i64 rd 3)) 2)) (conv .u8 (ar .shr .i64 rs 3))] 0) (chr (ByteArray.mk #[15, 182]))) (nth [ar .or .u8 (ar .or .u8 192 (ar .shl .u8 (conv .u8 (ar .and .i64 rd 7)) 3)) (conv .u8 (ar .and .i64 rs 7))] 0)) (bat n)) (1 + (ByteArray.mk #[15, 182]).size + 1 + Int.toNat 0))), .int true .i64 0]) []
 else .bad) := by kernel_rfl

theorem t7_22 (w : Int) (rd : Int) (rs : Int) (n : Int) : (T7 22 w rd rs n).bare =
    (bif (bif cm .neq w 4 then bif cm .neq w 8 then true else bif cm .neq w 8 then true else !bif bif cm .geq rd 0 then cm .lss rd 16 else false then bif bif cm .geq rs 0 then cm .lss rs 16 else false then cm .eql n 0 else false else false else bif cm .neq w 8 then true else !bif bif cm .geq rd 0 then cm .lss rd 16 else false then bif bif cm .geq rs 0 then cm .lss rs 16 else false then cm .eql n 0 else false else false) then
 .ret (.tup [.str ⟨#[]⟩, .int true .i64 1]) []
 else
 bif (bif cm .eql w 8 then allB [decide (0 ≤ 3), decide (0 ≤ 2), decide (0 ≤ 3)] else allB [decide (0 ≤ 3), decide (0 ≤ 2), decide (0 ≤ 3)]) then
 .ret (.tup [(.str (strOf (cat (1 + (ByteArray.mk #[15, 183]).size + 1) (cat (1 + (ByteArray.mk #[15, 183]).size) (cat 1 (nth [bif cm .eql w 8 then ar .or .u8 (ar .or .u8 (ar .or .u8 64 8) (ar .shl .u8 (conv .u8 (ar .shr .i64 rd 3)) 2)) (conv .u8 (ar .shr .i64 rs 3)) else ar .or .u8 (ar .or .u8 64 (ar .shl .u8 (conv .u8 (ar .shr .i64 rd 3)) 2)) (conv .u8 (ar .shr .i64 rs 3))] 0) (chr (ByteArray.mk #[15, 183]))) (nth [ar .or .u8 (ar .or .u8 192 (ar .shl .u8 (conv .u8 (ar .and .i64 rd 7)) 3)) (conv .u8 (ar .and .i64 rs 7))] 0)) (bat n)) (1 + (ByteArray.mk #[15, 183]).size + 1 + Int.toNat 0))), .int true .i64 0]) []
 else .bad) := by kernel_rfl

theorem t7_23 (w : Int) (rd : Int) (rs : Int) (n : Int) : (T7 23 w rd rs n).bare =
    (bif (bif cm .neq w 4 then bif cm .neq w 8 then true else bif cm .neq w 8 then true else !bif bif cm .geq rd 0 then cm .lss rd 16 else false then bif bif cm .geq rs 0 then cm .lss rs 16 else false then cm .eql n 0 else false else false else bif cm .neq w 8 then true else !bif bif cm .geq rd 0 then cm .lss rd 16 else false then bif bif cm .geq rs 0 then cm .lss rs 16 else false then cm .eql n 0 else false else false) then
 .ret (.tup [.str ⟨#[]⟩, .int true .i64 1]) []
 else
 bif (bif cm .eql w 8 then allB [decide (0 ≤ 3), decide (0 ≤ 2), decide (0 ≤ 3)] else allB [decide (0 ≤ 3), decide (0 ≤ 2), decide (0 ≤ 3)]) then
 .ret (.tup [(.str (strOf (cat (1 + (ByteArray.mk #[15, 190]).size + 1) (cat (1 + (ByteArray.mk #[15, 190]).size) (cat 1 (nth [bif cm .eql w 8 then ar .or .u8 (ar .or .u8 (ar .or .u8 64 8) (ar .shl .u8 (conv .u8 (ar .shr .i64 rd 3)) 2)) (conv .u8 (ar .shr .i64 rs 3)) else ar .or .u8 (ar .or .u8 64 (ar .shl .u8 (conv .u8 (ar .shr .i64 rd 3)) 2)) (conv .u8 (ar .shr .i64 rs 3))] 0) (chr (ByteArray.mk #[15, 190]))) (nth [ar .or .u8 (ar .or .u8 192 (ar .shl .u8 (conv .u8 (ar .and .i64 rd 7)) 3)) (conv .u8 (ar .and .i64 rs 7))] 0)) (bat n)) (1 + (ByteArray.mk #[15, 190]).size + 1 + Int.toNat 0))), .int true .i64 0]) []
 else .bad) := by kernel_rfl

theorem t7_24 (w : Int) (rd : Int) (rs : Int) (n : Int) : (T7 24 w rd rs n).bare =
    (bif (bif cm .neq w 4 then bif cm .neq w 8 then true else bif cm .neq w 8 then true else !bif bif cm .geq rd 0 then cm .lss rd 16 else false then bif bif cm .geq rs 0 then cm .lss rs 16 else false then cm .eql n 0 else false else false else bif cm .neq w 8 then true else !bif bif cm .geq rd 0 then cm .lss rd 16 else false then bif bif cm .geq rs 0 then cm .lss rs 16 else false then cm .eql n 0 else false else false) then
 .ret (.tup [.str ⟨#[]⟩, .int true .i64 1]) []
 else
 bif (bif cm .eql w 8 then allB [decide (0 ≤ 3), decide (0 ≤ 2), decide (0 ≤ 3)] else allB [decide (0 ≤ 3), decide (0 ≤ 2), decide (0 ≤ 3)]) then
 .ret (.tup [(.str (strOf (cat (1 + (ByteArray.mk #[15, 191]).size + 1) (cat (1 + (ByteArray.mk #[15, 191]).size) (cat 1 (nth [bif cm .eql w 8 then ar .or .u8 (ar .or .u8 (ar .or .u8 64 8) (ar .shl .u8 (conv .u8 (ar .shr .i64 rd 3)) 2)) (conv .u8 (ar .shr .i64 rs 3)) else ar .or .u8 (ar .or .u8 64 (ar .shl .u8 (conv .u8 (ar .shr .i64 rd 3)) 2)) (conv .u8 (ar .shr .i64 rs 3))] 0) (chr (ByteArray.mk #[15, 191]))) (nth [ar .or .u8 (ar .or .u8 192 (ar .shl .u8 (conv .u8 (ar .and .i64 rd 7)) 3)) (conv .u8 (ar .and .i64 rs 7))] 0)) (bat n)) (1 + (ByteArray.mk #[15, 191]).size + 1 + Int.toNat 0))), .int true .i64 0]) []
 else .bad) := by kernel_rfl

end Go.X
end

section
set_option linter.unusedVariables false
open Go Go.Ev Go.Proofs
namespace Go.X

attribute [local irreducible] evalF Lf.gives in
theorem enc7_13 (w rd rs n : Int) : (T7 13 w rd rs n).leaf.gives (.tup [.str (strX 13 w rd rs n), .int false .i64 (errX 13 w rd rs n)]) := by
  have hE : errX 13 w rd rs n = (bif (decide (w = 4) || decide (w = 8)) && ((true || decide (w = 0)) && (regX rd && (decide (rs = 0) && (false || decide (n = 0))))) then (bif ((true) || false) then 0 else 10) else 1) := by kernel_rfl
  refine gives_tree (t7_13 w rd rs n) ?_
  refine gives_cond (fun h1 => ?_) (fun h1 => ?_)
  · have hA : ((decide (w = 4) || decide (w = 8)) && ((true || decide (w = 0)) && (regX rd && (decide (rs = 0) && (false || decide (n = 0)))))) = false := by
      simp [cms] at h1 ⊢
      first | done | omega | (split at h1 <;> omega) | ((repeat' split at h1) <;> omega) | skip
    have he : errX 13 w rd rs n = 1 := by rw [hE, hA]; rfl
    exact givesE (strX_bad he (by decide)) he.symm
  · have hA : ((decide (w = 4) || decide (w = 8)) && ((true || decide (w = 0)) && (regX rd && (decide (rs = 0) && (false || decide (n = 0)))))) = true := by
      simp [cms] at h1 ⊢
      first | done | omega | (split at h1 <;> omega) | ((repeat' split at h1) <;> omega) | skip
    have he : errX 13 w rd rs n = 0 := by rw [hE, hA]; rfl
    refine gives_cond (fun _ => ?_) (fun h3 => ?_)
    case refine_2 => exfalso; revert h3; cases cm .eql w 8 <;> simp [allB]
    have hrd : small rd := by simp [regX] at hA; simp only [small]; omega
    have hw : w = 4 ∨ w = 8 := by simp at hA; omega
    refine givesE ?_ he.symm
    rw [strX_ok he, strOf_S]
    exact congrArg S (Eq.trans (b := [rexA w 7 rd, 247, modA 192 7 rd]) (by kernel_rfl) (Eq.trans (b := [rexI w 0 rd, 247, modI 192 7 rd]) (by rw [rexA_eq hw (by decide : small 7) hrd, modA_eq (.inl rfl) (by decide : small 7) hrd] <;> rfl) (by kernel_rfl)))

attribute [local irreducible] evalF Lf.gives in
theorem enc7_14 (w rd rs n : Int) : (T7 14 w rd rs n).leaf.gives (.tup [.str (strX 14 w rd rs n), .int false .i64 (errX 14 w rd rs n)]) := by
  have hE : errX 14 w rd rs n = (bif (decide (w = 4) || decide (w = 8)) && ((true || decide (w = 0)) && (regX rd && (decide (rs = 0) && (false || decide (n = 0))))) then (bif ((true) || false) then 0 else 10) else 1) := by kernel_rfl
  refine gives_tree (t7_14 w rd rs n) ?_
  refine gives_cond (fun h1 => ?_) (fun h1 => ?_)
  · have hA : ((decide (w = 4) || decide (w = 8)) && ((true || decide (w = 0)) && (regX rd && (decide (rs = 0) && (false || decide (n = 0)))))) = false := by
      simp [cms] at h1 ⊢
      first | done | omega | (split at h1 <;> omega) | ((repeat' split at h1) <;> omega) | skip
    have he : errX 14 w rd rs n = 1 := by rw [hE, hA]; rfl
    exact givesE (strX_bad he (by decide)) he.symm
  · have hA : ((decide (w = 4) || decide (w = 8)) && ((true || decide (w = 0)) && (regX rd && (decide (rs = 0) && (false || decide (n = 0)))))) = true := by
      simp [cms] at h1 ⊢
      first | done | omega | (split at h1 <;> omega) | ((repeat' split at h1) <;> omega) | skip
    have he : errX 14 w rd rs n = 0 := by rw [hE, hA]; rfl
    refine gives_cond (fun _ => ?_) (fun h3 => ?_)
    case refine_2 => exfalso; revert h3; cases cm .eql w 8 <;> simp [allB]
    have hrd : small rd := by simp [regX] at hA; simp only [small]; omega
    have hw : w = 4 ∨ w = 8 := by simp at hA; omega
    refine givesE ?_ he.symm
    rw [strX_ok he, strOf_S]
    exact congrArg S (Eq.trans (b := [rexA w 6 rd, 247, modA 192 6 rd]) (by kernel_rfl) (Eq.trans (b := [rexI w 0 rd, 247, modI 192 6 rd]) (by rw [rexA_eq hw (by decide : small 6) hrd, modA_eq (.inl rfl) (by decide : small 6) hrd] <;> rfl) (by kernel_rfl)))

attribute [local irreducible] evalF Lf.gives in
theorem enc7_15 (w rd rs n : Int) : (T7 15 w rd rs n).leaf.gives (.tup [.str (strX 15 w rd rs n), .int false .i64 (errX 15 w rd rs n)]) := by
  have hE : errX 15 w rd rs n = (bif (decide (w = 4) || decide (w = 8)) && ((true || decide (w = 0)) && (regX rd && (decide (rs = 0) && (false || decide (n = 0))))) then (bif ((true) || false) then 0 else 10) else 1) := by kernel_rfl
  refine gives_tree (t7_15 w rd rs n) ?_
  refine gives_cond (fun h1 => ?_) (fun h1 => ?_)
  · have hA : ((decide (w = 4) || decide (w = 8)) && ((true || decide (w = 0)) && (regX rd && (decide (rs = 0) && (false || decide (n = 0)))))) = false := by
      simp [cms] at h1 ⊢
      first | done | omega | (split at h1 <;> omega) | ((repeat' split at h1) <;> omega) | skip
    have he : errX 15 w rd rs n = 1 := by rw [hE, hA]; rfl
    exact givesE (strX_bad he (by decide)) he.symm
  · have hA : ((decide (w = 4) || decide (w = 8)) && ((true || decide (w = 0)) && (regX rd && (decide (rs = 0) && (false || decide (n = 0)))))) = true := by
      simp [cms] at h1 ⊢
      first | done | omega | (split at h1 <;> omega) | ((repeat' split at h1) <;> omega) | skip
    have he : errX 15 w rd rs n = 0 := by rw [hE, hA]; rfl
    refine gives_cond (fun _ => ?_) (fun h3 => ?_)
    case refine_2 => exfalso; revert h3; cases cm .eql w 8 <;> simp [allB]
    have hrd : small rd := by simp [regX] at hA; simp only [small]; omega
    have hw : w = 4 ∨ w = 8 := by simp at hA; omega
    refine givesE ?_ he.symm
    rw [strX_ok he, strOf_S]
    exact congrArg S (Eq.trans (b := [rexA w 4 rd, 211, modA 192 4 rd]) (by kernel_rfl) (Eq.trans (b := [rexI w 0 rd, 211, modI 192 4 rd]) (by rw [rexA_eq hw (by decide : small 4) hrd, modA_eq (.inl rfl) (by decide : small 4) hrd] <;> rfl) (by kernel_rfl)))

attribute [local irreducible] evalF Lf.gives in
theorem enc7_16 (w rd rs n : Int) : (T7 16 w rd rs n).leaf.gives (.tup [.str (strX 16 w rd rs n), .int false .i64 (errX 16 w rd rs n)]) := by
  have hE : errX 16 w rd rs n = (bif (decide (w = 4) || decide (w = 8)) && ((true || decide (w = 0)) && (regX rd && (decide (rs = 0) && (false || decide (n = 0))))) then (bif ((true) || false) then 0 else 10) else 1) := by kernel_rfl
  refine gives_tree (t7_16 w rd rs n) ?_
  refine gives_cond (fun h1 => ?_) (fun h1 => ?_)
  · have hA : ((decide (w = 4) || decide (w = 8)) && ((true || decide (w = 0)) && (regX rd && (decide (rs = 0) && (false || decide (n = 0)))))) = false := by
      simp [cms] at h1 ⊢
      first | done | omega | (split at h1 <;> omega) | ((repeat' split at h1) <;> omega) | skip
    have he : errX 16 w rd rs n = 1 := by rw [hE, hA]; rfl
    exact givesE (strX_bad he (by decide)) he.symm
  · have hA : ((decide (w = 4) || decide (w = 8)) && ((true || decide (w = 0)) && (regX rd && (decide (rs = 0) && (false || decide (n = 0)))))) = true := by
      simp [cms] at h1 ⊢
      first | done | omega | (split at h1 <;> omega) | ((repeat' split at h1) <;> omega) | skip
    have he : errX 16 w rd rs n = 0 := by rw [hE, hA]; rfl
    refine gives_cond (fun _ => ?_) (fun h3 => ?_)
    case refine_2 => exfalso; revert h3; cases cm .eql w 8 <;> simp [allB]
    have hrd : small rd := by simp [regX] at hA; simp only [small]; omega
    have hw : w = 4 ∨ w = 8 := by simp at hA; omega
    refine givesE ?_ he.symm
    rw [strX_ok he, strOf_S]
    exact congrArg S (Eq.trans (b := [rexA w 5 rd, 211, modA 192 5 rd]) (by kernel_rfl) (Eq.trans (b := [rexI w 0 rd, 211, modI 192 5 rd]) (by rw [rexA_eq hw (by decide : small 5) hrd, modA_eq (.inl rfl) (by decide : small 5) hrd] <;> rfl) (by kernel_rfl)))

attribute [local irreducible] evalF Lf.gives in
theorem enc7_17 (w rd rs n : Int) : (T7 17 w rd rs n).leaf.gives (.tup [.str (strX 17 w rd rs n), .int false .i64 (errX 17 w rd rs n)]) := by
  have hE : errX 17 w rd rs n = (bif (decide (w = 4) || decide (w = 8)) && ((true || decide (w = 0)) && (regX rd && (decide (rs = 0) && (false || decide (n = 0))))) then (bif ((true) || false) then 0 else 10) else 1) := by kernel_rfl
  refine gives_tree (t7_17 w rd rs n) ?_
  refine gives_cond (fun h1 => ?_) (fun h1 => ?_)
  · have hA : ((decide (w = 4) || decide (w = 8)) && ((true || decide (w = 0)) && (regX rd && (decide (rs = 0) && (false || decide (n = 0)))))) = false := by
      simp [cms] at h1 ⊢
      first | done | omega | (split at h1 <;> omega) | ((repeat' split at h1) <;> omega) | skip
    have he : errX 17 w rd rs n = 1 := by rw [hE, hA]; rfl
    exact givesE (strX_bad he (by decide)) he.symm
  · have hA : ((decide (w = 4) || decide (w = 8)) && ((true || decide (w = 0)) && (regX rd && (decide (rs = 0) && (false || decide (n = 0)))))) = true := by
      simp [cms] at h1 ⊢
      first | done | omega | (split at h1 <;> omega) | ((repeat' split at h1) <;> omega) | skip
    have he : errX 17 w rd rs n = 0 := by rw [hE, hA]; rfl
    refine gives_cond (fun _ => ?_) (fun h3 => ?_)
    case refine_2 => exfalso; revert h3; cases cm .eql w 8 <;> simp [allB]
    have hrd : small rd := by simp [regX] at hA; simp only [small]; omega
    have hw : w = 4 ∨ w = 8 := by simp at hA; omega
    refine givesE ?_ he.symm
    rw [strX_ok he, strOf_S]
    exact congrArg S (Eq.trans (b := [rexA w 7 rd, 211, modA 192 7 rd]) (by kernel_rfl) (Eq.trans (b := [rexI w 0 rd, 211, modI 192 7 rd]) (by rw [rexA_eq hw (by decide : small 7) hrd, modA_eq (.inl rfl) (by decide : small 7) hrd] <;> rfl) (by kernel_rfl)))

attribute [local irreducible] evalF Lf.gives in
theorem enc7_18 (w rd rs n : Int) : (T7 18 w rd rs n).leaf.gives (.tup [.str (strX 18 w rd rs n), .int false .i64 (errX 18 w rd rs n)]) := by
  have hE : errX 18 w rd rs n = (bif (decide (w = 4) || decide (w = 8)) && ((true || decide (w = 0)) && (decide (rd = 0) && (decide (rs = 0) && decide (n = 0)))) then (bif ((true) || false) then 0 else 10) else 1) := by kernel_rfl
  refine gives_tree (t7_18 w rd rs n) ?_
  refine gives_cond (fun h1 => ?_) (fun h1 => ?_)
  · have hA : ((decide (w = 4) || decide (w = 8)) && ((true || decide (w = 0)) && (decide (rd = 0) && (decide (rs = 0) && decide (n = 0))))) = false := by
      simp [cms] at h1 ⊢
      first | done | omega | (split at h1 <;> omega) | ((repeat' split at h1) <;> omega) | skip
    have he : errX 18 w rd rs n = 1 := by rw [hE, hA]; rfl
    exact givesE (strX_bad he (by decide)) he.symm
  · have hA : ((decide (w = 4) || decide (w = 8)) && ((true || decide (w = 0)) && (decide (rd = 0) && (decide (rs = 0) && decide (n = 0))))) = true := by
      simp [cms] at h1 ⊢
      first | done | omega | (split at h1 <;> omega) | ((repeat' split at h1) <;> omega) | skip
    have he : errX 18 w rd rs n = 0 := by rw [hE, hA]; rfl
    refine gives_cond (fun _ => ?_) (fun h3 => ?_)
    case refine_2 => exfalso; revert h3; cases cm .eql w 8 <;> simp [allB]
    have hw : w = 4 ∨ w = 8 := by simp at hA; omega
    refine givesE ?_ he.symm
    rw [strX_ok he, strOf_S]
    exact congrArg S (Eq.trans (b := [rexA w 0 0, 153]) (by kernel_rfl) (Eq.trans (b := [rexI w 0 0, 153]) (by rw [rexA_eq hw (by decide : small 0) (by decide : small 0)]) (by kernel_rfl)))

attribute [local irreducible] evalF Lf.gives in
theorem enc7_19 (w rd rs n : Int) : (T7 19 w rd rs n).leaf.gives (.tup [.str (strX 19 w rd rs n), .int false .i64 (errX 19 w rd rs n)]) := by
  have hE : errX 19 w rd rs n = (bif (decide (w = 4) || decide (w = 8)) && ((false || decide (w = 8)) && (regX rd && (decide (rs = 0) && (true || decide (n = 0))))) then (bif ((decide (-2147483648 ≤ n) && decide (n ≤ 2147483647)) || false) then 0 else 10) else 1) := by kernel_rfl
  refine gives_tree (t7_19 w rd rs n) ?_
  refine gives_cond (fun h1 => ?_) (fun h1 => ?_)
  · have hA : ((decide (w = 4) || decide (w = 8)) && ((false || decide (w = 8)) && (regX rd && (decide (rs = 0) && (true || decide (n = 0)))))) = false := by
      simp [cms] at h1 ⊢
      first | done | omega | (split at h1 <;> omega) | ((repeat' split at h1) <;> omega) | skip
    have he : errX 19 w rd rs n = 1 := by rw [hE, hA]; rfl
    exact givesE (strX_bad he (by decide)) he.symm
  · have hA : ((decide (w = 4) || decide (w = 8)) && ((false || decide (w = 8)) && (regX rd && (decide (rs = 0) && (true || decide (n = 0)))))) = true := by
      simp [cms] at h1 ⊢
      first | done | omega | (split at h1 <;> omega) | ((repeat' split at h1) <;> omega) | skip
    refine gives_cond (fun h2 => ?_) (fun h2 => ?_)
    · have hF : ((decide (-2147483648 ≤ n) && decide (n ≤ 2147483647)) || false) = false := by
        simp [cms] at h2 ⊢
        first | done | omega | skip
      have he : errX 19 w rd rs n = 10 := by rw [hE, hA, hF]; rfl
      exact givesE (strX_bad he (by decide)) he.symm
    · have hF : ((decide (-2147483648 ≤ n) && decide (n ≤ 2147483647)) || false) = true := by
        simp [cms] at h2 ⊢
        first | done | omega | skip
      have he : errX 19 w rd rs n = 0 := by rw [hE, hA, hF]; rfl
      refine gives_cond (fun _ => ?_) (fun h3 => ?_)
      case refine_2 => exfalso; revert h3; cases cm .eql w 8 <;> simp [allB]
      have hrd : small rd := by simp [regX] at hA; simp only [small]; omega
      have hw : w = 4 ∨ w = 8 := by simp at hA; omega
      refine givesE ?_ he.symm
      rw [strX_ok he, strOf_S]
      exact congrArg S (Eq.trans (b := [rexA w 0 rd, 129, modA 192 0 rd, bat n 0, bat n 1, bat n 2, bat n 3]) (by kernel_rfl) (Eq.trans (b := [rexI w 0 rd, 129, modI 192 0 rd, bat n 0, bat n 1, bat n 2, bat n 3]) (by rw [rexA_eq hw (by decide : small 0) hrd, modA_eq (.inl rfl) (by decide : small 0) hrd] <;> rfl) (by kernel_rfl)))

attribute [local irreducible] evalF Lf.gives in
theorem enc7_20 (w rd rs n : Int) : (T7 20 w rd rs n).leaf.gives (.tup [.str (strX 20 w rd rs n), .int false .i64 (errX 20 w rd rs n)]) := by
  have hE : errX 20 w rd rs n = (bif (decide (w = 4) || decide (w = 8)) && ((false || decide (w = 4)) && (regX rd && (decide (rs = 0) && condX n))) then (bif ((true) || true) then 0 else 10) else 1) := by kernel_rfl
  refine gives_tree (t7_20 w rd rs n) ?_
  refine gives_cond (fun h1 => ?_) (fun h1 => ?_)
  · have hA : ((decide (w = 4) || decide (w = 8)) && ((false || decide (w = 4)) && (regX rd && (decide (rs = 0) && condX n)))) = false := by
      simp [cms] at h1 ⊢
      first | done | omega | (split at h1 <;> omega) | ((repeat' split at h1) <;> omega) | skip
    have he : errX 20 w rd rs n = 1 := by rw [hE, hA]; rfl
    exact givesE (strX_bad he (by decide)) he.symm
  · have hA : ((decide (w = 4) || decide (w = 8)) && ((false || decide (w = 4)) && (regX rd && (decide (rs = 0) && condX n)))) = true := by
      simp [cms] at h1 ⊢
      first | done | omega | (split at h1 <;> omega) | ((repeat' split at h1) <;> omega) | skip
    have he : errX 20 w rd rs n = 0 := by rw [hE, hA]; rfl
    refine gives_cond (fun _ => ?_) (fun h3 => ?_)
    case refine_2 => exfalso; revert h3; cases cm .eql w 8 <;> simp [allB]
    have hrd : small rd := by simp [regX] at hA; simp only [small]; omega
    have hcn : small n := by simp [regX, condX] at hA; simp only [small]; omega
    have hw : w = 4 ∨ w = 8 := by simp at hA; omega
    refine givesE ?_ he.symm
    rw [strX_ok he, strOf_S]
    exact congrArg S (Eq.trans (b := [rexA w 0 rd, 15, ar .add .u8 144 (conv .u8 n), modA 192 0 rd]) (by kernel_rfl) (Eq.trans (b := [rexI w 0 rd, 15, 144 + n, modI 192 0 rd]) (by rw [rexA_eq hw (by decide : small 0) hrd, addCond (by decide) hcn, modA_eq (.inl rfl) (by decide : small 0) hrd]) (by kernel_rfl)))

attribute [local irreducible] evalF Lf.gives in
theorem enc7_21 (w rd rs n : Int) : (T7 21 w rd rs n).leaf.gives (.tup [.str (strX 21 w rd rs n), .int false .i64 (errX 21 w rd rs n)]) := by
  have hE : errX 21 w rd rs n = (bif (decide (w = 4) || decide (w = 8)) && ((false || decide (w = 8)) && (regX rd && (regX rs && decide (n = 0)))) then (bif ((true) || false) then 0 else 10) else 1) := by kernel_rfl
  refine gives_tree (t7_21 w rd rs n) ?_
  refine gives_cond (fun h1 => ?_) (fun h1 => ?_)
  · have hA : ((decide (w = 4) || decide (w = 8)) && ((false || decide (w = 8)) && (regX rd && (regX rs && decide (n = 0))))) = false := by
      simp [cms] at h1 ⊢
      first | done | omega | (split at h1 <;> omega) | ((repeat' split at h1) <;> omega) | skip
    have he : errX 21 w rd rs n = 1 := by rw [hE, hA]; rfl
    exact givesE (strX_bad he (by decide)) he.symm
  · have hA : ((decide (w = 4) || decide (w = 8)) && ((false || decide (w = 8)) && (regX rd && (regX rs && decide (n = 0))))) = true := by
      simp [cms] at h1 ⊢
      first | done | omega | (split at h1 <;> omega) | ((repeat' split at h1) <;> omega) | skip
    have he : errX 21 w rd rs n = 0 := by rw [hE, hA]; rfl
    refine gives_cond (fun _ => ?_) (fun h3 => ?_)
    case refine_2 => exfalso; revert h3; cases cm .eql w 8 <;> simp [allB]
    have hrd : small rd := by simp [regX] at hA; simp only [small]; omega
    have hrs : small rs := by simp [regX] at hA; simp only [small]; omega
    have hw : w = 4 ∨ w = 8 := by simp at hA; omega
    refine givesE ?_ he.symm
    rw [strX_ok he, strOf_S]
    exact congrArg S (Eq.trans (b := [rexA w rd rs, 15, 182, modA 192 rd rs]) (by kernel_rfl) (Eq.trans (b := [rexI w rd rs, 15, 182, modI 192 rd rs]) (by rw [rexA_eq hw hrd hrs, modA_eq (.inl rfl) hrd hrs]) (by kernel_rfl)))

attribute [local irreducible] evalF Lf.gives in
theorem enc7_22 (w rd rs n : Int) : (T7 22 w rd rs n).leaf.gives (.tup [.str (strX 22 w rd rs n), .int false .i64 (errX 22 w rd rs n)]) := by
  have hE : errX 22 w rd rs n = (bif (decide (w = 4) || decide (w = 8)) && ((false || decide (w = 8)) && (regX rd && (regX rs && decide (n = 0)))) then (bif ((true) || false) then 0 else 10) else 1) := by kernel_rfl
  refine gives_tree (t7_22 w rd rs n) ?_
  refine gives_cond (fun h1 => ?_) (fun h1 => ?_)
  · have hA : ((decide (w = 4) || decide (w = 8)) && ((false || decide (w = 8)) && (regX rd && (regX rs && decide (n = 0))))) = false := by
      simp [cms] at h1 ⊢
      first | done | omega | (split at h1 <;> omega) | ((repeat' split at h1) <;> omega) | skip
    have he : errX 22 w rd rs n = 1 := by rw [hE, hA]; rfl
    exact givesE (strX_bad he (by decide)) he.symm
  · have hA : ((decide (w = 4) || decide (w = 8)) && ((false || decide (w = 8)) && (regX rd && (regX rs && decide (n = 0))))) = true := by
      simp [cms] at h1 ⊢
      first | done | omega | (split at h1 <;> omega) | ((repeat' split at h1) <;> omega) | skip
    have he : errX 22 w rd rs n = 0 := by rw [hE, hA]; rfl
    refine gives_cond (fun _ => ?_) (fun h3 => ?_)
    case refine_2 => exfalso; revert h3; cases cm .eql w 8 <;> simp [allB]
    have hrd : small rd := by simp [regX] at hA; simp only [small]; omega
    have hrs : small rs := by simp [regX] at hA; simp only [small]; omega
    have hw : w = 4 ∨ w = 8 := by simp at hA; omega
    refine givesE ?_ he.symm
    rw [strX_ok he, strOf_S]
    exact congrArg S (Eq.trans (b := [rexA w rd rs, 15, 183, modA 192 rd rs]) (by kernel_rfl) (Eq.trans (b := [rexI w rd rs, 15, 183, modI 192 rd rs]) (by rw [rexA_eq hw hrd hrs, modA_eq (.inl rfl) hrd hrs]) (by kernel_rfl)))

attribute [local irreducible] evalF Lf.gives in
theorem enc7_23 (w rd rs n : Int) : (T7 23 w rd rs n).leaf.gives (.tup [.str (strX 23 w rd rs n), .int false .i64 (errX 23 w rd rs n)]) := by
  have hE : errX 23 w rd rs n = (bif (decide (w = 4) || decide (w = 8)) && ((false || decide (w = 8)) && (regX rd && (regX rs && decide (n = 0)))) then (bif ((true) || false) then 0 else 10) else 1) := by kernel_rfl
  refine gives_tree (t7_23 w rd rs n) ?_
  refine gives_cond (fun h1 => ?_) (fun h1 => ?_)
  · have hA : ((decide (w = 4) || decide (w = 8)) && ((false || decide (w = 8)) && (regX rd && (regX rs && decide (n = 0))))) = false := by
      simp [cms] at h1 ⊢
      first | done | omega | (split at h1 <;> omega) | ((repeat' split at h1) <;> omega) | skip
    have he : errX 23 w rd rs n = 1 := by rw [hE, hA]; rfl
    exact givesE (strX_bad he (by decide)) he.symm
  · have hA : ((decide (w = 4) || decide (w = 8)) && ((false || decide (w = 8)) && (regX rd && (regX rs && decide (n = 0))))) = true := by
      simp [cms] at h1 ⊢
      first | done | omega | (split at h1 <;> omega) | ((repeat' split at h1) <;> omega) | skip
    have he : errX 23 w rd rs n = 0 := by rw [hE, hA]; rfl
    refine gives_cond (fun _ => ?_) (fun h3 => ?_)
    case refine_2 => exfalso; revert h3; cases cm .eql w 8 <;> simp [allB]
    have hrd : small rd := by simp [regX] at hA; simp only [small]; omega
    have hrs : small rs := by simp [regX] at hA; simp only [small]; omega
    have hw : w = 4 ∨ w = 8 := by simp at hA; omega
    refine givesE ?_ he.symm
    rw [strX_ok he, strOf_S]
    exact congrArg S (Eq.trans (b := [rexA w rd rs, 15, 190, modA 192 rd rs]) (by kernel_rfl) (Eq.trans (b := [rexI w rd rs, 15, 190, modI 192 rd rs]) (by rw [rexA_eq hw hrd hrs, modA_eq (.inl rfl) hrd hrs]) (by kernel_rfl)))

attribute [local irreducible] evalF Lf.gives in
theorem enc7_24 (w rd rs n : Int) : (T7 24 w rd rs n).leaf.gives (.tup [.str (strX 24 w rd rs n), .int false .i64 (errX 24 w rd rs n)]) := by
  have hE : errX 24 w rd rs n = (bif (decide (w = 4) || decide (w = 8)) && ((false || decide (w = 8)) && (regX rd && (regX rs && decide (n = 0)))) then (bif ((true) || false) then 0 else 10) else 1) := by kernel_rfl
  refine gives_tree (t7_24 w rd rs n) ?_
  refine gives_cond (fun h1 => ?_) (fun h1 => ?_)
  · have hA : ((decide (w = 4) || decide (w = 8)) && ((false || decide (w = 8)) && (regX rd && (regX rs && decide (n = 0))))) = false := by
      simp [cms] at h1 ⊢
      first | done | omega | (split at h1 <;> omega) | ((repeat' split at h1) <;> omega) | skip
    have he : errX 24 w rd rs n = 1 := by rw [hE, hA]; rfl
    exact givesE (strX_bad he (by decide)) he.symm
  · have hA : ((decide (w = 4) || decide (w = 8)) && ((false || decide (w = 8)) && (regX rd && (regX rs && decide (n = 0))))) = true := by
      simp [cms] at h1 ⊢
      first | done | omega | (split at h1 <;> omega) | ((repeat' split at h1) <;> omega) | skip
    have he : errX 24 w rd rs n = 0 := by rw [hE, hA]; rfl
    refine gives_cond (fun _ => ?_) (fun h3 => ?_)
    case refine_2 => exfalso; revert h3; cases cm .eql w 8 <;> simp [allB]
    have hrd : small rd := by simp [regX] at hA; simp only [small]; omega
    have hrs : small rs := by simp [regX] at hA; simp only [small]; omega
    have hw : w = 4 ∨ w = 8 := by simp at hA; omega
    refine givesE ?_ he.symm
    rw [strX_ok he, strOf_S]
    exact congrArg S (Eq.trans (b := [rexA w rd rs, 15, 191, modA 192 rd rs]) (by kernel_rfl) (Eq.trans (b := [rexI w rd rs, 15, 191, modI 192 rd rs]) (by rw [rexA_eq hw hrd hrs, modA_eq (.inl rfl) hrd hrs]) (by kernel_rfl)))

end Go.X
end

section
set_option linter.unusedVariables false
open Go Go.Ev Go.Proofs
namespace Go.X

theorem t7_25 (w : Int) (rd : Int) (rs : Int) (n : Int) : (T7 25 w rd rs n).bare =
    (bif (bif cm .neq w 4 then bif cm .neq w 8 then true else bif cm .neq w 8 then true else !bif bif cm .geq rd 0 then cm .lss rd 16 else false then bif bif cm .geq rs 0 then cm .lss rs 16 else false then cm .eql n 0 else false else false else bif cm .neq w 8 then true else !bif bif cm .geq rd 0 then cm .lss rd 16 else false then bif bif cm .geq rs 0 then cm .lss rs 16 else false then cm .eql n 0 else false else false) then
 .ret (.tup [.str ⟨#[]⟩, .int true .i64 1]) []
 else
 bif (bif cm .eql w 8 then allB [decide (0 ≤ 3), decide (0 ≤ 2), decide (0 ≤ 3)] else allB [decide (0 ≤ 3), decide (0 ≤ 2), decide (0 ≤ 3)]) then
 .ret (.tup [(.str (strOf (cat (1 + (ByteArray.mk #[99]).size + 1) (cat (1 + (ByteArray.mk #[99]).size) (cat 1 (nth [bif cm .eql w 8 then ar .or .u8 (ar .or .u8 (ar .or .u8 64 8) (ar .shl .u8 (conv .u8 (ar .shr .i64 rd 3)) 2)) (conv .u8 (ar .shr .i64 rs 3)) else ar .or .u8 (ar .or .u8 64 (ar .shl .u8 (conv .u8 (ar .shr .i64 rd 3)) 2)) (conv .u8 (ar .shr .i64 rs 3))] 0) (chr (ByteArray.mk #[99]))) (nth [ar .or .u8 (ar .or .u8 192 (ar .shl .u8 (conv .u8 (ar .and .i64 rd 7)) 3)) (conv .u8 (ar .and .i64 rs 7))] 0)) (bat n)) (1 + (ByteArray.mk #[99]).size + 1 + Int.toNat 0))), .int true .i64 0]) []
 else .bad) := by kernel_rfl

theorem t7_26 (w : Int) (rd : Int) (rs : Int) (n : Int) : (T7 26 w rd rs n).bare =
    (bif (bif cm .neq w 4 then bif cm .neq w 8 then true else bif cm .neq w 8 then true else !bif bif cm .geq rd 0 then cm .lss rd 16 else false then bif bif cm .geq rs 0 then cm .lss rs 16 else false then cm .neq (ar .and .i64 rs 7) 4 else false else false else bif cm .neq w 8 then true else !bif bif cm .geq rd 0 then cm .lss rd 16 else false then bif bif cm .geq rs 0 then cm .lss rs 16 else false then cm .neq (ar .and .i64 rs 7) 4 else false else false) then
 .ret (.tup [.str ⟨#[]⟩, .int true .i64 1]) []
 else
 bif (bif !bif cm .geq n (-2147483648) then cm .leq n 2147483647 else false then cm .neq 2 7 else false) then
 .ret (.tup [.str ⟨#[]⟩, .int true .i64 10]) []
 else
 bif (bif cm .eql w 8 then allB [decide (0 ≤ 3), decide (0 ≤ 2), decide (0 ≤ 3)] else allB [decide (0 ≤ 3), decide (0 ≤ 2), decide (0 ≤ 3)]) then
 .ret (.tup [(.str (strOf (cat (1 + (ByteArray.mk #[139]).size + 1) (cat (1 + (ByteArray.mk #[139]).size) (cat 1 (nth [bif cm .eql w 8 then ar .or .u8 (ar .or .u8 (ar .or .u8 64 8) (ar .shl .u8 (conv .u8 (ar .shr .i64 rd 3)) 2)) (conv .u8 (ar .shr .i64 rs 3)) else ar .or .u8 (ar .or .u8 64 (ar .shl .u8 (conv .u8 (ar .shr .i64 rd 3)) 2)) (conv .u8 (ar .shr .i64 rs 3))] 0) (chr (ByteArray.mk #[139]))) (nth [ar .or .u8 (ar .or .u8 128 (ar .shl .u8 (conv .u8 (ar .and .i64 rd 7)) 3)) (conv .u8 (ar .and .i64 rs 7))] 0)) (bat n)) (1 + (ByteArray.mk #[139]).size + 1 + Int.toNat 4))), .int true .i64 0]) []
 else .bad) := by kernel_rfl

theorem t7_27 (w : Int) (rd : Int) (rs : Int) (n : Int) : (T7 27 w rd rs n).bare =
    (bif (bif cm .neq w 4 then bif cm .neq w 8 then true else bif cm .neq w 4 then true else !bif bif cm .geq rd 0 then cm .lss rd 16 else false then bif bif cm .geq rs 0 then cm .lss rs 16 else false then cm .neq (ar .and .i64 rs 7) 4 else false else false else bif cm .neq w 4 then true else !bif bif cm .geq rd 0 then cm .lss rd 16 else false then bif bif cm .geq rs 0 then cm .lss rs 16 else false then cm .neq (ar .and .i64 rs 7) 4 else false else false) then
 .ret (.tup [.str ⟨#[]⟩, .int true .i64 1]) []
 else
 bif (bif !bif cm .geq n (-2147483648) then cm .leq n 2147483647 else false then cm .neq 2 7 else false) then
 .ret (.tup [.str ⟨#[]⟩, .int true .i64 10]) []
 else
 bif (bif cm .eql w 8 then allB [decide (0 ≤ 3), decide (0 ≤ 2), decide (0 ≤ 3)] else allB [decide (0 ≤ 3), decide (0 ≤ 2), decide (0 ≤ 3)]) then
 .ret (.tup [(.str (strOf (cat (1 + (ByteArray.mk #[139]).size + 1) (cat (1 + (ByteArray.mk #[139]).size) (cat 1 (nth [bif cm .eql w 8 then ar .or .u8 (ar .or .u8 (ar .or .u8 64 8) (ar .shl .u8 (conv .u8 (ar .shr .i64 rd 3)) 2)) (conv .u8 (ar .shr .i64 rs 3)) else ar .or .u8 (ar .or .u8 64 (ar .shl .u8 (conv .u8 (ar .shr .i64 rd 3)) 2)) (conv .u8 (ar .shr .i64 rs 3))] 0) (chr (ByteArray.mk #[139]))) (nth [ar .or .u8 (ar .or .u8 128 (ar .shl .u8 (conv .u8 (ar .and .i64 rd 7)) 3)) (conv .u8 (ar .and .i64 rs 7))] 0)) (bat n)) (1 + (ByteArray.mk #[139]).size + 1 + Int.toNat 4))), .int true .i64 0]) []
 else .bad) := by kernel_rfl

theorem t7_28 (w : Int) (rd : Int) (rs : Int) (n : Int) : (T7 28 w rd rs n).bare =
    (bif (bif cm .neq w 4 then bif cm .neq w 8 then true else bif cm .neq w 8 then true else !bif bif cm .geq rd 0 then cm .lss rd 16 else false then bif bif cm .geq rs 0 then cm .lss rs 16 else false then cm .neq (ar .and .i64 rs 7) 4 else false else false else bif cm .neq w 8 then true else !bif bif cm .geq rd 0 then cm .lss rd 16 else false then bif bif cm .geq rs 0 then cm .lss rs 16 else false then cm .neq (ar .and .i64 rs 7) 4 else false else false) then
 .ret (.tup [.str ⟨#[]⟩, .int true .i64 1]) []
 else
 bif (bif !bif cm .geq n (-2147483648) then cm .leq n 2147483647 else false then cm .neq 2 7 else false) then
 .ret (.tup [.str ⟨#[]⟩, .int true .i64 10]) []
 else
 bif (bif cm .eql w 8 then allB [decide (0 ≤ 3), decide (0 ≤ 2), decide (0 ≤ 3)] else allB [decide (0 ≤ 3), decide (0 ≤ 2), decide (0 ≤ 3)]) then
 .ret (.tup [(.str (strOf (cat (1 + (ByteArray.mk #[99]).size + 1) (cat (1 + (ByteArray.mk #[99]).size) (cat 1 (nth [bif cm .eql w 8 then ar .or .u8 (ar .or .u8 (ar .or .u8 64 8) (ar .shl .u8 (conv .u8 (ar .shr .i64 rd 3)) 2)) (conv .u8 (ar .shr .i64 rs 3)) else ar .or .u8 (ar .or .u8 64 (ar .shl .u8 (conv .u8 (ar .shr .i64 rd 3)) 2)) (conv .u8 (ar .shr .i64 rs 3))] 0) (chr (ByteArray.mk #[99]))) (nth [ar .or .u8 (ar .or .u8 128 (ar .shl .u8 (conv .u8 (ar .and .i64 rd 7)) 3)) (conv .u8 (ar .and .i64 rs 7))] 0)) (bat n)) (1 + (ByteArray.mk #[99]).size + 1 + Int.toNat 4))), .int true .i64 0]) []
 else .bad) := by kernel_rfl

theorem t7_29 (w : Int) (rd : Int) (rs : Int) (n : Int) : (T7 29 w rd rs n).bare =
    (bif (bif cm .neq w 4 then bif cm .neq w 8 then true else bif cm .neq w 8 then true else !bif bif cm .geq rd 0 then cm .lss rd 16 else false then bif bif cm .geq rs 0 then cm .lss rs 16 else false then cm .neq (ar .and .i64 rs 7) 4 else false else false else bif cm .neq w 8 then true else !bif bif cm .geq rd 0 then cm .lss rd 16 else false then bif bif cm .geq rs 0 then cm .lss rs 16 else false then cm .neq (ar .and .i64 rs 7) 4 else false else false) then
 .ret (.tup [.str ⟨#[]⟩, .int true .i64 1]) []
 else
 bif (bif !bif cm .geq n (-2147483648) then cm .leq n 2147483647 else false then cm .neq 2 7 else false) then
 .ret (.tup [.str ⟨#[]⟩, .int true .i64 10]) []
 else
 bif (bif cm .eql w 8 then allB [decide (0 ≤ 3), decide (0 ≤ 2), decide (0 ≤ 3)] else allB [decide (0 ≤ 3), decide (0 ≤ 2), decide (0 ≤ 3)]) then
 .ret (.tup [(.str (strOf (cat (1 + (ByteArray.mk #[15, 191]).size + 1) (cat (1 + (ByteArray.mk #[15, 191]).size) (cat 1 (nth [bif cm .eql w 8 then ar .or .u8 (ar .or .u8 (ar .or .u8 64 8) (ar .shl .u8 (conv .u8 (ar .shr .i64 rd 3)) 2)) (conv .u8 (ar .shr .i64 rs 3)) else ar .or .u8 (ar .or .u8 64 (ar .shl .u8 (conv .u8 (ar .shr .i64 rd 3)) 2)) (conv .u8 (ar .shr .i64 rs 3))] 0) (chr (ByteArray.mk #[15, 191]))) (nth [ar .or .u8 (ar .or .u8 128 (ar .shl .u8 (conv .u8 (ar .and .i64 rd 7)) 3)) (conv .u8 (ar .and .i64 rs 7))] 0)) (bat n)) (1 + (ByteArray.mk #[15, 191]).size + 1 + Int.toNat 4))), .int true .i64 0]) []
 else .bad) := by kernel_rfl

theorem t7_30 (w : Int) (rd : Int) (rs : Int) (n : Int) : (T7 30 w rd rs n).bare =
    (bif (bif cm .neq w 4 then bif cm .neq w 8 then true else bif cm .neq w 8 then true else !bif bif cm .geq rd 0 then cm .lss rd 16 else false then bif bif cm .geq rs 0 then cm .lss rs 16 else false then cm .neq (ar .and .i64 rs 7) 4 else false else false else bif cm .neq w 8 then true else !bif bif cm .geq rd 0 then cm .lss rd 16 else false then bif bif cm .geq rs 0 then cm .lss rs 16 else false then cm .neq (ar .and .i64 rs 7) 4 else false else false) then
 .ret (.tup [.str ⟨#[]⟩, .int true .i64 1]) []
 else
 bif (bif !bif cm .geq n (-2147483648) then cm .leq n 2147483647 else false then cm .neq 2 7 else false) then
 .ret (.tup [.str ⟨#[]⟩, .int true .i64 10]) []
 else
 bif (bif cm .eql w 8 then allB [decide (0 ≤ 3), decide (0 ≤ 2), decide (0 ≤ 3)] else allB [decide (0 ≤ 3), decide (0 ≤ 2), decide (0 ≤ 3)]) then
 .ret (.tup [(.str (strOf (cat (1 + (ByteArray.mk #[15, 190]).size + 1) (cat (1 + (ByteArray.mk #[15, 190]).size) (cat 1 (nth [bif cm .eql w 8 then ar .or .u8 (ar .or .u8 (ar .or .u8 64 8) (ar .shl .u8 (conv .u8 (ar .shr .i64 rd 3)) 2)) (conv .u8 (ar .shr .i64 rs 3)) else ar .or .u8 (ar .or .u8 64 (ar .shl .u8 (conv .u8 (ar .shr .i64 rd 3)) 2)) (conv .u8 (ar .shr .i64 rs 3))] 0) (chr (ByteArray.mk #[15, 190]))) (nth [ar .or .u8 (ar .or .u8 128 (ar .shl .u8 (conv .u8 (ar .and .i64 rd 7)) 3)) (conv .u8 (ar .and .i64 rs 7))] 0)) (bat n)) (1 + (ByteArray.mk #[15, 190]).size + 1 + Int.toNat 4))), .int true .i64 0]) []
 else .bad) := by kernel_rfl

theorem t7_31 (w : Int) (rd : Int) (rs : Int) (n : Int) : (T7 31 w rd rs n).bare =
    (bif (bif cm .neq w 4 then bif cm .neq w 8 then true else bif cm .neq w 8 then true else !bif bif cm .geq rd 0 then cm .lss rd 16 else false then bif bif cm .geq rs 0 then cm .lss rs 16 else false then cm .neq (ar .and .i64 rs 7) 4 else false else false else bif cm .neq w 8 then true else !bif bif cm .geq rd 0 then cm .lss rd 16 else false then bif bif cm .geq rs 0 then cm .lss rs 16 else false then cm .neq (ar .and .i64 rs 7) 4 else false else false) then
 .ret (.tup [.str ⟨#[]⟩, .int true .i64 1]) []
 else
 bif (bif !bif cm .geq n (-2147483648) then cm .leq n 2147483647 else false then cm .neq 2 7 else false) then
 .ret (.tup [.str ⟨#[]⟩, .int true .i64 10]) []
 else
 bif (bif cm .eql w 8 then allB [decide (0 ≤ 3), decide (0 ≤ 2), decide (0 ≤ 3)] else allB [decide (0 ≤ 3), decide (0 ≤ 2), decide (0 ≤ 3)]) then
 .ret (.tup [(.str (strOf (cat (1 + (ByteArray.mk #[15, 183]).size + 1) (cat (1 + (ByteArray.mk #[15, 183]).size) (cat 1 (nth [bif cm .eql w 8 then ar .or .u8 (ar .or .u8 (ar .or .u8 64 8) (ar .shl .u8 (conv .u8 (ar .shr .i64 rd 3)) 2)) (conv .u8 (ar .shr .i64 rs 3)) else ar .or .u8 (ar .or .u8 64 (ar .shl .u8 (conv .u8 (ar .shr .i64 rd 3)) 2)) (conv .u8 (ar .shr .i64 rs 3))] 0) (chr (ByteArray.mk #[15, 183]))) (nth [ar .or .u8 (ar .or .u8 128 (ar .shl .u8 (conv .u8 (ar .and .i64 rd 7)) 3)) (conv .u8 (ar .and .i64 rs 7))] 0)) (bat n)) (1 + (ByteArray.mk #[15, 183]).size + 1 + Int.toNat 4))), .int true .i64 0]) []
 else .bad) := by kernel_rfl

theorem t7_32 (w : Int) (rd : Int) (rs : Int) (n : Int) : (T7 32 w rd rs n).bare =
    (bif (bif cm .neq w 4 then bif cm .neq w 8 then true else bif cm .neq w 8 then true else !bif bif cm .geq rd 0 then cm .lss rd 16 else false then bif bif cm .geq rs 0 then cm .lss rs 16 else false then cm .neq (ar .and .i64 rs 7) 4 else false else false else bif cm .neq w 8 then true else !bif bif cm .geq rd 0 then cm .lss rd 16 else false then bif bif cm .geq rs 0 then cm .lss rs 16 else false then cm .neq (ar .and .i64 rs 7) 4 else false else false) then
 .ret (.tup [.str ⟨#[]⟩, .int true .i64 1]) []
 else
 bif (bif !bif cm .geq n (-2147483648) then cm .leq n 2147483647 else false then cm .neq 2 7 else false) then
 .ret (.tup [.str ⟨#[]⟩, .int true .i64 10]) []
 else
 bif (bif cm .eql w 8 then allB [decide (0 ≤ 3), decide (0 ≤ 2), decide (0 ≤ 3)] else allB [decide (0 ≤ 3), decide (0 ≤ 2), decide (0 ≤ 3)]) then
 .ret (.tup [(.str (strOf (cat (1 + (ByteArray.mk #[15, 182]).size + 1) (cat (1 + (ByteArray.mk #[15, 182]).size) (cat 1 (nth [bif cm .eql w 8 then ar .or .u8 (ar .or .u8 (ar .or .u8 64 8) (ar .shl .u8 (conv .u8 (ar .shr .i64 rd 3)) 2)) (conv .u8 (ar .shr .i64 rs 3)) else ar .or .u8 (ar .or .u8 64 (ar .shl .u8 (conv .u8 (ar .shr .i64 rd 3)) 2)) (conv .u8 (ar .shr .i64 rs 3))] 0) (chr (ByteArray.mk #[15, 182]))) (nth [ar .or .u8 (ar .or .u8 128 (ar .shl .u8 (conv .u8 (ar .and .i64 rd 7)) 3)) (conv .u8 (ar .and .i64 rs 7))] 0)) (bat n)) (1 + (ByteArray.mk #[15, 182]).size + 1 + Int.toNat 4))), .int true .i64 0]) []
 else .bad) := by kernel_rfl

theorem t7_33 (w : Int) (rd : Int) (rs : Int) (n : Int) : (T7 33 w rd rs n).bare =
    (bif (bif cm .neq w 4 then bif cm .neq w 8 then true else bif cm .neq w 8 then true else !bif bif cm .geq rd 0 then cm .lss rd 16 else false then bif bif cm .geq rs 0 then cm .lss rs 16 else false then cm .neq (ar .and .i64 rs 7) 4 else false else false else bif cm .neq w 8 then true else !bif bif cm .geq rd 0 then cm .lss rd 16 else false then bif bif cm .geq rs 0 then cm .lss rs 16 else false then cm .neq (ar .and .i64 rs 7) 4 else false else false) then
 .ret (.tup [.str ⟨#[]⟩, .int true .i64 1]) []
 else
 bif (bif !bif cm .geq n (-2147483648) then cm .leq n 2147483647 else false then cm .neq 2 7 else false) then
 .ret (.tup [.str ⟨#[]⟩, .int true .i64 10]) []
 else
 bif (bif cm .eql w 8 then allB [decide (0 ≤ 3), decide (0 ≤ 2), decide (0 ≤ 3)] else allB [decide (0 ≤ 3), decide (0 ≤ 2), decide (0 ≤ 3)]) then
 .ret (.tup [(.str (strOf (cat (1 + (ByteArray.mk #[137]).size + 1) (cat (1 + (ByteArray.mk #[137]).size) (cat 1 (nth [bif cm .eql w 8 then ar .or .u8 (ar .or .u8 (ar .or .u8 64 8) (ar .shl .u8 (conv .u8 (ar .shr .i64 rd 3)) 2)) (conv .u8 (ar .shr .i64 rs 3)) else ar .or .u8 (ar .or .u8 64 (ar .shl .u8 (conv .u8 (ar .shr .i64 rd 3)) 2)) (conv .u8 (ar .shr .i64 rs 3))] 0) (chr (ByteArray.mk #[137]))) (nth [ar .or .u8 (ar .or .u8 128 (ar .shl .u8 (conv .u8 (ar .and .i64 rd 7)) 3)) (conv .u8 (ar .and .i64 rs 7))] 0)) (bat n)) (1 + (ByteArray.mk #[137]).size + 1 + Int.toNat 4))), .int true .i64 0]) []
 else .bad) := by kernel_rfl

theorem t7_34 (w : Int) (rd : Int) (rs : Int) (n : Int) : (T7 34 w rd rs n).bare =
    (bif (bif cm .neq w 4 then bif cm .neq w 8 then true else bif cm .neq w 4 then true else !bif bif cm .geq rd 0 then cm .lss rd 16 else false then bif bif cm .geq rs 0 then cm .lss rs 16 else false then cm .neq (ar .and .i64 rs 7) 4 else false else false else bif cm .neq w 4 then true else !bif bif cm .geq rd 0 then cm .lss rd 16 else false then bif bif cm .geq rs 0 then cm .lss rs 16 else false then cm .neq (ar .and .i64 rs 7) 4 else false else false) then
 .ret (.tup [.str ⟨#[]⟩, .int true .i64 1]) []
 else
 bif (bif !bif cm .geq n (-2147483648) then cm .leq n 2147483647 else false then cm .neq 2 7 else false) then
 .ret (.tup [.str ⟨#[]⟩, .int true .i64 10]) []
 else
 bif (bif cm .eql w 8 then allB [decide (0 ≤ 3), decide (0 ≤ 2), decide (0 ≤ 3)] else allB [decide (0 ≤ 3), decide (0 ≤ 2), decide (0 ≤ 3)]) then
 .ret (.tup [(.str (strOf (cat (1 + (ByteArray.mk #[137]).size + 1) (cat (1 + (ByteArray.mk #[137]).size) (cat 1 (nth [bif cm .eql w 8 then ar .or .u8 (ar .or .u8 (ar .or .u8 64 8) (ar .shl .u8 (conv .u8 (ar .shr .i64 rd 3)) 2)) (conv .u8 (ar .shr .i64 rs 3)) else ar .or .u8 (ar .or .u8 64 (ar .shl .u8 (conv .u8 (ar .shr .i64 rd 3)) 2)) (conv .u8 (ar .shr .i64 rs 3))] 0) (chr (ByteArray.mk #[137]))) (nth [ar .or .u8 (ar .or .u8 128 (ar .shl .u8 (conv .u8 (ar .and .i64 rd 7)) 3)) (conv .u8 (ar .and .i64 rs 7))] 0)) (bat n)) (1 + (ByteArray.mk #[137]).size + 1 + Int.toNat 4))), .int true .i64 0]) []
 else .bad) := by kernel_rfl

theorem t7_35 (w : Int) (rd : Int) (rs : Int) (n : Int) : (T7 35 w rd rs n).bare =
    (bif (bif cm .neq w 4 then bif cm .neq w 8 then true else bif cm .neq w 4 then true else !bif bif cm .geq rd 0 then cm .lss rd 16 else false then bif bif cm .geq rs 0 then cm .lss rs 16 else false then cm .neq (ar .and .i64 rs 7) 4 else false else false else bif cm .neq w 4 then true else !bif bif cm .geq rd 0 then cm .lss rd 16 else false then bif bif cm .geq rs 0 then cm .lss rs 16 else false then cm .neq (ar .and .i64 rs 7) 4 else false else false) then
 .ret (.tup [.str ⟨#[]⟩, .int true .i64 1]) []
 else
 bif (bif !bif cm .geq n (-2147483648) then cm .leq n 2147483647 else false then cm .neq 2 7 else false) then
 .ret (.tup [.str ⟨#[]⟩, .int true .i64 10]) []
 else
 bif (bif cm .eql w 8 then allB [decide (0 ≤ 3), decide (0 ≤ 2), decide (0 ≤ 3)] else allB [decide (0 ≤ 3), decide (0 ≤ 2), decide (0 ≤ 3)]) then
 .ret (.tup [(.str (strOf (cat (1 + 1 + (ByteArray.mk #[137]).size + 1) (cat (1 + 1 + (ByteArray.mk #[137]).size) (cat (1 + 1) (cat 1 (nth [102] 0) (nth [bif cm .eql w 8 then ar .or .u8 (ar .or .u8 (ar .or .u8 64 8) (ar .shl .u8 (conv .u8 (ar .shr .i64 rd 3)) 2)) (conv .u8 (ar .shr .i64 rs 3)) else ar .or .u8 (ar .or .u8 64 (ar .shl .u8 (conv .u8 (ar .shr .i64 rd 3)) 2)) (conv .u8 (ar .shr .i64 rs 3))] 0)) (chr (ByteArray.mk #[137]))) (nth [ar .or .u8 (ar .or .u8 128 (ar .shl .u8 (conv .u8 (ar .and .i64 rd 7)) 3)) (conv .u8 (ar .and .i64 rs 7))] 0)) (bat n)) (1 + 1 + (ByteArray.mk #[137]).size + 1 + Int.toNat 4))), .int true .i64 0]) []
 else .bad) := by kernel_rfl

theorem t7_36 (w : Int) (rd : Int) (rs : Int) (n : Int) : (T7 36 w rd rs n).bare =
    (bif (bif cm .neq w 4 then bif cm .neq w 8 then true else bif cm .neq w 4 then true else !bif bif cm .geq rd 0 then cm .lss rd 16 else false then bif bif cm .geq rs 0 then cm .lss rs 16 else false then cm .neq (ar .and .i64 rs 7) 4 else false else false else bif cm .neq w 4 then true else !bif bif cm .geq rd 0 then cm .lss rd 16 else false then bif bif cm .geq rs 0 then cm .lss rs 16 else false then cm .neq (ar .and .i64 rs 7) 4 else false else false) then
 .ret (.tup [.str ⟨#[]⟩, .int true .i64 1]) []
 else
 bif (bif !bif cm .geq n (-2147483648) then cm .leq n 2147483647 else false then cm .neq 2 7 else false) then
 .ret (.tup [.str ⟨#[]⟩, .int true .i64 10]) []
 else
 bif (bif cm .eql w 8 then allB [decide (0 ≤ 3), decide (0 ≤ 2), decide (0 ≤ 3)] else allB [decide (0 ≤ 3), decide (0 ≤ 2), decide (0 ≤ 3)]) then
 .ret (.tup [(.str (strOf (cat (1 + (ByteArray.mk #[136]).size + 1) (cat (1 + (ByteArray.mk #[136]).size) (cat 1 (nth [bif cm .eql w 8 then ar .or .u8 (ar .or .u8 (ar .or .u8 64 8) (ar .shl .u8 (conv .u8 (ar .shr .i64 rd 3)) 2)) (conv .u8 (ar .shr .i64 rs 3)) else ar .or .u8 (ar .or .u8 64 (ar .shl .u8 (conv .u8 (ar .shr .i64 rd 3)) 2)) (conv .u8 (ar .shr .i64 rs 3))] 0) (chr (ByteArray.mk #[136]))) (nth [ar .or .u8 (ar .or .u8 128 (ar .shl .u8 (conv .u8 (ar .and .i64 rd 7)) 3)) (conv .u8 (ar .and .i64 rs 7))] 0)) (bat n)) (1 + (ByteArray.mk #[136]).size + 1 + Int.toNat 4))), .int true .i64 0]) []
 else .bad) := by kernel_rfl

end Go.X
end

section
set_option linter.unusedVariables false
open Go Go.Ev Go.Proofs
namespace Go.X

attribute [local irreducible] evalF Lf.gives in
theorem enc7_25 (w rd rs n : Int) : (T7 25 w rd rs n).leaf.gives (.tup [.str (strX 25 w rd rs n), .int false .i64 (errX 25 w rd rs n)]) := by
  have hE : errX 25 w rd rs n = (bif (decide (w = 4) || decide (w = 8)) && ((false || decide (w = 8)) && (regX rd && (regX rs && decide (n = 0)))) then (bif ((true) || false) then 0 else 10) else 1) := by kernel_rfl
  refine gives_tree (t7_25 w rd rs n) ?_
  refine gives_cond (fun h1 => ?_) (fun h1 => ?_)
  · have hA : ((decide (w = 4) || decide (w = 8)) && ((false || decide (w = 8)) && (regX rd && (regX rs && decide (n = 0))))) = false := by
      simp [cms] at h1 ⊢
      first | done | omega | (split at h1 <;> omega) | ((repeat' split at h1) <;> omega) | skip
    have he : errX 25 w rd rs n = 1 := by rw [hE, hA]; rfl
    exact givesE (strX_bad he (by decide)) he.symm
  · have hA : ((decide (w = 4) || decide (w = 8)) && ((false || decide (w = 8)) && (regX rd && (regX rs && decide (n = 0))))) = true := by
      simp [cms] at h1 ⊢
      first | done | omega | (split at h1 <;> omega) | ((repeat' split at h1) <;> omega) | skip
    have he : errX 25 w rd rs n = 0 := by rw [hE, hA]; rfl
    refine gives_cond (fun _ => ?_) (fun h3 => ?_)
    case refine_2 => exfalso; revert h3; cases cm .eql w 8 <;> simp [allB]
    have hrd : small rd := by simp [regX] at hA; simp only [small]; omega
    have hrs : small rs := by simp [regX] at hA; simp only [small]; omega
    have hw : w = 4 ∨ w = 8 := by simp at hA; omega
    refine givesE ?_ he.symm
    rw [strX_ok he, strOf_S]
    exact congrArg S (Eq.trans (b := [rexA w rd rs, 99, modA 192 rd rs]) (by kernel_rfl) (Eq.trans (b := [rexI w rd rs, 99, modI 192 rd rs]) (by rw [rexA_eq hw hrd hrs, modA_eq (.inl rfl) hrd hrs]) (by kernel_rfl)))

attribute [local irreducible] evalF Lf.gives in
theorem enc7_26 (w rd rs n : Int) : (T7 26 w rd rs n).leaf.gives (.tup [.str (strX 26 w rd rs n), .int false .i64 (errX 26 w rd rs n)]) := by
  have hE : errX 26 w rd rs n = (bif (decide (w = 4) || decide (w = 8)) && ((false || decide (w = 8)) && (regX rd && (regX rs && !decide (rs % 8 = 4)))) then (bif ((decide (-2147483648 ≤ n) && decide (n ≤ 2147483647)) || false) then 0 else 10) else 1) := by kernel_rfl
  refine gives_tree (t7_26 w rd rs n) ?_
  refine gives_cond (fun h1 => ?_) (fun h1 => ?_)
  · have hA : ((decide (w = 4) || decide (w = 8)) && ((false || decide (w = 8)) && (regX rd && (regX rs && !decide (rs % 8 = 4))))) = false := by
      simp [cms] at h1 ⊢
      first | done | omega | (split at h1 <;> omega) | ((repeat' split at h1) <;> omega) | skip
    have he : errX 26 w rd rs n = 1 := by rw [hE, hA]; rfl
    exact givesE (strX_bad he (by decide)) he.symm
  · have hA : ((decide (w = 4) || decide (w = 8)) && ((false || decide (w = 8)) && (regX rd && (regX rs && !decide (rs % 8 = 4))))) = true := by
      simp [cms] at h1 ⊢
      first | done | omega | (split at h1 <;> omega) | ((repeat' split at h1) <;> omega) | skip
    refine gives_cond (fun h2 => ?_) (fun h2 => ?_)
    · have hF : ((decide (-2147483648 ≤ n) && decide (n ≤ 2147483647)) || false) = false := by
        simp [cms] at h2 ⊢
        first | done | omega | skip
      have he : errX 26 w rd rs n = 10 := by rw [hE, hA, hF]; rfl
      exact givesE (strX_bad he (by decide)) he.symm
    · have hF : ((decide (-2147483648 ≤ n) && decide (n ≤ 2147483647)) || false) = true := by
        simp [cms] at h2 ⊢
        first | done | omega | skip
      have he : errX 26 w rd rs n = 0 := by rw [hE, hA, hF]; rfl
      refine gives_cond (fun _ => ?_) (fun h3 => ?_)
      case refine_2 => exfalso; revert h3; cases cm .eql w 8 <;> simp [allB]
      have hrd : small rd := by simp [regX] at hA; simp only [small]; omega
      have hrs : small rs := by simp [regX] at hA; simp only [small]; omega
      have hw : w = 4 ∨ w = 8 := by simp at hA; omega
      refine givesE ?_ he.symm
      rw [strX_ok he, strOf_S]
      exact congrArg S (Eq.trans (b := [rexA w rd rs, 139, modA 128 rd rs, bat n 0, bat n 1, bat n 2, bat n 3]) (by kernel_rfl) (Eq.trans (b := [rexI w rd rs, 139, modI 128 rd rs, bat n 0, bat n 1, bat n 2, bat n 3]) (by rw [rexA_eq hw hrd hrs, modA_eq (.inr rfl) hrd hrs]) (by kernel_rfl)))

attribute [local irreducible] evalF Lf.gives in
theorem enc7_27 (w rd rs n : Int) : (T7 27 w rd rs n).leaf.gives (.tup [.str (strX 27 w rd rs n), .int false .i64 (errX 27 w rd rs n)]) := by
  have hE : errX 27 w rd rs n = (bif (decide (w = 4) || decide (w = 8)) && ((false || decide (w = 4)) && (regX rd && (regX rs && !decide (rs % 8 = 4)))) then (bif ((decide (-2147483648 ≤ n) && decide (n ≤ 2147483647)) || false) then 0 else 10) else 1) := by kernel_rfl
  refine gives_tree (t7_27 w rd rs n) ?_
  refine gives_cond (fun h1 => ?_) (fun h1 => ?_)
  · have hA : ((decide (w = 4) || decide (w = 8)) && ((false || decide (w = 4)) && (regX rd && (regX rs && !decide (rs % 8 = 4))))) = false := by
      simp [cms] at h1 ⊢
      first | done | omega | (split at h1 <;> omega) | ((repeat' split at h1) <;> omega) | skip
    have he : errX 27 w rd rs n = 1 := by rw [hE, hA]; rfl
    exact givesE (strX_bad he (by decide)) he.symm
  · have hA : ((decide (w = 4) || decide (w = 8)) && ((false || decide (w = 4)) && (regX rd && (regX rs && !decide (rs % 8 = 4))))) = true := by
      simp [cms] at h1 ⊢
      first | done | omega | (split at h1 <;> omega) | ((repeat' split at h1) <;> omega) | skip
    refine gives_cond (fun h2 => ?_) (fun h2 => ?_)
    · have hF : ((decide (-2147483648 ≤ n) && decide (n ≤ 2147483647)) || false) = false := by
        simp [cms] at h2 ⊢
        first | done | omega | skip
      have he : errX 27 w rd rs n = 10 := by rw [hE, hA, hF]; rfl
      exact givesE (strX_bad he (by decide)) he.symm
    · have hF : ((decide (-2147483648 ≤ n) && decide (n ≤ 2147483647)) || false) = true := by
        simp [cms] at h2 ⊢
        first | done | omega | skip
      have he : errX 27 w rd rs n = 0 := by rw [hE, hA, hF]; rfl
      refine gives_cond (fun _ => ?_) (fun h3 => ?_)
      case refine_2 => exfalso; revert h3; cases cm .eql w 8 <;> simp [allB]
      have hrd : small rd := by simp [regX] at hA; simp only [small]; omega
      have hrs : small rs := by simp [regX] at hA; simp only [small]; omega
      have hw : w = 4 ∨ w = 8 := by simp at hA; omega
      refine givesE ?_ he.symm
      rw [strX_ok he, strOf_S]
      exact congrArg S (Eq.trans (b := [rexA w rd rs, 139, modA 128 rd rs, bat n 0, bat n 1, bat n 2, bat n 3]) (by kernel_rfl) (Eq.trans (b := [rexI w rd rs, 139, modI 128 rd rs, bat n 0, bat n 1, bat n 2, bat n 3]) (by rw [rexA_eq hw hrd hrs, modA_eq (.inr rfl) hrd hrs]) (by kernel_rfl)))

attribute [local irreducible] evalF Lf.gives in
theorem enc7_28 (w rd rs n : Int) : (T7 28 w rd rs n).leaf.gives (.tup [.str (strX 28 w rd rs n), .int false .i64 (errX 28 w rd rs n)]) := by
  have hE : errX 28 w rd rs n = (bif (decide (w = 4) || decide (w = 8)) && ((false || decide (w = 8)) && (regX rd && (regX rs && !decide (rs % 8 = 4)))) then (bif ((decide (-2147483648 ≤ n) && decide (n ≤ 2147483647)) || false) then 0 else 10) else 1) := by kernel_rfl
  refine gives_tree (t7_28 w rd rs n) ?_
  refine gives_cond (fun h1 => ?_) (fun h1 => ?_)
  · have hA : ((decide (w = 4) || decide (w = 8)) && ((false || decide (w = 8)) && (regX rd && (regX rs && !decide (rs % 8 = 4))))) = false := by
      simp [cms] at h1 ⊢
      first | done | omega | (split at h1 <;> omega) | ((repeat' split at h1) <;> omega) | skip
    have he : errX 28 w rd rs n = 1 := by rw [hE, hA]; rfl
    exact givesE (strX_bad he (by decide)) he.symm
  · have hA : ((decide (w = 4) || decide (w = 8)) && ((false || decide (w = 8)) && (regX rd && (regX rs && !decide (rs % 8 = 4))))) = true := by
      simp [cms] at h1 ⊢
      first | done | omega | (split at h1 <;> omega) | ((repeat' split at h1) <;> omega) | skip
    refine gives_cond (fun h2 => ?_) (fun h2 => ?_)
    · have hF : ((decide (-2147483648 ≤ n) && decide (n ≤ 2147483647)) || false) = false := by
        simp [cms] at h2 ⊢
        first | done | omega | skip
      have he : errX 28 w rd rs n = 10 := by rw [hE, hA, hF]; rfl
      exact givesE (strX_bad he (by decide)) he.symm
    · have hF : ((decide (-2147483648 ≤ n) && decide (n ≤ 2147483647)) || false) = true := by
        simp [cms] at h2 ⊢
        first | done | omega | skip
      have he : errX 28 w rd rs n = 0 := by rw [hE, hA, hF]; rfl
      refine gives_cond (fun _ => ?_) (fun h3 => ?_)
      case refine_2 => exfalso; revert h3; cases cm .eql w 8 <;> simp [allB]
      have hrd : small rd := by simp [regX] at hA; simp only [small]; omega
      have hrs : small rs := by simp [regX] at hA; simp only [small]; omega
      have hw : w = 4 ∨ w = 8 := by simp at hA; omega
      refine givesE ?_ he.symm
      rw [strX_ok he, strOf_S]
      exact congrArg S (Eq.trans (b := [rexA w rd rs, 99, modA 128 rd rs, bat n 0, bat n 1, bat n 2, bat n 3]) (by kernel_rfl) (Eq.trans (b := [rexI w rd rs, 99, modI 128 rd rs, bat n 0, bat n 1, bat n 2, bat n 3]) (by rw [rexA_eq hw hrd hrs, modA_eq (.inr rfl) hrd hrs]) (by kernel_rfl)))

attribute [local irreducible] evalF Lf.gives in
theorem enc7_29 (w rd rs n : Int) : (T7 29 w rd rs n).leaf.gives (.tup [.str (strX 29 w rd rs n), .int false .i64 (errX 29 w rd rs n)]) := by
  have hE : errX 29 w rd rs n = (bif (decide (w = 4) || decide (w = 8)) && ((false || decide (w = 8)) && (regX rd && (regX rs && !decide (rs % 8 = 4)))) then (bif ((decide (-2147483648 ≤ n) && decide (n ≤ 2147483647)) || false) then 0 else 10) else 1) := by kernel_rfl
  refine gives_tree (t7_29 w rd rs n) ?_
  refine gives_cond (fun h1 => ?_) (fun h1 => ?_)
  · have hA : ((decide (w = 4) || decide (w = 8)) && ((false || decide (w = 8)) && (regX rd && (regX rs && !decide (rs % 8 = 4))))) = false := by
      simp [cms] at h1 ⊢
      first | done | omega | (split at h1 <;> omega) | ((repeat' split at h1) <;> omega) | skip
    have he : errX 29 w rd rs n = 1 := by rw [hE, hA]; rfl
    exact givesE (strX_bad he (by decide)) he.symm
  · have hA : ((decide (w = 4) || decide (w = 8)) && ((false || decide (w = 8)) && (regX rd && (regX rs && !decide (rs % 8 = 4))))) = true := by
      simp [cms] at h1 ⊢
      first | done | omega | (split at h1 <;> omega) | ((repeat' split at h1) <;> omega) | skip
    refine gives_cond (fun h2 => ?_) (fun h2 => ?_)
    · have hF : ((decide (-2147483648 ≤ n) && decide (n ≤ 2147483647)) || false) = false := by
        simp [cms] at h2 ⊢
        first | done | omega | skip
      have he : errX 29 w rd rs n = 10 := by rw [hE, hA, hF]; rfl
      exact givesE (strX_bad he (by decide)) he.symm
    · have hF : ((decide (-2147483648 ≤ n) && decide (n ≤ 2147483647)) || false) = true := by
        simp [cms] at h2 ⊢
        first | done | omega | skip
      have he : errX 29 w rd rs n = 0 := by rw [hE, hA, hF]; rfl
      refine gives_cond (fun _ => ?_) (fun h3 => ?_)
      case refine_2 => exfalso; revert h3; cases cm .eql w 8 <;> simp [allB]
      have hrd : small rd := by simp [regX] at hA; simp only [small]; omega
      have hrs : small rs := by simp [regX] at hA; simp only [small]; omega
      have hw : w = 4 ∨ w = 8 := by simp at hA; omega
      refine givesE ?_ he.symm
      rw [strX_ok he, strOf_S]
      exact congrArg S (Eq.trans (b := [rexA w rd rs, 15, 191, modA 128 rd rs, bat n 0, bat n 1, bat n 2, bat n 3]) (by kernel_rfl) (Eq.trans (b := [rexI w rd rs, 15, 191, modI 128 rd rs, bat n 0, bat n 1, bat n 2, bat n 3]) (by rw [rexA_eq hw hrd hrs, modA_eq (.inr rfl) hrd hrs]) (by kernel_rfl)))

attribute [local irreducible] evalF Lf.gives in
theorem enc7_30 (w rd rs n : Int) : (T7 30 w rd rs n).leaf.gives (.tup [.str (strX 30 w rd rs n), .int false .i64 (errX 30 w rd rs n)]) := by
  have hE : errX 30 w rd rs n = (bif (decide (w = 4) || decide (w = 8)) && ((false || decide (w = 8)) && (regX rd && (regX rs && !decide (rs % 8 = 4)))) then (bif ((decide (-2147483648 ≤ n) && decide (n ≤ 2147483647)) || false) then 0 else 10) else 1) := by kernel_rfl
  refine gives_tree (t7_30 w rd rs n) ?_
  refine gives_cond (fun h1 => ?_) (fun h1 => ?_)
  · have hA : ((decide (w = 4) || decide (w = 8)) && ((false || decide (w = 8)) && (regX rd && (regX rs && !decide (rs % 8 = 4))))) = false := by
      simp [cms] at h1 ⊢
      first | done | omega | (split at h1 <;> omega) | ((repeat' split at h1) <;> omega) | skip
    have he : errX 30 w rd rs n = 1 := by rw [hE, hA]; rfl
    exact givesE (strX_bad he (by decide)) he.symm
  · have hA : ((decide (w = 4) || decide (w = 8)) && ((false || decide (w = 8)) && (regX rd && (regX rs && !decide (rs % 8 = 4))))) = true := by
      simp [cms] at h1 ⊢
      first | done | omega | (split at h1 <;> omega) | ((repeat' split at h1) <;> omega) | skip
    refine gives_cond (fun h2 => ?_) (fun h2 => ?_)
    · have hF : ((decide (-2147483648 ≤ n) && decide (n ≤ 2147483647)) || false) = false := by
        simp [cms] at h2 ⊢
        first | done | omega | skip
      have he : errX 30 w rd rs n = 10 := by rw [hE, hA, hF]; rfl
      exact givesE (strX_bad he (by decide)) he.symm
    · have hF : ((decide (-2147483648 ≤ n) && decide (n ≤ 2147483647)) || false) = true := by
        simp [cms] at h2 ⊢
        first | done | omega | skip
      have he : errX 30 w rd rs n = 0 := by rw [hE, hA, hF]; rfl
      refine gives_cond (fun _ => ?_) (fun h3 => ?_)
      case refine_2 => exfalso; revert h3; cases cm .eql w 8 <;> simp [allB]
      have hrd : small rd := by simp [regX] at hA; simp only [small]; omega
      have hrs : small rs := by simp [regX] at hA; simp only [small]; omega
      have hw : w = 4 ∨ w = 8 := by simp at hA; omega
      refine givesE ?_ he.symm
      rw [strX_ok he, strOf_S]
      exact congrArg S (Eq.trans (b := [rexA w rd rs, 15, 190, modA 128 rd rs, bat n 0, bat n 1, bat n 2, bat n 3]) (by kernel_rfl) (Eq.trans (b := [rexI w rd rs, 15, 190, modI 128 rd rs, bat n 0, bat n 1, bat n 2, bat n 3]) (by rw [rexA_eq hw hrd hrs, modA_eq (.inr rfl) hrd hrs]) (by kernel_rfl)))

attribute [local irreducible] evalF Lf.gives in
theorem enc7_31 (w rd rs n : Int) : (T7 31 w rd rs n).leaf.gives (.tup [.str (strX 31 w rd rs n), .int false .i64 (errX 31 w rd rs n)]) := by
  have hE : errX 31 w rd rs n = (bif (decide (w = 4) || decide (w = 8)) && ((false || decide (w = 8)) && (regX rd && (regX rs && !decide (rs % 8 = 4)))) then (bif ((decide (-2147483648 ≤ n) && decide (n ≤ 2147483647)) || false) then 0 else 10) else 1) := by kernel_rfl
  refine gives_tree (t7_31 w rd rs n) ?_
  refine gives_cond (fun h1 => ?_) (fun h1 => ?_)
  · have hA : ((decide (w = 4) || decide (w = 8)) && ((false || decide (w = 8)) && (regX rd && (regX rs && !decide (rs % 8 = 4))))) = false := by
      simp [cms] at h1 ⊢
      first | done | omega | (split at h1 <;> omega) | ((repeat' split at h1) <;> omega) | skip
    have he : errX 31 w rd rs n = 1 := by rw [hE, hA]; rfl
    exact givesE (strX_bad he (by decide)) he.symm
  · have hA : ((decide (w = 4) || decide (w = 8)) && ((false || decide (w = 8)) && (regX rd && (regX rs && !decide (rs % 8 = 4))))) = true := by
      simp [cms] at h1 ⊢
      first | done | omega | (split at h1 <;> omega) | ((repeat' split at h1) <;> omega) | skip
    refine gives_cond (fun h2 => ?_) (fun h2 => ?_)
    · have hF : ((decide (-2147483648 ≤ n) && decide (n ≤ 2147483647)) || false) = false := by
        simp [cms] at h2 ⊢
        first | done | omega | skip
      have he : errX 31 w rd rs n = 10 := by rw [hE, hA, hF]; rfl
      exact givesE (strX_bad he (by decide)) he.symm
    · have hF : ((decide (-2147483648 ≤ n) && decide (n ≤ 2147483647)) || false) = true := by
        simp [cms] at h2 ⊢
        first | done | omega | skip
      have he : errX 31 w rd rs n = 0 := by rw [hE, hA, hF]; rfl
      refine gives_cond (fun _ => ?_) (fun h3 => ?_)
      case refine_2 => exfalso; revert h3; cases cm .eql w 8 <;> simp [allB]
      have hrd : small rd := by simp [regX] at hA; simp only [small]; omega
      have hrs : small rs := by simp [regX] at hA; simp only [small]; omega
      have hw : w = 4 ∨ w = 8 := by simp at hA; omega
      refine givesE ?_ he.symm
      rw [strX_ok he, strOf_S]
      exact congrArg S (Eq.trans (b := [rexA w rd rs, 15, 183, modA 128 rd rs, bat n 0, bat n 1, bat n 2, bat n 3]) (by kernel_rfl) (Eq.trans (b := [rexI w rd rs, 15, 183, modI 128 rd rs, bat n 0, bat n 1, bat n 2, bat n 3]) (by rw [rexA_eq hw hrd hrs, modA_eq (.inr rfl) hrd hrs]) (by kernel_rfl)))

attribute [local irreducible] evalF Lf.gives in
theorem enc7_32 (w rd rs n : Int) : (T7 32 w rd rs n).leaf.gives (.tup [.str (strX 32 w rd rs n), .int false .i64 (errX 32 w rd rs n)]) := by
  have hE : errX 32 w rd rs n = (bif (decide (w = 4) || decide (w = 8)) && ((false || decide (w = 8)) && (regX rd && (regX rs && !decide (rs % 8 = 4)))) then (bif ((decide (-2147483648 ≤ n) && decide (n ≤ 2147483647)) || false) then 0 else 10) else 1) := by kernel_rfl
  refine gives_tree (t7_32 w rd rs n) ?_
  refine gives_cond (fun h1 => ?_) (fun h1 => ?_)
  · have hA : ((decide (w = 4) || decide (w = 8)) && ((false || decide (w = 8)) && (regX rd && (regX rs && !decide (rs % 8 = 4))))) = false := by
      simp [cms] at h1 ⊢
      first | done | omega | (split at h1 <;> omega) | ((repeat' split at h1) <;> omega) | skip
    have he : errX 32 w rd rs n = 1 := by rw [hE, hA]; rfl
    exact givesE (strX_bad he (by decide)) he.symm
  · have hA : ((decide (w = 4) || decide (w = 8)) && ((false || decide (w = 8)) && (regX rd && (regX rs && !decide (rs % 8 = 4))))) = true := by
      simp [cms] at h1 ⊢
      first | done | omega | (split at h1 <;> omega) | ((repeat' split at h1) <;> omega) | skip
    refine gives_cond (fun h2 => ?_) (fun h2 => ?_)
    · have hF : ((decide (-2147483648 ≤ n) && decide (n ≤ 2147483647)) || false) = false := by
        simp [cms] at h2 ⊢
        first | done | omega | skip
      have he : errX 32 w rd rs n = 10 := by rw [hE, hA, hF]; rfl
      exact givesE (strX_bad he (by decide)) he.symm
    · have hF : ((decide (-2147483648 ≤ n) && decide (n ≤ 2147483647)) || false) = true := by
        simp [cms] at h2 ⊢
        first | done | omega | skip
      have he : errX 32 w rd rs n = 0 := by rw [hE, hA, hF]; rfl
      refine gives_cond (fun _ => ?_) (fun h3 => ?_)
      case refine_2 => exfalso; revert h3; cases cm .eql w 8 <;> simp [allB]
      have hrd : small rd := by simp [regX] at hA; simp only [small]; omega
      have hrs : small rs := by simp [regX] at hA; simp only [small]; omega
      have hw : w = 4 ∨ w = 8 := by simp at hA; omega
      refine givesE ?_ he.symm
      rw [strX_ok he, strOf_S]
      exact congrArg S (Eq.trans (b := [rexA w rd rs, 15, 182, modA 128 rd rs, bat n 0, bat n 1, bat n 2, bat n 3]) (by kernel_rfl) (Eq.trans (b := [rexI w rd rs, 15, 182, modI 128 rd rs, bat n 0, bat n 1, bat n 2, bat n 3]) (by rw [rexA_eq hw hrd hrs, modA_eq (.inr rfl) hrd hrs]) (by kernel_rfl)))

attribute [local irreducible] evalF Lf.gives in
theorem enc7_33 (w rd rs n : Int) : (T7 33 w rd rs n).leaf.gives (.tup [.str (strX 33 w rd rs n), .int false .i64 (errX 33 w rd rs n)]) := by
  have hE : errX 33 w rd rs n = (bif (decide (w = 4) || decide (w = 8)) && ((false || decide (w = 8)) && (regX rd && (regX rs && !decide (rs % 8 = 4)))) then (bif ((decide (-2147483648 ≤ n) && decide (n ≤ 2147483647)) || false) then 0 else 10) else 1) := by kernel_rfl
  refine gives_tree (t7_33 w rd rs n) ?_
  refine gives_cond (fun h1 => ?_) (fun h1 => ?_)
  · have hA : ((decide (w = 4) || decide (w = 8)) && ((false || decide (w = 8)) && (regX rd && (regX rs && !decide (rs % 8 = 4))))) = false := by
      simp [cms] at h1 ⊢
      first | done | omega | (split at h1 <;> omega) | ((repeat' split at h1) <;> omega) | skip
    have he : errX 33 w rd rs n = 1 := by rw [hE, hA]; rfl
    exact givesE (strX_bad he (by decide)) he.symm
  · have hA : ((decide (w = 4) || decide (w = 8)) && ((false || decide (w = 8)) && (regX rd && (regX rs && !decide (rs % 8 = 4))))) = true := by
      simp [cms] at h1 ⊢
      first | done | omega | (split at h1 <;> omega) | ((repeat' split at h1) <;> omega) | skip
    refine gives_cond (fun h2 => ?_) (fun h2 => ?_)
    · have hF : ((decide (-2147483648 ≤ n) && decide (n ≤ 2147483647)) || false) = false := by
        simp [cms] at h2 ⊢
        first | done | omega | skip
      have he : errX 33 w rd rs n = 10 := by rw [hE, hA, hF]; rfl
      exact givesE (strX_bad he (by decide)) he.symm
    · have hF : ((decide (-2147483648 ≤ n) && decide (n ≤ 2147483647)) || false) = true := by
        simp [cms] at h2 ⊢
        first | done | omega | skip
      have he : errX 33 w rd rs n = 0 := by rw [hE, hA, hF]; rfl
      refine gives_cond (fun _ => ?_) (fun h3 => ?_)
      case refine_2 => exfalso; revert h3; cases cm .eql w 8 <;> simp [allB]
      have hrd : small rd := by simp [regX] at hA; simp only [small]; omega
      have hrs : small rs := by simp [regX] at hA; simp only [small]; omega
      have hw : w = 4 ∨ w = 8 := by simp at hA; omega
      refine givesE ?_ he.symm
      rw [strX_ok he, strOf_S]
      exact congrArg S (Eq.trans (b := [rexA w rd rs, 137, modA 128 rd rs, bat n 0, bat n 1, bat n 2, bat n 3]) (by kernel_rfl) (Eq.trans (b := [rexI w rd rs, 137, modI 128 rd rs, bat n 0, bat n 1, bat n 2, bat n 3]) (by rw [rexA_eq hw hrd hrs, modA_eq (.inr rfl) hrd hrs]) (by kernel_rfl)))

attribute [local irreducible] evalF Lf.gives in
theorem enc7_34 (w rd rs n : Int) : (T7 34 w rd rs n).leaf.gives (.tup [.str (strX 34 w rd rs n), .int false .i64 (errX 34 w rd rs n)]) := by
  have hE : errX 34 w rd rs n = (bif (decide (w = 4) || decide (w = 8)) && ((false || decide (w = 4)) && (regX rd && (regX rs && !decide (rs % 8 = 4)))) then (bif ((decide (-2147483648 ≤ n) && decide (n ≤ 2147483647)) || false) then 0 else 10) else 1) := by kernel_rfl
  refine gives_tree (t7_34 w rd rs n) ?_
  refine gives_cond (fun h1 => ?_) (fun h1 => ?_)
  · have hA : ((decide (w = 4) || decide (w = 8)) && ((false || decide (w = 4)) && (regX rd && (regX rs && !decide (rs % 8 = 4))))) = false := by
      simp [cms] at h1 ⊢
      first | done | omega | (split at h1 <;> omega) | ((repeat' split at h1) <;> omega) | skip
    have he : errX 34 w rd rs n = 1 := by rw [hE, hA]; rfl
    exact givesE (strX_bad he (by decide)) he.symm
  · have hA : ((decide (w = 4) || decide (w = 8)) && ((false || decide (w = 4)) && (regX rd && (regX rs && !decide (rs % 8 = 4))))) = true := by
      simp [cms] at h1 ⊢
      first | done | omega | (split at h1 <;> omega) | ((repeat' split at h1) <;> omega) | skip
    refine gives_cond (fun h2 => ?_) (fun h2 => ?_)
    · have hF : ((decide (-2147483648 ≤ n) && decide (n ≤ 2147483647)) || false) = false := by
        simp [cms] at h2 ⊢
        first | done | omega | skip
      have he : errX 34 w rd rs n = 10 := by rw [hE, hA, hF]; rfl
      exact givesE (strX_bad he (by decide)) he.symm
    · have hF : ((decide (-2147483648 ≤ n) && decide (n ≤ 2147483647)) || false) = true := by
        simp [cms] at h2 ⊢
        first | done | omega | skip
      have he : errX 34 w rd rs n = 0 := by rw [hE, hA, hF]; rfl
      refine gives_cond (fun _ => ?_) (fun h3 => ?_)
      case refine_2 => exfalso; revert h3; cases cm .eql w 8 <;> simp [allB]
      have hrd : small rd := by simp [regX] at hA; simp only [small]; omega
      have hrs : small rs := by simp [regX] at hA; simp only [small]; omega
      have hw : w = 4 ∨ w = 8 := by simp at hA; omega
      refine givesE ?_ he.symm
      rw [strX_ok he, strOf_S]
      exact congrArg S (Eq.trans (b := [rexA w rd rs, 137, modA 128 rd rs, bat n 0, bat n 1, bat n 2, bat n 3]) (by kernel_rfl) (Eq.trans (b := [rexI w rd rs, 137, modI 128 rd rs, bat n 0, bat n 1, bat n 2, bat n 3]) (by rw [rexA_eq hw hrd hrs, modA_eq (.inr rfl) hrd hrs]) (by kernel_rfl)))

attribute [local irreducible] evalF Lf.gives in
theorem enc7_35 (w rd rs n : Int) : (T7 35 w rd rs n).leaf.gives (.tup [.str (strX 35 w rd rs n), .int false .i64 (errX 35 w rd rs n)]) := by
  have hE : errX 35 w rd rs n = (bif (decide (w = 4) || decide (w = 8)) && ((false || decide (w = 4)) && (regX rd && (regX rs && !decide (rs % 8 = 4)))) then (bif ((decide (-2147483648 ≤ n) && decide (n ≤ 2147483647)) || false) then 0 else 10) else 1) := by kernel_rfl
  refine gives_tree (t7_35 w rd rs n) ?_
  refine gives_cond (fun h1 => ?_) (fun h1 => ?_)
  · have hA : ((decide (w = 4) || decide (w = 8)) && ((false || decide (w = 4)) && (regX rd && (regX rs && !decide (rs % 8 = 4))))) = false := by
      simp [cms] at h1 ⊢
      first | done | omega | (split at h1 <;> omega) | ((repeat' split at h1) <;> omega) | skip
    have he : errX 35 w rd rs n = 1 := by rw [hE, hA]; rfl
    exact givesE (strX_bad he (by decide)) he.symm
  · have hA : ((decide (w = 4) || decide (w = 8)) && ((false || decide (w = 4)) && (regX rd && (regX rs && !decide (rs % 8 = 4))))) = true := by
      simp [cms] at h1 ⊢
      first | done | omega | (split at h1 <;> omega) | ((repeat' split at h1) <;> omega) | skip
    refine gives_cond (fun h2 => ?_) (fun h2 => ?_)
    · have hF : ((decide (-2147483648 ≤ n) && decide (n ≤ 2147483647)) || false) = false := by
        simp [cms] at h2 ⊢
        first | done | omega | skip
      have he : errX 35 w rd rs n = 10 := by rw [hE, hA, hF]; rfl
      exact givesE (strX_bad he (by decide)) he.symm
    · have hF : ((decide (-2147483648 ≤ n) && decide (n ≤ 2147483647)) || false) = true := by
        simp [cms] at h2 ⊢
        first | done | omega | skip
      have he : errX 35 w rd rs n = 0 := by rw [hE, hA, hF]; rfl
      refine gives_cond (fun _ => ?_) (fun h3 => ?_)
      case refine_2 => exfalso; revert h3; cases cm .eql w 8 <;> simp [allB]
      have hrd : small rd := by simp [regX] at hA; simp only [small]; omega
      have hrs : small rs := by simp [regX] at hA; simp only [small]; omega
      have hw : w = 4 ∨ w = 8 := by simp at hA; omega
      refine givesE ?_ he.symm
      rw [strX_ok he, strOf_S]
      exact congrArg S (Eq.trans (b := [102, rexA w rd rs, 137, modA 128 rd rs, bat n 0, bat n 1, bat n 2, bat n 3]) (by kernel_rfl) (Eq.trans (b := [102, rexI w rd rs, 137, modI 128 rd rs, bat n 0, bat n 1, bat n 2, bat n 3]) (by rw [rexA_eq hw hrd hrs, modA_eq (.inr rfl) hrd hrs]) (by kernel_rfl)))

attribute [local irreducible] evalF Lf.gives in
theorem enc7_36 (w rd rs n : Int) : (T7 36 w rd rs n).leaf.gives (.tup [.str (strX 36 w rd rs n), .int false .i64 (errX 36 w rd rs n)]) := by
  have hE : errX 36 w rd rs n = (bif (decide (w = 4) || decide (w = 8)) && ((false || decide (w = 4)) && (regX rd && (regX rs && !decide (rs % 8 = 4)))) then (bif ((decide (-2147483648 ≤ n) && decide (n ≤ 2147483647)) || false) then 0 else 10) else 1) := by kernel_rfl
  refine gives_tree (t7_36 w rd rs n) ?_
  refine gives_cond (fun h1 => ?_) (fun h1 => ?_)
  · have hA : ((decide (w = 4) || decide (w = 8)) && ((false || decide (w = 4)) && (regX rd && (regX rs && !decide (rs % 8 = 4))))) = false := by
      simp [cms] at h1 ⊢
      first | done | omega | (split at h1 <;> omega) | ((repeat' split at h1) <;> omega) | skip
    have he : errX 36 w rd rs n = 1 := by rw [hE, hA]; rfl
    exact givesE (strX_bad he (by decide)) he.symm
  · have hA : ((decide (w = 4) || decide (w = 8)) && ((false || decide (w = 4)) && (regX rd && (regX rs && !decide (rs % 8 = 4))))) = true := by
      simp [cms] at h1 ⊢
      first | done | omega | (split at h1 <;> omega) | ((repeat' split at h1) <;> omega) | skip
    refine gives_cond (fun h2 => ?_) (fun h2 => ?_)
    · have hF : ((decide (-2147483648 ≤ n) && decide (n ≤ 2147483647)) || false) = false := by
        simp [cms] at h2 ⊢
        first | done | omega | skip
      have he : errX 36 w rd rs n = 10 := by rw [hE, hA, hF]; rfl
      exact givesE (strX_bad he (by decide)) he.symm
    · have hF : ((decide (-2147483648 ≤ n) && decide (n ≤ 2147483647)) || false) = true := by
        simp [cms] at h2 ⊢
        first | done | omega | skip
      have he : errX 36 w rd rs n = 0 := by rw [hE, hA, hF]; rfl
      refine gives_cond (fun _ => ?_) (fun h3 => ?_)
      case refine_2 => exfalso; revert h3; cases cm .eql w 8 <;> simp [allB]
      have hrd : small rd := by simp [regX] at hA; simp only [small]; omega
      have hrs : small rs := by simp [regX] at hA; simp only [small]; omega
      have hw : w = 4 ∨ w = 8 := by simp at hA; omega
      refine givesE ?_ he.symm
      rw [strX_ok he, strOf_S]
      exact congrArg S (Eq.trans (b := [rexA w rd rs, 136, modA 128 rd rs, bat n 0, bat n 1, bat n 2, bat n 3]) (by kernel_rfl) (Eq.trans (b := [rexI w rd rs, 136, modI 128 rd rs, bat n 0, bat n 1, bat n 2, bat n 3]) (by rw [rexA_eq hw hrd hrs, modA_eq (.inr rfl) hrd hrs]) (by kernel_rfl)))

end Go.X
end
