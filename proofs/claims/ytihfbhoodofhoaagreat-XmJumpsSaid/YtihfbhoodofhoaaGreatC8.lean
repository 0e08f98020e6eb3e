/-
  rvm: which places an access may have. Laid by the tools '#leafw', '#leafv'.
-/
import Derived.Test.YtihfbhoodofhoaaGreatC6
import Derived.Test.YtihfbhoodofhoaaGreatB7
import Derived.Test.YtihfbhoodofhoaaGreatB3
set_option linter.unusedSimpArgs false
set_option linter.unusedVariables false
section
set_option linter.unusedVariables false
open Go Go.Ev Go.Proofs
namespace Go.Rv

noncomputable def EN : Env := inlF Tryz.prog (envOf [] noLoop) [] [] [] 0
theorem en_calls : CallsOk EN Tryz.prog := (inlF_calls (SpecsOk.nil.calls noLoop) mixed rfl rfl rfl 0).1
theorem en_loop : EN.loop = noLoop := rfl

def anyB (p : Nat → Bool) : Nat → Bool
  | 0 => false
  | k + 1 => anyB p k || p k
def atX (a : Int) (i : Nat) : Int := ar .add .u64 a (i : Int)
def overX (a : Int) (i : Nat) : Bool := cm .geq (atX a i) 327680 && cm .lss (atX a i) 393216
def badX (a : Int) (i : Nat) : Bool := cm .lss (atX a i) 262144 || cm .geq (atX a i) 458752
/-- how an access of so many bytes ends the machine -/
def accX (a : Int) (n : Nat) : Int := bif anyB (overX a) n then 4 else bif anyB (badX a) n then 5 else 0

/-! ends -/
def v76 (a size out : Int) (N i : Int) : List SV := [.int false .u64 a, .int false .i64 size, .int false .i64 out, .int false .u64 N, .int false .u64 i]
def lk76 : Lp := ⟨30, [0, 1, 5, 9, 10], 2000, fun _ _ => none⟩
def get76 : List SV → Heap → Option Tr
  | [.int _ .u64 a, .int _ .i64 size, .int _ .i64 out, .int _ .u64 N, .int _ .u64 i], [] =>
    some (Tr.needs [decide (out = 0), decide (i = 0), decide (0 ≤ N), decide (N ≤ 8)]
      (.node (anyB (overX a) N.toNat) (.ret (.int false .i64 4) []) (exitT lk76 0 [.any, .any, .int false .i64 (accX a N.toNat), .any, .any] [])))
  | _, _ => none
def lp76 : Lp := { lk76 with get := get76 }
noncomputable def E76 : Env := ⟨EN.call, loopEnv [(0, lp76)]⟩
/-! Access -/
def v60 (a size low high i : Int) (ins : Bool) : List SV := [.int false .i64 a, .int false .i64 size, .int false .u64 low, .int false .u64 high, .bool false ins, .int false .i64 i]
def lk60 : Lp := ⟨42, [0, 1, 6, 7, 8, 9], 2000, fun _ _ => none⟩
def get60 : List SV → Heap → Option Tr
  | [.int _ .i64 a, .int _ .i64 size, .int _ .u64 low, .int _ .u64 high, .bool _ ins, .int _ .i64 i], [] =>
    some (Tr.needs [ins, decide (low = 327680), decide (high = 393216), decide (i = 0), decide (0 ≤ size), decide (size ≤ 8)]
      (.node (anyB (overX (conv .u64 a)) size.toNat) (.ret (.tup [.int false .i64 0, .int false .i64 4]) []) (exitT lk60 0 [.int false .i64 a, .any, .any, .any, .bool false (!anyB (badX (conv .u64 a)) size.toNat), .any] [])))
  | _, _ => none
def lp60 : Lp := { lk60 with get := get60 }
noncomputable def E60 : Env := ⟨EN.call, loopEnv [(0, lp60)]⟩

theorem r76 (a : Int) (size : Int) (out : Int) (N : Int) (i : Int) : (evalB EN Tryz.prog Tryz.f114.results.toList (loopOf Tryz.f114 0) 1 lp76 (v76 a size out N i) []).view [0, 1, 5, 9, 10] =
    (bif (cm .lss i N) then
 bif (bif cm .geq (ar .add .u64 a i) 327680 then cm .lss (ar .add .u64 a i) 393216 else false) then
 .ret (.int true .i64 4) []
 else
 bif (bif cm .lss (ar .add .u64 a i) 262144 then true else cm .geq (ar .add .u64 a i) 458752) then
 .norm 30 [(.int false .u64 (a)), (.int false .i64 (size)), (.int true .i64 5), (.int false .u64 (N)), (.int false .u64 (ar .add .u64 i 1))] []
 else
 .norm 30 [(.int false .u64 (a)), (.int false .i64 (size)), (.int false .i64 (out)), (.int false .u64 (N)), (.int false .u64 (ar .add .u64 i 1))] []
 else
 .exit 0 30 [(.int false .u64 (a)), (.int false .i64 (size)), (.int false .i64 (out)), (.int false .u64 (N)), (.int false .u64 (i))] []) := by kernel_rfl

theorem t76 (a : Int) (size : Int) : (evalF E76 Tryz.prog 114 [.int false .u64 a, .int false .i64 size] [] 1024).bare =
    (bif (decide (0 ≤ conv .u64 size)) then
 bif (decide (conv .u64 size ≤ 8)) then
 bif (anyB (overX a) (conv .u64 size).toNat) then
 .ret (.int false .i64 4) []
 else
 .ret (.int false .i64 (accX a (conv .u64 size).toNat)) []
 else .bad
 else .bad) := by kernel_rfl

theorem r60 (a : Int) (size : Int) (low : Int) (high : Int) (i : Int) (ins : Bool) : (evalB EN Tryz.prog Tryz.f81.results.toList (loopOf Tryz.f81 0) 1 lp60 (v60 a size low high i ins) []).view [0, 1, 6, 7, 8, 9] =
    (bif (cm .lss i size) then
 bif (bif cm .geq (ar .add .u64 (conv .u64 a) (conv .u64 i)) low then cm .lss (ar .add .u64 (conv .u64 a) (conv .u64 i)) high else false) then
 .ret (.tup [(.int true .i64 0), (.int true .i64 4)]) []
 else
 .norm 42 [(.int false .i64 (a)), (.int false .i64 (size)), (.int false .u64 (low)), (.int false .u64 (high)), (.bool false (bif ins then bif cm .geq (ar .add .u64 (conv .u64 a) (conv .u64 i)) 262144 then cm .lss (ar .add .u64 (conv .u64 a) (conv .u64 i)) 458752 else false else false)), (.int false .i64 (ar .add .i64 i 1))] []
 else
 .exit 0 42 [(.int false .i64 (a)), (.int false .i64 (size)), (.int false .u64 (low)), (.int false .u64 (high)), (.bool false (ins)), (.int false .i64 (i))] []) := by kernel_rfl

theorem t60 (a : Int) (size : Int) : (evalF E60 Tryz.prog 81 [.int false .i64 a, .int false .i64 size] [] 1024).bare =
    (bif (decide (0 ≤ size)) then
 bif (decide (size ≤ 8)) then
 bif (anyB (overX (conv .u64 a)) size.toNat) then
 .ret (.tup [(.int false .i64 0), (.int false .i64 4)]) []
 else
 bif (!!anyB (badX (conv .u64 a)) size.toNat) then
 .ret (.tup [(.int true .i64 0), (.int true .i64 5)]) []
 else
 .ret (.tup [(.int false .i64 (ar .sub .i64 a 262144)), (.int true .i64 0)]) []
 else .bad
 else .bad) := by kernel_rfl

end Go.Rv
end

section
set_option linter.unusedVariables false
open Go Go.Ev Go.Proofs
namespace Go.Rv

structure XA where
  a : Int
  size : Int
  n : Nat
  i : Nat
theorem anyB_step (p : Nat → Bool) (k : Nat) : anyB p (k + 1) = (anyB p k || p k) := rfl
theorem anyB_le {p : Nat → Bool} {j k : Nat} (h : j ≤ k) (hj : anyB p j = true) : anyB p k = true := by
  induction k with
  | zero =>
    have e : j = 0 := by omega
    rw [e] at hj
    exact hj
  | succ k ih =>
    by_cases e : j = k + 1
    · subst e; exact hj
    · rw [anyB_step, ih (by omega), Bool.true_or]

theorem cm_neq' (a b : Int) : cm .neq a b = !decide (a = b) := by simp only [cm]; rfl
theorem bif_and (a b : Bool) : (bif a then b else false) = (a && b) := by cases a <;> rfl
theorem bif_or (a b : Bool) : (bif a then true else b) = (a || b) := by cases a <;> rfl
theorem conv_small {k : Nat} (h : k ≤ 8) : conv .u64 (k : Int) = (k : Int) := by simp only [conv, IntKind.wrap_u64]; omega
theorem addOneU {k : Nat} (h : k ≤ 8) : ar .add .u64 (k : Int) 1 = ((k + 1 : Nat) : Int) := by simp only [ar, IntKind.wrap_u64]; omega

/-! ends -/
def outA (a : Int) (i : Nat) : Int := bif anyB (badX a) i then 5 else 0
def ok76 (x : XA) : Prop := x.i ≤ x.n ∧ x.n ≤ 8 ∧ anyB (overX x.a) x.i = false
def vs76 (x : XA) : List SV := v76 x.a x.size (outA x.a x.i) x.n x.i
def out76 (x : XA) : Vw := bif anyB (overX x.a) x.n then .ret (.int false .i64 4) [] else .exit 0 30 [.any, .any, .int false .i64 (accX x.a x.n), .any, .any] []

theorem entry76 (l : List SV) (H : Heap) (T : Tr) (h : lp76.get l H = some T) (hb : T.leaf ≠ .bad) : ∃ x r, ok76 x ∧ WkV r lp76.nm l H (vs76 x) ((fun _ => []) x) ∧ T.leaf = toLf lp76 (out76 x) := by
  replace h : get76 l H = some T := h
  unfold get76 at h
  split at h
  · rename_i _ a _ size _ out _ N _ i
    simp only [Option.some.injEq] at h
    subst h
    obtain ⟨hn, he⟩ := needs_ne hb
    rw [he]
    simp only [allB, Bool.and_eq_true, Bool.and_true, decide_eq_true_eq] at hn
    obtain ⟨rfl, rfl, h0, h8⟩ := hn
    obtain ⟨n, rfl⟩ : ∃ n : Nat, N = n := ⟨N.toNat, by omega⟩
    refine ⟨⟨a, size, n, 0⟩, [], ⟨Nat.zero_le _, by show n ≤ 8; omega, rfl⟩, ?_, ?_⟩
    · exact ⟨rfl, ⟨⟨rfl, rfl⟩, ⟨rfl, rfl⟩, ⟨rfl, rfl⟩, ⟨rfl, rfl⟩, ⟨rfl, rfl⟩, trivial⟩, trivial, rfl, rfl⟩
    · simp only [Tr.leaf, exitT_leaf, out76, toLf_cond, Int.toNat_natCast]
      rfl
  · cases h

attribute [local irreducible] evalB Tr.view in
theorem round76 (x : XA) (hx : ok76 x) : Round lp76 ok76 (fun x => x.n - x.i) vs76 (fun _ => []) out76 x ((evalB EN Tryz.prog Tryz.f114.results.toList (loopOf Tryz.f114 0) (0 + 1) lp76 (vs76 x) []).view lp76.ks) := by
  obtain ⟨a, size, n, i⟩ := x
  obtain ⟨h0, h1, h2⟩ := hx
  simp only at h0 h1 h2
  have hr := r76 a size (outA a i) n i
  rw [show evalB EN Tryz.prog Tryz.f114.results.toList (loopOf Tryz.f114 0) (0 + 1) lp76 (vs76 ⟨a, size, n, i⟩) [] = evalB EN Tryz.prog Tryz.f114.results.toList (loopOf Tryz.f114 0) 1 lp76 (v76 a size (outA a i) n i) [] from rfl, show lp76.ks = [0, 1, 5, 9, 10] from rfl, hr]
  by_cases h : i < n
  · have e1 : cm .lss (i : Int) n = true := by rw [cm_lss']; exact decide_eq_true (by omega)
    simp only [e1, cond_true, bif_and, bif_or, addOneU (show i ≤ 8 by omega)]
    have ho : (cm .geq (ar .add .u64 a i) 327680 && cm .lss (ar .add .u64 a i) 393216) = overX a i := rfl
    have hbd : (cm .lss (ar .add .u64 a i) 262144 || cm .geq (ar .add .u64 a i) 458752) = badX a i := rfl
    rw [ho, hbd]
    refine Round_cond (fun hh => ?_) (fun hh => ?_)
    · have hany : anyB (overX a) n = true := anyB_le h (by rw [anyB_step, hh, Bool.or_true])
      exact ⟨.int false .i64 4, [], [], by simp only [out76, hany, cond_true], rfl, ⟨rfl, rfl⟩, trivial, rfl⟩
    · have hno : anyB (overX a) (i + 1) = false := by rw [anyB_step, h2, hh]; rfl
      refine Round_cond (fun hb => ?_) (fun hb => ?_)
      · refine ⟨rfl, ⟨a, size, n, i + 1⟩, [], ⟨h, h1, hno⟩, by show n - (i + 1) < n - i; omega, rfl, rfl, ⟨⟨rfl, rfl⟩, ⟨rfl, rfl⟩, ⟨rfl, ?_⟩, ⟨rfl, rfl⟩, ⟨rfl, rfl⟩, trivial⟩, trivial, rfl, rfl⟩
        show (5 : Int) = outA a (i + 1)
        unfold outA
        rw [anyB_step, hb, Bool.or_true]
        rfl
      · refine ⟨rfl, ⟨a, size, n, i + 1⟩, [], ⟨h, h1, hno⟩, by show n - (i + 1) < n - i; omega, rfl, rfl, ⟨⟨rfl, rfl⟩, ⟨rfl, rfl⟩, ⟨rfl, ?_⟩, ⟨rfl, rfl⟩, ⟨rfl, rfl⟩, trivial⟩, trivial, rfl, rfl⟩
        show outA a i = outA a (i + 1)
        unfold outA
        rw [anyB_step, hb, Bool.or_false]
  · obtain rfl : i = n := by omega
    have e1 : cm .lss (i : Int) i = false := by rw [cm_lss']; exact decide_eq_false (by omega)
    simp only [e1, cond_false]
    refine ⟨rfl, [.any, .any, .int false .i64 (accX a i), .any, .any], [], [], by simp only [out76, h2, cond_false]; rfl, rfl, ⟨trivial, trivial, ⟨rfl, ?_⟩, trivial, trivial, trivial⟩, trivial, rfl, rfl⟩
    show outA a i = accX a i
    unfold outA accX
    rw [h2]
    rfl

theorem e76_calls : CallsOk E76 Tryz.prog := fun f args H nm r h hn => en_calls f args H nm r h hn
attribute [local irreducible] evalB Tr.view in
theorem loop76 : LoopOk E76 Tryz.prog Tryz.f114 0 (loopOf Tryz.f114 0) :=
  loop_okE mixed (fun S => rfl) (by decide) ok76 (fun x => x.n - x.i) vs76 (fun _ => []) out76 entry76 fun x hx => ⟨EN, en_calls, loops_noLoop en_loop _ _, round76 x hx⟩
theorem fn76 : Tryz.prog.funcs[114]? = some Tryz.f114 := by kernel_rfl
theorem b76 : Tryz.f114.body = some (bodyOf Tryz.f114) := by kernel_rfl
theorem n76 : (Tryz.f114.name == "runtime.NumGoroutine") = false := by kernel_rfl
theorem nl76 : Code.loops (bodyOf Tryz.f114) = 1 := by kernel_rfl
theorem nth76 : nthLoop (bodyOf Tryz.f114) 0 = some (loopOf Tryz.f114 0) := by kernel_rfl
theorem loops76 : LoopsOk E76 Tryz.prog Tryz.f114 (bodyOf Tryz.f114) 0 := loops1 nl76 fun a ha => by
  rw [nth76] at ha
  simp only [Option.some.injEq] at ha
  subst ha
  exact loop76

def g76 : List SV → Heap → Option R
  | [.int _ .u64 a, .int _ .i64 size], [] => some ⟨[decide (0 ≤ size), decide (size ≤ 8)], .int false .i64 (accX a size.toNat), []⟩
  | _, _ => none
theorem gives_ret {v s : SV} {H : Heap} (h : ∀ σ σ', den σ' v = den σ s) : (Lf.ret v H).gives s := h
attribute [local irreducible] evalF Lf.gives in
theorem spec76 : SpecOk Tryz.prog 114 (specOf g76) := spec_okA false e76_calls mixed fn76 b76 n76 loops76 g76 fun a0 H0 r hg hn => by
  unfold g76 at hg
  split at hg
  · rename_i _ a _ size
    simp only [Option.some.injEq] at hg
    subst hg
    simp only [allB, Bool.and_true, Bool.and_eq_true, decide_eq_true_eq] at hn
    obtain ⟨h0, h8⟩ := hn
    obtain ⟨n, rfl⟩ : ∃ n : Nat, size = n := ⟨size.toNat, by omega⟩
    refine ⟨[.int false .u64 a, .int false .i64 n], fun _ => rfl, fun σ => by simp only [denL, den], gives_giv (gives_tree (t76 a n) ?_)⟩
    have e1 : decide (0 ≤ conv .u64 (n : Int)) = true := by rw [conv_small (by omega)]; exact decide_eq_true (by omega)
    have e2 : decide (conv .u64 (n : Int) ≤ 8) = true := by rw [conv_small (by omega)]; exact decide_eq_true (by omega)
    simp only [e1, e2, cond_true]
    simp only [conv_small (show n ≤ 8 by omega), Int.toNat_natCast]
    refine gives_cond (fun h => ?_) (fun h => ?_)
    · exact gives_ret fun σ σ' => by simp only [accX, h, cond_true, den]
    · exact gives_ret fun σ σ' => by simp only [den]
  · cases hg

/-! Access -/
def ok60 (x : XA) : Prop := x.i ≤ x.n ∧ x.n ≤ 8 ∧ x.size = x.n ∧ anyB (overX (conv .u64 x.a)) x.i = false
def vs60 (x : XA) : List SV := v60 x.a x.size 327680 393216 x.i (!anyB (badX (conv .u64 x.a)) x.i)
def out60 (x : XA) : Vw := bif anyB (overX (conv .u64 x.a)) x.n then .ret (.tup [.int false .i64 0, .int false .i64 4]) [] else .exit 0 42 [.int false .i64 x.a, .any, .any, .any, .bool false (!anyB (badX (conv .u64 x.a)) x.n), .any] []

theorem entry60 (l : List SV) (H : Heap) (T : Tr) (h : lp60.get l H = some T) (hb : T.leaf ≠ .bad) : ∃ x r, ok60 x ∧ WkV r lp60.nm l H (vs60 x) ((fun _ => []) x) ∧ T.leaf = toLf lp60 (out60 x) := by
  replace h : get60 l H = some T := h
  unfold get60 at h
  split at h
  · rename_i _ a _ size _ low _ high _ ins _ i
    simp only [Option.some.injEq] at h
    subst h
    obtain ⟨hn, he⟩ := needs_ne hb
    rw [he]
    simp only [allB, Bool.and_eq_true, Bool.and_true, decide_eq_true_eq] at hn
    obtain ⟨rfl, rfl, rfl, rfl, h0, h8⟩ := hn
    obtain ⟨n, rfl⟩ : ∃ n : Nat, size = n := ⟨size.toNat, by omega⟩
    refine ⟨⟨a, n, n, 0⟩, [], ⟨Nat.zero_le _, by show n ≤ 8; omega, rfl, rfl⟩, ?_, ?_⟩
    · exact ⟨rfl, ⟨⟨rfl, rfl⟩, ⟨rfl, rfl⟩, ⟨rfl, rfl⟩, ⟨rfl, rfl⟩, rfl, ⟨rfl, rfl⟩, trivial⟩, trivial, rfl, rfl⟩
    · simp only [Tr.leaf, exitT_leaf, out60, toLf_cond, Int.toNat_natCast]
      rfl
  · cases h

attribute [local irreducible] evalB Tr.view in
theorem round60 (x : XA) (hx : ok60 x) : Round lp60 ok60 (fun x => x.n - x.i) vs60 (fun _ => []) out60 x ((evalB EN Tryz.prog Tryz.f81.results.toList (loopOf Tryz.f81 0) (0 + 1) lp60 (vs60 x) []).view lp60.ks) := by
  obtain ⟨a, size, n, i⟩ := x
  obtain ⟨h0, h1, h3, h2⟩ := hx
  simp only at h0 h1 h2 h3
  subst h3
  have hr := r60 a n 327680 393216 i (!anyB (badX (conv .u64 a)) i)
  rw [show evalB EN Tryz.prog Tryz.f81.results.toList (loopOf Tryz.f81 0) (0 + 1) lp60 (vs60 ⟨a, n, n, i⟩) [] = evalB EN Tryz.prog Tryz.f81.results.toList (loopOf Tryz.f81 0) 1 lp60 (v60 a n 327680 393216 i (!anyB (badX (conv .u64 a)) i)) [] from rfl, show lp60.ks = [0, 1, 6, 7, 8, 9] from rfl, hr]
  by_cases h : i < n
  · have e1 : cm .lss (i : Int) n = true := by rw [cm_lss']; exact decide_eq_true (by omega)
    have e2 : ar .add .i64 (i : Int) 1 = ((i + 1 : Nat) : Int) := by simp only [ar, IntKind.wrap_i64]; omega
    simp only [e1, e2, cond_true, bif_and, conv_small (show i ≤ 8 by omega)]
    have ho : (cm .geq (ar .add .u64 (conv .u64 a) i) 327680 && cm .lss (ar .add .u64 (conv .u64 a) i) 393216) = overX (conv .u64 a) i := rfl
    rw [ho]
    refine Round_cond (fun hh => ?_) (fun hh => ?_)
    · have hany : anyB (overX (conv .u64 a)) n = true := anyB_le h (by rw [anyB_step, hh, Bool.or_true])
      exact ⟨.tup [.int false .i64 0, .int false .i64 4], [], [], by simp only [out60, hany, cond_true], rfl, by simp [sim, simL], trivial, rfl⟩
    · have hno : anyB (overX (conv .u64 a)) (i + 1) = false := by rw [anyB_step, h2, hh]; rfl
      refine ⟨rfl, ⟨a, n, n, i + 1⟩, [], ⟨h, h1, rfl, hno⟩, by show n - (i + 1) < n - i; omega, rfl, rfl, ⟨⟨rfl, rfl⟩, ⟨rfl, rfl⟩, ⟨rfl, rfl⟩, ⟨rfl, rfl⟩, ?_, ⟨rfl, rfl⟩, trivial⟩, trivial, rfl, rfl⟩
      show (!anyB (badX (conv .u64 a)) i && (cm .geq (ar .add .u64 (conv .u64 a) i) 262144 && cm .lss (ar .add .u64 (conv .u64 a) i) 458752)) = !anyB (badX (conv .u64 a)) (i + 1)
      rw [anyB_step, Bool.not_or]
      congr 1
      unfold badX atX
      rw [cm_lss', cm_lss', cm_geq', cm_geq', Bool.not_or]
      generalize ar .add .u64 (conv .u64 a) (i : Int) = z
      have a1 : decide (262144 ≤ z) = !decide (z < 262144) := by
        by_cases q : z < 262144
        · rw [decide_eq_true q, decide_eq_false (show ¬ 262144 ≤ z by omega)]; rfl
        · rw [decide_eq_false q, decide_eq_true (show 262144 ≤ z by omega)]; rfl
      have a2 : decide (z < 458752) = !decide (458752 ≤ z) := by
        by_cases q : z < 458752
        · rw [decide_eq_true q, decide_eq_false (show ¬ 458752 ≤ z by omega)]; rfl
        · rw [decide_eq_false q, decide_eq_true (show 458752 ≤ z by omega)]; rfl
      rw [a1, a2]
  · obtain rfl : i = n := by omega
    have e1 : cm .lss (i : Int) i = false := by rw [cm_lss']; exact decide_eq_false (by omega)
    simp only [e1, cond_false]
    exact ⟨rfl, [.int false .i64 a, .any, .any, .any, .bool false (!anyB (badX (conv .u64 a)) i), .any], [], [], by simp only [out60, h2, cond_false]; rfl, rfl, ⟨⟨rfl, rfl⟩, trivial, trivial, trivial, rfl, trivial, trivial⟩, trivial, rfl, rfl⟩

theorem e60_calls : CallsOk E60 Tryz.prog := fun f args H nm r h hn => en_calls f args H nm r h hn
attribute [local irreducible] evalB Tr.view in
theorem loop60 : LoopOk E60 Tryz.prog Tryz.f81 0 (loopOf Tryz.f81 0) :=
  loop_okE mixed (fun S => rfl) (by decide) ok60 (fun x => x.n - x.i) vs60 (fun _ => []) out60 entry60 fun x hx => ⟨EN, en_calls, loops_noLoop en_loop _ _, round60 x hx⟩
theorem fn60 : Tryz.prog.funcs[81]? = some Tryz.f81 := by kernel_rfl
theorem b60 : Tryz.f81.body = some (bodyOf Tryz.f81) := by kernel_rfl
theorem n60 : (Tryz.f81.name == "runtime.NumGoroutine") = false := by kernel_rfl
theorem nl60 : Code.loops (bodyOf Tryz.f81) = 1 := by kernel_rfl
theorem nth60 : nthLoop (bodyOf Tryz.f81) 0 = some (loopOf Tryz.f81 0) := by kernel_rfl
theorem loops60 : LoopsOk E60 Tryz.prog Tryz.f81 (bodyOf Tryz.f81) 0 := loops1 nl60 fun a ha => by
  rw [nth60] at ha
  simp only [Option.some.injEq] at ha
  subst ha
  exact loop60

/-- where it lies, if it may be -/
def offX (a : Int) (n : Nat) : Int := bif decide (accX (conv .u64 a) n = 0) then ar .sub .i64 a 262144 else 0
def g60 : List SV → Heap → Option R
  | [.int _ .i64 a, .int _ .i64 size], [] => some ⟨[decide (0 ≤ size), decide (size ≤ 8)], .tup [.int false .i64 (offX a size.toNat), .int false .i64 (accX (conv .u64 a) size.toNat)], []⟩
  | _, _ => none
attribute [local irreducible] evalF Lf.gives in
theorem spec60 : SpecOk Tryz.prog 81 (specOf g60) := spec_okA false e60_calls mixed fn60 b60 n60 loops60 g60 fun a0 H0 r hg hn => by
  unfold g60 at hg
  split at hg
  · rename_i _ a _ size
    simp only [Option.some.injEq] at hg
    subst hg
    simp only [allB, Bool.and_true, Bool.and_eq_true, decide_eq_true_eq] at hn
    obtain ⟨h0, h8⟩ := hn
    refine ⟨[.int false .i64 a, .int false .i64 size], fun _ => rfl, fun σ => by simp only [denL, den], gives_giv (gives_tree (t60 a size) ?_)⟩
    simp only [decide_eq_true h0, decide_eq_true h8, cond_true]
    refine gives_cond (fun h => ?_) (fun h => ?_)
    · have e : accX (conv .u64 a) size.toNat = 4 := by simp only [accX, h, cond_true]
      have e2 : offX a size.toNat = 0 := by simp [offX, e]
      exact gives_ret fun σ σ' => by simp only [e, e2, denL, den]
    · refine gives_cond (fun h1 => ?_) (fun h1 => ?_)
      · have h1 : anyB (badX (conv .u64 a)) size.toNat = true := by simpa using h1
        have e : accX (conv .u64 a) size.toNat = 5 := by simp only [accX, h, h1, cond_true, cond_false]
        have e2 : offX a size.toNat = 0 := by simp [offX, e]
        exact gives_ret fun σ σ' => by simp only [e, e2, denL, den]
      · have h1 : anyB (badX (conv .u64 a)) size.toNat = false := by simpa using h1
        have e : accX (conv .u64 a) size.toNat = 0 := by simp only [accX, h, h1, cond_false]
        have e2 : offX a size.toNat = ar .sub .i64 a 262144 := by simp [offX, e]
        exact gives_ret fun σ σ' => by simp only [e, e2, denL, den]
  · cases hg

end Go.Rv
end

section
set_option linter.unusedVariables false
open Go Go.Ev Go.Proofs
namespace Go.Rv

theorem or_low {a b : Nat} {i : Nat} (ha : a < 2 ^ i) (hab : a + b * 2 ^ i < 2 ^ 64) : ar .or .u64 (a : Int) ((b * 2 ^ i : Nat) : Int) = ((a + b * 2 ^ i : Nat) : Int) := by
  have h1 : (BitVec.ofInt 64 (a : Int) ||| BitVec.ofInt 64 ((b * 2 ^ i : Nat) : Int)).toNat = a + b * 2 ^ i := by
    rw [BitVec.ofInt_natCast, BitVec.ofInt_natCast, BitVec.toNat_or, BitVec.toNat_ofNat, BitVec.toNat_ofNat, Nat.mod_eq_of_lt (by omega), Nat.mod_eq_of_lt (by omega), ← Nat.shiftLeft_eq, Nat.or_comm, ← Nat.shiftLeft_add_eq_or_of_lt ha, Nat.add_comm]
  have h2 : ar .or .u64 (a : Int) ((b * 2 ^ i : Nat) : Int) = IntKind.u64.wrap (((BitVec.ofInt 64 (a : Int) ||| BitVec.ofInt 64 ((b * 2 ^ i : Nat) : Int)).toNat : Nat) : Int) := rfl
  rw [h2, h1, IntKind.wrap_u64]
  omega

theorem or_high {a b : Nat} {i : Nat} (ha : a < 2 ^ i) (hab : a + b * 2 ^ i < 2 ^ 64) : ar .or .u64 ((b * 2 ^ i : Nat) : Int) (a : Int) = ((a + b * 2 ^ i : Nat) : Int) := by
  have h1 : (BitVec.ofInt 64 ((b * 2 ^ i : Nat) : Int) ||| BitVec.ofInt 64 (a : Int)).toNat = a + b * 2 ^ i := by
    rw [BitVec.ofInt_natCast, BitVec.ofInt_natCast, BitVec.toNat_or, BitVec.toNat_ofNat, BitVec.toNat_ofNat, Nat.mod_eq_of_lt (by omega), Nat.mod_eq_of_lt (by omega), ← Nat.shiftLeft_eq, ← Nat.shiftLeft_add_eq_or_of_lt ha, Nat.add_comm]
  have h2 : ar .or .u64 ((b * 2 ^ i : Nat) : Int) (a : Int) = IntKind.u64.wrap (((BitVec.ofInt 64 ((b * 2 ^ i : Nat) : Int) ||| BitVec.ofInt 64 (a : Int)).toNat : Nat) : Int) := rfl
  rw [h2, h1, IntKind.wrap_u64]
  omega

theorem shl_u64 {a : Nat} {i : Nat} (hi : i ≤ 64) (h : a * 2 ^ i < 2 ^ 64) : ar .shl .u64 (a : Int) ((i : Nat) : Int) = ((a * 2 ^ i : Nat) : Int) := by
  have : ar .shl .u64 (a : Int) ((i : Nat) : Int) = IntKind.u64.wrap ((a : Int) * 2 ^ (min ((i : Nat) : Int).toNat 64)) := rfl
  rw [this, Int.toNat_natCast, Nat.min_eq_left hi, IntKind.wrap_u64]
  have e : (a : Int) * 2 ^ i = ((a * 2 ^ i : Nat) : Int) := by simp
  rw [e]
  omega

theorem conv_byte {a : Int} (h : 0 ≤ a) (h2 : a < 256) : conv .u64 a = a := by
  simp only [conv, IntKind.wrap_u64]; omega
theorem mul8 {j : Nat} (h : j ≤ 1000) : ar .mul .i64 8 (j : Int) = ((8 * j : Nat) : Int) := by
  simp only [ar, IntKind.wrap_i64]; omega

def natB (f : Nat → Int) : Nat → Nat
  | 0 => 0
  | k + 1 => natB f k + (f k).toNat * 2 ^ (8 * k)
/-- the upper bytes of n -/
def topB (f : Nat → Int) (n : Nat) : Nat → Nat
  | 0 => 0
  | j + 1 => (f (n - 1 - j)).toNat + topB f n j * 2 ^ 8

theorem natB_lt {f : Nat → Int} (hf : ∀ j, 0 ≤ f j ∧ f j < 256) : ∀ k, natB f k < 2 ^ (8 * k)
  | 0 => by simp [natB]
  | k + 1 => by
    have ih := natB_lt hf k
    have h1 := hf k
    have e : 2 ^ (8 * (k + 1)) = 256 * 2 ^ (8 * k) := by rw [Nat.mul_add, Nat.pow_add]; omega
    have h2 : (f k).toNat ≤ 255 := by omega
    have h3 : (f k).toNat * 2 ^ (8 * k) ≤ 255 * 2 ^ (8 * k) := Nat.mul_le_mul_right _ h2
    simp only [natB]
    omega
theorem topB_lt {f : Nat → Int} (hf : ∀ j, 0 ≤ f j ∧ f j < 256) (n : Nat) : ∀ k, topB f n k < 2 ^ (8 * k)
  | 0 => by simp [topB]
  | k + 1 => by
    have ih := topB_lt hf n k
    have h1 := hf (n - 1 - k)
    have e : 2 ^ (8 * (k + 1)) = 2 ^ (8 * k) * 256 := by rw [Nat.mul_add, Nat.pow_add]
    simp only [topB]
    omega
theorem pow_le_64 {k : Nat} (h : k ≤ 8) : 2 ^ (8 * k) ≤ 2 ^ 64 := Nat.pow_le_pow_right (by decide) (by omega)

theorem topB_eq (f : Nat → Int) (n : Nat) : ∀ k, k ≤ n → natB f n = natB f (n - k) + topB f n k * 2 ^ (8 * (n - k))
  | 0, _ => by simp [topB]
  | k + 1, h => by
    have h3 := topB_eq f n k (by omega)
    rw [h3]
    obtain ⟨m, hm⟩ : ∃ m, n - k = m + 1 := ⟨n - k - 1, by omega⟩
    have hm2 : n - (k + 1) = m := by omega
    have hm3 : n - 1 - k = m := by omega
    rw [hm, hm2]
    simp only [natB, topB, hm3]
    have e2 : 2 ^ (8 * (m + 1)) = 2 ^ 8 * 2 ^ (8 * m) := by rw [Nat.mul_add, Nat.pow_add, Nat.mul_comm]
    rw [e2, Nat.add_mul, Nat.mul_assoc]
    omega
theorem topB_all (f : Nat → Int) (n : Nat) : topB f n n = natB f n := by
  have := topB_eq f n n (Nat.le_refl _)
  simp [natB] at this
  omega

theorem natB_step {f : Nat → Int} (hf : ∀ j, 0 ≤ f j ∧ f j < 256) {k : Nat} (h : k < 8) : ar .or .u64 (natB f k : Int) (ar .shl .u64 (conv .u64 (f k)) (ar .mul .i64 8 (k : Int))) = (natB f (k + 1) : Int) := by
  obtain ⟨c0, c1⟩ := hf k
  have hl := natB_lt hf k
  have hl1 := natB_lt hf (k + 1)
  have hp := pow_le_64 (show k + 1 ≤ 8 by omega)
  have hc : f k = ((f k).toNat : Int) := by omega
  simp only [natB] at hl1 ⊢
  rw [mul8 (by omega), conv_byte c0 c1]
  generalize (f k).toNat = b at *
  rw [hc, shl_u64 (by omega) (by omega), or_low hl (by omega)]
theorem topB_step {f : Nat → Int} (hf : ∀ j, 0 ≤ f j ∧ f j < 256) {n k : Nat} (h : k < 8) : ar .or .u64 (ar .shl .u64 (topB f n k : Int) 8) (conv .u64 (f (n - 1 - k))) = (topB f n (k + 1) : Int) := by
  obtain ⟨c0, c1⟩ := hf (n - 1 - k)
  have hl := topB_lt hf n k
  have hp := pow_le_64 (show k + 1 ≤ 8 by omega)
  have e : 2 ^ (8 * (k + 1)) = 2 ^ (8 * k) * 256 := by rw [Nat.mul_add, Nat.pow_add]
  have hc : f (n - 1 - k) = ((f (n - 1 - k)).toNat : Int) := by omega
  simp only [topB]
  rw [conv_byte c0 c1]
  generalize (f (n - 1 - k)).toNat = b at *
  have e8 : (8 : Int) = ((8 : Nat) : Int) := rfl
  rw [hc, e8, shl_u64 (by omega) (by omega), or_high (show b < 2 ^ 8 by omega) (by omega)]

/-- an access that may be: where its bytes lie -/
theorem acc_ok {a : Int} {n : Nat} (h : accX a n = 0) : ∀ i, i < n → overX a i = false ∧ badX a i = false := by
  have any : ∀ (p : Nat → Bool) n, anyB p n = false → ∀ i, i < n → p i = false := by
    intro p n
    induction n with
    | zero => intro _ i hi; omega
    | succ n ih =>
      intro hp i hi
      rw [anyB_step, Bool.or_eq_false_iff] at hp
      by_cases e : i = n
      · rw [e]; exact hp.2
      · exact ih hp.1 i (by omega)
  have h1 : anyB (overX a) n = false := by
    cases hq : anyB (overX a) n with
    | false => rfl
    | true => simp [accX, hq] at h
  have h2 : anyB (badX a) n = false := by
    cases hq : anyB (badX a) n with
    | false => rfl
    | true => simp [accX, h1, hq] at h
  exact fun i hi => ⟨any _ _ h1 i hi, any _ _ h2 i hi⟩
/-- the place of a byte in memory -/
def ixX (a : Int) (i : Nat) : Nat := (atX a i - 262144).toNat
theorem acc_at {a : Int} {n i : Nat} (h : accX a n = 0) (hi : i < n) (h8 : n ≤ 8) : 262144 ≤ atX a i ∧ atX a i < 458752 ∧ ar .add .u64 (ar .sub .u64 a 262144) (conv .u64 (i : Int)) = ((ixX a i : Nat) : Int) ∧ ixX a i < 196608 := by
  have hb := (acc_ok h i hi).2
  simp only [badX, Bool.or_eq_false_iff, cm_lss', cm_geq', decide_eq_false_iff_not] at hb
  have h1 : 262144 ≤ atX a i := by omega
  have h2 : atX a i < 458752 := by omega
  refine ⟨h1, h2, ?_, by unfold ixX; omega⟩
  unfold ixX
  rw [conv_small (by omega)]
  unfold atX at h1 h2 ⊢
  simp only [ar, IntKind.wrap_u64] at h1 h2 ⊢
  omega
theorem acc_off {a : Int} {n i : Nat} (h : accX (conv .u64 a) n = 0) (hi : i < n) (h8 : n ≤ 8) : ar .add .i64 (offX a n) (i : Int) = ((ixX (conv .u64 a) i : Nat) : Int) := by
  obtain ⟨h1, h2, _, _⟩ := acc_at h hi h8
  have e : offX a n = ar .sub .i64 a 262144 := by simp [offX, h]
  rw [e]
  unfold ixX
  unfold atX at h1 h2 ⊢
  simp only [ar, conv, IntKind.wrap_u64, IntKind.wrap_i64] at h1 h2 ⊢
  omega

end Go.Rv
end

section
set_option linter.unusedVariables false
open Go Go.Ev Go.Proofs
namespace Go.Rv

/-- a machine's numbers -/
structure M where
  pc : Int
  zf : Bool
  sf : Bool
  cf : Bool
  of_ : Bool
  kind : Int
  code : Int
  X : Nat → Int
  mem : Nat → Int
  nI : Nat
  inp : Nat → Int
  nO : Nat
  out : Nat → Int

def cpuL (m : M) (kX kM kI kO : Nat) : List SV := [.int false .i64 m.pc, .sl kX 16, .bool false m.zf, .bool false m.sf, .bool false m.cf, .bool false m.of_, .sl kM 196608, .sl kI m.nI, .sl kO m.nO, .int false .i64 m.kind, .int false .i64 m.code]
/-- a machine in memory; which of its tables may be written -/
def hM (m : M) (x e o : Bool) : Heap := [(0, .cells (cpuL m 1 2 3 4)), (1, .tab 16 [.ints .i64 m.X] x), (2, .tab 196608 [.ints .u8 m.mem] e), (3, .tab m.nI [.ints .i64 m.inp] false), (4, .tab m.nO [.ints .i64 m.out] o)]
/-- told from a heap -/
def unM (x e o : Bool) : Heap → Option (List Bool × M)
  | [(j0, .cells [.int _ .i64 pc, .sl k1 n1, .bool _ zf, .bool _ sf, .bool _ cf, .bool _ of_, .sl k2 n2, .sl k3 n3, .sl k4 n4, .int _ .i64 kind, .int _ .i64 code]), (j1, .tab t1 [.ints .i64 X] rw1), (j2, .tab t2 [.ints .u8 mem] rw2), (j3, .tab t3 [.ints .i64 inp] rw3), (j4, .tab t4 [.ints .i64 out] rw4)] =>
    match (!x || rw1) && ((!e || rw2) && (!o || rw4)), Nat.beq j0 0 && (Nat.beq j1 1 && (Nat.beq j2 2 && (Nat.beq j3 3 && (Nat.beq j4 4 && (Nat.beq k1 1 && (Nat.beq k2 2 && (Nat.beq k3 3 && (Nat.beq k4 4 && (Nat.beq n1 16 && (Nat.beq n2 196608 && (Nat.beq t1 16 && Nat.beq t2 196608))))))))))) with
    | true, true => some ([Nat.beq t3 n3, Nat.beq t4 n4], ⟨pc, zf, sf, cf, of_, kind, code, X, mem, n3, inp, n4, out⟩)
    | _, _ => none
  | _ => none
noncomputable def byteB (mem : Nat → Int) : Bool := @decide (∀ r, 0 ≤ mem r ∧ mem r < 256) (Classical.propDecidable _)
theorem byteB_iff {mem : Nat → Int} : byteB mem = true ↔ ∀ r, 0 ≤ mem r ∧ mem r < 256 := @decide_eq_true_iff _ (Classical.propDecidable _)

noncomputable def EA : Env := inlF Tryz.prog (envOf [(114, specOf g76), (81, specOf g60)] noLoop) [] [] [] 0
theorem ea_calls : CallsOk EA Tryz.prog := (inlF_calls ((SpecsOk.cons spec76 (SpecsOk.cons spec60 SpecsOk.nil)).calls noLoop) mixed rfl rfl rfl 0).1
theorem ea_loop : EA.loop = noLoop := rfl

/-- a load's number -/
def loadX (mem : Nat → Int) (a : Int) (n : Nat) : Int := (natB (fun j => mem (ixX a j)) n : Int)
/-- memory after a store -/
def storeX (mem : Nat → Int) (a : Int) (v : Int) : Nat → (Nat → Int)
  | 0 => mem
  | i + 1 => upd (storeX mem a v i) (ixX a i) (conv .u8 (ar .shr .u64 v (ar .mul .i64 8 (i : Int))))

/-! Load -/
def v75 (a n at_ size i : Int) : List SV := [.ptr 0 0 0, .int false .u64 a, .int false .u64 n, .int false .u64 at_, .int false .i64 size, .int false .i64 i]
def lk75 : Lp := ⟨44, [0, 1, 6, 9, 22, 23], 2000, fun _ _ => none⟩
noncomputable def get75 : List SV → Heap → Option Tr
  | [.ptr k0 r0 c0, .int _ .u64 a, .int _ .u64 n, .int _ .u64 at_, .int _ .i64 size, .int _ .i64 i], H => match unM false false false H with
    | some (nn, m) => some (Tr.needs ([Nat.beq k0 0, Nat.beq r0 0, Nat.beq c0 0, decide (at_ = ar .sub .u64 a 262144), decide (n = 0), decide (i = 0), decide (0 ≤ size), decide (size ≤ 8), decide (accX a size.toNat = 0), byteB m.mem] ++ nn)
      (exitT lk75 0 [.ptr 0 0 0, .any, .int false .u64 (loadX m.mem a size.toNat), .any, .any, .any] (hM m false false false)))
    | none => none
  | _, _ => none
noncomputable def lp75 : Lp := { lk75 with get := get75 }
noncomputable def E75 : Env := ⟨EA.call, loopEnv [(0, lp75)]⟩
def v41 (a size k n i : Int) : List SV := [.ptr 0 0 0, .int false .i64 a, .int false .i64 size, .int false .i64 k, .int false .u64 n, .int false .i64 i]
def lk41 : Lp := ⟨44, [0, 1, 2, 8, 10, 11], 2000, fun _ _ => none⟩
noncomputable def get41 : List SV → Heap → Option Tr
  | [.ptr k0 r0 c0, .int _ .i64 a, .int _ .i64 size, .int _ .i64 k, .int _ .u64 n, .int _ .i64 i], H => match unM false false false H with
    | some (nn, m) => some (Tr.needs ([Nat.beq k0 0, Nat.beq r0 0, Nat.beq c0 0, decide (k = offX a size.toNat), decide (n = 0), decide (i = ar .sub .i64 size 1), decide (0 ≤ size), decide (size ≤ 8), decide (accX (conv .u64 a) size.toNat = 0), byteB m.mem] ++ nn)
      (exitT lk41 0 [.ptr 0 0 0, .any, .any, .any, .int false .u64 (loadX m.mem (conv .u64 a) size.toNat), .any] (hM m false false false)))
    | none => none
  | _, _ => none
noncomputable def lp41 : Lp := { lk41 with get := get41 }
noncomputable def E41 : Env := ⟨EA.call, loopEnv [(0, lp41)]⟩
/-! Store -/
def v68 (a v at_ size i : Int) : List SV := [.ptr 0 0 0, .int false .u64 a, .int false .u64 v, .int false .u64 at_, .int false .i64 size, .int false .i64 i]
def lk68 : Lp := ⟨42, [0, 1, 3, 10, 23, 24], 2000, fun _ _ => none⟩
def get68 : List SV → Heap → Option Tr
  | [.ptr k0 r0 c0, .int _ .u64 a, .int _ .u64 v, .int _ .u64 at_, .int _ .i64 size, .int _ .i64 i], H => match unM false true false H with
    | some (nn, m) => some (Tr.needs ([Nat.beq k0 0, Nat.beq r0 0, Nat.beq c0 0, decide (at_ = ar .sub .u64 a 262144), decide (i = 0), decide (0 ≤ size), decide (size ≤ 8), decide (accX a size.toNat = 0)] ++ nn)
      (exitT lk68 0 [.ptr 0 0 0, .any, .any, .any, .any, .any] (hM { m with mem := storeX m.mem a v size.toNat } false true false)))
    | none => none
  | _, _ => none
def lp68 : Lp := { lk68 with get := get68 }
noncomputable def E68 : Env := ⟨EA.call, loopEnv [(0, lp68)]⟩
def v43 (a size v k i : Int) : List SV := [.ptr 0 0 0, .int false .i64 a, .int false .i64 size, .int false .u64 v, .int false .i64 k, .int false .i64 i]
def lk43 : Lp := ⟨42, [0, 1, 2, 3, 9, 11], 2000, fun _ _ => none⟩
def get43 : List SV → Heap → Option Tr
  | [.ptr k0 r0 c0, .int _ .i64 a, .int _ .i64 size, .int _ .u64 v, .int _ .i64 k, .int _ .i64 i], H => match unM false true false H with
    | some (nn, m) => some (Tr.needs ([Nat.beq k0 0, Nat.beq r0 0, Nat.beq c0 0, decide (k = offX a size.toNat), decide (i = 0), decide (0 ≤ size), decide (size ≤ 8), decide (accX (conv .u64 a) size.toNat = 0)] ++ nn)
      (exitT lk43 0 [.ptr 0 0 0, .any, .any, .any, .any, .any] (hM { m with mem := storeX m.mem (conv .u64 a) v size.toNat } false true false)))
    | none => none
  | _, _ => none
def lp43 : Lp := { lk43 with get := get43 }
noncomputable def E43 : Env := ⟨EA.call, loopEnv [(0, lp43)]⟩

theorem r75 (m : M) (a : Int) (n : Int) (at_ : Int) (size : Int) (i : Int) : (evalB EA Tryz.prog Tryz.f91.results.toList (loopOf Tryz.f91 0) 1 lp75 (v75 a n at_ size i) (hM m false false false)).view [0, 1, 6, 9, 22, 23] =
    (bif (cm .lss i size) then
 bif (decide (0 ≤ ar .add .u64 at_ (conv .u64 i))) then
 bif (decide (ar .add .u64 at_ (conv .u64 i) < 196608)) then
 bif (Nat.blt ((ar .add .u64 at_ (conv .u64 i)).toNat) (196608)) then
 bif (Nat.blt ((ar .add .u64 at_ (conv .u64 i)).toNat) (196608)) then
 bif (decide (0 ≤ ar .mul .i64 8 i)) then
 .norm 44 [(.ptr 0 0 0), (.int false .u64 (a)), (.int false .u64 (ar .or .u64 n (ar .shl .u64 (conv .u64 (m.mem (ar .add .u64 at_ (conv .u64 i)).toNat)) (ar .mul .i64 8 i)))), (.int false .u64 (at_)), (.int false .i64 (size)), (.int false .i64 (ar .add .i64 i 1))] (hM m false false false)
 else .bad
 else .bad
 else .bad
 else .bad
 else .bad
 else
 .exit 0 44 [(.ptr 0 0 0), (.int false .u64 (a)), (.int false .u64 (n)), (.int false .u64 (at_)), (.int false .i64 (size)), (.int false .i64 (i))] (hM m false false false)) := by kernel_rfl

theorem t75 (m : M) (a : Int) (size : Int) : (evalF E75 Tryz.prog 91 [.ptr 0 0 0, .int false .u64 a, .int false .i64 size] (hM m false false false) 1024).leaf =
    (bif (decide (0 ≤ size)) then
 bif (decide (size ≤ 8)) then
 bif (cm .neq (accX a size.toNat) 0) then
 .ret (.tup [(.int true .u64 0), (.bool true false)]) (hM { m with kind := accX a size.toNat } false false false)
 else
 bif (decide (ar .sub .u64 a 262144 = ar .sub .u64 a 262144)) then
 bif (decide (0 ≤ size)) then
 bif (decide (size ≤ 8)) then
 bif (decide (accX a size.toNat = 0)) then
 bif (byteB m.mem) then
 bif (Nat.beq (m.nI) (m.nI)) then
 bif (Nat.beq (m.nO) (m.nO)) then
 .ret (.tup [(.int false .u64 (loadX m.mem a size.toNat)), (.bool true true)]) (hM m false false false)
 else .bad
 else .bad
 else .bad
 else .bad
 else .bad
 else .bad
 else .bad
 else .bad
 else .bad) := by kernel_rfl

theorem r41 (m : M) (a : Int) (size : Int) (k : Int) (n : Int) (i : Int) : (evalB EA Tryz.prog Tryz.f70.results.toList (loopOf Tryz.f70 0) 1 lp41 (v41 a size k n i) (hM m false false false)).view [0, 1, 2, 8, 10, 11] =
    (bif (cm .geq i 0) then
 bif (decide (0 ≤ ar .add .i64 k i)) then
 bif (decide (ar .add .i64 k i < 196608)) then
 bif (Nat.blt ((ar .add .i64 k i).toNat) (196608)) then
 bif (Nat.blt ((ar .add .i64 k i).toNat) (196608)) then
 .norm 44 [(.ptr 0 0 0), (.int false .i64 (a)), (.int false .i64 (size)), (.int false .i64 (k)), (.int false .u64 (ar .or .u64 (ar .shl .u64 n 8) (conv .u64 (m.mem (ar .add .i64 k i).toNat)))), (.int false .i64 (ar .sub .i64 i 1))] (hM m false false false)
 else .bad
 else .bad
 else .bad
 else .bad
 else
 .exit 0 44 [(.ptr 0 0 0), (.int false .i64 (a)), (.int false .i64 (size)), (.int false .i64 (k)), (.int false .u64 (n)), (.int false .i64 (i))] (hM m false false false)) := by kernel_rfl

theorem t41 (m : M) (a : Int) (size : Int) : (evalF E41 Tryz.prog 70 [.ptr 0 0 0, .int false .i64 a, .int false .i64 size] (hM m false false false) 1024).leaf =
    (bif (decide (0 ≤ size)) then
 bif (decide (size ≤ 8)) then
 bif (cm .neq (accX (conv .u64 a) size.toNat) 0) then
 .ret (.tup [(.int true .u64 0), (.bool true false)]) (hM { m with kind := accX (conv .u64 a) size.toNat } false false false)
 else
 bif (decide (offX a size.toNat = offX a size.toNat)) then
 bif (decide (ar .sub .i64 size 1 = ar .sub .i64 size 1)) then
 bif (decide (0 ≤ size)) then
 bif (decide (size ≤ 8)) then
 bif (decide (accX (conv .u64 a) size.toNat = 0)) then
 bif (byteB m.mem) then
 bif (Nat.beq (m.nI) (m.nI)) then
 bif (Nat.beq (m.nO) (m.nO)) then
 .ret (.tup [(.int false .u64 (loadX m.mem (conv .u64 a) size.toNat)), (.bool true true)]) (hM m false false false)
 else .bad
 else .bad
 else .bad
 else .bad
 else .bad
 else .bad
 else .bad
 else .bad
 else .bad
 else .bad) := by kernel_rfl

theorem r68 (m : M) (a : Int) (v : Int) (at_ : Int) (size : Int) (i : Int) : (evalB EA Tryz.prog Tryz.f90.results.toList (loopOf Tryz.f90 0) 1 lp68 (v68 a v at_ size i) (hM m false true false)).view [0, 1, 3, 10, 23, 24] =
    (bif (cm .lss i size) then
 bif (decide (0 ≤ ar .mul .i64 8 i)) then
 bif (decide (0 ≤ ar .add .u64 at_ (conv .u64 i))) then
 bif (decide (ar .add .u64 at_ (conv .u64 i) < 196608)) then
 bif (Nat.blt ((ar .add .u64 at_ (conv .u64 i)).toNat) (196608)) then
 bif (Nat.blt ((ar .add .u64 at_ (conv .u64 i)).toNat) (196608)) then
 .norm 42 [(.ptr 0 0 0), (.int false .u64 (a)), (.int false .u64 (v)), (.int false .u64 (at_)), (.int false .i64 (size)), (.int false .i64 (ar .add .i64 i 1))] (hM { m with mem := upd m.mem (ar .add .u64 at_ (conv .u64 i)).toNat (conv .u8 (ar .shr .u64 v (ar .mul .i64 8 i))) } false true false)
 else .bad
 else .bad
 else .bad
 else .bad
 else .bad
 else
 .exit 0 42 [(.ptr 0 0 0), (.int false .u64 (a)), (.int false .u64 (v)), (.int false .u64 (at_)), (.int false .i64 (size)), (.int false .i64 (i))] (hM m false true false)) := by kernel_rfl

theorem t68 (m : M) (a : Int) (size : Int) (v : Int) : (evalF E68 Tryz.prog 90 [.ptr 0 0 0, .int false .u64 a, .int false .i64 size, .int false .u64 v] (hM m false true false) 1024).leaf =
    (bif (decide (0 ≤ size)) then
 bif (decide (size ≤ 8)) then
 bif (cm .neq (accX a size.toNat) 0) then
 .ret (.bool true false) (hM { m with kind := accX a size.toNat } false true false)
 else
 bif (decide (ar .sub .u64 a 262144 = ar .sub .u64 a 262144)) then
 bif (decide (0 ≤ size)) then
 bif (decide (size ≤ 8)) then
 bif (decide (accX a size.toNat = 0)) then
 bif (Nat.beq (m.nI) (m.nI)) then
 bif (Nat.beq (m.nO) (m.nO)) then
 .ret (.bool true true) (hM { m with mem := storeX m.mem a v size.toNat } false true false)
 else .bad
 else .bad
 else .bad
 else .bad
 else .bad
 else .bad
 else .bad
 else .bad) := by kernel_rfl

theorem r43 (m : M) (a : Int) (size : Int) (v : Int) (k : Int) (i : Int) : (evalB EA Tryz.prog Tryz.f69.results.toList (loopOf Tryz.f69 0) 1 lp43 (v43 a size v k i) (hM m false true false)).view [0, 1, 2, 3, 9, 11] =
    (bif (cm .lss i size) then
 bif (decide (0 ≤ ar .mul .i64 8 i)) then
 bif (decide (0 ≤ ar .add .i64 k i)) then
 bif (decide (ar .add .i64 k i < 196608)) then
 bif (Nat.blt ((ar .add .i64 k i).toNat) (196608)) then
 bif (Nat.blt ((ar .add .i64 k i).toNat) (196608)) then
 .norm 42 [(.ptr 0 0 0), (.int false .i64 (a)), (.int false .i64 (size)), (.int false .u64 (v)), (.int false .i64 (k)), (.int false .i64 (ar .add .i64 i 1))] (hM { m with mem := upd m.mem (ar .add .i64 k i).toNat (conv .u8 (ar .shr .u64 v (ar .mul .i64 8 i))) } false true false)
 else .bad
 else .bad
 else .bad
 else .bad
 else .bad
 else
 .exit 0 42 [(.ptr 0 0 0), (.int false .i64 (a)), (.int false .i64 (size)), (.int false .u64 (v)), (.int false .i64 (k)), (.int false .i64 (i))] (hM m false true false)) := by kernel_rfl

theorem t43 (m : M) (a : Int) (size : Int) (v : Int) : (evalF E43 Tryz.prog 69 [.ptr 0 0 0, .int false .i64 a, .int false .i64 size, .int false .u64 v] (hM m false true false) 1024).leaf =
    (bif (decide (0 ≤ size)) then
 bif (decide (size ≤ 8)) then
 bif (cm .neq (accX (conv .u64 a) size.toNat) 0) then
 .ret (.bool true false) (hM { m with kind := accX (conv .u64 a) size.toNat } false true false)
 else
 bif (decide (offX a size.toNat = offX a size.toNat)) then
 bif (decide (0 ≤ size)) then
 bif (decide (size ≤ 8)) then
 bif (decide (accX (conv .u64 a) size.toNat = 0)) then
 bif (Nat.beq (m.nI) (m.nI)) then
 bif (Nat.beq (m.nO) (m.nO)) then
 .ret (.bool true true) (hM { m with mem := storeX m.mem (conv .u64 a) v size.toNat } false true false)
 else .bad
 else .bad
 else .bad
 else .bad
 else .bad
 else .bad
 else .bad
 else .bad) := by kernel_rfl

end Go.Rv
end

section
set_option linter.unusedVariables false
open Go Go.Ev Go.Proofs
namespace Go.Rv

/-- told from a heap whose flags are struck -/
def unF (x e o : Bool) : Heap → Option (List Bool × M)
  | [(j0, .cells [.int false .i64 pc, .sl k1 n1, .bool false zf, .bool false sf, .bool false cf, .bool false of_, .sl k2 n2, .sl k3 n3, .sl k4 n4, .int false .i64 kind, .int false .i64 code]), (j1, .tab t1 [.ints .i64 X] rw1), (j2, .tab t2 [.ints .u8 mem] rw2), (j3, .tab t3 [.ints .i64 inp] rw3), (j4, .tab t4 [.ints .i64 out] rw4)] =>
    match (!x || rw1) && ((!e || rw2) && (!o || rw4)), Nat.beq j0 0 && (Nat.beq j1 1 && (Nat.beq j2 2 && (Nat.beq j3 3 && (Nat.beq j4 4 && (Nat.beq k1 1 && (Nat.beq k2 2 && (Nat.beq k3 3 && (Nat.beq k4 4 && (Nat.beq n1 16 && (Nat.beq n2 196608 && (Nat.beq t1 16 && Nat.beq t2 196608))))))))))) with
    | true, true => some ([Nat.beq t3 n3, Nat.beq t4 n4], ⟨pc, zf, sf, cf, of_, kind, code, X, mem, n3, inp, n4, out⟩)
    | _, _ => none
  | _ => none

theorem unM_wk {x e o : Bool} {H : Heap} {nn : List Bool} {m : M} (h : unM x e o H = some (nn, m)) (hn : allB nn = true) : wkH (rmap []) H (hM m x e o) := by
  unfold unM at h
  split at h
  · rename_i j0 _ pc k1 n1 _ zf _ sf _ cf _ of_ k2 n2 k3 n3 k4 n4 _ kind _ code j1 t1 X rw1 j2 t2 mem rw2 j3 t3 inp rw3 j4 t4 out rw4
    split at h
    · rename_i hr hb
      simp only [Option.some.injEq, Prod.mk.injEq] at h
      obtain ⟨rfl, rfl⟩ := h
      simp only [Bool.and_eq_true, Nat.beq_eq] at hb
      obtain ⟨rfl, rfl, rfl, rfl, rfl, rfl, rfl, rfl, rfl, rfl, rfl, rfl, rfl⟩ := hb
      simp only [allB, Bool.and_true, Bool.and_eq_true, Nat.beq_eq] at hn
      obtain ⟨rfl, rfl⟩ := hn
      simp [wkH, hM, cpuL, rmap, rlook, Ev.look, wkB, simL, sim, wkCs, wkC]
      simp at hr
      refine ⟨fun h => ?_, fun h => ?_, fun h => ?_⟩
      · subst h; simpa using hr.1
      · subst h; simpa using hr.2.1
      · subst h; simpa using hr.2.2
    · cases h
  · cases h

theorem unF_load {H : Heap} {nn : List Bool} {m : M} (h : unF false false false H = some (nn, m)) (hn : allB nn = true) : roH [0] H = hM m false false false := by
  unfold unF at h
  split at h
  · split at h
    · rename_i hr hb
      simp only [Option.some.injEq, Prod.mk.injEq] at h
      obtain ⟨rfl, rfl⟩ := h
      simp only [Bool.and_eq_true, Nat.beq_eq] at hb
      obtain ⟨rfl, rfl, rfl, rfl, rfl, rfl, rfl, rfl, rfl, rfl, rfl, rfl, rfl⟩ := hb
      simp only [allB, Bool.and_true, Bool.and_eq_true, Nat.beq_eq] at hn
      obtain ⟨rfl, rfl⟩ := hn
      rfl
    · cases h
  · cases h
theorem unF_store {H : Heap} {nn : List Bool} {m : M} (h : unF false true false H = some (nn, m)) (hn : allB nn = true) : roH [0, 2] H = hM m false true false := by
  unfold unF at h
  split at h
  · split at h
    · rename_i hr hb
      simp only [Option.some.injEq, Prod.mk.injEq] at h
      obtain ⟨rfl, rfl⟩ := h
      simp only [Bool.and_eq_true, Nat.beq_eq] at hb
      obtain ⟨rfl, rfl, rfl, rfl, rfl, rfl, rfl, rfl, rfl, rfl, rfl, rfl, rfl⟩ := hb
      simp only [allB, Bool.and_true, Bool.and_eq_true, Nat.beq_eq] at hn
      obtain ⟨rfl, rfl⟩ := hn
      simp at hr
      subst hr
      rfl
    · cases h
  · cases h

theorem hM_same (m : M) (x e o : Bool) : wkH (rmap []) (hM m x e o) (hM m x e o) := by
  simp [wkH, hM, cpuL, rmap, rlook, Ev.look, wkB, simL, sim, wkCs, wkC]
theorem hM_olds (m : M) (x e o : Bool) : uniqN (oldsOf (rmap []) (hM m x e o)) = true := rfl

structure XM where
  m : M
  a : Int
  v : Int
  n : Nat
  i : Nat
def byF (x : XM) : Nat → Int := fun j => x.m.mem (ixX x.a j)

/-! Load -/
def ok75 (x : XM) : Prop := x.i ≤ x.n ∧ x.n ≤ 8 ∧ accX x.a x.n = 0 ∧ ∀ r, 0 ≤ x.m.mem r ∧ x.m.mem r < 256
def vs75 (x : XM) : List SV := v75 x.a (natB (byF x) x.i) (ar .sub .u64 x.a 262144) x.n x.i
def hp75 (x : XM) : Heap := hM x.m false false false
def out75 (x : XM) : Vw := .exit 0 44 [.ptr 0 0 0, .any, .int false .u64 (loadX x.m.mem x.a x.n), .any, .any, .any] (hM x.m false false false)

theorem entry75 (l : List SV) (H : Heap) (T : Tr) (h : lp75.get l H = some T) (hb : T.leaf ≠ .bad) : ∃ x r, ok75 x ∧ WkV r lp75.nm l H (vs75 x) (hp75 x) ∧ T.leaf = toLf lp75 (out75 x) := by
  replace h : get75 l H = some T := h
  unfold get75 at h
  split at h
  · rename_i k0 r0 c0 _ a _ n _ at_ _ size _ i
    split at h
    · rename_i nn m hm
      simp only [Option.some.injEq] at h
      subst h
      obtain ⟨hn, he⟩ := needs_ne hb
      rw [he]
      simp only [allB_append, allB, Bool.and_eq_true, Bool.and_true, decide_eq_true_eq, Nat.beq_eq] at hn
      obtain ⟨⟨rfl, rfl, rfl, rfl, rfl, rfl, h0, h8, ha, hbt⟩, hnn⟩ := hn
      obtain ⟨n, rfl⟩ : ∃ n : Nat, size = n := ⟨size.toNat, by omega⟩
      refine ⟨⟨m, a, 0, n, 0⟩, [], ⟨Nat.zero_le _, by show n ≤ 8; omega, ha, byteB_iff.1 hbt⟩, ?_, ?_⟩
      · exact ⟨rfl, ⟨⟨rfl, rfl, rfl⟩, ⟨rfl, rfl⟩, ⟨rfl, rfl⟩, ⟨rfl, rfl⟩, ⟨rfl, rfl⟩, ⟨rfl, rfl⟩, trivial⟩, unM_wk hm hnn, hM_olds _ _ _ _, rfl⟩
      · simp only [exitT_leaf, out75, Int.toNat_natCast]
        rfl
    · cases h
  · cases h

attribute [local irreducible] evalB Tr.view in
theorem round75 (x : XM) (hx : ok75 x) : Round lp75 ok75 (fun x => x.n - x.i) vs75 hp75 out75 x ((evalB EA Tryz.prog Tryz.f91.results.toList (loopOf Tryz.f91 0) (0 + 1) lp75 (vs75 x) (hp75 x)).view lp75.ks) := by
  obtain ⟨m, a, v, n, i⟩ := x
  obtain ⟨h0, h1, h2, h3⟩ := hx
  simp only at h0 h1 h2 h3
  have hr := r75 m a (natB (byF ⟨m, a, v, n, i⟩) i) (ar .sub .u64 a 262144) n i
  rw [show evalB EA Tryz.prog Tryz.f91.results.toList (loopOf Tryz.f91 0) (0 + 1) lp75 (vs75 ⟨m, a, v, n, i⟩) (hp75 ⟨m, a, v, n, i⟩) = evalB EA Tryz.prog Tryz.f91.results.toList (loopOf Tryz.f91 0) 1 lp75 (v75 a (natB (byF ⟨m, a, v, n, i⟩) i) (ar .sub .u64 a 262144) n i) (hM m false false false) from rfl, show lp75.ks = [0, 1, 6, 9, 22, 23] from rfl, hr]
  by_cases h : i < n
  · obtain ⟨q1, q2, q3, q4⟩ := acc_at h2 h h1
    have e1 : cm .lss (i : Int) n = true := by rw [cm_lss']; exact decide_eq_true (by omega)
    have e2 : decide (0 ≤ ((ixX a i : Nat) : Int)) = true := decide_eq_true (by omega)
    have e3 : decide (((ixX a i : Nat) : Int) < 196608) = true := decide_eq_true (by omega)
    have e4 : Nat.blt (ixX a i) 196608 = true := by rw [Nat.blt_eq]; exact q4
    have e5 : decide (0 ≤ ar .mul .i64 8 (i : Int)) = true := by rw [mul8 (by omega)]; exact decide_eq_true (Int.natCast_nonneg _)
    simp only [e1, q3, e2, e3, e4, e5, cond_true, Int.toNat_natCast, addOne (show i < 9223372036854775807 by omega)]
    have hst := natB_step (f := byF ⟨m, a, v, n, i⟩) (fun j => h3 _) (show i < 8 by omega)
    refine ⟨rfl, ⟨m, a, v, n, i + 1⟩, [], ⟨h, h1, h2, h3⟩, by show n - (i + 1) < n - i; omega, rfl, rfl, ⟨⟨rfl, rfl, rfl⟩, ⟨rfl, rfl⟩, ⟨rfl, hst⟩, ⟨rfl, rfl⟩, ⟨rfl, rfl⟩, ⟨rfl, rfl⟩, trivial⟩, hM_same m false false false, hM_olds m false false false, rfl⟩
  · obtain rfl : i = n := by omega
    have e1 : cm .lss (i : Int) i = false := by rw [cm_lss']; exact decide_eq_false (by omega)
    simp only [e1, cond_false]
    exact ⟨rfl, _, _, [], rfl, rfl, ⟨⟨rfl, rfl, rfl⟩, trivial, ⟨rfl, rfl⟩, trivial, trivial, trivial, trivial⟩, hM_same m false false false, hM_olds m false false false, rfl⟩

theorem e75_calls : CallsOk E75 Tryz.prog := fun f args H nm r h hn => ea_calls f args H nm r h hn
attribute [local irreducible] evalB Tr.view in
theorem loop75 : LoopOk E75 Tryz.prog Tryz.f91 0 (loopOf Tryz.f91 0) :=
  loop_okE mixed (fun S => rfl) (by decide) ok75 (fun x => x.n - x.i) vs75 hp75 out75 entry75 fun x hx => ⟨EA, ea_calls, loops_noLoop ea_loop _ _, round75 x hx⟩
theorem fn75 : Tryz.prog.funcs[91]? = some Tryz.f91 := by kernel_rfl
theorem b75 : Tryz.f91.body = some (bodyOf Tryz.f91) := by kernel_rfl
theorem n75 : (Tryz.f91.name == "runtime.NumGoroutine") = false := by kernel_rfl
theorem nl75 : Code.loops (bodyOf Tryz.f91) = 1 := by kernel_rfl
theorem nth75 : nthLoop (bodyOf Tryz.f91) 0 = some (loopOf Tryz.f91 0) := by kernel_rfl
theorem loops75 : LoopsOk E75 Tryz.prog Tryz.f91 (bodyOf Tryz.f91) 0 := loops1 nl75 fun a ha => by
  rw [nth75] at ha
  simp only [Option.some.injEq] at ha
  subst ha
  exact loop75

def kindA (k a : Int) (n : Nat) : Int := bif decide (accX a n = 0) then k else accX a n
noncomputable def loadR (m : M) (a : Int) (n : Nat) (nn : List Bool) : R :=
  ⟨nn ++ [byteB m.mem], .tup [.int false .u64 (bif decide (accX a n = 0) then loadX m.mem a n else 0), .bool false (decide (accX a n = 0))], [(0, .cells (cpuL { m with kind := kindA m.kind a n } 1 2 3 4))]⟩
noncomputable def g75 : List SV → Heap → Option R
  | [.ptr k0 r0 c0, .int _ .u64 a, .int _ .i64 size], H => match unF false false false H, Nat.beq k0 0 && (Nat.beq r0 0 && Nat.beq c0 0) with
    | some (nn, m), true => some (loadR m a size.toNat (decide (0 ≤ size) :: decide (size ≤ 8) :: nn))
    | _, _ => none
  | _, _ => none

theorem load_gives {m : M} {a : Int} {n : Nat} {nn : List Bool} {l1 l2 l3 : Bool} {x : Int} {b : Bool} {k : Int} (hx : x = bif decide (accX a n = 0) then loadX m.mem a n else 0) (hb : b = decide (accX a n = 0)) (hk : k = kindA m.kind a n) (H : Heap) :
    GivesD (loadR m a n nn) (.ret (.tup [.int l1 .u64 x, .bool l2 b]) ((0, .cells [.int false .i64 m.pc, .sl 1 16, .bool false m.zf, .bool false m.sf, .bool false m.cf, .bool false m.of_, .sl 2 196608, .sl 3 m.nI, .sl 4 m.nO, .int l3 .i64 k, .int false .i64 m.code]) :: H)) := by
  subst hx hb hk
  refine ⟨[], rfl, fun σ => by simp only [loadR, den, denL], ⟨?_, trivial⟩, rfl⟩
  simp [rmap, rlook, Ev.look, cpuL, wkB, simL, sim]

attribute [local irreducible] evalF in
theorem spec75 : SpecOk Tryz.prog 91 (specOf g75) := spec_okA false e75_calls mixed fn75 b75 n75 loops75 g75 fun a0 H0 r hg hn => by
  unfold g75 at hg
  split at hg
  · rename_i k0 r0 c0 _ a _ size
    split at hg
    · rename_i nn m hm hk
      simp only [Bool.and_eq_true, Nat.beq_eq] at hk
      obtain ⟨rfl, rfl, rfl⟩ := hk
      simp only [Option.some.injEq] at hg
      subst hg
      simp only [loadR, List.cons_append, allB, allB_append, Bool.and_true, Bool.and_eq_true, decide_eq_true_eq] at hn
      obtain ⟨h0, h8, hnn, hbt⟩ := hn
      refine ⟨[.ptr 0 0 0, .int false .u64 a, .int false .i64 size], fun _ => by simp [SV.alL, SV.al, lt, base], fun σ => by simp only [denL, den], ?_⟩
      rw [show namesH (loadR m a size.toNat (decide (0 ≤ size) :: decide (size ≤ 8) :: nn)).upd = [0] from rfl, unF_load hm hnn, show base = 1024 from rfl, t75]
      simp only [decide_eq_true h0, decide_eq_true h8, cond_true, Nat.beq_refl, hbt, decide_true]
      by_cases ha : accX a size.toNat = 0
      · have e1 : cm .neq (accX a size.toNat) 0 = false := by rw [ha]; rfl
        simp only [e1, cond_false, decide_eq_true ha, cond_true]
        exact load_gives (by simp [ha]) (by simp [ha]) (by simp [kindA, ha]) _
      · have e1 : cm .neq (accX a size.toNat) 0 = true := by rw [cm_neq', decide_eq_false ha]; rfl
        simp only [e1, cond_true]
        exact load_gives (by simp [ha]) (by simp [ha]) (by simp [kindA, ha]) _
    · cases hg
  · cases hg

/-! the page's Load -/
def ok41 (x : XM) : Prop := x.i ≤ x.n ∧ x.n ≤ 8 ∧ accX (conv .u64 x.a) x.n = 0 ∧ ∀ r, 0 ≤ x.m.mem r ∧ x.m.mem r < 256
def byG (x : XM) : Nat → Int := fun j => x.m.mem (ixX (conv .u64 x.a) j)
def vs41 (x : XM) : List SV := v41 x.a x.n (offX x.a x.n) (topB (byG x) x.n x.i) ((x.n : Int) - 1 - x.i)
def out41 (x : XM) : Vw := .exit 0 44 [.ptr 0 0 0, .any, .any, .any, .int false .u64 (loadX x.m.mem (conv .u64 x.a) x.n), .any] (hM x.m false false false)

theorem subOneI {i : Int} (h : -9223372036854775808 < i) (h2 : i ≤ 9223372036854775807) : ar .sub .i64 i 1 = i - 1 := by
  simp only [ar, IntKind.wrap_i64]; omega

theorem entry41 (l : List SV) (H : Heap) (T : Tr) (h : lp41.get l H = some T) (hb : T.leaf ≠ .bad) : ∃ x r, ok41 x ∧ WkV r lp41.nm l H (vs41 x) (hp75 x) ∧ T.leaf = toLf lp41 (out41 x) := by
  replace h : get41 l H = some T := h
  unfold get41 at h
  split at h
  · rename_i k0 r0 c0 _ a _ size _ k _ n _ i
    split at h
    · rename_i nn m hm
      simp only [Option.some.injEq] at h
      subst h
      obtain ⟨hn, he⟩ := needs_ne hb
      rw [he]
      simp only [allB_append, allB, Bool.and_eq_true, Bool.and_true, decide_eq_true_eq, Nat.beq_eq] at hn
      obtain ⟨⟨rfl, rfl, rfl, rfl, rfl, rfl, h0, h8, ha, hbt⟩, hnn⟩ := hn
      obtain ⟨n, rfl⟩ : ∃ n : Nat, size = n := ⟨size.toNat, by omega⟩
      rw [subOneI (by omega) (by omega)]
      refine ⟨⟨m, a, 0, n, 0⟩, [], ⟨Nat.zero_le _, by show n ≤ 8; omega, ha, byteB_iff.1 hbt⟩, ?_, ?_⟩
      · refine ⟨rfl, ⟨⟨rfl, rfl, rfl⟩, ⟨rfl, rfl⟩, ⟨rfl, rfl⟩, ⟨rfl, rfl⟩, ⟨rfl, rfl⟩, ⟨rfl, ?_⟩, trivial⟩, unM_wk hm hnn, hM_olds _ _ _ _, rfl⟩
        show (n : Int) - 1 = (n : Int) - 1 - ((0 : Nat) : Int)
        simp
      · simp only [exitT_leaf, out41, Int.toNat_natCast]
        rfl
    · cases h
  · cases h

attribute [local irreducible] evalB Tr.view in
theorem round41 (x : XM) (hx : ok41 x) : Round lp41 ok41 (fun x => x.n - x.i) vs41 hp75 out41 x ((evalB EA Tryz.prog Tryz.f70.results.toList (loopOf Tryz.f70 0) (0 + 1) lp41 (vs41 x) (hp75 x)).view lp41.ks) := by
  obtain ⟨m, a, v, n, i⟩ := x
  obtain ⟨h0, h1, h2, h3⟩ := hx
  simp only at h0 h1 h2 h3
  have hr := r41 m a n (offX a n) (topB (byG ⟨m, a, v, n, i⟩) n i) ((n : Int) - 1 - i)
  rw [show evalB EA Tryz.prog Tryz.f70.results.toList (loopOf Tryz.f70 0) (0 + 1) lp41 (vs41 ⟨m, a, v, n, i⟩) (hp75 ⟨m, a, v, n, i⟩) = evalB EA Tryz.prog Tryz.f70.results.toList (loopOf Tryz.f70 0) 1 lp41 (v41 a n (offX a n) (topB (byG ⟨m, a, v, n, i⟩) n i) ((n : Int) - 1 - i)) (hM m false false false) from rfl, show lp41.ks = [0, 1, 2, 8, 10, 11] from rfl, hr]
  by_cases h : i < n
  · have hj : (n : Int) - 1 - i = ((n - 1 - i : Nat) : Int) := by omega
    obtain ⟨q1, q2, _, q4⟩ := acc_at h2 (show n - 1 - i < n by omega) h1
    have q3 := acc_off h2 (show n - 1 - i < n by omega) h1
    have e1 : cm .geq ((n : Int) - 1 - i) 0 = true := by rw [cm_geq']; exact decide_eq_true (by omega)
    rw [hj] at e1 ⊢
    generalize hix : ixX (conv .u64 a) (n - 1 - i) = z at q3 q4
    have e2 : decide (0 ≤ (z : Int)) = true := decide_eq_true (by omega)
    have e3 : decide ((z : Int) < 196608) = true := decide_eq_true (by omega)
    have e4 : Nat.blt z 196608 = true := by rw [Nat.blt_eq]; exact q4
    simp only [e1, q3, e2, e3, e4, cond_true, Int.toNat_natCast]
    have hst := topB_step (f := byG ⟨m, a, v, n, i⟩) (n := n) (fun j => h3 _) (show i < 8 by omega)
    have hst : ar .or .u64 (ar .shl .u64 (topB (byG ⟨m, a, v, n, i⟩) n i : Int) 8) (conv .u64 (m.mem z)) = (topB (byG ⟨m, a, v, n, i⟩) n (i + 1) : Int) := by rw [← hst, ← hix]; rfl
    have hsub : ar .sub .i64 ((n - 1 - i : Nat) : Int) 1 = (n : Int) - 1 - ((i + 1 : Nat) : Int) := by rw [subOneI (by omega) (by omega)]; omega
    refine ⟨rfl, ⟨m, a, v, n, i + 1⟩, [], ⟨h, h1, h2, h3⟩, by show n - (i + 1) < n - i; omega, rfl, rfl, ⟨⟨rfl, rfl, rfl⟩, ⟨rfl, rfl⟩, ⟨rfl, rfl⟩, ⟨rfl, rfl⟩, ⟨rfl, hst⟩, ⟨rfl, hsub⟩, trivial⟩, hM_same m false false false, hM_olds m false false false, rfl⟩
  · obtain rfl : i = n := by omega
    have e1 : cm .geq ((i : Int) - 1 - i) 0 = false := by rw [cm_geq']; exact decide_eq_false (by omega)
    simp only [e1, cond_false]
    refine ⟨rfl, [.ptr 0 0 0, .any, .any, .any, .int false .u64 (loadX m.mem (conv .u64 a) i), .any], _, [], rfl, rfl, ⟨⟨rfl, rfl, rfl⟩, trivial, trivial, trivial, ⟨rfl, ?_⟩, trivial, trivial⟩, hM_same m false false false, hM_olds m false false false, rfl⟩
    show (topB (byG ⟨m, a, v, i, i⟩) i i : Int) = loadX m.mem (conv .u64 a) i
    rw [topB_all]
    rfl

theorem e41_calls : CallsOk E41 Tryz.prog := fun f args H nm r h hn => ea_calls f args H nm r h hn
attribute [local irreducible] evalB Tr.view in
theorem loop41 : LoopOk E41 Tryz.prog Tryz.f70 0 (loopOf Tryz.f70 0) :=
  loop_okE mixed (fun S => rfl) (by decide) ok41 (fun x => x.n - x.i) vs41 hp75 out41 entry41 fun x hx => ⟨EA, ea_calls, loops_noLoop ea_loop _ _, round41 x hx⟩
theorem fn41 : Tryz.prog.funcs[70]? = some Tryz.f70 := by kernel_rfl
theorem b41 : Tryz.f70.body = some (bodyOf Tryz.f70) := by kernel_rfl
theorem n41 : (Tryz.f70.name == "runtime.NumGoroutine") = false := by kernel_rfl
theorem nl41 : Code.loops (bodyOf Tryz.f70) = 1 := by kernel_rfl
theorem nth41 : nthLoop (bodyOf Tryz.f70) 0 = some (loopOf Tryz.f70 0) := by kernel_rfl
theorem loops41 : LoopsOk E41 Tryz.prog Tryz.f70 (bodyOf Tryz.f70) 0 := loops1 nl41 fun a ha => by
  rw [nth41] at ha
  simp only [Option.some.injEq] at ha
  subst ha
  exact loop41

noncomputable def g41 : List SV → Heap → Option R
  | [.ptr k0 r0 c0, .int _ .i64 a, .int _ .i64 size], H => match unF false false false H, Nat.beq k0 0 && (Nat.beq r0 0 && Nat.beq c0 0) with
    | some (nn, m), true => some (loadR m (conv .u64 a) size.toNat (decide (0 ≤ size) :: decide (size ≤ 8) :: nn))
    | _, _ => none
  | _, _ => none
attribute [local irreducible] evalF in
theorem spec41 : SpecOk Tryz.prog 70 (specOf g41) := spec_okA false e41_calls mixed fn41 b41 n41 loops41 g41 fun a0 H0 r hg hn => by
  unfold g41 at hg
  split at hg
  · rename_i k0 r0 c0 _ a _ size
    split at hg
    · rename_i nn m hm hk
      simp only [Bool.and_eq_true, Nat.beq_eq] at hk
      obtain ⟨rfl, rfl, rfl⟩ := hk
      simp only [Option.some.injEq] at hg
      subst hg
      simp only [loadR, List.cons_append, allB, allB_append, Bool.and_true, Bool.and_eq_true, decide_eq_true_eq] at hn
      obtain ⟨h0, h8, hnn, hbt⟩ := hn
      refine ⟨[.ptr 0 0 0, .int false .i64 a, .int false .i64 size], fun _ => by simp [SV.alL, SV.al, lt, base], fun σ => by simp only [denL, den], ?_⟩
      rw [show namesH (loadR m (conv .u64 a) size.toNat (decide (0 ≤ size) :: decide (size ≤ 8) :: nn)).upd = [0] from rfl, unF_load hm hnn, show base = 1024 from rfl, t41]
      simp only [decide_eq_true h0, decide_eq_true h8, cond_true, Nat.beq_refl, hbt, decide_true]
      by_cases ha : accX (conv .u64 a) size.toNat = 0
      · have e1 : cm .neq (accX (conv .u64 a) size.toNat) 0 = false := by rw [ha]; rfl
        simp only [e1, cond_false, decide_eq_true ha, cond_true]
        exact load_gives (by simp [ha]) (by simp [ha]) (by simp [kindA, ha]) _
      · have e1 : cm .neq (accX (conv .u64 a) size.toNat) 0 = true := by rw [cm_neq', decide_eq_false ha]; rfl
        simp only [e1, cond_true]
        exact load_gives (by simp [ha]) (by simp [ha]) (by simp [kindA, ha]) _
    · cases hg
  · cases hg

end Go.Rv
end

section
set_option linter.unusedVariables false
open Go Go.Ev Go.Proofs
namespace Go.Rv

def storeA (mem : Nat → Int) (a v : Int) (n : Nat) : Nat → Int := bif decide (accX a n = 0) then storeX mem a v n else mem
def storeR (m : M) (a v : Int) (n : Nat) (nn : List Bool) : R :=
  ⟨nn, .bool false (decide (accX a n = 0)), [(0, .cells (cpuL { m with kind := kindA m.kind a n } 1 2 3 4)), (2, .tab 196608 [.ints .u8 (storeA m.mem a v n)] true)]⟩
theorem store_gives {m : M} {a v : Int} {n : Nat} {nn : List Bool} {l2 l3 : Bool} {b : Bool} {k : Int} {mem X : Nat → Int} (hb : b = decide (accX a n = 0)) (hk : k = kindA m.kind a n) (hm : mem = storeA m.mem a v n) (H : Heap) :
    GivesD (storeR m a v n nn) (.ret (.bool l2 b) ((0, .cells [.int false .i64 m.pc, .sl 1 16, .bool false m.zf, .bool false m.sf, .bool false m.cf, .bool false m.of_, .sl 2 196608, .sl 3 m.nI, .sl 4 m.nO, .int l3 .i64 k, .int false .i64 m.code]) :: (1, .tab 16 [.ints .i64 X] false) :: (2, .tab 196608 [.ints .u8 mem] true) :: H)) := by
  subst hb hk hm
  refine ⟨[], rfl, fun σ => by simp only [storeR, den, denL], ⟨?_, ?_, trivial⟩, rfl⟩
  · simp [rmap, rlook, Ev.look, cpuL, wkB, simL, sim]
  · simp [rmap, rlook, Ev.look, wkB, wkCs, wkC]

/-! Store -/
def ok68 (x : XM) : Prop := x.i ≤ x.n ∧ x.n ≤ 8 ∧ accX x.a x.n = 0
def vs68 (x : XM) : List SV := v68 x.a x.v (ar .sub .u64 x.a 262144) x.n x.i
def hp68 (x : XM) : Heap := hM { x.m with mem := storeX x.m.mem x.a x.v x.i } false true false
def out68 (x : XM) : Vw := .exit 0 42 [.ptr 0 0 0, .any, .any, .any, .any, .any] (hM { x.m with mem := storeX x.m.mem x.a x.v x.n } false true false)

theorem entry68 (l : List SV) (H : Heap) (T : Tr) (h : lp68.get l H = some T) (hb : T.leaf ≠ .bad) : ∃ x r, ok68 x ∧ WkV r lp68.nm l H (vs68 x) (hp68 x) ∧ T.leaf = toLf lp68 (out68 x) := by
  replace h : get68 l H = some T := h
  unfold get68 at h
  split at h
  · rename_i k0 r0 c0 _ a _ v _ at_ _ size _ i
    split at h
    · rename_i nn m hm
      simp only [Option.some.injEq] at h
      subst h
      obtain ⟨hn, he⟩ := needs_ne hb
      rw [he]
      simp only [allB_append, allB, Bool.and_eq_true, Bool.and_true, decide_eq_true_eq, Nat.beq_eq] at hn
      obtain ⟨⟨rfl, rfl, rfl, rfl, rfl, h0, h8, ha⟩, hnn⟩ := hn
      obtain ⟨n, rfl⟩ : ∃ n : Nat, size = n := ⟨size.toNat, by omega⟩
      refine ⟨⟨m, a, v, n, 0⟩, [], ⟨Nat.zero_le _, by show n ≤ 8; omega, ha⟩, ?_, ?_⟩
      · exact ⟨rfl, ⟨⟨rfl, rfl, rfl⟩, ⟨rfl, rfl⟩, ⟨rfl, rfl⟩, ⟨rfl, rfl⟩, ⟨rfl, rfl⟩, ⟨rfl, rfl⟩, trivial⟩, unM_wk hm hnn, hM_olds _ _ _ _, rfl⟩
      · simp only [exitT_leaf, out68, Int.toNat_natCast]
        rfl
    · cases h
  · cases h

attribute [local irreducible] evalB Tr.view in
theorem round68 (x : XM) (hx : ok68 x) : Round lp68 ok68 (fun x => x.n - x.i) vs68 hp68 out68 x ((evalB EA Tryz.prog Tryz.f90.results.toList (loopOf Tryz.f90 0) (0 + 1) lp68 (vs68 x) (hp68 x)).view lp68.ks) := by
  obtain ⟨m, a, v, n, i⟩ := x
  obtain ⟨h0, h1, h2⟩ := hx
  simp only at h0 h1 h2
  have hr := r68 { m with mem := storeX m.mem a v i } a v (ar .sub .u64 a 262144) n i
  rw [show evalB EA Tryz.prog Tryz.f90.results.toList (loopOf Tryz.f90 0) (0 + 1) lp68 (vs68 ⟨m, a, v, n, i⟩) (hp68 ⟨m, a, v, n, i⟩) = evalB EA Tryz.prog Tryz.f90.results.toList (loopOf Tryz.f90 0) 1 lp68 (v68 a v (ar .sub .u64 a 262144) n i) (hM { m with mem := storeX m.mem a v i } false true false) from rfl, show lp68.ks = [0, 1, 3, 10, 23, 24] from rfl, hr]
  by_cases h : i < n
  · obtain ⟨q1, q2, q3, q4⟩ := acc_at h2 h h1
    skip
    have e1 : cm .lss (i : Int) n = true := by rw [cm_lss']; exact decide_eq_true (by omega)
    have e2 : decide (0 ≤ ((ixX a i : Nat) : Int)) = true := decide_eq_true (by omega)
    have e3 : decide (((ixX a i : Nat) : Int) < 196608) = true := decide_eq_true (by omega)
    have e4 : Nat.blt (ixX a i) 196608 = true := by rw [Nat.blt_eq]; exact q4
    have e5 : decide (0 ≤ ar .mul .i64 8 (i : Int)) = true := by rw [mul8 (by omega)]; exact decide_eq_true (Int.natCast_nonneg _)
    simp only [e1, q3, e2, e3, e4, e5, cond_true, Int.toNat_natCast, addOne (show i < 9223372036854775807 by omega)]
    exact ⟨rfl, ⟨m, a, v, n, i + 1⟩, [], ⟨h, h1, h2⟩, by show n - (i + 1) < n - i; omega, rfl, rfl, ⟨⟨rfl, rfl, rfl⟩, ⟨rfl, rfl⟩, ⟨rfl, rfl⟩, ⟨rfl, rfl⟩, ⟨rfl, rfl⟩, ⟨rfl, rfl⟩, trivial⟩, hM_same { m with mem := storeX m.mem a v (i + 1) } false true false, hM_olds { m with mem := storeX m.mem a v (i + 1) } false true false, rfl⟩
  · obtain rfl : i = n := by omega
    have e1 : cm .lss (i : Int) i = false := by rw [cm_lss']; exact decide_eq_false (by omega)
    simp only [e1, cond_false]
    exact ⟨rfl, _, _, [], rfl, rfl, ⟨⟨rfl, rfl, rfl⟩, trivial, trivial, trivial, trivial, trivial, trivial⟩, hM_same { m with mem := storeX m.mem a v i } false true false, hM_olds { m with mem := storeX m.mem a v i } false true false, rfl⟩

theorem e68_calls : CallsOk E68 Tryz.prog := fun f args H nm r h hn => ea_calls f args H nm r h hn
attribute [local irreducible] evalB Tr.view in
theorem loop68 : LoopOk E68 Tryz.prog Tryz.f90 0 (loopOf Tryz.f90 0) :=
  loop_okE mixed (fun S => rfl) (by decide) ok68 (fun x => x.n - x.i) vs68 hp68 out68 entry68 fun x hx => ⟨EA, ea_calls, loops_noLoop ea_loop _ _, round68 x hx⟩
theorem fn68 : Tryz.prog.funcs[90]? = some Tryz.f90 := by kernel_rfl
theorem b68 : Tryz.f90.body = some (bodyOf Tryz.f90) := by kernel_rfl
theorem n68 : (Tryz.f90.name == "runtime.NumGoroutine") = false := by kernel_rfl
theorem nl68 : Code.loops (bodyOf Tryz.f90) = 1 := by kernel_rfl
theorem nth68 : nthLoop (bodyOf Tryz.f90) 0 = some (loopOf Tryz.f90 0) := by kernel_rfl
theorem loops68 : LoopsOk E68 Tryz.prog Tryz.f90 (bodyOf Tryz.f90) 0 := loops1 nl68 fun a ha => by
  rw [nth68] at ha
  simp only [Option.some.injEq] at ha
  subst ha
  exact loop68

def g68 : List SV → Heap → Option R
  | [.ptr k0 r0 c0, .int _ .u64 a, .int _ .i64 size, .int _ .u64 v], H => match unF false true false H, Nat.beq k0 0 && (Nat.beq r0 0 && Nat.beq c0 0) with
    | some (nn, m), true => some (storeR m a v size.toNat (decide (0 ≤ size) :: decide (size ≤ 8) :: nn))
    | _, _ => none
  | _, _ => none
attribute [local irreducible] evalF in
theorem spec68 : SpecOk Tryz.prog 90 (specOf g68) := spec_okA false e68_calls mixed fn68 b68 n68 loops68 g68 fun a0 H0 r hg hn => by
  unfold g68 at hg
  split at hg
  · rename_i k0 r0 c0 _ a _ size _ v
    split at hg
    · rename_i nn m hm hk
      simp only [Bool.and_eq_true, Nat.beq_eq] at hk
      obtain ⟨rfl, rfl, rfl⟩ := hk
      simp only [Option.some.injEq] at hg
      subst hg
      simp only [storeR, allB, Bool.and_true, Bool.and_eq_true, decide_eq_true_eq] at hn
      obtain ⟨h0, h8, hnn⟩ := hn
      refine ⟨[.ptr 0 0 0, .int false .u64 a, .int false .i64 size, .int false .u64 v], fun _ => by simp [SV.alL, SV.al, lt, base], fun σ => by simp only [denL, den], ?_⟩
      rw [show namesH (storeR m a v size.toNat (decide (0 ≤ size) :: decide (size ≤ 8) :: nn)).upd = [0, 2] from rfl, unF_store hm hnn, show base = 1024 from rfl, t68]
      simp only [decide_eq_true h0, decide_eq_true h8, cond_true, Nat.beq_refl, decide_true]
      by_cases ha : accX a size.toNat = 0
      · have e1 : cm .neq (accX a size.toNat) 0 = false := by rw [ha]; rfl
        simp only [e1, cond_false, decide_eq_true ha, cond_true]
        exact store_gives (by simp [ha]) (by simp [kindA, ha]) (by simp [storeA, ha]) _
      · have e1 : cm .neq (accX a size.toNat) 0 = true := by rw [cm_neq', decide_eq_false ha]; rfl
        simp only [e1, cond_true]
        exact store_gives (by simp [ha]) (by simp [kindA, ha]) (by simp [storeA, ha]) _
    · cases hg
  · cases hg

/-! the page's Store -/
def ok43 (x : XM) : Prop := x.i ≤ x.n ∧ x.n ≤ 8 ∧ accX (conv .u64 x.a) x.n = 0
def vs43 (x : XM) : List SV := v43 x.a x.n x.v (offX x.a x.n) x.i
def hp43 (x : XM) : Heap := hM { x.m with mem := storeX x.m.mem (conv .u64 x.a) x.v x.i } false true false
def out43 (x : XM) : Vw := .exit 0 42 [.ptr 0 0 0, .any, .any, .any, .any, .any] (hM { x.m with mem := storeX x.m.mem (conv .u64 x.a) x.v x.n } false true false)

theorem entry43 (l : List SV) (H : Heap) (T : Tr) (h : lp43.get l H = some T) (hb : T.leaf ≠ .bad) : ∃ x r, ok43 x ∧ WkV r lp43.nm l H (vs43 x) (hp43 x) ∧ T.leaf = toLf lp43 (out43 x) := by
  replace h : get43 l H = some T := h
  unfold get43 at h
  split at h
  · rename_i k0 r0 c0 _ a _ size _ v _ k _ i
    split at h
    · rename_i nn m hm
      simp only [Option.some.injEq] at h
      subst h
      obtain ⟨hn, he⟩ := needs_ne hb
      rw [he]
      simp only [allB_append, allB, Bool.and_eq_true, Bool.and_true, decide_eq_true_eq, Nat.beq_eq] at hn
      obtain ⟨⟨rfl, rfl, rfl, rfl, rfl, h0, h8, ha⟩, hnn⟩ := hn
      obtain ⟨n, rfl⟩ : ∃ n : Nat, size = n := ⟨size.toNat, by omega⟩
      refine ⟨⟨m, a, v, n, 0⟩, [], ⟨Nat.zero_le _, by show n ≤ 8; omega, ha⟩, ?_, ?_⟩
      · exact ⟨rfl, ⟨⟨rfl, rfl, rfl⟩, ⟨rfl, rfl⟩, ⟨rfl, rfl⟩, ⟨rfl, rfl⟩, ⟨rfl, rfl⟩, ⟨rfl, rfl⟩, trivial⟩, unM_wk hm hnn, hM_olds _ _ _ _, rfl⟩
      · simp only [exitT_leaf, out43, Int.toNat_natCast]
        rfl
    · cases h
  · cases h

attribute [local irreducible] evalB Tr.view in
theorem round43 (x : XM) (hx : ok43 x) : Round lp43 ok43 (fun x => x.n - x.i) vs43 hp43 out43 x ((evalB EA Tryz.prog Tryz.f69.results.toList (loopOf Tryz.f69 0) (0 + 1) lp43 (vs43 x) (hp43 x)).view lp43.ks) := by
  obtain ⟨m, a, v, n, i⟩ := x
  obtain ⟨h0, h1, h2⟩ := hx
  simp only at h0 h1 h2
  have hr := r43 { m with mem := storeX m.mem (conv .u64 a) v i } a n v (offX a n) i
  rw [show evalB EA Tryz.prog Tryz.f69.results.toList (loopOf Tryz.f69 0) (0 + 1) lp43 (vs43 ⟨m, a, v, n, i⟩) (hp43 ⟨m, a, v, n, i⟩) = evalB EA Tryz.prog Tryz.f69.results.toList (loopOf Tryz.f69 0) 1 lp43 (v43 a n v (offX a n) i) (hM { m with mem := storeX m.mem (conv .u64 a) v i } false true false) from rfl, show lp43.ks = [0, 1, 2, 3, 9, 11] from rfl, hr]
  by_cases h : i < n
  · obtain ⟨q1, q2, q3, q4⟩ := acc_at h2 h h1
    replace q3 := acc_off h2 h h1
    have e1 : cm .lss (i : Int) n = true := by rw [cm_lss']; exact decide_eq_true (by omega)
    have e2 : decide (0 ≤ ((ixX (conv .u64 a) i : Nat) : Int)) = true := decide_eq_true (by omega)
    have e3 : decide (((ixX (conv .u64 a) i : Nat) : Int) < 196608) = true := decide_eq_true (by omega)
    have e4 : Nat.blt (ixX (conv .u64 a) i) 196608 = true := by rw [Nat.blt_eq]; exact q4
    have e5 : decide (0 ≤ ar .mul .i64 8 (i : Int)) = true := by rw [mul8 (by omega)]; exact decide_eq_true (Int.natCast_nonneg _)
    simp only [e1, q3, e2, e3, e4, e5, cond_true, Int.toNat_natCast, addOne (show i < 9223372036854775807 by omega)]
    exact ⟨rfl, ⟨m, a, v, n, i + 1⟩, [], ⟨h, h1, h2⟩, by show n - (i + 1) < n - i; omega, rfl, rfl, ⟨⟨rfl, rfl, rfl⟩, ⟨rfl, rfl⟩, ⟨rfl, rfl⟩, ⟨rfl, rfl⟩, ⟨rfl, rfl⟩, ⟨rfl, rfl⟩, trivial⟩, hM_same { m with mem := storeX m.mem (conv .u64 a) v (i + 1) } false true false, hM_olds { m with mem := storeX m.mem (conv .u64 a) v (i + 1) } false true false, rfl⟩
  · obtain rfl : i = n := by omega
    have e1 : cm .lss (i : Int) i = false := by rw [cm_lss']; exact decide_eq_false (by omega)
    simp only [e1, cond_false]
    exact ⟨rfl, _, _, [], rfl, rfl, ⟨⟨rfl, rfl, rfl⟩, trivial, trivial, trivial, trivial, trivial, trivial⟩, hM_same { m with mem := storeX m.mem (conv .u64 a) v i } false true false, hM_olds { m with mem := storeX m.mem (conv .u64 a) v i } false true false, rfl⟩

theorem e43_calls : CallsOk E43 Tryz.prog := fun f args H nm r h hn => ea_calls f args H nm r h hn
attribute [local irreducible] evalB Tr.view in
theorem loop43 : LoopOk E43 Tryz.prog Tryz.f69 0 (loopOf Tryz.f69 0) :=
  loop_okE mixed (fun S => rfl) (by decide) ok43 (fun x => x.n - x.i) vs43 hp43 out43 entry43 fun x hx => ⟨EA, ea_calls, loops_noLoop ea_loop _ _, round43 x hx⟩
theorem fn43 : Tryz.prog.funcs[69]? = some Tryz.f69 := by kernel_rfl
theorem b43 : Tryz.f69.body = some (bodyOf Tryz.f69) := by kernel_rfl
theorem n43 : (Tryz.f69.name == "runtime.NumGoroutine") = false := by kernel_rfl
theorem nl43 : Code.loops (bodyOf Tryz.f69) = 1 := by kernel_rfl
theorem nth43 : nthLoop (bodyOf Tryz.f69) 0 = some (loopOf Tryz.f69 0) := by kernel_rfl
theorem loops43 : LoopsOk E43 Tryz.prog Tryz.f69 (bodyOf Tryz.f69) 0 := loops1 nl43 fun a ha => by
  rw [nth43] at ha
  simp only [Option.some.injEq] at ha
  subst ha
  exact loop43

def g43 : List SV → Heap → Option R
  | [.ptr k0 r0 c0, .int _ .i64 a, .int _ .i64 size, .int _ .u64 v], H => match unF false true false H, Nat.beq k0 0 && (Nat.beq r0 0 && Nat.beq c0 0) with
    | some (nn, m), true => some (storeR m (conv .u64 a) v size.toNat (decide (0 ≤ size) :: decide (size ≤ 8) :: nn))
    | _, _ => none
  | _, _ => none
attribute [local irreducible] evalF in
theorem spec43 : SpecOk Tryz.prog 69 (specOf g43) := spec_okA false e43_calls mixed fn43 b43 n43 loops43 g43 fun a0 H0 r hg hn => by
  unfold g43 at hg
  split at hg
  · rename_i k0 r0 c0 _ a _ size _ v
    split at hg
    · rename_i nn m hm hk
      simp only [Bool.and_eq_true, Nat.beq_eq] at hk
      obtain ⟨rfl, rfl, rfl⟩ := hk
      simp only [Option.some.injEq] at hg
      subst hg
      simp only [storeR, allB, Bool.and_true, Bool.and_eq_true, decide_eq_true_eq] at hn
      obtain ⟨h0, h8, hnn⟩ := hn
      refine ⟨[.ptr 0 0 0, .int false .i64 a, .int false .i64 size, .int false .u64 v], fun _ => by simp [SV.alL, SV.al, lt, base], fun σ => by simp only [denL, den], ?_⟩
      rw [show namesH (storeR m (conv .u64 a) v size.toNat (decide (0 ≤ size) :: decide (size ≤ 8) :: nn)).upd = [0, 2] from rfl, unF_store hm hnn, show base = 1024 from rfl, t43]
      simp only [decide_eq_true h0, decide_eq_true h8, cond_true, Nat.beq_refl, decide_true]
      by_cases ha : accX (conv .u64 a) size.toNat = 0
      · have e1 : cm .neq (accX (conv .u64 a) size.toNat) 0 = false := by rw [ha]; rfl
        simp only [e1, cond_false, decide_eq_true ha, cond_true]
        exact store_gives (by simp [ha]) (by simp [kindA, ha]) (by simp [storeA, ha]) _
      · have e1 : cm .neq (accX (conv .u64 a) size.toNat) 0 = true := by rw [cm_neq', decide_eq_false ha]; rfl
        simp only [e1, cond_true]
        exact store_gives (by simp [ha]) (by simp [kindA, ha]) (by simp [storeA, ha]) _
    · cases hg
  · cases hg

end Go.Rv
end
