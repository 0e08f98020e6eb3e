/-
  x86: loops over the bytes of a number.
-/
import Derived.Test.YtidihpmjndfbgaaC8
set_option linter.unusedSimpArgs false
set_option linter.unusedVariables false
section
set_option linter.unusedVariables false
open Go Go.Ev Go.Proofs
namespace Go.X

def accU (s : ByteArray) : Nat → Int
  | 0 => 0
  | k + 1 => ar .or .u64 (accU s k) (ar .shl .u64 (conv .u64 (chr s k)) (ar .mul .i64 8 (k : Int)))
structure X42 where
  s : ByteArray
  k : Nat
def ok42 (x : X42) : Prop := x.k ≤ x.s.size ∧ x.s.size ≤ 8
/-- the same, the highest byte first -/
def accD (s : ByteArray) : Nat → Int
  | 0 => 0
  | j + 1 => ar .or .u64 (ar .shl .u64 (accD s j) 8) (conv .u64 (chr s (s.size - 1 - j)))
def v44 (s : ByteArray) (u : Int) (k : Int) : List SV := [.str s, .int false .u64 u, .int false .i64 k]
def lk44 : Lp := ⟨30, [0, 3, 4], 2000, fun _ _ => none⟩
def get44 : List SV → Heap → Option Tr
  | [.str s, .int _ .u64 u, .int _ .i64 k], [] =>
    some (Tr.needs [decide (u = 0), decide (k = ar .sub .i64 s.size 1), Nat.ble s.size 8] (exitT lk44 0 [.str s, .int false .u64 (accD s s.size), .any] []))
  | _, _ => none
def lp44 : Lp := { lk44 with get := get44 }
theorem r44 (s : ByteArray) (u : Int) (k : Int) : (evalB E1 Try.prog Try.f56.results.toList (loopOf Try.f56 0) 1 lp44 (v44 s u k) []).view [0, 3, 4] =
    (bif (cm .geq k 0) then
      bif (decide (0 ≤ k)) then
        bif (Nat.blt (k.toNat) (s.size)) then
          .norm 30 [.str (s), .int false .u64 (ar .or .u64 (ar .shl .u64 u 8) (conv .u64 (chr s k.toNat))), .int false .i64 (ar .sub .i64 k 1)] []
        else .bad
      else .bad
    else
      .exit 0 30 [.str (s), .int false .u64 (u), .int false .i64 (k)] []) := by kernel_rfl
def vs44 (x : X42) : List SV := v44 x.s (accD x.s x.k) (x.s.size - 1 - x.k)
def out44 (x : X42) : Vw := .exit 0 30 [.str x.s, .int false .u64 (accD x.s x.s.size), .any] []
theorem subOne {i : Int} (h : -9223372036854775808 < i) (h2 : i ≤ 9223372036854775807) : ar .sub .i64 i 1 = i - 1 := by
  simp only [ar, IntKind.wrap_i64]; omega

theorem entry44 (l : List SV) (H : Heap) (T : Tr) (h : lp44.get l H = some T) (hb : T.leaf ≠ .bad) : ∃ x r, ok42 x ∧ WkV r lp44.nm l H (vs44 x) ((fun _ => []) x) ∧ T.leaf = toLf lp44 (out44 x) := by
  replace h : get44 l H = some T := h
  unfold get44 at h
  split at h
  · rename_i s _ u _ k
    simp only [Option.some.injEq] at h
    subst h
    obtain ⟨hn, he⟩ := needs_ne hb
    rw [he]
    simp only [allB, Bool.and_eq_true, Bool.and_true, decide_eq_true_eq, Nat.ble_eq] at hn
    obtain ⟨rfl, rfl, h8⟩ := hn
    rw [subOne (by omega) (by omega)]
    refine ⟨⟨s, 0⟩, [], ⟨Nat.zero_le _, h8⟩, ?_, ?_⟩
    · refine ⟨rfl, ⟨rfl, ⟨rfl, rfl⟩, ⟨rfl, ?_⟩, trivial⟩, trivial, rfl, rfl⟩
      simp
    · simp only [exitT_leaf, out44]
      rfl
  · cases h

attribute [local irreducible] evalB Tr.view in
theorem round44 (x : X42) (hx : ok42 x) : Round lp44 ok42 (fun x => x.s.size - x.k) vs44 (fun _ => []) out44 x ((evalB E1 Try.prog Try.f56.results.toList (loopOf Try.f56 0) (0 + 1) lp44 (vs44 x) []).view lp44.ks) := by
  obtain ⟨s, k⟩ := x
  obtain ⟨h0, h1⟩ := hx
  simp only at h0 h1
  have hr := r44 s (accD s k) (s.size - 1 - k)
  rw [show evalB E1 Try.prog Try.f56.results.toList (loopOf Try.f56 0) (0 + 1) lp44 (vs44 ⟨s, k⟩) [] = evalB E1 Try.prog Try.f56.results.toList (loopOf Try.f56 0) 1 lp44 (v44 s (accD s k) (s.size - 1 - k)) [] from rfl, show lp44.ks = [0, 3, 4] from rfl, hr]
  by_cases h : k < s.size
  · have e1 : cm .geq ((s.size : Int) - 1 - k) 0 = true := decide_eq_true (by omega)
    have e3 : Nat.blt ((s.size : Int) - 1 - k).toNat s.size = true := by rw [Nat.blt_eq]; omega
    have e4 : decide (0 ≤ ((s.size : Int) - 1 - k)) = true := decide_eq_true (by omega)
    have e5 : ((s.size : Int) - 1 - k).toNat = s.size - 1 - k := by omega
    simp only [e1, e3, e4, cond_true, subOne (show -9223372036854775808 < ((s.size : Int) - 1 - k) by omega) (by omega)]
    refine ⟨rfl, ⟨s, k + 1⟩, [], ⟨h, h1⟩, by show s.size - (k + 1) < s.size - k; omega, rfl, rfl, ⟨rfl, ⟨rfl, ?_⟩, ⟨rfl, ?_⟩, trivial⟩, trivial, rfl, rfl⟩
    · simp only [accD, e5]
    · simp only [Int.natCast_add]; omega
  · obtain rfl : k = s.size := by omega
    have e1 : cm .geq ((s.size : Int) - 1 - s.size) 0 = false := decide_eq_false (by omega)
    simp only [e1, cond_false]
    exact ⟨rfl, _, _, [], rfl, rfl, ⟨rfl, ⟨rfl, rfl⟩, trivial, trivial⟩, trivial, rfl, rfl⟩

noncomputable def E44 : Env := ⟨E1.call, loopEnv [(0, lp44)]⟩
theorem e44_calls : CallsOk E44 Try.prog := fun f args H nm r h hn => e1_calls f args H nm r h hn
attribute [local irreducible] evalB Tr.view in
theorem loop44 : LoopOk E44 Try.prog Try.f56 0 (loopOf Try.f56 0) :=
  loop_okE mixed (fun S => rfl) (by decide) ok42 (fun x => x.s.size - x.k) vs44 (fun _ => []) out44 entry44 fun x hx => ⟨E1, e1_calls, loops_noLoop e1_loop _ _, round44 x hx⟩
theorem fn44 : Try.prog.funcs[56]? = some Try.f56 := by kernel_rfl
theorem b44 : Try.f56.body = some (bodyOf Try.f56) := by kernel_rfl
theorem n44 : (Try.f56.name == "runtime.NumGoroutine") = false := by kernel_rfl
theorem nl44 : Code.loops (bodyOf Try.f56) = 1 := by kernel_rfl
theorem nth44 : nthLoop (bodyOf Try.f56) 0 = some (loopOf Try.f56 0) := by kernel_rfl
theorem loops44 : LoopsOk E44 Try.prog Try.f56 (bodyOf Try.f56) 0 := loops1 nl44 fun a ha => by
  rw [nth44] at ha
  simp only [Option.some.injEq] at ha
  subst ha
  exact loop44

/-- the reference's bytes of a number -/
def batR (n : Int) (t : Nat) : Int := conv .u8 (ar .shr .u64 (conv .u64 n) (ar .mul .i64 8 (t : Int)))
def v23 (n : Int) (m : Nat) (k : Nat) : List SV := [.int false .i64 n, .int false .i64 m, .sl 1500 m, .int false .i64 k]
def h23 (m : Nat) (g : Nat → Int) : Heap := [(1500, .tab m [.ints .u8 g] true)]
def lk23 : Lp := ⟨25, [0, 1, 5, 6], 2000, fun _ _ => none⟩
/-- so many of them are written -/
def some23 (n : Int) (k : Nat) : Nat → Int := fun t => bif Nat.blt t k then batR n t else 0
def get23 : List SV → Heap → Option Tr
  | [.int _ .i64 n, .int _ .i64 M, .sl kb m, .int _ .i64 k], [(kb', .tab m' [.ints .u8 g] true)] =>
    some (Tr.needs [Nat.beq kb kb', Nat.beq m m', decide (k = 0), decide (M = m), Nat.ble m 8, Nat.ble 1024 kb, (List.range 8).all fun t => decide (g t = 0)] (exitT lk23 0 [.any, .any, .sl 1500 m, .any] (h23 m (batR n))))
  | _, _ => none
def lp23 : Lp := { lk23 with get := get23 }
theorem r23 (n : Int) (m : Nat) (k : Nat) (g : Nat → Int) : (evalB E1 Try.prog Try.f52.results.toList (loopOf Try.f52 0) 1 lp23 (v23 n m k) (h23 m g)).view [0, 1, 5, 6] =
    (bif (cm .lss ↑k ↑m) then
      bif (decide (0 ≤ ar .mul .i64 8 ↑k)) then
        bif (decide (0 ≤ (k : Int))) then
          bif (decide ((k : Int) < ↑m)) then
            bif (Nat.blt ((k : Int).toNat) (m)) then
              bif (Nat.blt ((k : Int).toNat) (m)) then
                .norm 25 [.int false .i64 (n), .int false .i64 (↑m), .sl 1500 (m), .int false .i64 (ar .add .i64 (↑k) 1)] [(1500, .tab (m) [.ints .u8 (upd g (k : Int).toNat (conv .u8 (ar .shr .u64 (conv .u64 n) (ar .mul .i64 8 ↑k))))] true)]
              else .bad
            else .bad
          else .bad
        else .bad
      else .bad
    else
      .exit 0 25 [.int false .i64 (n), .int false .i64 (↑m), .sl 1500 (m), .int false .i64 (↑k)] [(1500, .tab (m) [.ints .u8 (g)] true)]) := by kernel_rfl
structure X23 where
  n : Int
  m : Nat
  k : Nat
def ok23 (x : X23) : Prop := x.k ≤ x.m ∧ x.m ≤ 8
def vs23 (x : X23) : List SV := v23 x.n x.m x.k
def hp23 (x : X23) : Heap := h23 x.m (some23 x.n x.k)
def out23 (x : X23) : Vw := .exit 0 25 [.any, .any, .sl 1500 x.m, .any] (h23 x.m (batR x.n))

theorem entry23 (l : List SV) (H : Heap) (T : Tr) (h : lp23.get l H = some T) (hb : T.leaf ≠ .bad) : ∃ x r, ok23 x ∧ WkV r lp23.nm l H (vs23 x) (hp23 x) ∧ T.leaf = toLf lp23 (out23 x) := by
  replace h : get23 l H = some T := h
  unfold get23 at h
  split at h
  · rename_i _ n _ M kb m _ k kb' m' g
    simp only [Option.some.injEq] at h
    subst h
    obtain ⟨hn, he⟩ := needs_ne hb
    rw [he]
    simp only [allB, Bool.and_eq_true, Bool.and_true, decide_eq_true_eq, Nat.ble_eq, Nat.beq_eq] at hn
    obtain ⟨rfl, rfl, rfl, rfl, h8, hkb, hg⟩ := hn
    refine ⟨⟨n, m, 0⟩, [(1500, .old kb)], ⟨Nat.zero_le _, h8⟩, ?_, ?_⟩
    · refine ⟨rfl, ⟨⟨rfl, rfl⟩, ⟨rfl, rfl⟩, ?_, ⟨rfl, rfl⟩, trivial⟩, ⟨?_, trivial⟩, rfl, rfl⟩
      · exact ⟨rfl, rfl⟩
      · simp [rmap, rlook, Ev.look, wkB, wkCs, wkC]
        intro r hr
        have := List.all_eq_true.1 hg r (List.mem_range.2 (by omega))
        simp only [decide_eq_true_eq] at this
        rw [this]
        simp [some23]
        have hb : Nat.blt r 0 = false := rfl
        rw [hb]; rfl
    · simp only [exitT_leaf, out23]
      rfl
  · cases h

theorem upd_same {α : Type} (g : Nat → α) (r : Nat) (v : α) : upd g r v r = v := by simp [upd, Nat.beq_refl]
theorem upd_other {α : Type} (g : Nat → α) {r i : Nat} (v : α) (h : i ≠ r) : upd g r v i = g i := by
  have : Nat.beq i r = false := by
    cases hb : Nat.beq i r with
    | true => exact absurd (Nat.eq_of_beq_eq_true hb) h
    | false => rfl
  simp [upd, this]
theorem some23_lt {n : Int} {k t : Nat} (h : t < k) : some23 n k t = batR n t := by
  have : Nat.blt t k = true := by rw [Nat.blt_eq]; exact h
  simp [some23, this]

attribute [local irreducible] evalB Tr.view in
theorem round23 (x : X23) (hx : ok23 x) : Round lp23 ok23 (fun x => x.m - x.k) vs23 hp23 out23 x ((evalB E1 Try.prog Try.f52.results.toList (loopOf Try.f52 0) (0 + 1) lp23 (vs23 x) (hp23 x)).view lp23.ks) := by
  obtain ⟨n, m, k⟩ := x
  obtain ⟨h0, h1⟩ := hx
  simp only at h0 h1
  have hr := r23 n m k (some23 n k)
  rw [show evalB E1 Try.prog Try.f52.results.toList (loopOf Try.f52 0) (0 + 1) lp23 (vs23 ⟨n, m, k⟩) (hp23 ⟨n, m, k⟩) = evalB E1 Try.prog Try.f52.results.toList (loopOf Try.f52 0) 1 lp23 (v23 n m k) (h23 m (some23 n k)) from rfl, show lp23.ks = [0, 1, 5, 6] from rfl, hr]
  by_cases h : k < m
  · have e1 : cm .lss (k : Int) m = true := decide_eq_true (by omega)
    have e2 : decide (0 ≤ ar .mul .i64 8 (k : Int)) = true := by rw [mul8 (by omega)]; exact decide_eq_true (Int.natCast_nonneg _)
    have e3 : Nat.blt (k : Int).toNat m = true := by rw [Nat.blt_eq]; omega
    have e4 : decide (0 ≤ (k : Int)) = true := decide_eq_true (Int.natCast_nonneg _)
    have e5 : decide ((k : Int) < m) = true := decide_eq_true (by omega)
    simp only [e1, e2, e3, e4, e5, cond_true, addOne (show k < 9223372036854775807 by omega)]
    refine ⟨rfl, ⟨n, m, k + 1⟩, [], ⟨h, h1⟩, by show m - (k + 1) < m - k; omega, rfl, rfl, ⟨⟨rfl, rfl⟩, ⟨rfl, rfl⟩, ⟨rfl, rfl⟩, ⟨rfl, rfl⟩, trivial⟩, ⟨?_, trivial⟩, rfl, rfl⟩
    simp [rmap, rlook, Ev.look, wkB, wkCs, wkC]
    intro r hr
    by_cases hk : r = k
    · subst hk
      rw [upd_same, some23_lt (by omega)]
      rfl
    · rw [upd_other _ _ hk]
      simp only [some23]
      have : Nat.blt r (k + 1) = Nat.blt r k := by
        rw [Bool.eq_iff_iff, Nat.blt_eq, Nat.blt_eq]; omega
      rw [this]
  · obtain rfl : k = m := by omega
    have e1 : cm .lss (k : Int) k = false := decide_eq_false (by omega)
    simp only [e1, cond_false]
    refine ⟨rfl, _, _, [], rfl, rfl, ⟨trivial, trivial, ⟨rfl, rfl⟩, trivial, trivial⟩, ⟨?_, trivial⟩, rfl, rfl⟩
    simp [rmap, rlook, Ev.look, wkB, wkCs, wkC]
    intro r hr
    rw [some23_lt hr]

noncomputable def E23 : Env := ⟨E1.call, loopEnv [(0, lp23)]⟩
theorem e23_calls : CallsOk E23 Try.prog := fun f args H nm r h hn => e1_calls f args H nm r h hn
attribute [local irreducible] evalB Tr.view in
theorem loop23 : LoopOk E23 Try.prog Try.f52 0 (loopOf Try.f52 0) :=
  loop_okE mixed (fun S => rfl) (by decide) ok23 (fun x => x.m - x.k) vs23 hp23 out23 entry23 fun x hx => ⟨E1, e1_calls, loops_noLoop e1_loop _ _, round23 x hx⟩
theorem fn23 : Try.prog.funcs[52]? = some Try.f52 := by kernel_rfl
theorem b23 : Try.f52.body = some (bodyOf Try.f52) := by kernel_rfl
theorem n23 : (Try.f52.name == "runtime.NumGoroutine") = false := by kernel_rfl
theorem nl23 : Code.loops (bodyOf Try.f52) = 1 := by kernel_rfl
theorem nth23 : nthLoop (bodyOf Try.f52) 0 = some (loopOf Try.f52 0) := by kernel_rfl
theorem loops23 : LoopsOk E23 Try.prog Try.f52 (bodyOf Try.f52) 0 := loops1 nl23 fun a ha => by
  rw [nth23] at ha
  simp only [Option.some.injEq] at ha
  subst ha
  exact loop23

end Go.X
end

section
set_option linter.unusedVariables false
open Go Go.Ev Go.Proofs
namespace Go.X

def endN (u : Int) (k : Nat) : Int := ar .shr .i64 (conv .i64 (ar .shl .u64 u (ar .sub .i64 64 (ar .mul .i64 8 (k : Int))))) (ar .sub .i64 64 (ar .mul .i64 8 (k : Int)))
def numU (s : ByteArray) : Int := endN (accU s s.size) s.size
def numD (s : ByteArray) : Int := endN (accD s s.size) s.size

theorem t44 (s : ByteArray) : (evalF E44 Try.prog 56 [.str s] [] 1024).bare =
    (bif (decide (ar .sub .i64 (↑s.size) 1 = ar .sub .i64 (↑s.size) 1)) then
      bif (Nat.ble (s.size) (8)) then
        bif (decide (0 ≤ ar .sub .i64 64 (ar .mul .i64 8 ↑s.size))) then
          bif (decide (0 ≤ ar .sub .i64 64 (ar .mul .i64 8 ↑s.size))) then
            .ret (.int false .i64 (numD s)) []
          else .bad
        else .bad
      else .bad
    else .bad) := by kernel_rfl
theorem t23 (n : Int) (m : Nat) : (evalF E23 Try.prog 52 [.int false .i64 n, .int false .i64 m] [] 1024).bare =
    (bif (decide (0 ≤ (m : Int))) then
      bif (decide ((m : Int) ≤ m)) then
        bif (Nat.ble (m * 1) (140737488355328)) then
          bif (Nat.ble (m) (140737488355328)) then
            bif (Nat.beq (m) (m)) then
              bif (decide ((m : Int) = ↑m)) then
                bif (Nat.ble (m) (8)) then
                  bif (Nat.ble (m) (m)) then
                    .ret (.str (strOf (batR n) m)) []
                  else .bad
                else .bad
              else .bad
            else .bad
          else .bad
        else .bad
      else .bad
    else .bad) := by kernel_rfl
theorem t24 (w : Int) (m : Int) (l : Int) : (evalF E1 Try.prog 53 [.int false .i64 w, .int false .i64 m, .int false .i64 l] [] 1024).bare =
    (bif (cm .eql w 8) then
      bif (cm .geq m 8) then
        bif (cm .geq l 8) then
          .ret (.str (strOf (nth [conv .u8 (ar .add .i64 (ar .add .i64 (ar .add .i64 64 8) 4) 1)] 0) 1)) []
        else
          .ret (.str (strOf (nth [conv .u8 (ar .add .i64 (ar .add .i64 64 8) 4)] 0) 1)) []
      else
        bif (cm .geq l 8) then
          .ret (.str (strOf (nth [conv .u8 (ar .add .i64 (ar .add .i64 64 8) 1)] 0) 1)) []
        else
          .ret (.str (strOf (nth [conv .u8 (ar .add .i64 64 8)] 0) 1)) []
    else
      bif (cm .geq m 8) then
        bif (cm .geq l 8) then
          .ret (.str (strOf (nth [conv .u8 (ar .add .i64 (ar .add .i64 64 4) 1)] 0) 1)) []
        else
          .ret (.str (strOf (nth [conv .u8 (ar .add .i64 64 4)] 0) 1)) []
      else
        bif (cm .geq l 8) then
          .ret (.str (strOf (nth [conv .u8 (ar .add .i64 64 1)] 0) 1)) []
        else
          .ret (.str (strOf (nth [conv .u8 64] 0) 1)) []) := by kernel_rfl

def g44 : List SV → Heap → Option R
  | [.str s], [] => some ⟨[Nat.ble s.size 8], .int false .i64 (numD s), []⟩
  | _, _ => none
def g23 : List SV → Heap → Option R
  | [.int false .i64 n, .int false .i64 m], [] => some ⟨[decide (0 ≤ m), decide (m ≤ 8)], .str (strOf (batR n) m.toNat), []⟩
  | _, _ => none
def g24 : List SV → Heap → Option R
  | [.int false .i64 w, .int false .i64 m, .int false .i64 l], [] => some ⟨[], .str (strOf (nth [rexI w m l] 0) 1), []⟩
  | _, _ => none

theorem fn24 : Try.prog.funcs[53]? = some Try.f53 := by kernel_rfl
theorem b24 : Try.f53.body = some (bodyOf Try.f53) := by kernel_rfl
theorem n24 : (Try.f53.name == "runtime.NumGoroutine") = false := by kernel_rfl

theorem gives_int {l : Bool} {k : IntKind} {n : Int} {H : Heap} : (Lf.ret (.int l k n) H).gives (.int false k n) := fun σ σ' => rfl
theorem gives_str {s : ByteArray} {H : Heap} : (Lf.ret (.str s) H).gives (.str s) := fun σ σ' => rfl

theorem low8 {k : Nat} (h : k ≤ 8) : decide (0 ≤ ar .sub .i64 64 (ar .mul .i64 8 (k : Int))) = true := by
  rw [mul8 (by omega)]
  simp only [ar, IntKind.wrap_i64]
  exact decide_eq_true (by omega)

attribute [local irreducible] evalF Lf.gives numD in
theorem spec44 : SpecOk Try.prog 56 (specOf g44) := spec_okA false e44_calls mixed fn44 b44 n44 loops44 g44 fun a0 H0 r hg hn => by
  unfold g44 at hg
  split at hg
  · rename_i s
    simp only [Option.some.injEq] at hg
    subst hg
    simp only [allB, Bool.and_true, Nat.ble_eq] at hn
    refine ⟨_, id, fun _ => rfl, gives_giv (gives_tree (t44 s) ?_)⟩
    have e1 : decide (ar .sub .i64 (s.size : Int) 1 = ar .sub .i64 s.size 1) = true := decide_eq_true rfl
    have e2 : Nat.ble s.size 8 = true := by rw [Nat.ble_eq]; exact hn
    simp only [decide_true, e2, low8 hn, cond_true]
    exact gives_int
  · cases hg

attribute [local irreducible] evalF Lf.gives in
theorem spec23 : SpecOk Try.prog 52 (specOf g23) := spec_okA false e23_calls mixed fn23 b23 n23 loops23 g23 fun a0 H0 r hg hn => by
  unfold g23 at hg
  split at hg
  · rename_i n m
    simp only [Option.some.injEq] at hg
    subst hg
    simp only [allB, Bool.and_true, Bool.and_eq_true, decide_eq_true_eq] at hn
    obtain ⟨h0, h1⟩ := hn
    obtain ⟨k, rfl⟩ : ∃ k : Nat, m = k := ⟨m.toNat, by omega⟩
    refine ⟨_, id, fun _ => rfl, gives_giv (gives_tree (t23 n k) ?_)⟩
    have e1 : decide (0 ≤ (k : Int)) = true := decide_eq_true h0
    have e2 : decide ((k : Int) ≤ k) = true := decide_eq_true (by omega)
    have e3 : Nat.ble (k * 1) 140737488355328 = true := by
      have : 1 = 1 := by kernel_rfl
      rw [this, Nat.ble_eq]; omega
    have e4 : Nat.ble k 140737488355328 = true := by rw [Nat.ble_eq]; omega
    have e5 : Nat.beq k k = true := Nat.beq_refl k
    have e6 : decide ((k : Int) = k) = true := decide_eq_true rfl
    have e7 : Nat.ble k 8 = true := by rw [Nat.ble_eq]; omega
    have e8 : Nat.ble k k = true := by rw [Nat.ble_eq]; omega
    simp only [decide_true, e1, e2, e3, e4, e5, e7, e8, cond_true, Int.toNat_natCast]
    exact gives_str
  · cases hg

attribute [local irreducible] evalF in
theorem spec24 : SpecOk Try.prog 53 (specOf g24) := spec_okA false e1_calls mixed fn24 b24 n24 (loops_noLoop e1_loop _ _) g24 fun a0 H0 r hg hn => by
  unfold g24 at hg
  split at hg
  · rename_i w m l
    simp only [Option.some.injEq] at hg
    subst hg
    refine ⟨_, id, fun _ => rfl, gives_giv (gives_tree (t24 w m l) ?_)⟩
    simp only [rexI]
    cases cm .eql w 8 <;> cases cm .geq m 8 <;> cases cm .geq l 8 <;> exact fun σ σ' => rfl
  · cases hg

/-- the environment of the reference's Encode -/
def ps8 : List Nat := [18, 38, 51, 17, 25, 54, 55]
theorem named8 : named Try.prog ps8 = true := by kernel_rfl
noncomputable def E8 : Env := inlA Try.prog (envOf [(52, specOf g23), (53, specOf g24)] noLoop) ps8 [] 3
theorem namedNil : named Try.prog [] = true := rfl
theorem e8_calls : CallsOk E8 Try.prog := (inlA_calls ((SpecsOk.cons spec23 (SpecsOk.cons spec24 SpecsOk.nil)).calls noLoop) mixed named8 namedNil 3).1
theorem e8_loop : E8.loop = noLoop := rfl

end Go.X
end

section
set_option linter.unusedVariables false
open Go Go.Ev Go.Proofs
namespace Go.X

def kindR : List Int := [114, 110, 98, 114, 114, 114, 114, 114, 114, 113, 110, 110, 110, 110, 110, 110, 110, 120, 110, 115, 113, 113, 113, 113, 113, 109, 109, 109, 109, 109, 109, 109, 109, 109, 109, 109, 109, 98, 98, 112, 112, 112, 112, 99, 99, 112]
def bytesR : List ByteArray := [⟨#[137]⟩, ⟨#[199]⟩, ⟨#[184]⟩, ⟨#[1]⟩, ⟨#[41]⟩, ⟨#[33]⟩, ⟨#[9]⟩, ⟨#[49]⟩, ⟨#[57]⟩, ⟨#[15, 175]⟩, ⟨#[247]⟩, ⟨#[247]⟩, ⟨#[247]⟩, ⟨#[247]⟩, ⟨#[211]⟩, ⟨#[211]⟩, ⟨#[211]⟩, ⟨#[]⟩, ⟨#[129]⟩, ⟨#[]⟩, ⟨#[15, 182]⟩, ⟨#[15, 183]⟩, ⟨#[15, 190]⟩, ⟨#[15, 191]⟩, ⟨#[99]⟩, ⟨#[139]⟩, ⟨#[139]⟩, ⟨#[99]⟩, ⟨#[15, 191]⟩, ⟨#[15, 190]⟩, ⟨#[15, 183]⟩, ⟨#[15, 182]⟩, ⟨#[137]⟩, ⟨#[137]⟩, ⟨#[137]⟩, ⟨#[136]⟩, ⟨#[141]⟩, ⟨#[80]⟩, ⟨#[88]⟩, ⟨#[232]⟩, ⟨#[195]⟩, ⟨#[233]⟩, ⟨#[235]⟩, ⟨#[15, 128]⟩, ⟨#[112]⟩, ⟨#[15, 5]⟩]
def midR : List Int := [0, 0, 0, 0, 0, 0, 0, 0, 0, 0, 3, 2, 7, 6, 4, 5, 7, 0, 0, 0, 0, 0, 0, 0, 0, 0, 0, 0, 0, 0, 0, 0, 0, 0, 0, 0, 0, 0, 0, 0, 0, 0, 0, 0, 0, 0]
def wR : List Int := [0, 8, 8, 0, 0, 0, 0, 0, 0, 0, 0, 0, 0, 0, 0, 0, 0, 0, 8, 4, 8, 8, 8, 8, 8, 8, 4, 8, 8, 8, 8, 8, 8, 4, 4, 4, 8, 4, 4, 4, 4, 4, 4, 4, 4, 4]
def immR : List Int := [0, 4, 8, 0, 0, 0, 0, 0, 0, 0, 0, 0, 0, 0, 0, 0, 0, 0, 4, 0, 0, 0, 0, 0, 0, 4, 4, 4, 4, 4, 4, 4, 4, 4, 4, 4, 4, 0, 0, 4, 0, 4, 1, 4, 1, 0]
def preR : List Bool := [false, false, false, false, false, false, false, false, false, false, false, false, false, false, false, false, false, false, false, false, false, false, false, false, false, false, false, false, false, false, false, false, false, false, true, false, false, false, false, false, false, false, false, false, false, false]

def formR (op : Int) : SV := .agg [.int false .u8 (nth kindR 0 (op - 1).toNat), .str (nth bytesR .empty (op - 1).toNat), .int false .i64 (nth midR 0 (op - 1).toNat), .int false .i64 (nth wR 0 (op - 1).toNat), .int false .i64 (nth immR 0 (op - 1).toNat), .bool false (nth preR false (op - 1).toNat)]
def g19 : List SV → Heap → Option R
  | [.int false .i64 op], [] => some ⟨[decide (1 ≤ op), decide (op ≤ 46)], formR op, []⟩
  | _, _ => none
noncomputable def E19 : Env := inlA Try.prog (envOf [] noLoop) [55] [] 2
theorem named40 : named Try.prog [55] = true := by kernel_rfl
theorem e19_calls : CallsOk E19 Try.prog := (inlA_calls (SpecsOk.nil.calls noLoop) mixed named40 namedNil 2).1
theorem e19_loop : E19.loop = noLoop := rfl
theorem fn19 : Try.prog.funcs[38]? = some Try.f38 := by kernel_rfl
theorem b19 : Try.f38.body = some (bodyOf Try.f38) := by kernel_rfl
theorem n19 : (Try.f38.name == "runtime.NumGoroutine") = false := by kernel_rfl

theorem t19_1 : (evalF E19 Try.prog 38 [.int true .i64 1] [] 1024).bare = .ret (.agg [.int true .u8 114, .str ⟨#[137]⟩, .int true .i64 0, .int true .i64 0, .int true .i64 0, .bool true false]) [] := by kernel_rfl
theorem t19_2 : (evalF E19 Try.prog 38 [.int true .i64 2] [] 1024).bare = .ret (.agg [.int true .u8 110, .str ⟨#[199]⟩, .int true .i64 0, .int true .i64 8, .int true .i64 4, .bool true false]) [] := by kernel_rfl
theorem t19_3 : (evalF E19 Try.prog 38 [.int true .i64 3] [] 1024).bare = .ret (.agg [.int true .u8 98, .str ⟨#[184]⟩, .int true .i64 0, .int true .i64 8, .int true .i64 8, .bool true false]) [] := by kernel_rfl
theorem t19_4 : (evalF E19 Try.prog 38 [.int true .i64 4] [] 1024).bare = .ret (.agg [.int true .u8 114, .str ⟨#[1]⟩, .int true .i64 0, .int true .i64 0, .int true .i64 0, .bool true false]) [] := by kernel_rfl
theorem t19_5 : (evalF E19 Try.prog 38 [.int true .i64 5] [] 1024).bare = .ret (.agg [.int true .u8 114, .str ⟨#[41]⟩, .int true .i64 0, .int true .i64 0, .int true .i64 0, .bool true false]) [] := by kernel_rfl
theorem t19_6 : (evalF E19 Try.prog 38 [.int true .i64 6] [] 1024).bare = .ret (.agg [.int true .u8 114, .str ⟨#[33]⟩, .int true .i64 0, .int true .i64 0, .int true .i64 0, .bool true false]) [] := by kernel_rfl
theorem t19_7 : (evalF E19 Try.prog 38 [.int true .i64 7] [] 1024).bare = .ret (.agg [.int true .u8 114, .str ⟨#[9]⟩, .int true .i64 0, .int true .i64 0, .int true .i64 0, .bool true false]) [] := by kernel_rfl
theorem t19_8 : (evalF E19 Try.prog 38 [.int true .i64 8] [] 1024).bare = .ret (.agg [.int true .u8 114, .str ⟨#[49]⟩, .int true .i64 0, .int true .i64 0, .int true .i64 0, .bool true false]) [] := by kernel_rfl
theorem t19_9 : (evalF E19 Try.prog 38 [.int true .i64 9] [] 1024).bare = .ret (.agg [.int true .u8 114, .str ⟨#[57]⟩, .int true .i64 0, .int true .i64 0, .int true .i64 0, .bool true false]) [] := by kernel_rfl
theorem t19_10 : (evalF E19 Try.prog 38 [.int true .i64 10] [] 1024).bare = .ret (.agg [.int true .u8 113, .str ⟨#[15, 175]⟩, .int true .i64 0, .int true .i64 0, .int true .i64 0, .bool true false]) [] := by kernel_rfl
theorem t19_11 : (evalF E19 Try.prog 38 [.int true .i64 11] [] 1024).bare = .ret (.agg [.int true .u8 110, .str ⟨#[247]⟩, .int true .i64 3, .int true .i64 0, .int true .i64 0, .bool true false]) [] := by kernel_rfl
theorem t19_12 : (evalF E19 Try.prog 38 [.int true .i64 12] [] 1024).bare = .ret (.agg [.int true .u8 110, .str ⟨#[247]⟩, .int true .i64 2, .int true .i64 0, .int true .i64 0, .bool true false]) [] := by kernel_rfl
theorem t19_13 : (evalF E19 Try.prog 38 [.int true .i64 13] [] 1024).bare = .ret (.agg [.int true .u8 110, .str ⟨#[247]⟩, .int true .i64 7, .int true .i64 0, .int true .i64 0, .bool true false]) [] := by kernel_rfl
theorem t19_14 : (evalF E19 Try.prog 38 [.int true .i64 14] [] 1024).bare = .ret (.agg [.int true .u8 110, .str ⟨#[247]⟩, .int true .i64 6, .int true .i64 0, .int true .i64 0, .bool true false]) [] := by kernel_rfl
theorem t19_15 : (evalF E19 Try.prog 38 [.int true .i64 15] [] 1024).bare = .ret (.agg [.int true .u8 110, .str ⟨#[211]⟩, .int true .i64 4, .int true .i64 0, .int true .i64 0, .bool true false]) [] := by kernel_rfl
theorem t19_16 : (evalF E19 Try.prog 38 [.int true .i64 16] [] 1024).bare = .ret (.agg [.int true .u8 110, .str ⟨#[211]⟩, .int true .i64 5, .int true .i64 0, .int true .i64 0, .bool true false]) [] := by kernel_rfl
theorem t19_17 : (evalF E19 Try.prog 38 [.int true .i64 17] [] 1024).bare = .ret (.agg [.int true .u8 110, .str ⟨#[211]⟩, .int true .i64 7, .int true .i64 0, .int true .i64 0, .bool true false]) [] := by kernel_rfl
theorem t19_18 : (evalF E19 Try.prog 38 [.int true .i64 18] [] 1024).bare = .ret (.agg [.int true .u8 120, .str ⟨#[]⟩, .int true .i64 0, .int true .i64 0, .int true .i64 0, .bool true false]) [] := by kernel_rfl
theorem t19_19 : (evalF E19 Try.prog 38 [.int true .i64 19] [] 1024).bare = .ret (.agg [.int true .u8 110, .str ⟨#[129]⟩, .int true .i64 0, .int true .i64 8, .int true .i64 4, .bool true false]) [] := by kernel_rfl
theorem t19_20 : (evalF E19 Try.prog 38 [.int true .i64 20] [] 1024).bare = .ret (.agg [.int true .u8 115, .str ⟨#[]⟩, .int true .i64 0, .int true .i64 4, .int true .i64 0, .bool true false]) [] := by kernel_rfl
theorem t19_21 : (evalF E19 Try.prog 38 [.int true .i64 21] [] 1024).bare = .ret (.agg [.int true .u8 113, .str ⟨#[15, 182]⟩, .int true .i64 0, .int true .i64 8, .int true .i64 0, .bool true false]) [] := by kernel_rfl
theorem t19_22 : (evalF E19 Try.prog 38 [.int true .i64 22] [] 1024).bare = .ret (.agg [.int true .u8 113, .str ⟨#[15, 183]⟩, .int true .i64 0, .int true .i64 8, .int true .i64 0, .bool true false]) [] := by kernel_rfl
theorem t19_23 : (evalF E19 Try.prog 38 [.int true .i64 23] [] 1024).bare = .ret (.agg [.int true .u8 113, .str ⟨#[15, 190]⟩, .int true .i64 0, .int true .i64 8, .int true .i64 0, .bool true false]) [] := by kernel_rfl
theorem t19_24 : (evalF E19 Try.prog 38 [.int true .i64 24] [] 1024).bare = .ret (.agg [.int true .u8 113, .str ⟨#[15, 191]⟩, .int true .i64 0, .int true .i64 8, .int true .i64 0, .bool true false]) [] := by kernel_rfl
theorem t19_25 : (evalF E19 Try.prog 38 [.int true .i64 25] [] 1024).bare = .ret (.agg [.int true .u8 113, .str ⟨#[99]⟩, .int true .i64 0, .int true .i64 8, .int true .i64 0, .bool true false]) [] := by kernel_rfl
theorem t19_26 : (evalF E19 Try.prog 38 [.int true .i64 26] [] 1024).bare = .ret (.agg [.int true .u8 109, .str ⟨#[139]⟩, .int true .i64 0, .int true .i64 8, .int true .i64 4, .bool true false]) [] := by kernel_rfl
theorem t19_27 : (evalF E19 Try.prog 38 [.int true .i64 27] [] 1024).bare = .ret (.agg [.int true .u8 109, .str ⟨#[139]⟩, .int true .i64 0, .int true .i64 4, .int true .i64 4, .bool true false]) [] := by kernel_rfl
theorem t19_28 : (evalF E19 Try.prog 38 [.int true .i64 28] [] 1024).bare = .ret (.agg [.int true .u8 109, .str ⟨#[99]⟩, .int true .i64 0, .int true .i64 8, .int true .i64 4, .bool true false]) [] := by kernel_rfl
theorem t19_29 : (evalF E19 Try.prog 38 [.int true .i64 29] [] 1024).bare = .ret (.agg [.int true .u8 109, .str ⟨#[15, 191]⟩, .int true .i64 0, .int true .i64 8, .int true .i64 4, .bool true false]) [] := by kernel_rfl
theorem t19_30 : (evalF E19 Try.prog 38 [.int true .i64 30] [] 1024).bare = .ret (.agg [.int true .u8 109, .str ⟨#[15, 190]⟩, .int true .i64 0, .int true .i64 8, .int true .i64 4, .bool true false]) [] := by kernel_rfl
theorem t19_31 : (evalF E19 Try.prog 38 [.int true .i64 31] [] 1024).bare = .ret (.agg [.int true .u8 109, .str ⟨#[15, 183]⟩, .int true .i64 0, .int true .i64 8, .int true .i64 4, .bool true false]) [] := by kernel_rfl
theorem t19_32 : (evalF E19 Try.prog 38 [.int true .i64 32] [] 1024).bare = .ret (.agg [.int true .u8 109, .str ⟨#[15, 182]⟩, .int true .i64 0, .int true .i64 8, .int true .i64 4, .bool true false]) [] := by kernel_rfl
theorem t19_33 : (evalF E19 Try.prog 38 [.int true .i64 33] [] 1024).bare = .ret (.agg [.int true .u8 109, .str ⟨#[137]⟩, .int true .i64 0, .int true .i64 8, .int true .i64 4, .bool true false]) [] := by kernel_rfl
theorem t19_34 : (evalF E19 Try.prog 38 [.int true .i64 34] [] 1024).bare = .ret (.agg [.int true .u8 109, .str ⟨#[137]⟩, .int true .i64 0, .int true .i64 4, .int true .i64 4, .bool true false]) [] := by kernel_rfl
theorem t19_35 : (evalF E19 Try.prog 38 [.int true .i64 35] [] 1024).bare = .ret (.agg [.int true .u8 109, .str ⟨#[137]⟩, .int true .i64 0, .int true .i64 4, .int true .i64 4, .bool true true]) [] := by kernel_rfl
theorem t19_36 : (evalF E19 Try.prog 38 [.int true .i64 36] [] 1024).bare = .ret (.agg [.int true .u8 109, .str ⟨#[136]⟩, .int true .i64 0, .int true .i64 4, .int true .i64 4, .bool true false]) [] := by kernel_rfl
theorem t19_37 : (evalF E19 Try.prog 38 [.int true .i64 37] [] 1024).bare = .ret (.agg [.int true .u8 109, .str ⟨#[141]⟩, .int true .i64 0, .int true .i64 8, .int true .i64 4, .bool true false]) [] := by kernel_rfl
theorem t19_38 : (evalF E19 Try.prog 38 [.int true .i64 38] [] 1024).bare = .ret (.agg [.int true .u8 98, .str ⟨#[80]⟩, .int true .i64 0, .int true .i64 4, .int true .i64 0, .bool true false]) [] := by kernel_rfl
theorem t19_39 : (evalF E19 Try.prog 38 [.int true .i64 39] [] 1024).bare = .ret (.agg [.int true .u8 98, .str ⟨#[88]⟩, .int true .i64 0, .int true .i64 4, .int true .i64 0, .bool true false]) [] := by kernel_rfl
theorem t19_40 : (evalF E19 Try.prog 38 [.int true .i64 40] [] 1024).bare = .ret (.agg [.int true .u8 112, .str ⟨#[232]⟩, .int true .i64 0, .int true .i64 4, .int true .i64 4, .bool true false]) [] := by kernel_rfl
theorem t19_41 : (evalF E19 Try.prog 38 [.int true .i64 41] [] 1024).bare = .ret (.agg [.int true .u8 112, .str ⟨#[195]⟩, .int true .i64 0, .int true .i64 4, .int true .i64 0, .bool true false]) [] := by kernel_rfl
theorem t19_42 : (evalF E19 Try.prog 38 [.int true .i64 42] [] 1024).bare = .ret (.agg [.int true .u8 112, .str ⟨#[233]⟩, .int true .i64 0, .int true .i64 4, .int true .i64 4, .bool true false]) [] := by kernel_rfl
theorem t19_43 : (evalF E19 Try.prog 38 [.int true .i64 43] [] 1024).bare = .ret (.agg [.int true .u8 112, .str ⟨#[235]⟩, .int true .i64 0, .int true .i64 4, .int true .i64 1, .bool true false]) [] := by kernel_rfl
theorem t19_44 : (evalF E19 Try.prog 38 [.int true .i64 44] [] 1024).bare = .ret (.agg [.int true .u8 99, .str ⟨#[15, 128]⟩, .int true .i64 0, .int true .i64 4, .int true .i64 4, .bool true false]) [] := by kernel_rfl
theorem t19_45 : (evalF E19 Try.prog 38 [.int true .i64 45] [] 1024).bare = .ret (.agg [.int true .u8 99, .str ⟨#[112]⟩, .int true .i64 0, .int true .i64 4, .int true .i64 1, .bool true false]) [] := by kernel_rfl
theorem t19_46 : (evalF E19 Try.prog 38 [.int true .i64 46] [] 1024).bare = .ret (.agg [.int true .u8 112, .str ⟨#[15, 5]⟩, .int true .i64 0, .int true .i64 4, .int true .i64 0, .bool true false]) [] := by kernel_rfl

theorem gives_form {op : Int} {a1 a3 a4 a5 : Int} {a2 : ByteArray} {a6 : Bool} {l1 l3 l4 l5 l6 : Bool} (h : (nth kindR 0 (op - 1).toNat = a1 ∧ nth midR 0 (op - 1).toNat = a3 ∧ nth wR 0 (op - 1).toNat = a4 ∧ nth immR 0 (op - 1).toNat = a5 ∧ nth preR false (op - 1).toNat = a6)) (h2 : nth bytesR .empty (op - 1).toNat = a2) :
    (Lf.ret (.agg [.int l1 .u8 a1, .str a2, .int l3 .i64 a3, .int l4 .i64 a4, .int l5 .i64 a5, .bool l6 a6]) []).gives (formR op) := by
  obtain ⟨rfl, rfl, rfl, rfl, rfl⟩ := h
  subst h2
  intro σ σ'
  simp only [formR, den, denL]

def form19P (k : Int) : Prop := (evalF E19 Try.prog 38 [.int true .i64 k] [] 1024).leaf.gives (formR k)
attribute [local irreducible] evalF Lf.gives in
theorem form19 (k : Int) (h1 : 1 ≤ k) (h2 : k ≤ 46) : form19P k := by
  have : k = 1 ∨ k = 2 ∨ k = 3 ∨ k = 4 ∨ k = 5 ∨ k = 6 ∨ k = 7 ∨ k = 8 ∨ k = 9 ∨ k = 10 ∨ k = 11 ∨ k = 12 ∨ k = 13 ∨ k = 14 ∨ k = 15 ∨ k = 16 ∨ k = 17 ∨ k = 18 ∨ k = 19 ∨ k = 20 ∨ k = 21 ∨ k = 22 ∨ k = 23 ∨ k = 24 ∨ k = 25 ∨ k = 26 ∨ k = 27 ∨ k = 28 ∨ k = 29 ∨ k = 30 ∨ k = 31 ∨ k = 32 ∨ k = 33 ∨ k = 34 ∨ k = 35 ∨ k = 36 ∨ k = 37 ∨ k = 38 ∨ k = 39 ∨ k = 40 ∨ k = 41 ∨ k = 42 ∨ k = 43 ∨ k = 44 ∨ k = 45 ∨ k = 46 := by omega
  rcases this with rfl | rfl | rfl | rfl | rfl | rfl | rfl | rfl | rfl | rfl | rfl | rfl | rfl | rfl | rfl | rfl | rfl | rfl | rfl | rfl | rfl | rfl | rfl | rfl | rfl | rfl | rfl | rfl | rfl | rfl | rfl | rfl | rfl | rfl | rfl | rfl | rfl | rfl | rfl | rfl | rfl | rfl | rfl | rfl | rfl | rfl
  · exact gives_tree t19_1 (gives_form (by decide) (by rfl))
  · exact gives_tree t19_2 (gives_form (by decide) (by rfl))
  · exact gives_tree t19_3 (gives_form (by decide) (by rfl))
  · exact gives_tree t19_4 (gives_form (by decide) (by rfl))
  · exact gives_tree t19_5 (gives_form (by decide) (by rfl))
  · exact gives_tree t19_6 (gives_form (by decide) (by rfl))
  · exact gives_tree t19_7 (gives_form (by decide) (by rfl))
  · exact gives_tree t19_8 (gives_form (by decide) (by rfl))
  · exact gives_tree t19_9 (gives_form (by decide) (by rfl))
  · exact gives_tree t19_10 (gives_form (by decide) (by rfl))
  · exact gives_tree t19_11 (gives_form (by decide) (by rfl))
  · exact gives_tree t19_12 (gives_form (by decide) (by rfl))
  · exact gives_tree t19_13 (gives_form (by decide) (by rfl))
  · exact gives_tree t19_14 (gives_form (by decide) (by rfl))
  · exact gives_tree t19_15 (gives_form (by decide) (by rfl))
  · exact gives_tree t19_16 (gives_form (by decide) (by rfl))
  · exact gives_tree t19_17 (gives_form (by decide) (by rfl))
  · exact gives_tree t19_18 (gives_form (by decide) (by rfl))
  · exact gives_tree t19_19 (gives_form (by decide) (by rfl))
  · exact gives_tree t19_20 (gives_form (by decide) (by rfl))
  · exact gives_tree t19_21 (gives_form (by decide) (by rfl))
  · exact gives_tree t19_22 (gives_form (by decide) (by rfl))
  · exact gives_tree t19_23 (gives_form (by decide) (by rfl))
  · exact gives_tree t19_24 (gives_form (by decide) (by rfl))
  · exact gives_tree t19_25 (gives_form (by decide) (by rfl))
  · exact gives_tree t19_26 (gives_form (by decide) (by rfl))
  · exact gives_tree t19_27 (gives_form (by decide) (by rfl))
  · exact gives_tree t19_28 (gives_form (by decide) (by rfl))
  · exact gives_tree t19_29 (gives_form (by decide) (by rfl))
  · exact gives_tree t19_30 (gives_form (by decide) (by rfl))
  · exact gives_tree t19_31 (gives_form (by decide) (by rfl))
  · exact gives_tree t19_32 (gives_form (by decide) (by rfl))
  · exact gives_tree t19_33 (gives_form (by decide) (by rfl))
  · exact gives_tree t19_34 (gives_form (by decide) (by rfl))
  · exact gives_tree t19_35 (gives_form (by decide) (by rfl))
  · exact gives_tree t19_36 (gives_form (by decide) (by rfl))
  · exact gives_tree t19_37 (gives_form (by decide) (by rfl))
  · exact gives_tree t19_38 (gives_form (by decide) (by rfl))
  · exact gives_tree t19_39 (gives_form (by decide) (by rfl))
  · exact gives_tree t19_40 (gives_form (by decide) (by rfl))
  · exact gives_tree t19_41 (gives_form (by decide) (by rfl))
  · exact gives_tree t19_42 (gives_form (by decide) (by rfl))
  · exact gives_tree t19_43 (gives_form (by decide) (by rfl))
  · exact gives_tree t19_44 (gives_form (by decide) (by rfl))
  · exact gives_tree t19_45 (gives_form (by decide) (by rfl))
  · exact gives_tree t19_46 (gives_form (by decide) (by rfl))

attribute [local irreducible] evalF Lf.gives in
theorem spec19 : SpecOk Try.prog 38 (specOf g19) := spec_okA false e19_calls mixed fn19 b19 n19 (loops_noLoop e19_loop _ _) g19 fun a0 H0 r hg hn => by
  unfold g19 at hg
  split at hg
  · rename_i op
    simp only [Option.some.injEq] at hg
    subst hg
    simp only [allB, Bool.and_true, Bool.and_eq_true, decide_eq_true_eq] at hn
    obtain ⟨h0, h1⟩ := hn
    refine ⟨[.int true .i64 op], id, fun σ => ?_, gives_giv (form19 op h0 h1)⟩
    simp only [denL, den]
  · cases hg

end Go.X
end

section
set_option linter.unusedVariables false
open Go Go.Ev Go.Proofs
namespace Go.X

theorem rem8 {x : Int} (h : 0 ≤ x) : ar .rem .i64 x 8 = x % 8 := by simp only [ar]; exact Int.tmod_eq_emod_of_nonneg h
theorem S_append (a b : List Int) : S a ++ S b = S (a ++ b) := by
  apply ByteArray.ext
  simp [S, ByteArray.data_append]
theorem strOf_one (x : Int) : strOf (nth [x] 0) 1 = S [x] := rfl
def modR (mode m l : Int) : Int := conv .u8 (ar .add .i64 (ar .add .i64 mode (ar .mul .i64 8 (ar .rem .i64 m 8))) (ar .rem .i64 l 8))
theorem modR_all : ((List.range 16).all fun i => (List.range 16).all fun j => [(192 : Int), 128].all fun w => modR w (Int.ofNat i) (Int.ofNat j) == modI w (Int.ofNat i) (Int.ofNat j)) = true := by kernel_rfl
theorem modR_eq {w m l : Int} (hw : w = 192 ∨ w = 128) (hm : small m) (hl : small l) : modR w m l = modI w m l := by
  obtain ⟨i, hi, rfl⟩ := small_nat hm
  obtain ⟨j, hj, rfl⟩ := small_nat hl
  have := List.all_eq_true.1 (List.all_eq_true.1 (List.all_eq_true.1 modR_all i (List.mem_range.2 hi)) j (List.mem_range.2 hj)) w (by rcases hw with rfl | rfl <;> simp)
  simpa using this
theorem addReg8_all : ((List.range 16).all fun i => [(184 : Int), 80, 88].all fun c => ar .add .u8 c (conv .u8 (ar .rem .i64 (Int.ofNat i) 8)) == c + (Int.ofNat i) % 8) = true := by kernel_rfl
theorem addReg8 {c x : Int} (hc : c ∈ [(184 : Int), 80, 88]) (hx : small x) : ar .add .u8 c (conv .u8 (ar .rem .i64 x 8)) = c + x % 8 := by
  obtain ⟨i, hi, rfl⟩ := small_nat hx
  simpa using List.all_eq_true.1 (List.all_eq_true.1 addReg8_all i (List.mem_range.2 hi)) c hc
theorem add144_all : ((List.range 16).all fun i => conv .u8 (ar .add .i64 144 (Int.ofNat i)) == 144 + (Int.ofNat i)) = true := by kernel_rfl
theorem add144 {x : Int} (hx : small x) : conv .u8 (ar .add .i64 144 x) = 144 + x := by
  obtain ⟨i, hi, rfl⟩ := small_nat hx
  simpa using List.all_eq_true.1 add144_all i (List.mem_range.2 hi)
theorem batR_eq (n : Int) {t : Nat} (h : t < 8) : batR n t = bat n t := by
  have e : ar .mul .i64 8 (t : Int) = ((8 * t : Nat) : Int) := mul8 (by omega)
  simp only [batR, bat, e]
  have : t = 0 ∨ t = 1 ∨ t = 2 ∨ t = 3 ∨ t = 4 ∨ t = 5 ∨ t = 6 ∨ t = 7 := by omega
  rcases this with rfl | rfl | rfl | rfl | rfl | rfl | rfl | rfl <;> (simp [ar, conv, IntKind.wrap, IntKind.signed, IntKind.bits, Int.fdiv_eq_ediv_of_nonneg]; try omega)

noncomputable def E8s : Env := inlA Try.prog (envOf [(52, specOf g23), (53, specOf g24), (38, specOf g19)] noLoop) [18, 51, 17, 25, 54, 55] [] 3
noncomputable abbrev T8 (k w rd rs n : Int) : Tr := evalF E8s Try.prog 37 [.agg [.int false .i64 k, .int false .i64 w, .int false .i64 rd, .int false .i64 rs, .int false .i64 n]] [] 1024
theorem named8s : named Try.prog [18, 51, 17, 25, 54, 55] = true := by kernel_rfl
theorem e8s_calls : CallsOk E8s Try.prog := (inlA_calls ((SpecsOk.cons spec23 (SpecsOk.cons spec24 (SpecsOk.cons spec19 SpecsOk.nil))).calls noLoop) mixed named8s namedNil 3).1
theorem e8s_loop : E8s.loop = noLoop := rfl
theorem fn8 : Try.prog.funcs[37]? = some Try.f37 := by kernel_rfl
theorem b8 : Try.f37.body = some (bodyOf Try.f37) := by kernel_rfl
theorem n8 : (Try.f37.name == "runtime.NumGoroutine") = false := by kernel_rfl

theorem t8 (op : Int) (w : Int) (rd : Int) (rs : Int) (n : Int) : (T8 op w rd rs n).bare =
    (bif (!bif cm .geq op 1 then cm .leq op 46 else false) then
 .ret (.tup [.str ⟨#[]⟩, .int true .i64 1]) []
 else
 bif (decide (1 ≤ op)) then
 bif (decide (op ≤ 46)) then
 bif (bif cm .neq w 4 then bif cm .neq w 8 then true else bif cm .neq (nth wR 0 (op - 1).toNat) 0 then bif cm .neq (nth wR 0 (op - 1).toNat) w then true else bif !bif cm .geq rd 0 then cm .leq rd 15 else false then true else bif !bif cm .geq rs 0 then cm .leq rs 15 else false then true else bif !bif cm .eql (nth kindR 0 (op - 1).toNat) 114 then true else bif cm .eql (nth kindR 0 (op - 1).toNat) 113 then true else bif cm .eql (nth kindR 0 (op - 1).toNat) 109 then true else bif cm .eql (nth kindR 0 (op - 1).toNat) 110 then true else bif cm .eql (nth kindR 0 (op - 1).toNat) 98 then true else bif cm .eql (nth kindR 0 (op - 1).toNat) 115 then true else bif cm .eql (nth kindR 0 (op - 1).toNat) 99 then true else false then bif cm .neq rd 0 then true else bif !bif cm .eql (nth kindR 0 (op - 1).toNat) 114 then true else bif cm .eql (nth kindR 0 (op - 1).toNat) 113 then true else bif cm .eql (nth kindR 0 (op - 1).toNat) 109 then true else bif cm .eql (nth kindR 0 (op - 1).toNat) 110 then false else bif cm .eql (nth kindR 0 (op - 1).toNat) 98 then false else bif cm .eql (nth kindR 0 (op - 1).toNat) 115 then false else bif cm .eql (nth kindR 0 (op - 1).toNat) 99 then false else false then bif cm .neq rs 0 then true else bif !bif cm .eql (nth kindR 0 (op - 1).toNat) 114 then false else bif cm .eql (nth kindR 0 (op - 1).toNat) 113 then false else bif cm .eql (nth kindR 0 (op - 1).toNat) 109 then true else bif cm .eql (nth kindR 0 (op - 1).toNat) 110 then cm .gtr (nth immR 0 (op - 1).toNat) 0 else bif cm .eql (nth kindR 0 (op - 1).toNat) 98 then cm .gtr (nth immR 0 (op - 1).toNat) 0 else bif cm .eql (nth kindR 0 (op - 1).toNat) 115 then true else bif cm .eql (nth kindR 0 (op - 1).toNat) 99 then true else cm .gtr (nth immR 0 (op - 1).toNat) 0 then cm .neq n 0 else false else bif !bif cm .eql (nth kindR 0 (op - 1).toNat) 114 then false else bif cm .eql (nth kindR 0 (op - 1).toNat) 113 then false else bif cm .eql (nth kindR 0 (op - 1).toNat) 109 then true else bif cm .eql (nth kindR 0 (op - 1).toNat) 110 then cm .gtr (nth immR 0 (op - 1).toNat) 0 else bif cm .eql (nth kindR 0 (op - 1).toNat) 98 then cm .gtr (nth immR 0 (op - 1).toNat) 0 else bif cm .eql (nth kindR 0 (op - 1).toNat) 115 then true else bif cm .eql (nth kindR 0 (op - 1).toNat) 99 then true else cm .gtr (nth immR 0 (op - 1).toNat) 0 then cm .neq n 0 else false else bif !bif cm .eql (nth kindR 0 (op - 1).toNat) 114 then true else bif cm .eql (nth kindR 0 (op - 1).toNat) 113 then true else bif cm .eql (nth kindR 0 (op - 1).toNat) 109 then true else bif cm .eql (nth kindR 0 (op - 1).toNat) 110 then false else bif cm .eql (nth kindR 0 (op - 1).toNat) 98 then false else bif cm .eql (nth kindR 0 (op - 1).toNat) 115 then false else bif cm .eql (nth kindR 0 (op - 1).toNat) 99 then false else false then bif cm .neq rs 0 then true else bif !bif cm .eql (nth kindR 0 (op - 1).toNat) 114 then false else bif cm .eql (nth kindR 0 (op - 1).toNat) 113 then false else bif cm .eql (nth kindR 0 (op - 1).toNat) 109 then true else bif cm .eql (nth kindR 0 (op - 1).toNat) 110 then cm .gtr (nth immR 0 (op - 1).toNat) 0 else bif cm .eql (nth kindR 0 (op - 1).toNat) 98 then cm .gtr (nth immR 0 (op - 1).toNat) 0 else bif cm .eql (nth kindR 0 (op - 1).toNat) 115 then true else bif cm .eql (nth kindR 0 (op - 1).toNat) 99 then true else cm .gtr (nth immR 0 (op - 1).toNat) 0 then cm .neq n 0 else false else bif !bif cm .eql (nth kindR 0 (op - 1).toNat) 114 then false else bif cm .eql (nth kindR 0 (op - 1).toNat) 113 then false else bif cm .eql (nth kindR 0 (op - 1).toNat) 109 then true else bif cm .eql (nth kindR 0 (op - 1).toNat) 110 then cm .gtr (nth immR 0 (op - 1).toNat) 0 else bif cm .eql (nth kindR 0 (op - 1).toNat) 98 then cm .gtr (nth immR 0 (op - 1).toNat) 0 else bif cm .eql (nth kindR 0 (op - 1).toNat) 115 then true else bif cm .eql (nth kindR 0 (op - 1).toNat) 99 then true else cm .gtr (nth immR 0 (op - 1).toNat) 0 then cm .neq n 0 else false else bif !bif cm .geq rd 0 then cm .leq rd 15 else false then true else bif !bif cm .geq rs 0 then cm .leq rs 15 else false then true else bif !bif cm .eql (nth kindR 0 (op - 1).toNat) 114 then true else bif cm .eql (nth kindR 0 (op - 1).toNat) 113 then true else bif cm .eql (nth kindR 0 (op - 1).toNat) 109 then true else bif cm .eql (nth kindR 0 (op - 1).toNat) 110 then true else bif cm .eql (nth kindR 0 (op - 1).toNat) 98 then true else bif cm .eql (nth kindR 0 (op - 1).toNat) 115 then true else bif cm .eql (nth kindR 0 (op - 1).toNat) 99 then true else false then bif cm .neq rd 0 then true else bif !bif cm .eql (nth kindR 0 (op - 1).toNat) 114 then true else bif cm .eql (nth kindR 0 (op - 1).toNat) 113 then true else bif cm .eql (nth kindR 0 (op - 1).toNat) 109 then true else bif cm .eql (nth kindR 0 (op - 1).toNat) 110 then false else bif cm .eql (nth kindR 0 (op - 1).toNat) 98 then false else bif cm .eql (nth kindR 0 (op - 1).toNat) 115 then false else bif cm .eql (nth kindR 0 (op - 1).toNat) 99 then false else false then bif cm .neq rs 0 then true else bif !bif cm .eql (nth kindR 0 (op - 1).toNat) 114 then false else bif cm .eql (nth kindR 0 (op - 1).toNat) 113 then false else bif cm .eql (nth kindR 0 (op - 1).toNat) 109 then true else bif cm .eql (nth kindR 0 (op - 1).toNat) 110 then cm .gtr (nth immR 0 (op - 1).toNat) 0 else bif cm .eql (nth kindR 0 (op - 1).toNat) 98 then cm .gtr (nth immR 0 (op - 1).toNat) 0 else bif cm .eql (nth kindR 0 (op - 1).toNat) 115 then true else bif cm .eql (nth kindR 0 (op - 1).toNat) 99 then true else cm .gtr (nth immR 0 (op - 1).toNat) 0 then cm .neq n 0 else false else bif !bif cm .eql (nth kindR 0 (op - 1).toNat) 114 then false else bif cm .eql (nth kindR 0 (op - 1).toNat) 113 then false else bif cm .eql (nth kindR 0 (op - 1).toNat) 109 then true else bif cm .eql (nth kindR 0 (op - 1).toNat) 110 then cm .gtr (nth immR 0 (op - 1).toNat) 0 else bif cm .eql (nth kindR 0 (op - 1).toNat) 98 then cm .gtr (nth immR 0 (op - 1).toNat) 0 else bif cm .eql (nth kindR 0 (op - 1).toNat) 115 then true else bif cm .eql (nth kindR 0 (op - 1).toNat) 99 then true else cm .gtr (nth immR 0 (op - 1).toNat) 0 then cm .neq n 0 else false else bif !bif cm .eql (nth kindR 0 (op - 1).toNat) 114 then true else bif cm .eql (nth kindR 0 (op - 1).toNat) 113 then true else bif cm .eql (nth kindR 0 (op - 1).toNat) 109 then true else bif cm .eql (nth kindR 0 (op - 1).toNat) 110 then false else bif cm .eql (nth kindR 0 (op - 1).toNat) 98 then false else bif cm .eql (nth kindR 0 (op - 1).toNat) 115 then false else bif cm .eql (nth kindR 0 (op - 1).toNat) 99 then false else false then bif cm .neq rs 0 then true else bif !bif cm .eql (nth kindR 0 (op - 1).toNat) 114 then false else bif cm .eql (nth kindR 0 (op - 1).toNat) 113 then false else bif cm .eql (nth kindR 0 (op - 1).toNat) 109 then true else bif cm .eql (nth kindR 0 (op - 1).toNat) 110 then cm .gtr (nth immR 0 (op - 1).toNat) 0 else bif cm .eql (nth kindR 0 (op - 1).toNat) 98 then cm .gtr (nth immR 0 (op - 1).toNat) 0 else bif cm .eql (nth kindR 0 (op - 1).toNat) 115 then true else bif cm .eql (nth kindR 0 (op - 1).toNat) 99 then true else cm .gtr (nth immR 0 (op - 1).toNat) 0 then cm .neq n 0 else false else bif !bif cm .eql (nth kindR 0 (op - 1).toNat) 114 then false else bif cm .eql (nth kindR 0 (op - 1).toNat) 113 then false else bif cm .eql (nth kindR 0 (op - 1).toNat) 109 then true else bif cm .eql (nth kindR 0 (op - 1).toNat) 110 then cm .gtr (nth immR 0 (op - 1).toNat) 0 else bif cm .eql (nth kindR 0 (op - 1).toNat) 98 then cm .gtr (nth immR 0 (op - 1).toNat) 0 else bif cm .eql (nth kindR 0 (op - 1).toNat) 115 then true else bif cm .eql (nth kindR 0 (op - 1).toNat) 99 then true else cm .gtr (nth immR 0 (op - 1).toNat) 0 then cm .neq n 0 else false else bif cm .neq (nth wR 0 (op - 1).toNat) 0 then bif cm .neq (nth wR 0 (op - 1).toNat) w then true else bif !bif cm .geq rd 0 then cm .leq rd 15 else false then true else bif !bif cm .geq rs 0 then cm .leq rs 15 else false then true else bif !bif cm .eql (nth kindR 0 (op - 1).toNat) 114 then true else bif cm .eql (nth kindR 0 (op - 1).toNat) 113 then true else bif cm .eql (nth kindR 0 (op - 1).toNat) 109 then true else bif cm .eql (nth kindR 0 (op - 1).toNat) 110 then true else bif cm .eql (nth kindR 0 (op - 1).toNat) 98 then true else bif cm .eql (nth kindR 0 (op - 1).toNat) 115 then true else bif cm .eql (nth kindR 0 (op - 1).toNat) 99 then true else false then bif cm .neq rd 0 then true else bif !bif cm .eql (nth kindR 0 (op - 1).toNat) 114 then true else bif cm .eql (nth kindR 0 (op - 1).toNat) 113 then true else bif cm .eql (nth kindR 0 (op - 1).toNat) 109 then true else bif cm .eql (nth kindR 0 (op - 1).toNat) 110 then false else bif cm .eql (nth kindR 0 (op - 1).toNat) 98 then false else bif cm .eql (nth kindR 0 (op - 1).toNat) 115 then false else bif cm .eql (nth kindR 0 (op - 1).toNat) 99 then false else false then bif cm .neq rs 0 then true else bif !bif cm .eql (nth kindR 0 (op - 1).toNat) 114 then false else bif cm .eql (nth kindR 0 (op - 1).toNat) 113 then false else bif cm .eql (nth kindR 0 (op - 1).toNat) 109 then true else bif cm .eql (nth kindR 0 (op - 1).toNat) 110 then cm .gtr (nth immR 0 (op - 1).toNat) 0 else bif cm .eql (nth kindR 0 (op - 1).toNat) 98 then cm .gtr (nth immR 0 (op - 1).toNat) 0 else bif cm .eql (nth kindR 0 (op - 1).toNat) 115 then true else bif cm .eql (nth kindR 0 (op - 1).toNat) 99 then true else cm .gtr (nth immR 0 (op - 1).toNat) 0 then cm .neq n 0 else false else bif !bif cm .eql (nth kindR 0 (op - 1).toNat) 114 then false else bif cm .eql (nth kindR 0 (op - 1).toNat) 113 then false else bif cm .eql (nth kindR 0 (op - 1).toNat) 109 then true else bif cm .eql (nth kindR 0 (op - 1).toNat) 110 then cm .gtr (nth immR 0 (op - 1).toNat) 0 else bif cm .eql (nth kindR 0 (op - 1).toNat) 98 then cm .gtr (nth immR 0 (op - 1).toNat) 0 else bif cm .eql (nth kindR 0 (op - 1).toNat) 115 then true else bif cm .eql (nth kindR 0 (op - 1).toNat) 99 then true else cm .gtr (nth immR 0 (op - 1).toNat) 0 then cm .neq n 0 else false else bif !bif cm .eql (nth kindR 0 (op - 1).toNat) 114 then true else bif cm .eql (nth kindR 0 (op - 1).toNat) 113 then true else bif cm .eql (nth kindR 0 (op - 1).toNat) 109 then true else bif cm .eql (nth kindR 0 (op - 1).toNat) 110 then false else bif cm .eql (nth kindR 0 (op - 1).toNat) 98 then false else bif cm .eql (nth kindR 0 (op - 1).toNat) 115 then false else bif cm .eql (nth kindR 0 (op - 1).toNat) 99 then false else false then bif cm .neq rs 0 then true else bif !bif cm .eql (nth kindR 0 (op - 1).toNat) 114 then false else bif cm .eql (nth kindR 0 (op - 1).toNat) 113 then false else bif cm .eql (nth kindR 0 (op - 1).toNat) 109 then true else bif cm .eql (nth kindR 0 (op - 1).toNat) 110 then cm .gtr (nth immR 0 (op - 1).toNat) 0 else bif cm .eql (nth kindR 0 (op - 1).toNat) 98 then cm .gtr (nth immR 0 (op - 1).toNat) 0 else bif cm .eql (nth kindR 0 (op - 1).toNat) 115 then true else bif cm .eql (nth kindR 0 (op - 1).toNat) 99 then true else cm .gtr (nth immR 0 (op - 1).toNat) 0 then cm .neq n 0 else false else bif !bif cm .eql (nth kindR 0 (op - 1).toNat) 114 then false else bif cm .eql (nth kindR 0 (op - 1).toNat) 113 then false else bif cm .eql (nth kindR 0 (op - 1).toNat) 109 then true else bif cm .eql (nth kindR 0 (op - 1).toNat) 110 then cm .gtr (nth immR 0 (op - 1).toNat) 0 else bif cm .eql (nth kindR 0 (op - 1).toNat) 98 then cm .gtr (nth immR 0 (op - 1).toNat) 0 else bif cm .eql (nth kindR 0 (op - 1).toNat) 115 then true else bif cm .eql (nth kindR 0 (op - 1).toNat) 99 then true else cm .gtr (nth immR 0 (op - 1).toNat) 0 then cm .neq n 0 else false else bif !bif cm .geq rd 0 then cm .leq rd 15 else false then true else bif !bif cm .geq rs 0 then cm .leq rs 15 else false then true else bif !bif cm .eql (nth kindR 0 (op - 1).toNat) 114 then true else bif cm .eql (nth kindR 0 (op - 1).toNat) 113 then true else bif cm .eql (nth kindR 0 (op - 1).toNat) 109 then true else bif cm .eql (nth kindR 0 (op - 1).toNat) 110 then true else bif cm .eql (nth kindR 0 (op - 1).toNat) 98 then true else bif cm .eql (nth kindR 0 (op - 1).toNat) 115 then true else bif cm .eql (nth kindR 0 (op - 1).toNat) 99 then true else false then bif cm .neq rd 0 then true else bif !bif cm .eql (nth kindR 0 (op - 1).toNat) 114 then true else bif cm .eql (nth kindR 0 (op - 1).toNat) 113 then true else bif cm .eql (nth kindR 0 (op - 1).toNat) 109 then true else bif cm .eql (nth kindR 0 (op - 1).toNat) 110 then false else bif cm .eql (nth kindR 0 (op - 1).toNat) 98 then false else bif cm .eql (nth kindR 0 (op - 1).toNat) 115 then false else bif cm .eql (nth kindR 0 (op - 1).toNat) 99 then false else false then bif cm .neq rs 0 then true else bif !bif cm .eql (nth kindR 0 (op - 1).toNat) 114 then false else bif cm .eql (nth kindR 0 (op - 1).toNat) 113 then false else bif cm .eql (nth kindR 0 (op - 1).toNat) 109 then true else bif cm .eql (nth kindR 0 (op - 1).toNat) 110 then cm .gtr (nth immR 0 (op - 1).toNat) 0 else bif cm .eql (nth kindR 0 (op - 1).toNat) 98 then cm .gtr (nth immR 0 (op - 1).toNat) 0 else bif cm .eql (nth kindR 0 (op - 1).toNat) 115 then true else bif cm .eql (nth kindR 0 (op - 1).toNat) 99 then true else cm .gtr (nth immR 0 (op - 1).toNat) 0 then cm .neq n 0 else false else bif !bif cm .eql (nth kindR 0 (op - 1).toNat) 114 then false else bif cm .eql (nth kindR 0 (op - 1).toNat) 113 then false else bif cm .eql (nth kindR 0 (op - 1).toNat) 109 then true else bif cm .eql (nth kindR 0 (op - 1).toNat) 110 then cm .gtr (nth immR 0 (op - 1).toNat) 0 else bif cm .eql (nth kindR 0 (op - 1).toNat) 98 then cm .gtr (nth immR 0 (op - 1).toNat) 0 else bif cm .eql (nth kindR 0 (op - 1).toNat) 115 then true else bif cm .eql (nth kindR 0 (op - 1).toNat) 99 then true else cm .gtr (nth immR 0 (op - 1).toNat) 0 then cm .neq n 0 else false else bif !bif cm .eql (nth kindR 0 (op - 1).toNat) 114 then true else bif cm .eql (nth kindR 0 (op - 1).toNat) 113 then true else bif cm .eql (nth kindR 0 (op - 1).toNat) 109 then true else bif cm .eql (nth kindR 0 (op - 1).toNat) 110 then false else bif cm .eql (nth kindR 0 (op - 1).toNat) 98 then false else bif cm .eql (nth kindR 0 (op - 1).toNat) 115 then false else bif cm .eql (nth kindR 0 (op - 1).toNat) 99 then false else false then bif cm .neq rs 0 then true else bif !bif cm .eql (nth kindR 0 (op - 1).toNat) 114 then false else bif cm .eql (nth kindR 0 (op - 1).toNat) 113 then false else bif cm .eql (nth kindR 0 (op - 1).toNat) 109 then true else bif cm .eql (nth kindR 0 (op - 1).toNat) 110 then cm .gtr (nth immR 0 (op - 1).toNat) 0 else bif cm .eql (nth kindR 0 (op - 1).toNat) 98 then cm .gtr (nth immR 0 (op - 1).toNat) 0 else bif cm .eql (nth kindR 0 (op - 1).toNat) 115 then true else bif cm .eql (nth kindR 0 (op - 1).toNat) 99 then true else cm .gtr (nth immR 0 (op - 1).toNat) 0 then cm .neq n 0 else false else bif !bif cm .eql (nth kindR 0 (op - 1).toNat) 114 then false else bif cm .eql (nth kindR 0 (op - 1).toNat) 113 then false else bif cm .eql (nth kindR 0 (op - 1).toNat) 109 then true else bif cm .eql (nth kindR 0 (op - 1).toNat) 110 then cm .gtr (nth immR 0 (op - 1).toNat) 0 else bif cm .eql (nth kindR 0 (op - 1).toNat) 98 then cm .gtr (nth immR 0 (op - 1).toNat) 0 else bif cm .eql (nth kindR 0 (op - 1).toNat) 115 then true else bif cm .eql (nth kindR 0 (op - 1).toNat) 99 then true else cm .gtr (nth immR 0 (op - 1).toNat) 0 then cm .neq n 0 else false) then
 .ret (.tup [.str ⟨#[]⟩, .int true .i64 1]) []
 else
 bif (bif cm .eql (nth kindR 0 (op - 1).toNat) 109 then allB [8 != 0] else allB []) then
 bif (bif cm .eql (nth kindR 0 (op - 1).toNat) 109 then bif cm .eql (ar .rem .i64 rs 8) 4 then true else bif cm .eql (nth kindR 0 (op - 1).toNat) 99 then bif !bif cm .geq rd 2 then bif cm .leq rd 7 then true else bif cm .geq rd 12 then cm .leq rd 15 else false else bif cm .geq rd 12 then cm .leq rd 15 else false then true else bif cm .eql (nth kindR 0 (op - 1).toNat) 115 then !bif cm .geq n 2 then bif cm .leq n 7 then true else bif cm .geq n 12 then cm .leq n 15 else false else bif cm .geq n 12 then cm .leq n 15 else false else false else bif cm .eql (nth kindR 0 (op - 1).toNat) 115 then !bif cm .geq n 2 then bif cm .leq n 7 then true else bif cm .geq n 12 then cm .leq n 15 else false else bif cm .geq n 12 then cm .leq n 15 else false else false else bif cm .eql (nth kindR 0 (op - 1).toNat) 99 then bif !bif cm .geq rd 2 then bif cm .leq rd 7 then true else bif cm .geq rd 12 then cm .leq rd 15 else false else bif cm .geq rd 12 then cm .leq rd 15 else false then true else bif cm .eql (nth kindR 0 (op - 1).toNat) 115 then !bif cm .geq n 2 then bif cm .leq n 7 then true else bif cm .geq n 12 then cm .leq n 15 else false else bif cm .geq n 12 then cm .leq n 15 else false else false else bif cm .eql (nth kindR 0 (op - 1).toNat) 115 then !bif cm .geq n 2 then bif cm .leq n 7 then true else bif cm .geq n 12 then cm .leq n 15 else false else bif cm .geq n 12 then cm .leq n 15 else false else false) then
 .ret (.tup [.str ⟨#[]⟩, .int true .i64 1]) []
 else
 bif (bif cm .eql (nth immR 0 (op - 1).toNat) 4 then bif cm .lss n (-2147483648) then true else bif cm .geq n 2147483648 then true else bif cm .eql (nth immR 0 (op - 1).toNat) 1 then bif cm .lss n (-128) then true else cm .gtr n 127 else false else bif cm .eql (nth immR 0 (op - 1).toNat) 1 then bif cm .lss n (-128) then true else cm .gtr n 127 else false) then
 .ret (.tup [.str ⟨#[]⟩, .int true .i64 10]) []
 else
 bif (decide (0 ≤ nth immR 0 (op - 1).toNat)) then
 bif (decide (nth immR 0 (op - 1).toNat ≤ 8)) then
 bif (cm .eql (nth kindR 0 (op - 1).toNat) 114) then
 bif (Nat.ble ((strOf (nth [rexI w rs rd] 0) 1).size + (nth bytesR ByteArray.empty (op - 1).toNat).size) (9223372036854775807)) then
 bif (Nat.ble ((strOf (nth [rexI w rs rd] 0) 1 ++ nth bytesR ByteArray.empty (op - 1).toNat).size + (strOf (nth [conv .u8 (ar .add .i64 (ar .add .i64 192 (ar .mul .i64 8 (ar .rem .i64 rs 8))) (ar .rem .i64 rd 8))] 0) 1).size) (9223372036854775807)) then
 .ret (.tup [(.str (strOf (nth [rexI w rs rd] 0) 1 ++ nth bytesR ByteArray.empty (op - 1).toNat ++ strOf (nth [conv .u8 (ar .add .i64 (ar .add .i64 192 (ar .mul .i64 8 (ar .rem .i64 rs 8))) (ar .rem .i64 rd 8))] 0) 1)), .int true .i64 0]) []
 else .bad
 else .bad
 else
 bif (cm .eql (nth kindR 0 (op - 1).toNat) 113) then
 bif (Nat.ble ((strOf (nth [rexI w rd rs] 0) 1).size + (nth bytesR ByteArray.empty (op - 1).toNat).size) (9223372036854775807)) then
 bif (Nat.ble ((strOf (nth [rexI w rd rs] 0) 1 ++ nth bytesR ByteArray.empty (op - 1).toNat).size + (strOf (nth [conv .u8 (ar .add .i64 (ar .add .i64 192 (ar .mul .i64 8 (ar .rem .i64 rd 8))) (ar .rem .i64 rs 8))] 0) 1).size) (9223372036854775807)) then
 .ret (.tup [(.str (strOf (nth [rexI w rd rs] 0) 1 ++ nth bytesR ByteArray.empty (op - 1).toNat ++ strOf (nth [conv .u8 (ar .add .i64 (ar .add .i64 192 (ar .mul .i64 8 (ar .rem .i64 rd 8))) (ar .rem .i64 rs 8))] 0) 1)), .int true .i64 0]) []
 else .bad
 else .bad
 else
 bif (cm .eql (nth kindR 0 (op - 1).toNat) 110) then
 bif (Nat.ble ((strOf (nth [rexI w 0 rd] 0) 1).size + (nth bytesR ByteArray.empty (op - 1).toNat).size) (9223372036854775807)) then
 bif (Nat.ble ((strOf (nth [rexI w 0 rd] 0) 1 ++ nth bytesR ByteArray.empty (op - 1).toNat).size + (strOf (nth [conv .u8 (ar .add .i64 (ar .add .i64 192 (ar .mul .i64 8 (ar .rem .i64 (nth midR 0 (op - 1).toNat) 8))) (ar .rem .i64 rd 8))] 0) 1).size) (9223372036854775807)) then
 bif (Nat.ble ((strOf (nth [rexI w 0 rd] 0) 1 ++ nth bytesR ByteArray.empty (op - 1).toNat ++ strOf (nth [conv .u8 (ar .add .i64 (ar .add .i64 192 (ar .mul .i64 8 (ar .rem .i64 (nth midR 0 (op - 1).toNat) 8))) (ar .rem .i64 rd 8))] 0) 1).size + (strOf (batR n) (nth immR 0 (op - 1).toNat).toNat).size) (9223372036854775807)) then
 .ret (.tup [(.str (strOf (nth [rexI w 0 rd] 0) 1 ++ nth bytesR ByteArray.empty (op - 1).toNat ++ strOf (nth [conv .u8 (ar .add .i64 (ar .add .i64 192 (ar .mul .i64 8 (ar .rem .i64 (nth midR 0 (op - 1).toNat) 8))) (ar .rem .i64 rd 8))] 0) 1 ++ strOf (batR n) (nth immR 0 (op - 1).toNat).toNat)), .int true .i64 0]) []
 else .bad
 else .bad
 else .bad
 else
 bif (cm .eql (nth kindR 0 (op - 1).toNat) 115) then
 .ret (.tup [(.str (strOf (nth [rexI w 0 rd] 0) 1 ++ (ByteArray.mk #[15]) ++ strOf (nth [conv .u8 (ar .add .i64 144 n)] 0) 1 ++ strOf (nth [conv .u8 (ar .add .i64 (ar .add .i64 192 (ar .mul .i64 8 (ar .rem .i64 0 8))) (ar .rem .i64 rd 8))] 0) 1)), .int true .i64 0]) []
 else
 bif (cm .eql (nth kindR 0 (op - 1).toNat) 109) then
 bif (Nat.ble ((strOf (nth [rexI w rd rs] 0) 1).size + (nth bytesR ByteArray.empty (op - 1).toNat).size) (9223372036854775807)) then
 bif (Nat.ble ((strOf (nth [rexI w rd rs] 0) 1 ++ nth bytesR ByteArray.empty (op - 1).toNat).size + (strOf (nth [conv .u8 (ar .add .i64 (ar .add .i64 128 (ar .mul .i64 8 (ar .rem .i64 rd 8))) (ar .rem .i64 rs 8))] 0) 1).size) (9223372036854775807)) then
 bif (Nat.ble ((strOf (nth [rexI w rd rs] 0) 1 ++ nth bytesR ByteArray.empty (op - 1).toNat ++ strOf (nth [conv .u8 (ar .add .i64 (ar .add .i64 128 (ar .mul .i64 8 (ar .rem .i64 rd 8))) (ar .rem .i64 rs 8))] 0) 1).size + (strOf (batR n) (nth immR 0 (op - 1).toNat).toNat).size) (9223372036854775807)) then
 bif (nth preR false (op - 1).toNat) then
 bif (Nat.ble ((ByteArray.mk #[102]).size + (strOf (nth [rexI w rd rs] 0) 1 ++ nth bytesR ByteArray.empty (op - 1).toNat ++ strOf (nth [conv .u8 (ar .add .i64 (ar .add .i64 128 (ar .mul .i64 8 (ar .rem .i64 rd 8))) (ar .rem .i64 rs 8))] 0) 1 ++ strOf (batR n) (nth immR 0 (op - 1).toNat).toNat).size) (9223372036854775807)) then
 .ret (.tup [(.str ((ByteArray.mk #[102]) ++ (strOf (nth [rexI w rd rs] 0) 1 ++ nth bytesR ByteArray.empty (op - 1).toNat ++ strOf (nth [conv .u8 (ar .add .i64 (ar .add .i64 128 (ar .mul .i64 8 (ar .rem .i64 rd 8))) (ar .rem .i64 rs 8))] 0) 1 ++ strOf (batR n) (nth immR 0 (op - 1).toNat).toNat))), .int true .i64 0]) []
 else .bad
 else
 .ret (.tup [(.str (strOf (nth [rexI w rd rs] 0) 1 ++ nth bytesR ByteArray.empty (op - 1).toNat ++ strOf (nth [conv .u8 (ar .add .i64 (ar .add .i64 128 (ar .mul .i64 8 (ar .rem .i64 rd 8))) (ar .rem .i64 rs 8))] 0) 1 ++ strOf (batR n) (nth immR 0 (op - 1).toNat).toNat)), .int true .i64 0]) []
 else .bad
 else .bad
 else .bad
 else
 bif (cm .eql (nth kindR 0 (op - 1).toNat) 98) then
 bif (Nat.blt (0) ((nth bytesR ByteArray.empty (op - 1).toNat).size)) then
 bif (Nat.ble ((strOf (nth [rexI w 0 rd] 0) 1 ++ strOf (nth [ar .add .u8 (chr (nth bytesR ByteArray.empty (op - 1).toNat) (Int.toNat 0)) (conv .u8 (ar .rem .i64 rd 8))] 0) 1).size + (strOf (batR n) (nth immR 0 (op - 1).toNat).toNat).size) (9223372036854775807)) then
 .ret (.tup [(.str (strOf (nth [rexI w 0 rd] 0) 1 ++ strOf (nth [ar .add .u8 (chr (nth bytesR ByteArray.empty (op - 1).toNat) (Int.toNat 0)) (conv .u8 (ar .rem .i64 rd 8))] 0) 1 ++ strOf (batR n) (nth immR 0 (op - 1).toNat).toNat)), .int true .i64 0]) []
 else .bad
 else .bad
 else
 bif (cm .eql (nth kindR 0 (op - 1).toNat) 120) then
 bif (cm .eql w 8) then
 .ret (.tup [.str ⟨#[72, 153]⟩, .int true .i64 0]) []
 else
 .ret (.tup [.str ⟨#[64, 153]⟩, .int true .i64 0]) []
 else
 bif (cm .eql (nth kindR 0 (op - 1).toNat) 99) then
 bif (decide (0 ≤ ar .sub .i64 (↑(nth bytesR ByteArray.empty (op - 1).toNat).size) 1)) then
 bif (Nat.ble ((ar .sub .i64 (↑(nth bytesR ByteArray.empty (op - 1).toNat).size) 1).toNat) ((nth bytesR ByteArray.empty (op - 1).toNat).size)) then
 bif (decide (0 ≤ ar .sub .i64 (↑(nth bytesR ByteArray.empty (op - 1).toNat).size) 1)) then
 bif (Nat.blt ((ar .sub .i64 (↑(nth bytesR ByteArray.empty (op - 1).toNat).size) 1).toNat) ((nth bytesR ByteArray.empty (op - 1).toNat).size)) then
 bif (Nat.ble (((nth bytesR ByteArray.empty (op - 1).toNat).extract 0 (ar .sub .i64 (↑(nth bytesR ByteArray.empty (op - 1).toNat).size) 1).toNat).size + (strOf (nth [ar .add .u8 (chr (nth bytesR ByteArray.empty (op - 1).toNat) (ar .sub .i64 (↑(nth bytesR ByteArray.empty (op - 1).toNat).size) 1).toNat) (conv .u8 rd)] 0) 1).size) (9223372036854775807)) then
 bif (Nat.ble (((nth bytesR ByteArray.empty (op - 1).toNat).extract 0 (ar .sub .i64 (↑(nth bytesR ByteArray.empty (op - 1).toNat).size) 1).toNat ++ strOf (nth [ar .add .u8 (chr (nth bytesR ByteArray.empty (op - 1).toNat) (ar .sub .i64 (↑(nth bytesR ByteArray.empty (op - 1).toNat).size) 1).toNat) (conv .u8 rd)] 0) 1).size + (strOf (batR n) (nth immR 0 (op - 1).toNat).toNat).size) (9223372036854775807)) then
 .ret (.tup [(.str ((nth bytesR ByteArray.empty (op - 1).toNat).extract 0 (ar .sub .i64 (↑(nth bytesR ByteArray.empty (op - 1).toNat).size) 1).toNat ++ strOf (nth [ar .add .u8 (chr (nth bytesR ByteArray.empty (op - 1).toNat) (ar .sub .i64 (↑(nth bytesR ByteArray.empty (op - 1).toNat).size) 1).toNat) (conv .u8 rd)] 0) 1 ++ strOf (batR n) (nth immR 0 (op - 1).toNat).toNat)), .int true .i64 0]) []
 else .bad
 else .bad
 else .bad
 else .bad
 else .bad
 else .bad
 else
 bif (Nat.ble ((nth bytesR ByteArray.empty (op - 1).toNat).size + (strOf (batR n) (nth immR 0 (op - 1).toNat).toNat).size) (9223372036854775807)) then
 .ret (.tup [.str (nth bytesR ByteArray.empty (op - 1).toNat ++ strOf (batR n) (nth immR 0 (op - 1).toNat).toNat), .int true .i64 0]) []
 else .bad
 else .bad
 else .bad
 else .bad
 else .bad
 else .bad) := by kernel_rfl

end Go.X
end

section
set_option linter.unusedVariables false
open Go Go.Ev Go.Proofs
namespace Go.X

theorem u8_1 (w rd rs n : Int) : (T8 1 w rd rs n).bare = (bif (bif (cm .neq w 4) then (bif (cm .neq w 8) then true else (bif (!(bif (cm .geq rd 0) then (cm .leq rd 15) else false)) then true else (bif (!(bif (cm .geq rs 0) then (cm .leq rs 15) else false)) then true else (cm .neq n 0)))) else (bif (!(bif (cm .geq rd 0) then (cm .leq rd 15) else false)) then true else (bif (!(bif (cm .geq rs 0) then (cm .leq rs 15) else false)) then true else (cm .neq n 0)))) then .ret (.tup [.str ⟨#[]⟩, .int true .i64 1]) [] else .ret (.tup [(.str (strOf (nth [rexI w rs rd] 0) 1 ++ (ByteArray.mk #[137]) ++ strOf (nth [conv .u8 (ar .add .i64 (ar .add .i64 192 (ar .mul .i64 8 (ar .rem .i64 rs 8))) (ar .rem .i64 rd 8))] 0) 1)), .int true .i64 0]) []) :=
  (t8 1 w rd rs n).trans (by kernel_rfl)
attribute [local irreducible] evalF Lf.gives in
theorem ref8_1 (w rd rs n : Int) : (T8 1 w rd rs n).leaf.gives (.tup [.str (strX 1 w rd rs n), .int false .i64 (errX 1 w rd rs n)]) := by
  have hE : errX 1 w rd rs n = (bif (decide (w = 4) || decide (w = 8)) && ((true || decide (w = 0)) && (regX rd && (regX rs && decide (n = 0)))) then (bif ((true) || false) then 0 else 10) else 1) := by kernel_rfl
  refine gives_tree (u8_1 w rd rs n) ?_
  refine gives_cond (fun h1 => ?_) (fun h1 => ?_)
  · have hA : ((decide (w = 4) || decide (w = 8)) && ((true || decide (w = 0)) && (regX rd && (regX rs && decide (n = 0))))) = false := by
      simp [cms] at h1 ⊢
      first | done | omega | ((repeat' split at h1) <;> omega) | ((repeat' split at h1) <;> (repeat' split at h1) <;> omega) | skip
    have he : errX 1 w rd rs n = 1 := by rw [hE, hA]; rfl
    exact givesE (strX_bad he (by decide)) he.symm
  have hA : ((decide (w = 4) || decide (w = 8)) && ((true || decide (w = 0)) && (regX rd && (regX rs && decide (n = 0))))) = true := by
    simp [cms] at h1 ⊢
    first | done | omega | ((repeat' split at h1) <;> omega) | ((repeat' split at h1) <;> (repeat' split at h1) <;> omega) | skip
  have he : errX 1 w rd rs n = 0 := by rw [hE, hA]; rfl
  have hrd : small rd := by simp [regX] at hA; simp only [small]; omega
  have hrs : small rs := by simp [regX] at hA; simp only [small]; omega
  have hw : w = 4 ∨ w = 8 := by simp at hA; omega
  refine givesE ?_ he.symm
  rw [strX_ok he]
  refine Eq.trans (b := S [rexI w rs rd] ++ S [137] ++ S [modR 192 rs rd]) (by kernel_rfl) ?_
  simp only [S_append]
  exact congrArg S (Eq.trans (b := [rexI w rs rd, 137, modR 192 rs rd]) (by rfl) (Eq.trans (b := [rexI w rs rd, 137, modI 192 rs rd]) (by rw [modR_eq (.inl rfl) hrs hrd]) (by kernel_rfl)))

theorem u8_2 (w rd rs n : Int) : (T8 2 w rd rs n).bare = (bif (bif (cm .neq w 4) then (bif (cm .neq w 8) then true else (bif (cm .neq 8 w) then true else (bif (!(bif (cm .geq rd 0) then (cm .leq rd 15) else false)) then true else (bif (!(bif (cm .geq rs 0) then (cm .leq rs 15) else false)) then true else (bif (cm .neq rs 0) then true else false))))) else (bif (cm .neq 8 w) then true else (bif (!(bif (cm .geq rd 0) then (cm .leq rd 15) else false)) then true else (bif (!(bif (cm .geq rs 0) then (cm .leq rs 15) else false)) then true else (bif (cm .neq rs 0) then true else false))))) then .ret (.tup [.str ⟨#[]⟩, .int true .i64 1]) [] else (bif (bif (cm .lss n (-2147483648)) then true else (bif (cm .geq n 2147483648) then true else false)) then .ret (.tup [.str ⟨#[]⟩, .int true .i64 10]) [] else .ret (.tup [(.str (strOf (nth [rexI w 0 rd] 0) 1 ++ (ByteArray.mk #[199]) ++ strOf (nth [conv .u8 (ar .add .i64 (ar .add .i64 192 (ar .mul .i64 8 (ar .rem .i64 0 8))) (ar .rem .i64 rd 8))] 0) 1 ++ strOf (batR n) (Int.toNat 4))), .int true .i64 0]) [])) :=
  (t8 2 w rd rs n).trans (by kernel_rfl)
attribute [local irreducible] evalF Lf.gives in
theorem ref8_2 (w rd rs n : Int) : (T8 2 w rd rs n).leaf.gives (.tup [.str (strX 2 w rd rs n), .int false .i64 (errX 2 w rd rs n)]) := by
  have hE : errX 2 w rd rs n = (bif (decide (w = 4) || decide (w = 8)) && ((false || decide (w = 8)) && (regX rd && (decide (rs = 0) && (true || decide (n = 0))))) then (bif ((decide (-2147483648 ≤ n) && decide (n ≤ 2147483647)) || false) then 0 else 10) else 1) := by kernel_rfl
  refine gives_tree (u8_2 w rd rs n) ?_
  refine gives_cond (fun h1 => ?_) (fun h1 => ?_)
  · have hA : ((decide (w = 4) || decide (w = 8)) && ((false || decide (w = 8)) && (regX rd && (decide (rs = 0) && (true || decide (n = 0)))))) = false := by
      simp [cms] at h1 ⊢
      first | done | omega | ((repeat' split at h1) <;> omega) | ((repeat' split at h1) <;> (repeat' split at h1) <;> omega) | skip
    have he : errX 2 w rd rs n = 1 := by rw [hE, hA]; rfl
    exact givesE (strX_bad he (by decide)) he.symm
  have hA : ((decide (w = 4) || decide (w = 8)) && ((false || decide (w = 8)) && (regX rd && (decide (rs = 0) && (true || decide (n = 0)))))) = true := by
    simp [cms] at h1 ⊢
    first | done | omega | ((repeat' split at h1) <;> omega) | ((repeat' split at h1) <;> (repeat' split at h1) <;> omega) | skip
  refine gives_cond (fun h9 => ?_) (fun h9 => ?_)
  · have hF : ((decide (-2147483648 ≤ n) && decide (n ≤ 2147483647)) || false) = false := by
      simp [cms] at h9 ⊢
      first | done | omega | ((repeat' split at h9) <;> omega) | skip
    have he : errX 2 w rd rs n = 10 := by rw [hE, hA, hF]; rfl
    exact givesE (strX_bad he (by decide)) he.symm
  have hF : ((decide (-2147483648 ≤ n) && decide (n ≤ 2147483647)) || false) = true := by
    simp [cms] at h9 ⊢
    first | done | omega | ((repeat' split at h9) <;> omega) | skip
  have he : errX 2 w rd rs n = 0 := by rw [hE, hA, hF]; rfl
  have hrd : small rd := by simp [regX] at hA; simp only [small]; omega
  have hw : w = 4 ∨ w = 8 := by simp at hA; omega
  refine givesE ?_ he.symm
  rw [strX_ok he]
  refine Eq.trans (b := S [rexI w 0 rd] ++ S [199] ++ S [modR 192 0 rd] ++ S [batR n 0, batR n 1, batR n 2, batR n 3]) (by kernel_rfl) ?_
  simp only [S_append]
  exact congrArg S (Eq.trans (b := [rexI w 0 rd, 199, modR 192 0 rd, batR n 0, batR n 1, batR n 2, batR n 3]) (by rfl) (Eq.trans (b := [rexI w 0 rd, 199, modI 192 0 rd, bat n 0, bat n 1, bat n 2, bat n 3]) (by rw [modR_eq (.inl rfl) (by decide : small 0) hrd, batR_eq n (by decide : 0 < 8), batR_eq n (by decide : 1 < 8), batR_eq n (by decide : 2 < 8), batR_eq n (by decide : 3 < 8)]) (by kernel_rfl)))

theorem u8_3 (w rd rs n : Int) : (T8 3 w rd rs n).bare = (bif (bif (cm .neq w 4) then (bif (cm .neq w 8) then true else (bif (cm .neq 8 w) then true else (bif (!(bif (cm .geq rd 0) then (cm .leq rd 15) else false)) then true else (bif (!(bif (cm .geq rs 0) then (cm .leq rs 15) else false)) then true else (bif (cm .neq rs 0) then true else false))))) else (bif (cm .neq 8 w) then true else (bif (!(bif (cm .geq rd 0) then (cm .leq rd 15) else false)) then true else (bif (!(bif (cm .geq rs 0) then (cm .leq rs 15) else false)) then true else (bif (cm .neq rs 0) then true else false))))) then .ret (.tup [.str ⟨#[]⟩, .int true .i64 1]) [] else .ret (.tup [.str (strOf (nth [rexI w 0 rd] 0) 1 ++ strOf (nth [ar .add .u8 (chr (ByteArray.mk #[184]) (Int.toNat 0)) (conv .u8 (ar .rem .i64 rd 8))] 0) 1 ++ strOf (batR n) (Int.toNat 8)), .int true .i64 0]) []) :=
  (t8 3 w rd rs n).trans (by kernel_rfl)
attribute [local irreducible] evalF Lf.gives in
theorem ref8_3 (w rd rs n : Int) : (T8 3 w rd rs n).leaf.gives (.tup [.str (strX 3 w rd rs n), .int false .i64 (errX 3 w rd rs n)]) := by
  have hE : errX 3 w rd rs n = (bif (decide (w = 4) || decide (w = 8)) && ((false || decide (w = 8)) && (regX rd && decide (rs = 0))) then (bif ((true) || false) then 0 else 10) else 1) := by kernel_rfl
  refine gives_tree (u8_3 w rd rs n) ?_
  refine gives_cond (fun h1 => ?_) (fun h1 => ?_)
  · have hA : ((decide (w = 4) || decide (w = 8)) && ((false || decide (w = 8)) && (regX rd && decide (rs = 0)))) = false := by
      simp [cms] at h1 ⊢
      first | done | omega | ((repeat' split at h1) <;> omega) | ((repeat' split at h1) <;> (repeat' split at h1) <;> omega) | skip
    have he : errX 3 w rd rs n = 1 := by rw [hE, hA]; rfl
    exact givesE (strX_bad he (by decide)) he.symm
  have hA : ((decide (w = 4) || decide (w = 8)) && ((false || decide (w = 8)) && (regX rd && decide (rs = 0)))) = true := by
    simp [cms] at h1 ⊢
    first | done | omega | ((repeat' split at h1) <;> omega) | ((repeat' split at h1) <;> (repeat' split at h1) <;> omega) | skip
  have he : errX 3 w rd rs n = 0 := by rw [hE, hA]; rfl
  have hrd : small rd := by simp [regX] at hA; simp only [small]; omega
  have hw : w = 4 ∨ w = 8 := by simp at hA; omega
  refine givesE ?_ he.symm
  rw [strX_ok he]
  refine Eq.trans (b := S [rexI w 0 rd] ++ S [ar .add .u8 184 (conv .u8 (ar .rem .i64 rd 8))] ++ S [batR n 0, batR n 1, batR n 2, batR n 3, batR n 4, batR n 5, batR n 6, batR n 7]) (by kernel_rfl) ?_
  simp only [S_append]
  exact congrArg S (Eq.trans (b := [rexI w 0 rd, ar .add .u8 184 (conv .u8 (ar .rem .i64 rd 8)), batR n 0, batR n 1, batR n 2, batR n 3, batR n 4, batR n 5, batR n 6, batR n 7]) (by rfl) (Eq.trans (b := [rexI w 0 rd, 184 + rd % 8, bat n 0, bat n 1, bat n 2, bat n 3, bat n 4, bat n 5, bat n 6, bat n 7]) (by rw [addReg8 (by decide) hrd, batR_eq n (by decide : 0 < 8), batR_eq n (by decide : 1 < 8), batR_eq n (by decide : 2 < 8), batR_eq n (by decide : 3 < 8), batR_eq n (by decide : 4 < 8), batR_eq n (by decide : 5 < 8), batR_eq n (by decide : 6 < 8), batR_eq n (by decide : 7 < 8)]) (by kernel_rfl)))

theorem u8_4 (w rd rs n : Int) : (T8 4 w rd rs n).bare = (bif (bif (cm .neq w 4) then (bif (cm .neq w 8) then true else (bif (!(bif (cm .geq rd 0) then (cm .leq rd 15) else false)) then true else (bif (!(bif (cm .geq rs 0) then (cm .leq rs 15) else false)) then true else (cm .neq n 0)))) else (bif (!(bif (cm .geq rd 0) then (cm .leq rd 15) else false)) then true else (bif (!(bif (cm .geq rs 0) then (cm .leq rs 15) else false)) then true else (cm .neq n 0)))) then .ret (.tup [.str ⟨#[]⟩, .int true .i64 1]) [] else .ret (.tup [(.str (strOf (nth [rexI w rs rd] 0) 1 ++ (ByteArray.mk #[1]) ++ strOf (nth [conv .u8 (ar .add .i64 (ar .add .i64 192 (ar .mul .i64 8 (ar .rem .i64 rs 8))) (ar .rem .i64 rd 8))] 0) 1)), .int true .i64 0]) []) :=
  (t8 4 w rd rs n).trans (by kernel_rfl)
attribute [local irreducible] evalF Lf.gives in
theorem ref8_4 (w rd rs n : Int) : (T8 4 w rd rs n).leaf.gives (.tup [.str (strX 4 w rd rs n), .int false .i64 (errX 4 w rd rs n)]) := by
  have hE : errX 4 w rd rs n = (bif (decide (w = 4) || decide (w = 8)) && ((true || decide (w = 0)) && (regX rd && (regX rs && decide (n = 0)))) then (bif ((true) || false) then 0 else 10) else 1) := by kernel_rfl
  refine gives_tree (u8_4 w rd rs n) ?_
  refine gives_cond (fun h1 => ?_) (fun h1 => ?_)
  · have hA : ((decide (w = 4) || decide (w = 8)) && ((true || decide (w = 0)) && (regX rd && (regX rs && decide (n = 0))))) = false := by
      simp [cms] at h1 ⊢
      first | done | omega | ((repeat' split at h1) <;> omega) | ((repeat' split at h1) <;> (repeat' split at h1) <;> omega) | skip
    have he : errX 4 w rd rs n = 1 := by rw [hE, hA]; rfl
    exact givesE (strX_bad he (by decide)) he.symm
  have hA : ((decide (w = 4) || decide (w = 8)) && ((true || decide (w = 0)) && (regX rd && (regX rs && decide (n = 0))))) = true := by
    simp [cms] at h1 ⊢
    first | done | omega | ((repeat' split at h1) <;> omega) | ((repeat' split at h1) <;> (repeat' split at h1) <;> omega) | skip
  have he : errX 4 w rd rs n = 0 := by rw [hE, hA]; rfl
  have hrd : small rd := by simp [regX] at hA; simp only [small]; omega
  have hrs : small rs := by simp [regX] at hA; simp only [small]; omega
  have hw : w = 4 ∨ w = 8 := by simp at hA; omega
  refine givesE ?_ he.symm
  rw [strX_ok he]
  refine Eq.trans (b := S [rexI w rs rd] ++ S [1] ++ S [modR 192 rs rd]) (by kernel_rfl) ?_
  simp only [S_append]
  exact congrArg S (Eq.trans (b := [rexI w rs rd, 1, modR 192 rs rd]) (by rfl) (Eq.trans (b := [rexI w rs rd, 1, modI 192 rs rd]) (by rw [modR_eq (.inl rfl) hrs hrd]) (by kernel_rfl)))

theorem u8_5 (w rd rs n : Int) : (T8 5 w rd rs n).bare = (bif (bif (cm .neq w 4) then (bif (cm .neq w 8) then true else (bif (!(bif (cm .geq rd 0) then (cm .leq rd 15) else false)) then true else (bif (!(bif (cm .geq rs 0) then (cm .leq rs 15) else false)) then true else (cm .neq n 0)))) else (bif (!(bif (cm .geq rd 0) then (cm .leq rd 15) else false)) then true else (bif (!(bif (cm .geq rs 0) then (cm .leq rs 15) else false)) then true else (cm .neq n 0)))) then .ret (.tup [.str ⟨#[]⟩, .int true .i64 1]) [] else .ret (.tup [(.str (strOf (nth [rexI w rs rd] 0) 1 ++ (ByteArray.mk #[41]) ++ strOf (nth [conv .u8 (ar .add .i64 (ar .add .i64 192 (ar .mul .i64 8 (ar .rem .i64 rs 8))) (ar .rem .i64 rd 8))] 0) 1)), .int true .i64 0]) []) :=
  (t8 5 w rd rs n).trans (by kernel_rfl)
attribute [local irreducible] evalF Lf.gives in
theorem ref8_5 (w rd rs n : Int) : (T8 5 w rd rs n).leaf.gives (.tup [.str (strX 5 w rd rs n), .int false .i64 (errX 5 w rd rs n)]) := by
  have hE : errX 5 w rd rs n = (bif (decide (w = 4) || decide (w = 8)) && ((true || decide (w = 0)) && (regX rd && (regX rs && decide (n = 0)))) then (bif ((true) || false) then 0 else 10) else 1) := by kernel_rfl
  refine gives_tree (u8_5 w rd rs n) ?_
  refine gives_cond (fun h1 => ?_) (fun h1 => ?_)
  · have hA : ((decide (w = 4) || decide (w = 8)) && ((true || decide (w = 0)) && (regX rd && (regX rs && decide (n = 0))))) = false := by
      simp [cms] at h1 ⊢
      first | done | omega | ((repeat' split at h1) <;> omega) | ((repeat' split at h1) <;> (repeat' split at h1) <;> omega) | skip
    have he : errX 5 w rd rs n = 1 := by rw [hE, hA]; rfl
    exact givesE (strX_bad he (by decide)) he.symm
  have hA : ((decide (w = 4) || decide (w = 8)) && ((true || decide (w = 0)) && (regX rd && (regX rs && decide (n = 0))))) = true := by
    simp [cms] at h1 ⊢
    first | done | omega | ((repeat' split at h1) <;> omega) | ((repeat' split at h1) <;> (repeat' split at h1) <;> omega) | skip
  have he : errX 5 w rd rs n = 0 := by rw [hE, hA]; rfl
  have hrd : small rd := by simp [regX] at hA; simp only [small]; omega
  have hrs : small rs := by simp [regX] at hA; simp only [small]; omega
  have hw : w = 4 ∨ w = 8 := by simp at hA; omega
  refine givesE ?_ he.symm
  rw [strX_ok he]
  refine Eq.trans (b := S [rexI w rs rd] ++ S [41] ++ S [modR 192 rs rd]) (by kernel_rfl) ?_
  simp only [S_append]
  exact congrArg S (Eq.trans (b := [rexI w rs rd, 41, modR 192 rs rd]) (by rfl) (Eq.trans (b := [rexI w rs rd, 41, modI 192 rs rd]) (by rw [modR_eq (.inl rfl) hrs hrd]) (by kernel_rfl)))

theorem u8_6 (w rd rs n : Int) : (T8 6 w rd rs n).bare = (bif (bif (cm .neq w 4) then (bif (cm .neq w 8) then true else (bif (!(bif (cm .geq rd 0) then (cm .leq rd 15) else false)) then true else (bif (!(bif (cm .geq rs 0) then (cm .leq rs 15) else false)) then true else (cm .neq n 0)))) else (bif (!(bif (cm .geq rd 0) then (cm .leq rd 15) else false)) then true else (bif (!(bif (cm .geq rs 0) then (cm .leq rs 15) else false)) then true else (cm .neq n 0)))) then .ret (.tup [.str ⟨#[]⟩, .int true .i64 1]) [] else .ret (.tup [(.str (strOf (nth [rexI w rs rd] 0) 1 ++ (ByteArray.mk #[33]) ++ strOf (nth [conv .u8 (ar .add .i64 (ar .add .i64 192 (ar .mul .i64 8 (ar .rem .i64 rs 8))) (ar .rem .i64 rd 8))] 0) 1)), .int true .i64 0]) []) :=
  (t8 6 w rd rs n).trans (by kernel_rfl)
attribute [local irreducible] evalF Lf.gives in
theorem ref8_6 (w rd rs n : Int) : (T8 6 w rd rs n).leaf.gives (.tup [.str (strX 6 w rd rs n), .int false .i64 (errX 6 w rd rs n)]) := by
  have hE : errX 6 w rd rs n = (bif (decide (w = 4) || decide (w = 8)) && ((true || decide (w = 0)) && (regX rd && (regX rs && decide (n = 0)))) then (bif ((true) || false) then 0 else 10) else 1) := by kernel_rfl
  refine gives_tree (u8_6 w rd rs n) ?_
  refine gives_cond (fun h1 => ?_) (fun h1 => ?_)
  · have hA : ((decide (w = 4) || decide (w = 8)) && ((true || decide (w = 0)) && (regX rd && (regX rs && decide (n = 0))))) = false := by
      simp [cms] at h1 ⊢
      first | done | omega | ((repeat' split at h1) <;> omega) | ((repeat' split at h1) <;> (repeat' split at h1) <;> omega) | skip
    have he : errX 6 w rd rs n = 1 := by rw [hE, hA]; rfl
    exact givesE (strX_bad he (by decide)) he.symm
  have hA : ((decide (w = 4) || decide (w = 8)) && ((true || decide (w = 0)) && (regX rd && (regX rs && decide (n = 0))))) = true := by
    simp [cms] at h1 ⊢
    first | done | omega | ((repeat' split at h1) <;> omega) | ((repeat' split at h1) <;> (repeat' split at h1) <;> omega) | skip
  have he : errX 6 w rd rs n = 0 := by rw [hE, hA]; rfl
  have hrd : small rd := by simp [regX] at hA; simp only [small]; omega
  have hrs : small rs := by simp [regX] at hA; simp only [small]; omega
  have hw : w = 4 ∨ w = 8 := by simp at hA; omega
  refine givesE ?_ he.symm
  rw [strX_ok he]
  refine Eq.trans (b := S [rexI w rs rd] ++ S [33] ++ S [modR 192 rs rd]) (by kernel_rfl) ?_
  simp only [S_append]
  exact congrArg S (Eq.trans (b := [rexI w rs rd, 33, modR 192 rs rd]) (by rfl) (Eq.trans (b := [rexI w rs rd, 33, modI 192 rs rd]) (by rw [modR_eq (.inl rfl) hrs hrd]) (by kernel_rfl)))

theorem u8_7 (w rd rs n : Int) : (T8 7 w rd rs n).bare = (bif (bif (cm .neq w 4) then (bif (cm .neq w 8) then true else (bif (!(bif (cm .geq rd 0) then (cm .leq rd 15) else false)) then true else (bif (!(bif (cm .geq rs 0) then (cm .leq rs 15) else false)) then true else (cm .neq n 0)))) else (bif (!(bif (cm .geq rd 0) then (cm .leq rd 15) else false)) then true else (bif (!(bif (cm .geq rs 0) then (cm .leq rs 15) else false)) then true else (cm .neq n 0)))) then .ret (.tup [.str ⟨#[]⟩, .int true .i64 1]) [] else .ret (.tup [(.str (strOf (nth [rexI w rs rd] 0) 1 ++ (ByteArray.mk #[9]) ++ strOf (nth [conv .u8 (ar .add .i64 (ar .add .i64 192 (ar .mul .i64 8 (ar .rem .i64 rs 8))) (ar .rem .i64 rd 8))] 0) 1)), .int true .i64 0]) []) :=
  (t8 7 w rd rs n).trans (by kernel_rfl)
attribute [local irreducible] evalF Lf.gives in
theorem ref8_7 (w rd rs n : Int) : (T8 7 w rd rs n).leaf.gives (.tup [.str (strX 7 w rd rs n), .int false .i64 (errX 7 w rd rs n)]) := by
  have hE : errX 7 w rd rs n = (bif (decide (w = 4) || decide (w = 8)) && ((true || decide (w = 0)) && (regX rd && (regX rs && decide (n = 0)))) then (bif ((true) || false) then 0 else 10) else 1) := by kernel_rfl
  refine gives_tree (u8_7 w rd rs n) ?_
  refine gives_cond (fun h1 => ?_) (fun h1 => ?_)
  · have hA : ((decide (w = 4) || decide (w = 8)) && ((true || decide (w = 0)) && (regX rd && (regX rs && decide (n = 0))))) = false := by
      simp [cms] at h1 ⊢
      first | done | omega | ((repeat' split at h1) <;> omega) | ((repeat' split at h1) <;> (repeat' split at h1) <;> omega) | skip
    have he : errX 7 w rd rs n = 1 := by rw [hE, hA]; rfl
    exact givesE (strX_bad he (by decide)) he.symm
  have hA : ((decide (w = 4) || decide (w = 8)) && ((true || decide (w = 0)) && (regX rd && (regX rs && decide (n = 0))))) = true := by
    simp [cms] at h1 ⊢
    first | done | omega | ((repeat' split at h1) <;> omega) | ((repeat' split at h1) <;> (repeat' split at h1) <;> omega) | skip
  have he : errX 7 w rd rs n = 0 := by rw [hE, hA]; rfl
  have hrd : small rd := by simp [regX] at hA; simp only [small]; omega
  have hrs : small rs := by simp [regX] at hA; simp only [small]; omega
  have hw : w = 4 ∨ w = 8 := by simp at hA; omega
  refine givesE ?_ he.symm
  rw [strX_ok he]
  refine Eq.trans (b := S [rexI w rs rd] ++ S [9] ++ S [modR 192 rs rd]) (by kernel_rfl) ?_
  simp only [S_append]
  exact congrArg S (Eq.trans (b := [rexI w rs rd, 9, modR 192 rs rd]) (by rfl) (Eq.trans (b := [rexI w rs rd, 9, modI 192 rs rd]) (by rw [modR_eq (.inl rfl) hrs hrd]) (by kernel_rfl)))

theorem u8_8 (w rd rs n : Int) : (T8 8 w rd rs n).bare = (bif (bif (cm .neq w 4) then (bif (cm .neq w 8) then true else (bif (!(bif (cm .geq rd 0) then (cm .leq rd 15) else false)) then true else (bif (!(bif (cm .geq rs 0) then (cm .leq rs 15) else false)) then true else (cm .neq n 0)))) else (bif (!(bif (cm .geq rd 0) then (cm .leq rd 15) else false)) then true else (bif (!(bif (cm .geq rs 0) then (cm .leq rs 15) else false)) then true else (cm .neq n 0)))) then .ret (.tup [.str ⟨#[]⟩, .int true .i64 1]) [] else .ret (.tup [(.str (strOf (nth [rexI w rs rd] 0) 1 ++ (ByteArray.mk #[49]) ++ strOf (nth [conv .u8 (ar .add .i64 (ar .add .i64 192 (ar .mul .i64 8 (ar .rem .i64 rs 8))) (ar .rem .i64 rd 8))] 0) 1)), .int true .i64 0]) []) :=
  (t8 8 w rd rs n).trans (by kernel_rfl)
attribute [local irreducible] evalF Lf.gives in
theorem ref8_8 (w rd rs n : Int) : (T8 8 w rd rs n).leaf.gives (.tup [.str (strX 8 w rd rs n), .int false .i64 (errX 8 w rd rs n)]) := by
  have hE : errX 8 w rd rs n = (bif (decide (w = 4) || decide (w = 8)) && ((true || decide (w = 0)) && (regX rd && (regX rs && decide (n = 0)))) then (bif ((true) || false) then 0 else 10) else 1) := by kernel_rfl
  refine gives_tree (u8_8 w rd rs n) ?_
  refine gives_cond (fun h1 => ?_) (fun h1 => ?_)
  · have hA : ((decide (w = 4) || decide (w = 8)) && ((true || decide (w = 0)) && (regX rd && (regX rs && decide (n = 0))))) = false := by
      simp [cms] at h1 ⊢
      first | done | omega | ((repeat' split at h1) <;> omega) | ((repeat' split at h1) <;> (repeat' split at h1) <;> omega) | skip
    have he : errX 8 w rd rs n = 1 := by rw [hE, hA]; rfl
    exact givesE (strX_bad he (by decide)) he.symm
  have hA : ((decide (w = 4) || decide (w = 8)) && ((true || decide (w = 0)) && (regX rd && (regX rs && decide (n = 0))))) = true := by
    simp [cms] at h1 ⊢
    first | done | omega | ((repeat' split at h1) <;> omega) | ((repeat' split at h1) <;> (repeat' split at h1) <;> omega) | skip
  have he : errX 8 w rd rs n = 0 := by rw [hE, hA]; rfl
  have hrd : small rd := by simp [regX] at hA; simp only [small]; omega
  have hrs : small rs := by simp [regX] at hA; simp only [small]; omega
  have hw : w = 4 ∨ w = 8 := by simp at hA; omega
  refine givesE ?_ he.symm
  rw [strX_ok he]
  refine Eq.trans (b := S [rexI w rs rd] ++ S [49] ++ S [modR 192 rs rd]) (by kernel_rfl) ?_
  simp only [S_append]
  exact congrArg S (Eq.trans (b := [rexI w rs rd, 49, modR 192 rs rd]) (by rfl) (Eq.trans (b := [rexI w rs rd, 49, modI 192 rs rd]) (by rw [modR_eq (.inl rfl) hrs hrd]) (by kernel_rfl)))

theorem u8_9 (w rd rs n : Int) : (T8 9 w rd rs n).bare = (bif (bif (cm .neq w 4) then (bif (cm .neq w 8) then true else (bif (!(bif (cm .geq rd 0) then (cm .leq rd 15) else false)) then true else (bif (!(bif (cm .geq rs 0) then (cm .leq rs 15) else false)) then true else (cm .neq n 0)))) else (bif (!(bif (cm .geq rd 0) then (cm .leq rd 15) else false)) then true else (bif (!(bif (cm .geq rs 0) then (cm .leq rs 15) else false)) then true else (cm .neq n 0)))) then .ret (.tup [.str ⟨#[]⟩, .int true .i64 1]) [] else .ret (.tup [(.str (strOf (nth [rexI w rs rd] 0) 1 ++ (ByteArray.mk #[57]) ++ strOf (nth [conv .u8 (ar .add .i64 (ar .add .i64 192 (ar .mul .i64 8 (ar .rem .i64 rs 8))) (ar .rem .i64 rd 8))] 0) 1)), .int true .i64 0]) []) :=
  (t8 9 w rd rs n).trans (by kernel_rfl)
attribute [local irreducible] evalF Lf.gives in
theorem ref8_9 (w rd rs n : Int) : (T8 9 w rd rs n).leaf.gives (.tup [.str (strX 9 w rd rs n), .int false .i64 (errX 9 w rd rs n)]) := by
  have hE : errX 9 w rd rs n = (bif (decide (w = 4) || decide (w = 8)) && ((true || decide (w = 0)) && (regX rd && (regX rs && decide (n = 0)))) then (bif ((true) || false) then 0 else 10) else 1) := by kernel_rfl
  refine gives_tree (u8_9 w rd rs n) ?_
  refine gives_cond (fun h1 => ?_) (fun h1 => ?_)
  · have hA : ((decide (w = 4) || decide (w = 8)) && ((true || decide (w = 0)) && (regX rd && (regX rs && decide (n = 0))))) = false := by
      simp [cms] at h1 ⊢
      first | done | omega | ((repeat' split at h1) <;> omega) | ((repeat' split at h1) <;> (repeat' split at h1) <;> omega) | skip
    have he : errX 9 w rd rs n = 1 := by rw [hE, hA]; rfl
    exact givesE (strX_bad he (by decide)) he.symm
  have hA : ((decide (w = 4) || decide (w = 8)) && ((true || decide (w = 0)) && (regX rd && (regX rs && decide (n = 0))))) = true := by
    simp [cms] at h1 ⊢
    first | done | omega | ((repeat' split at h1) <;> omega) | ((repeat' split at h1) <;> (repeat' split at h1) <;> omega) | skip
  have he : errX 9 w rd rs n = 0 := by rw [hE, hA]; rfl
  have hrd : small rd := by simp [regX] at hA; simp only [small]; omega
  have hrs : small rs := by simp [regX] at hA; simp only [small]; omega
  have hw : w = 4 ∨ w = 8 := by simp at hA; omega
  refine givesE ?_ he.symm
  rw [strX_ok he]
  refine Eq.trans (b := S [rexI w rs rd] ++ S [57] ++ S [modR 192 rs rd]) (by kernel_rfl) ?_
  simp only [S_append]
  exact congrArg S (Eq.trans (b := [rexI w rs rd, 57, modR 192 rs rd]) (by rfl) (Eq.trans (b := [rexI w rs rd, 57, modI 192 rs rd]) (by rw [modR_eq (.inl rfl) hrs hrd]) (by kernel_rfl)))

theorem u8_10 (w rd rs n : Int) : (T8 10 w rd rs n).bare = (bif (bif (cm .neq w 4) then (bif (cm .neq w 8) then true else (bif (!(bif (cm .geq rd 0) then (cm .leq rd 15) else false)) then true else (bif (!(bif (cm .geq rs 0) then (cm .leq rs 15) else false)) then true else (cm .neq n 0)))) else (bif (!(bif (cm .geq rd 0) then (cm .leq rd 15) else false)) then true else (bif (!(bif (cm .geq rs 0) then (cm .leq rs 15) else false)) then true else (cm .neq n 0)))) then .ret (.tup [.str ⟨#[]⟩, .int true .i64 1]) [] else .ret (.tup [(.str (strOf (nth [rexI w rd rs] 0) 1 ++ (ByteArray.mk #[15, 175]) ++ strOf (nth [conv .u8 (ar .add .i64 (ar .add .i64 192 (ar .mul .i64 8 (ar .rem .i64 rd 8))) (ar .rem .i64 rs 8))] 0) 1)), .int true .i64 0]) []) :=
  (t8 10 w rd rs n).trans (by kernel_rfl)
attribute [local irreducible] evalF Lf.gives in
theorem ref8_10 (w rd rs n : Int) : (T8 10 w rd rs n).leaf.gives (.tup [.str (strX 10 w rd rs n), .int false .i64 (errX 10 w rd rs n)]) := by
  have hE : errX 10 w rd rs n = (bif (decide (w = 4) || decide (w = 8)) && ((true || decide (w = 0)) && (regX rd && (regX rs && decide (n = 0)))) then (bif ((true) || false) then 0 else 10) else 1) := by kernel_rfl
  refine gives_tree (u8_10 w rd rs n) ?_
  refine gives_cond (fun h1 => ?_) (fun h1 => ?_)
  · have hA : ((decide (w = 4) || decide (w = 8)) && ((true || decide (w = 0)) && (regX rd && (regX rs && decide (n = 0))))) = false := by
      simp [cms] at h1 ⊢
      first | done | omega | ((repeat' split at h1) <;> omega) | ((repeat' split at h1) <;> (repeat' split at h1) <;> omega) | skip
    have he : errX 10 w rd rs n = 1 := by rw [hE, hA]; rfl
    exact givesE (strX_bad he (by decide)) he.symm
  have hA : ((decide (w = 4) || decide (w = 8)) && ((true || decide (w = 0)) && (regX rd && (regX rs && decide (n = 0))))) = true := by
    simp [cms] at h1 ⊢
    first | done | omega | ((repeat' split at h1) <;> omega) | ((repeat' split at h1) <;> (repeat' split at h1) <;> omega) | skip
  have he : errX 10 w rd rs n = 0 := by rw [hE, hA]; rfl
  have hrd : small rd := by simp [regX] at hA; simp only [small]; omega
  have hrs : small rs := by simp [regX] at hA; simp only [small]; omega
  have hw : w = 4 ∨ w = 8 := by simp at hA; omega
  refine givesE ?_ he.symm
  rw [strX_ok he]
  refine Eq.trans (b := S [rexI w rd rs] ++ S [15, 175] ++ S [modR 192 rd rs]) (by kernel_rfl) ?_
  simp only [S_append]
  exact congrArg S (Eq.trans (b := [rexI w rd rs, 15, 175, modR 192 rd rs]) (by rfl) (Eq.trans (b := [rexI w rd rs, 15, 175, modI 192 rd rs]) (by rw [modR_eq (.inl rfl) hrd hrs]) (by kernel_rfl)))

theorem u8_11 (w rd rs n : Int) : (T8 11 w rd rs n).bare = (bif (bif (cm .neq w 4) then (bif (cm .neq w 8) then true else (bif (!(bif (cm .geq rd 0) then (cm .leq rd 15) else false)) then true else (bif (!(bif (cm .geq rs 0) then (cm .leq rs 15) else false)) then true else (bif (cm .neq rs 0) then true else (cm .neq n 0))))) else (bif (!(bif (cm .geq rd 0) then (cm .leq rd 15) else false)) then true else (bif (!(bif (cm .geq rs 0) then (cm .leq rs 15) else false)) then true else (bif (cm .neq rs 0) then true else (cm .neq n 0))))) then .ret (.tup [.str ⟨#[]⟩, .int true .i64 1]) [] else .ret (.tup [(.str (strOf (nth [rexI w 0 rd] 0) 1 ++ (ByteArray.mk #[247]) ++ strOf (nth [conv .u8 (ar .add .i64 (ar .add .i64 192 (ar .mul .i64 8 (ar .rem .i64 3 8))) (ar .rem .i64 rd 8))] 0) 1 ++ strOf (batR n) (Int.toNat 0))), .int true .i64 0]) []) :=
  (t8 11 w rd rs n).trans (by kernel_rfl)
attribute [local irreducible] evalF Lf.gives in
theorem ref8_11 (w rd rs n : Int) : (T8 11 w rd rs n).leaf.gives (.tup [.str (strX 11 w rd rs n), .int false .i64 (errX 11 w rd rs n)]) := by
  have hE : errX 11 w rd rs n = (bif (decide (w = 4) || decide (w = 8)) && ((true || decide (w = 0)) && (regX rd && (decide (rs = 0) && (false || decide (n = 0))))) then (bif ((true) || false) then 0 else 10) else 1) := by kernel_rfl
  refine gives_tree (u8_11 w rd rs n) ?_
  refine gives_cond (fun h1 => ?_) (fun h1 => ?_)
  · have hA : ((decide (w = 4) || decide (w = 8)) && ((true || decide (w = 0)) && (regX rd && (decide (rs = 0) && (false || decide (n = 0)))))) = false := by
      simp [cms] at h1 ⊢
      first | done | omega | ((repeat' split at h1) <;> omega) | ((repeat' split at h1) <;> (repeat' split at h1) <;> omega) | skip
    have he : errX 11 w rd rs n = 1 := by rw [hE, hA]; rfl
    exact givesE (strX_bad he (by decide)) he.symm
  have hA : ((decide (w = 4) || decide (w = 8)) && ((true || decide (w = 0)) && (regX rd && (decide (rs = 0) && (false || decide (n = 0)))))) = true := by
    simp [cms] at h1 ⊢
    first | done | omega | ((repeat' split at h1) <;> omega) | ((repeat' split at h1) <;> (repeat' split at h1) <;> omega) | skip
  have he : errX 11 w rd rs n = 0 := by rw [hE, hA]; rfl
  have hrd : small rd := by simp [regX] at hA; simp only [small]; omega
  have hw : w = 4 ∨ w = 8 := by simp at hA; omega
  refine givesE ?_ he.symm
  rw [strX_ok he]
  refine Eq.trans (b := S [rexI w 0 rd] ++ S [247] ++ S [modR 192 3 rd] ++ S []) (by kernel_rfl) ?_
  simp only [S_append]
  exact congrArg S (Eq.trans (b := [rexI w 0 rd, 247, modR 192 3 rd]) (by rfl) (Eq.trans (b := [rexI w 0 rd, 247, modI 192 3 rd]) (by rw [modR_eq (.inl rfl) (by decide : small 3) hrd]) (by kernel_rfl)))

theorem u8_12 (w rd rs n : Int) : (T8 12 w rd rs n).bare = (bif (bif (cm .neq w 4) then (bif (cm .neq w 8) then true else (bif (!(bif (cm .geq rd 0) then (cm .leq rd 15) else false)) then true else (bif (!(bif (cm .geq rs 0) then (cm .leq rs 15) else false)) then true else (bif (cm .neq rs 0) then true else (cm .neq n 0))))) else (bif (!(bif (cm .geq rd 0) then (cm .leq rd 15) else false)) then true else (bif (!(bif (cm .geq rs 0) then (cm .leq rs 15) else false)) then true else (bif (cm .neq rs 0) then true else (cm .neq n 0))))) then .ret (.tup [.str ⟨#[]⟩, .int true .i64 1]) [] else .ret (.tup [(.str (strOf (nth [rexI w 0 rd] 0) 1 ++ (ByteArray.mk #[247]) ++ strOf (nth [conv .u8 (ar .add .i64 (ar .add .i64 192 (ar .mul .i64 8 (ar .rem .i64 2 8))) (ar .rem .i64 rd 8))] 0) 1 ++ strOf (batR n) (Int.toNat 0))), .int true .i64 0]) []) :=
  (t8 12 w rd rs n).trans (by kernel_rfl)
attribute [local irreducible] evalF Lf.gives in
theorem ref8_12 (w rd rs n : Int) : (T8 12 w rd rs n).leaf.gives (.tup [.str (strX 12 w rd rs n), .int false .i64 (errX 12 w rd rs n)]) := by
  have hE : errX 12 w rd rs n = (bif (decide (w = 4) || decide (w = 8)) && ((true || decide (w = 0)) && (regX rd && (decide (rs = 0) && (false || decide (n = 0))))) then (bif ((true) || false) then 0 else 10) else 1) := by kernel_rfl
  refine gives_tree (u8_12 w rd rs n) ?_
  refine gives_cond (fun h1 => ?_) (fun h1 => ?_)
  · have hA : ((decide (w = 4) || decide (w = 8)) && ((true || decide (w = 0)) && (regX rd && (decide (rs = 0) && (false || decide (n = 0)))))) = false := by
      simp [cms] at h1 ⊢
      first | done | omega | ((repeat' split at h1) <;> omega) | ((repeat' split at h1) <;> (repeat' split at h1) <;> omega) | skip
    have he : errX 12 w rd rs n = 1 := by rw [hE, hA]; rfl
    exact givesE (strX_bad he (by decide)) he.symm
  have hA : ((decide (w = 4) || decide (w = 8)) && ((true || decide (w = 0)) && (regX rd && (decide (rs = 0) && (false || decide (n = 0)))))) = true := by
    simp [cms] at h1 ⊢
    first | done | omega | ((repeat' split at h1) <;> omega) | ((repeat' split at h1) <;> (repeat' split at h1) <;> omega) | skip
  have he : errX 12 w rd rs n = 0 := by rw [hE, hA]; rfl
  have hrd : small rd := by simp [regX] at hA; simp only [small]; omega
  have hw : w = 4 ∨ w = 8 := by simp at hA; omega
  refine givesE ?_ he.symm
  rw [strX_ok he]
  refine Eq.trans (b := S [rexI w 0 rd] ++ S [247] ++ S [modR 192 2 rd] ++ S []) (by kernel_rfl) ?_
  simp only [S_append]
  exact congrArg S (Eq.trans (b := [rexI w 0 rd, 247, modR 192 2 rd]) (by rfl) (Eq.trans (b := [rexI w 0 rd, 247, modI 192 2 rd]) (by rw [modR_eq (.inl rfl) (by decide : small 2) hrd]) (by kernel_rfl)))

end Go.X
end

section
set_option linter.unusedVariables false
open Go Go.Ev Go.Proofs
namespace Go.X

theorem u8_13 (w rd rs n : Int) : (T8 13 w rd rs n).bare = (bif (bif (cm .neq w 4) then (bif (cm .neq w 8) then true else (bif (!(bif (cm .geq rd 0) then (cm .leq rd 15) else false)) then true else (bif (!(bif (cm .geq rs 0) then (cm .leq rs 15) else false)) then true else (bif (cm .neq rs 0) then true else (cm .neq n 0))))) else (bif (!(bif (cm .geq rd 0) then (cm .leq rd 15) else false)) then true else (bif (!(bif (cm .geq rs 0) then (cm .leq rs 15) else false)) then true else (bif (cm .neq rs 0) then true else (cm .neq n 0))))) then .ret (.tup [.str ⟨#[]⟩, .int true .i64 1]) [] else .ret (.tup [(.str (strOf (nth [rexI w 0 rd] 0) 1 ++ (ByteArray.mk #[247]) ++ strOf (nth [conv .u8 (ar .add .i64 (ar .add .i64 192 (ar .mul .i64 8 (ar .rem .i64 7 8))) (ar .rem .i64 rd 8))] 0) 1 ++ strOf (batR n) (Int.toNat 0))), .int true .i64 0]) []) :=
  (t8 13 w rd rs n).trans (by kernel_rfl)
attribute [local irreducible] evalF Lf.gives in
theorem ref8_13 (w rd rs n : Int) : (T8 13 w rd rs n).leaf.gives (.tup [.str (strX 13 w rd rs n), .int false .i64 (errX 13 w rd rs n)]) := by
  have hE : errX 13 w rd rs n = (bif (decide (w = 4) || decide (w = 8)) && ((true || decide (w = 0)) && (regX rd && (decide (rs = 0) && (false || decide (n = 0))))) then (bif ((true) || false) then 0 else 10) else 1) := by kernel_rfl
  refine gives_tree (u8_13 w rd rs n) ?_
  refine gives_cond (fun h1 => ?_) (fun h1 => ?_)
  · have hA : ((decide (w = 4) || decide (w = 8)) && ((true || decide (w = 0)) && (regX rd && (decide (rs = 0) && (false || decide (n = 0)))))) = false := by
      simp [cms] at h1 ⊢
      first | done | omega | ((repeat' split at h1) <;> omega) | ((repeat' split at h1) <;> (repeat' split at h1) <;> omega) | skip
    have he : errX 13 w rd rs n = 1 := by rw [hE, hA]; rfl
    exact givesE (strX_bad he (by decide)) he.symm
  have hA : ((decide (w = 4) || decide (w = 8)) && ((true || decide (w = 0)) && (regX rd && (decide (rs = 0) && (false || decide (n = 0)))))) = true := by
    simp [cms] at h1 ⊢
    first | done | omega | ((repeat' split at h1) <;> omega) | ((repeat' split at h1) <;> (repeat' split at h1) <;> omega) | skip
  have he : errX 13 w rd rs n = 0 := by rw [hE, hA]; rfl
  have hrd : small rd := by simp [regX] at hA; simp only [small]; omega
  have hw : w = 4 ∨ w = 8 := by simp at hA; omega
  refine givesE ?_ he.symm
  rw [strX_ok he]
  refine Eq.trans (b := S [rexI w 0 rd] ++ S [247] ++ S [modR 192 7 rd] ++ S []) (by kernel_rfl) ?_
  simp only [S_append]
  exact congrArg S (Eq.trans (b := [rexI w 0 rd, 247, modR 192 7 rd]) (by rfl) (Eq.trans (b := [rexI w 0 rd, 247, modI 192 7 rd]) (by rw [modR_eq (.inl rfl) (by decide : small 7) hrd]) (by kernel_rfl)))

theorem u8_14 (w rd rs n : Int) : (T8 14 w rd rs n).bare = (bif (bif (cm .neq w 4) then (bif (cm .neq w 8) then true else (bif (!(bif (cm .geq rd 0) then (cm .leq rd 15) else false)) then true else (bif (!(bif (cm .geq rs 0) then (cm .leq rs 15) else false)) then true else (bif (cm .neq rs 0) then true else (cm .neq n 0))))) else (bif (!(bif (cm .geq rd 0) then (cm .leq rd 15) else false)) then true else (bif (!(bif (cm .geq rs 0) then (cm .leq rs 15) else false)) then true else (bif (cm .neq rs 0) then true else (cm .neq n 0))))) then .ret (.tup [.str ⟨#[]⟩, .int true .i64 1]) [] else .ret (.tup [(.str (strOf (nth [rexI w 0 rd] 0) 1 ++ (ByteArray.mk #[247]) ++ strOf (nth [conv .u8 (ar .add .i64 (ar .add .i64 192 (ar .mul .i64 8 (ar .rem .i64 6 8))) (ar .rem .i64 rd 8))] 0) 1 ++ strOf (batR n) (Int.toNat 0))), .int true .i64 0]) []) :=
  (t8 14 w rd rs n).trans (by kernel_rfl)
attribute [local irreducible] evalF Lf.gives in
theorem ref8_14 (w rd rs n : Int) : (T8 14 w rd rs n).leaf.gives (.tup [.str (strX 14 w rd rs n), .int false .i64 (errX 14 w rd rs n)]) := by
  have hE : errX 14 w rd rs n = (bif (decide (w = 4) || decide (w = 8)) && ((true || decide (w = 0)) && (regX rd && (decide (rs = 0) && (false || decide (n = 0))))) then (bif ((true) || false) then 0 else 10) else 1) := by kernel_rfl
  refine gives_tree (u8_14 w rd rs n) ?_
  refine gives_cond (fun h1 => ?_) (fun h1 => ?_)
  · have hA : ((decide (w = 4) || decide (w = 8)) && ((true || decide (w = 0)) && (regX rd && (decide (rs = 0) && (false || decide (n = 0)))))) = false := by
      simp [cms] at h1 ⊢
      first | done | omega | ((repeat' split at h1) <;> omega) | ((repeat' split at h1) <;> (repeat' split at h1) <;> omega) | skip
    have he : errX 14 w rd rs n = 1 := by rw [hE, hA]; rfl
    exact givesE (strX_bad he (by decide)) he.symm
  have hA : ((decide (w = 4) || decide (w = 8)) && ((true || decide (w = 0)) && (regX rd && (decide (rs = 0) && (false || decide (n = 0)))))) = true := by
    simp [cms] at h1 ⊢
    first | done | omega | ((repeat' split at h1) <;> omega) | ((repeat' split at h1) <;> (repeat' split at h1) <;> omega) | skip
  have he : errX 14 w rd rs n = 0 := by rw [hE, hA]; rfl
  have hrd : small rd := by simp [regX] at hA; simp only [small]; omega
  have hw : w = 4 ∨ w = 8 := by simp at hA; omega
  refine givesE ?_ he.symm
  rw [strX_ok he]
  refine Eq.trans (b := S [rexI w 0 rd] ++ S [247] ++ S [modR 192 6 rd] ++ S []) (by kernel_rfl) ?_
  simp only [S_append]
  exact congrArg S (Eq.trans (b := [rexI w 0 rd, 247, modR 192 6 rd]) (by rfl) (Eq.trans (b := [rexI w 0 rd, 247, modI 192 6 rd]) (by rw [modR_eq (.inl rfl) (by decide : small 6) hrd]) (by kernel_rfl)))

theorem u8_15 (w rd rs n : Int) : (T8 15 w rd rs n).bare = (bif (bif (cm .neq w 4) then (bif (cm .neq w 8) then true else (bif (!(bif (cm .geq rd 0) then (cm .leq rd 15) else false)) then true else (bif (!(bif (cm .geq rs 0) then (cm .leq rs 15) else false)) then true else (bif (cm .neq rs 0) then true else (cm .neq n 0))))) else (bif (!(bif (cm .geq rd 0) then (cm .leq rd 15) else false)) then true else (bif (!(bif (cm .geq rs 0) then (cm .leq rs 15) else false)) then true else (bif (cm .neq rs 0) then true else (cm .neq n 0))))) then .ret (.tup [.str ⟨#[]⟩, .int true .i64 1]) [] else .ret (.tup [(.str (strOf (nth [rexI w 0 rd] 0) 1 ++ (ByteArray.mk #[211]) ++ strOf (nth [conv .u8 (ar .add .i64 (ar .add .i64 192 (ar .mul .i64 8 (ar .rem .i64 4 8))) (ar .rem .i64 rd 8))] 0) 1 ++ strOf (batR n) (Int.toNat 0))), .int true .i64 0]) []) :=
  (t8 15 w rd rs n).trans (by kernel_rfl)
attribute [local irreducible] evalF Lf.gives in
theorem ref8_15 (w rd rs n : Int) : (T8 15 w rd rs n).leaf.gives (.tup [.str (strX 15 w rd rs n), .int false .i64 (errX 15 w rd rs n)]) := by
  have hE : errX 15 w rd rs n = (bif (decide (w = 4) || decide (w = 8)) && ((true || decide (w = 0)) && (regX rd && (decide (rs = 0) && (false || decide (n = 0))))) then (bif ((true) || false) then 0 else 10) else 1) := by kernel_rfl
  refine gives_tree (u8_15 w rd rs n) ?_
  refine gives_cond (fun h1 => ?_) (fun h1 => ?_)
  · have hA : ((decide (w = 4) || decide (w = 8)) && ((true || decide (w = 0)) && (regX rd && (decide (rs = 0) && (false || decide (n = 0)))))) = false := by
      simp [cms] at h1 ⊢
      first | done | omega | ((repeat' split at h1) <;> omega) | ((repeat' split at h1) <;> (repeat' split at h1) <;> omega) | skip
    have he : errX 15 w rd rs n = 1 := by rw [hE, hA]; rfl
    exact givesE (strX_bad he (by decide)) he.symm
  have hA : ((decide (w = 4) || decide (w = 8)) && ((true || decide (w = 0)) && (regX rd && (decide (rs = 0) && (false || decide (n = 0)))))) = true := by
    simp [cms] at h1 ⊢
    first | done | omega | ((repeat' split at h1) <;> omega) | ((repeat' split at h1) <;> (repeat' split at h1) <;> omega) | skip
  have he : errX 15 w rd rs n = 0 := by rw [hE, hA]; rfl
  have hrd : small rd := by simp [regX] at hA; simp only [small]; omega
  have hw : w = 4 ∨ w = 8 := by simp at hA; omega
  refine givesE ?_ he.symm
  rw [strX_ok he]
  refine Eq.trans (b := S [rexI w 0 rd] ++ S [211] ++ S [modR 192 4 rd] ++ S []) (by kernel_rfl) ?_
  simp only [S_append]
  exact congrArg S (Eq.trans (b := [rexI w 0 rd, 211, modR 192 4 rd]) (by rfl) (Eq.trans (b := [rexI w 0 rd, 211, modI 192 4 rd]) (by rw [modR_eq (.inl rfl) (by decide : small 4) hrd]) (by kernel_rfl)))

theorem u8_16 (w rd rs n : Int) : (T8 16 w rd rs n).bare = (bif (bif (cm .neq w 4) then (bif (cm .neq w 8) then true else (bif (!(bif (cm .geq rd 0) then (cm .leq rd 15) else false)) then true else (bif (!(bif (cm .geq rs 0) then (cm .leq rs 15) else false)) then true else (bif (cm .neq rs 0) then true else (cm .neq n 0))))) else (bif (!(bif (cm .geq rd 0) then (cm .leq rd 15) else false)) then true else (bif (!(bif (cm .geq rs 0) then (cm .leq rs 15) else false)) then true else (bif (cm .neq rs 0) then true else (cm .neq n 0))))) then .ret (.tup [.str ⟨#[]⟩, .int true .i64 1]) [] else .ret (.tup [(.str (strOf (nth [rexI w 0 rd] 0) 1 ++ (ByteArray.mk #[211]) ++ strOf (nth [conv .u8 (ar .add .i64 (ar .add .i64 192 (ar .mul .i64 8 (ar .rem .i64 5 8))) (ar .rem .i64 rd 8))] 0) 1 ++ strOf (batR n) (Int.toNat 0))), .int true .i64 0]) []) :=
  (t8 16 w rd rs n).trans (by kernel_rfl)
attribute [local irreducible] evalF Lf.gives in
theorem ref8_16 (w rd rs n : Int) : (T8 16 w rd rs n).leaf.gives (.tup [.str (strX 16 w rd rs n), .int false .i64 (errX 16 w rd rs n)]) := by
  have hE : errX 16 w rd rs n = (bif (decide (w = 4) || decide (w = 8)) && ((true || decide (w = 0)) && (regX rd && (decide (rs = 0) && (false || decide (n = 0))))) then (bif ((true) || false) then 0 else 10) else 1) := by kernel_rfl
  refine gives_tree (u8_16 w rd rs n) ?_
  refine gives_cond (fun h1 => ?_) (fun h1 => ?_)
  · have hA : ((decide (w = 4) || decide (w = 8)) && ((true || decide (w = 0)) && (regX rd && (decide (rs = 0) && (false || decide (n = 0)))))) = false := by
      simp [cms] at h1 ⊢
      first | done | omega | ((repeat' split at h1) <;> omega) | ((repeat' split at h1) <;> (repeat' split at h1) <;> omega) | skip
    have he : errX 16 w rd rs n = 1 := by rw [hE, hA]; rfl
    exact givesE (strX_bad he (by decide)) he.symm
  have hA : ((decide (w = 4) || decide (w = 8)) && ((true || decide (w = 0)) && (regX rd && (decide (rs = 0) && (false || decide (n = 0)))))) = true := by
    simp [cms] at h1 ⊢
    first | done | omega | ((repeat' split at h1) <;> omega) | ((repeat' split at h1) <;> (repeat' split at h1) <;> omega) | skip
  have he : errX 16 w rd rs n = 0 := by rw [hE, hA]; rfl
  have hrd : small rd := by simp [regX] at hA; simp only [small]; omega
  have hw : w = 4 ∨ w = 8 := by simp at hA; omega
  refine givesE ?_ he.symm
  rw [strX_ok he]
  refine Eq.trans (b := S [rexI w 0 rd] ++ S [211] ++ S [modR 192 5 rd] ++ S []) (by kernel_rfl) ?_
  simp only [S_append]
  exact congrArg S (Eq.trans (b := [rexI w 0 rd, 211, modR 192 5 rd]) (by rfl) (Eq.trans (b := [rexI w 0 rd, 211, modI 192 5 rd]) (by rw [modR_eq (.inl rfl) (by decide : small 5) hrd]) (by kernel_rfl)))

theorem u8_17 (w rd rs n : Int) : (T8 17 w rd rs n).bare = (bif (bif (cm .neq w 4) then (bif (cm .neq w 8) then true else (bif (!(bif (cm .geq rd 0) then (cm .leq rd 15) else false)) then true else (bif (!(bif (cm .geq rs 0) then (cm .leq rs 15) else false)) then true else (bif (cm .neq rs 0) then true else (cm .neq n 0))))) else (bif (!(bif (cm .geq rd 0) then (cm .leq rd 15) else false)) then true else (bif (!(bif (cm .geq rs 0) then (cm .leq rs 15) else false)) then true else (bif (cm .neq rs 0) then true else (cm .neq n 0))))) then .ret (.tup [.str ⟨#[]⟩, .int true .i64 1]) [] else .ret (.tup [(.str (strOf (nth [rexI w 0 rd] 0) 1 ++ (ByteArray.mk #[211]) ++ strOf (nth [conv .u8 (ar .add .i64 (ar .add .i64 192 (ar .mul .i64 8 (ar .rem .i64 7 8))) (ar .rem .i64 rd 8))] 0) 1 ++ strOf (batR n) (Int.toNat 0))), .int true .i64 0]) []) :=
  (t8 17 w rd rs n).trans (by kernel_rfl)
attribute [local irreducible] evalF Lf.gives in
theorem ref8_17 (w rd rs n : Int) : (T8 17 w rd rs n).leaf.gives (.tup [.str (strX 17 w rd rs n), .int false .i64 (errX 17 w rd rs n)]) := by
  have hE : errX 17 w rd rs n = (bif (decide (w = 4) || decide (w = 8)) && ((true || decide (w = 0)) && (regX rd && (decide (rs = 0) && (false || decide (n = 0))))) then (bif ((true) || false) then 0 else 10) else 1) := by kernel_rfl
  refine gives_tree (u8_17 w rd rs n) ?_
  refine gives_cond (fun h1 => ?_) (fun h1 => ?_)
  · have hA : ((decide (w = 4) || decide (w = 8)) && ((true || decide (w = 0)) && (regX rd && (decide (rs = 0) && (false || decide (n = 0)))))) = false := by
      simp [cms] at h1 ⊢
      first | done | omega | ((repeat' split at h1) <;> omega) | ((repeat' split at h1) <;> (repeat' split at h1) <;> omega) | skip
    have he : errX 17 w rd rs n = 1 := by rw [hE, hA]; rfl
    exact givesE (strX_bad he (by decide)) he.symm
  have hA : ((decide (w = 4) || decide (w = 8)) && ((true || decide (w = 0)) && (regX rd && (decide (rs = 0) && (false || decide (n = 0)))))) = true := by
    simp [cms] at h1 ⊢
    first | done | omega | ((repeat' split at h1) <;> omega) | ((repeat' split at h1) <;> (repeat' split at h1) <;> omega) | skip
  have he : errX 17 w rd rs n = 0 := by rw [hE, hA]; rfl
  have hrd : small rd := by simp [regX] at hA; simp only [small]; omega
  have hw : w = 4 ∨ w = 8 := by simp at hA; omega
  refine givesE ?_ he.symm
  rw [strX_ok he]
  refine Eq.trans (b := S [rexI w 0 rd] ++ S [211] ++ S [modR 192 7 rd] ++ S []) (by kernel_rfl) ?_
  simp only [S_append]
  exact congrArg S (Eq.trans (b := [rexI w 0 rd, 211, modR 192 7 rd]) (by rfl) (Eq.trans (b := [rexI w 0 rd, 211, modI 192 7 rd]) (by rw [modR_eq (.inl rfl) (by decide : small 7) hrd]) (by kernel_rfl)))

theorem u8_18 (w rd rs n : Int) : (T8 18 w rd rs n).bare = (bif (bif (cm .neq w 4) then (bif (cm .neq w 8) then true else (bif (!(bif (cm .geq rd 0) then (cm .leq rd 15) else false)) then true else (bif (!(bif (cm .geq rs 0) then (cm .leq rs 15) else false)) then true else (bif (cm .neq rd 0) then true else (bif (cm .neq rs 0) then true else (cm .neq n 0)))))) else (bif (!(bif (cm .geq rd 0) then (cm .leq rd 15) else false)) then true else (bif (!(bif (cm .geq rs 0) then (cm .leq rs 15) else false)) then true else (bif (cm .neq rd 0) then true else (bif (cm .neq rs 0) then true else (cm .neq n 0)))))) then .ret (.tup [.str ⟨#[]⟩, .int true .i64 1]) [] else (bif (cm .eql w 8) then .ret (.tup [.str ⟨#[72, 153]⟩, .int true .i64 0]) [] else .ret (.tup [.str ⟨#[64, 153]⟩, .int true .i64 0]) [])) :=
  (t8 18 w rd rs n).trans (by kernel_rfl)
attribute [local irreducible] evalF Lf.gives in
theorem ref8_18 (w rd rs n : Int) : (T8 18 w rd rs n).leaf.gives (.tup [.str (strX 18 w rd rs n), .int false .i64 (errX 18 w rd rs n)]) := by
  have hE : errX 18 w rd rs n = (bif (decide (w = 4) || decide (w = 8)) && ((true || decide (w = 0)) && (decide (rd = 0) && (decide (rs = 0) && decide (n = 0)))) then (bif ((true) || false) then 0 else 10) else 1) := by kernel_rfl
  refine gives_tree (u8_18 w rd rs n) ?_
  refine gives_cond (fun h1 => ?_) (fun h1 => ?_)
  · have hA : ((decide (w = 4) || decide (w = 8)) && ((true || decide (w = 0)) && (decide (rd = 0) && (decide (rs = 0) && decide (n = 0))))) = false := by
      simp [cms] at h1 ⊢
      first | done | omega | ((repeat' split at h1) <;> omega) | ((repeat' split at h1) <;> (repeat' split at h1) <;> omega) | skip
    have he : errX 18 w rd rs n = 1 := by rw [hE, hA]; rfl
    exact givesE (strX_bad he (by decide)) he.symm
  have hA : ((decide (w = 4) || decide (w = 8)) && ((true || decide (w = 0)) && (decide (rd = 0) && (decide (rs = 0) && decide (n = 0))))) = true := by
    simp [cms] at h1 ⊢
    first | done | omega | ((repeat' split at h1) <;> omega) | ((repeat' split at h1) <;> (repeat' split at h1) <;> omega) | skip
  have he : errX 18 w rd rs n = 0 := by rw [hE, hA]; rfl
  have hw : w = 4 ∨ w = 8 := by simp at hA; omega
  rcases hw with rfl | rfl
  · exact givesE (by rw [strX_ok he]; kernel_rfl) he.symm
  · exact givesE (by rw [strX_ok he]; kernel_rfl) he.symm

theorem u8_19 (w rd rs n : Int) : (T8 19 w rd rs n).bare = (bif (bif (cm .neq w 4) then (bif (cm .neq w 8) then true else (bif (cm .neq 8 w) then true else (bif (!(bif (cm .geq rd 0) then (cm .leq rd 15) else false)) then true else (bif (!(bif (cm .geq rs 0) then (cm .leq rs 15) else false)) then true else (bif (cm .neq rs 0) then true else false))))) else (bif (cm .neq 8 w) then true else (bif (!(bif (cm .geq rd 0) then (cm .leq rd 15) else false)) then true else (bif (!(bif (cm .geq rs 0) then (cm .leq rs 15) else false)) then true else (bif (cm .neq rs 0) then true else false))))) then .ret (.tup [.str ⟨#[]⟩, .int true .i64 1]) [] else (bif (bif (cm .lss n (-2147483648)) then true else (bif (cm .geq n 2147483648) then true else false)) then .ret (.tup [.str ⟨#[]⟩, .int true .i64 10]) [] else .ret (.tup [(.str (strOf (nth [rexI w 0 rd] 0) 1 ++ (ByteArray.mk #[129]) ++ strOf (nth [conv .u8 (ar .add .i64 (ar .add .i64 192 (ar .mul .i64 8 (ar .rem .i64 0 8))) (ar .rem .i64 rd 8))] 0) 1 ++ strOf (batR n) (Int.toNat 4))), .int true .i64 0]) [])) :=
  (t8 19 w rd rs n).trans (by kernel_rfl)
attribute [local irreducible] evalF Lf.gives in
theorem ref8_19 (w rd rs n : Int) : (T8 19 w rd rs n).leaf.gives (.tup [.str (strX 19 w rd rs n), .int false .i64 (errX 19 w rd rs n)]) := by
  have hE : errX 19 w rd rs n = (bif (decide (w = 4) || decide (w = 8)) && ((false || decide (w = 8)) && (regX rd && (decide (rs = 0) && (true || decide (n = 0))))) then (bif ((decide (-2147483648 ≤ n) && decide (n ≤ 2147483647)) || false) then 0 else 10) else 1) := by kernel_rfl
  refine gives_tree (u8_19 w rd rs n) ?_
  refine gives_cond (fun h1 => ?_) (fun h1 => ?_)
  · have hA : ((decide (w = 4) || decide (w = 8)) && ((false || decide (w = 8)) && (regX rd && (decide (rs = 0) && (true || decide (n = 0)))))) = false := by
      simp [cms] at h1 ⊢
      first | done | omega | ((repeat' split at h1) <;> omega) | ((repeat' split at h1) <;> (repeat' split at h1) <;> omega) | skip
    have he : errX 19 w rd rs n = 1 := by rw [hE, hA]; rfl
    exact givesE (strX_bad he (by decide)) he.symm
  have hA : ((decide (w = 4) || decide (w = 8)) && ((false || decide (w = 8)) && (regX rd && (decide (rs = 0) && (true || decide (n = 0)))))) = true := by
    simp [cms] at h1 ⊢
    first | done | omega | ((repeat' split at h1) <;> omega) | ((repeat' split at h1) <;> (repeat' split at h1) <;> omega) | skip
  refine gives_cond (fun h9 => ?_) (fun h9 => ?_)
  · have hF : ((decide (-2147483648 ≤ n) && decide (n ≤ 2147483647)) || false) = false := by
      simp [cms] at h9 ⊢
      first | done | omega | ((repeat' split at h9) <;> omega) | skip
    have he : errX 19 w rd rs n = 10 := by rw [hE, hA, hF]; rfl
    exact givesE (strX_bad he (by decide)) he.symm
  have hF : ((decide (-2147483648 ≤ n) && decide (n ≤ 2147483647)) || false) = true := by
    simp [cms] at h9 ⊢
    first | done | omega | ((repeat' split at h9) <;> omega) | skip
  have he : errX 19 w rd rs n = 0 := by rw [hE, hA, hF]; rfl
  have hrd : small rd := by simp [regX] at hA; simp only [small]; omega
  have hw : w = 4 ∨ w = 8 := by simp at hA; omega
  refine givesE ?_ he.symm
  rw [strX_ok he]
  refine Eq.trans (b := S [rexI w 0 rd] ++ S [129] ++ S [modR 192 0 rd] ++ S [batR n 0, batR n 1, batR n 2, batR n 3]) (by kernel_rfl) ?_
  simp only [S_append]
  exact congrArg S (Eq.trans (b := [rexI w 0 rd, 129, modR 192 0 rd, batR n 0, batR n 1, batR n 2, batR n 3]) (by rfl) (Eq.trans (b := [rexI w 0 rd, 129, modI 192 0 rd, bat n 0, bat n 1, bat n 2, bat n 3]) (by rw [modR_eq (.inl rfl) (by decide : small 0) hrd, batR_eq n (by decide : 0 < 8), batR_eq n (by decide : 1 < 8), batR_eq n (by decide : 2 < 8), batR_eq n (by decide : 3 < 8)]) (by kernel_rfl)))

theorem u8_20 (w rd rs n : Int) : (T8 20 w rd rs n).bare = (bif (bif (cm .neq w 4) then (bif (cm .neq w 8) then true else (bif (cm .neq 4 w) then true else (bif (!(bif (cm .geq rd 0) then (cm .leq rd 15) else false)) then true else (bif (!(bif (cm .geq rs 0) then (cm .leq rs 15) else false)) then true else (bif (cm .neq rs 0) then true else false))))) else (bif (cm .neq 4 w) then true else (bif (!(bif (cm .geq rd 0) then (cm .leq rd 15) else false)) then true else (bif (!(bif (cm .geq rs 0) then (cm .leq rs 15) else false)) then true else (bif (cm .neq rs 0) then true else false))))) then .ret (.tup [.str ⟨#[]⟩, .int true .i64 1]) [] else (bif (!(bif (cm .geq n 2) then (bif (cm .leq n 7) then true else (bif (cm .geq n 12) then (cm .leq n 15) else false)) else (bif (cm .geq n 12) then (cm .leq n 15) else false))) then .ret (.tup [.str ⟨#[]⟩, .int true .i64 1]) [] else .ret (.tup [(.str (strOf (nth [rexI w 0 rd] 0) 1 ++ (ByteArray.mk #[15]) ++ strOf (nth [conv .u8 (ar .add .i64 144 n)] 0) 1 ++ strOf (nth [conv .u8 (ar .add .i64 (ar .add .i64 192 (ar .mul .i64 8 (ar .rem .i64 0 8))) (ar .rem .i64 rd 8))] 0) 1)), .int true .i64 0]) [])) :=
  (t8 20 w rd rs n).trans (by kernel_rfl)
attribute [local irreducible] evalF Lf.gives in
theorem ref8_20 (w rd rs n : Int) : (T8 20 w rd rs n).leaf.gives (.tup [.str (strX 20 w rd rs n), .int false .i64 (errX 20 w rd rs n)]) := by
  have hE : errX 20 w rd rs n = (bif (decide (w = 4) || decide (w = 8)) && ((false || decide (w = 4)) && (regX rd && (decide (rs = 0) && condX n))) then (bif ((true) || true) then 0 else 10) else 1) := by kernel_rfl
  refine gives_tree (u8_20 w rd rs n) ?_
  refine gives_cond (fun h1 => ?_) (fun h1 => ?_)
  · have hA : ((decide (w = 4) || decide (w = 8)) && ((false || decide (w = 4)) && (regX rd && (decide (rs = 0) && condX n)))) = false := by
      simp [cms] at h1 ⊢
      first | done | omega | ((repeat' split at h1) <;> omega) | ((repeat' split at h1) <;> (repeat' split at h1) <;> omega) | skip
    have he : errX 20 w rd rs n = 1 := by rw [hE, hA]; rfl
    exact givesE (strX_bad he (by decide)) he.symm
  refine gives_cond (fun h2 => ?_) (fun h2 => ?_)
  · have hA : ((decide (w = 4) || decide (w = 8)) && ((false || decide (w = 4)) && (regX rd && (decide (rs = 0) && condX n)))) = false := by
      simp [cms] at h1 h2 ⊢
      first | done | omega | ((repeat' split at h1) <;> omega) | ((repeat' split at h1) <;> (repeat' split at h2) <;> omega) | skip
    have he : errX 20 w rd rs n = 1 := by rw [hE, hA]; rfl
    exact givesE (strX_bad he (by decide)) he.symm
  have hA : ((decide (w = 4) || decide (w = 8)) && ((false || decide (w = 4)) && (regX rd && (decide (rs = 0) && condX n)))) = true := by
    simp [cms] at h1 h2 ⊢
    first | done | omega | ((repeat' split at h1) <;> omega) | ((repeat' split at h1) <;> (repeat' split at h2) <;> omega) | skip
  have he : errX 20 w rd rs n = 0 := by rw [hE, hA]; rfl
  have hrd : small rd := by simp [regX] at hA; simp only [small]; omega
  have hcn : small n := by simp [regX, condX] at hA; simp only [small]; omega
  have hw : w = 4 ∨ w = 8 := by simp at hA; omega
  refine givesE ?_ he.symm
  rw [strX_ok he]
  refine Eq.trans (b := S [rexI w 0 rd] ++ S [15] ++ S [conv .u8 (ar .add .i64 144 n)] ++ S [modR 192 0 rd]) (by kernel_rfl) ?_
  simp only [S_append]
  exact congrArg S (Eq.trans (b := [rexI w 0 rd, 15, conv .u8 (ar .add .i64 144 n), modR 192 0 rd]) (by rfl) (Eq.trans (b := [rexI w 0 rd, 15, 144 + n, modI 192 0 rd]) (by rw [add144 hcn, modR_eq (.inl rfl) (by decide : small 0) hrd]) (by kernel_rfl)))

theorem u8_21 (w rd rs n : Int) : (T8 21 w rd rs n).bare = (bif (bif (cm .neq w 4) then (bif (cm .neq w 8) then true else (bif (cm .neq 8 w) then true else (bif (!(bif (cm .geq rd 0) then (cm .leq rd 15) else false)) then true else (bif (!(bif (cm .geq rs 0) then (cm .leq rs 15) else false)) then true else (cm .neq n 0))))) else (bif (cm .neq 8 w) then true else (bif (!(bif (cm .geq rd 0) then (cm .leq rd 15) else false)) then true else (bif (!(bif (cm .geq rs 0) then (cm .leq rs 15) else false)) then true else (cm .neq n 0))))) then .ret (.tup [.str ⟨#[]⟩, .int true .i64 1]) [] else .ret (.tup [(.str (strOf (nth [rexI w rd rs] 0) 1 ++ (ByteArray.mk #[15, 182]) ++ strOf (nth [conv .u8 (ar .add .i64 (ar .add .i64 192 (ar .mul .i64 8 (ar .rem .i64 rd 8))) (ar .rem .i64 rs 8))] 0) 1)), .int true .i64 0]) []) :=
  (t8 21 w rd rs n).trans (by kernel_rfl)
attribute [local irreducible] evalF Lf.gives in
theorem ref8_21 (w rd rs n : Int) : (T8 21 w rd rs n).leaf.gives (.tup [.str (strX 21 w rd rs n), .int false .i64 (errX 21 w rd rs n)]) := by
  have hE : errX 21 w rd rs n = (bif (decide (w = 4) || decide (w = 8)) && ((false || decide (w = 8)) && (regX rd && (regX rs && decide (n = 0)))) then (bif ((true) || false) then 0 else 10) else 1) := by kernel_rfl
  refine gives_tree (u8_21 w rd rs n) ?_
  refine gives_cond (fun h1 => ?_) (fun h1 => ?_)
  · have hA : ((decide (w = 4) || decide (w = 8)) && ((false || decide (w = 8)) && (regX rd && (regX rs && decide (n = 0))))) = false := by
      simp [cms] at h1 ⊢
      first | done | omega | ((repeat' split at h1) <;> omega) | ((repeat' split at h1) <;> (repeat' split at h1) <;> omega) | skip
    have he : errX 21 w rd rs n = 1 := by rw [hE, hA]; rfl
    exact givesE (strX_bad he (by decide)) he.symm
  have hA : ((decide (w = 4) || decide (w = 8)) && ((false || decide (w = 8)) && (regX rd && (regX rs && decide (n = 0))))) = true := by
    simp [cms] at h1 ⊢
    first | done | omega | ((repeat' split at h1) <;> omega) | ((repeat' split at h1) <;> (repeat' split at h1) <;> omega) | skip
  have he : errX 21 w rd rs n = 0 := by rw [hE, hA]; rfl
  have hrd : small rd := by simp [regX] at hA; simp only [small]; omega
  have hrs : small rs := by simp [regX] at hA; simp only [small]; omega
  have hw : w = 4 ∨ w = 8 := by simp at hA; omega
  refine givesE ?_ he.symm
  rw [strX_ok he]
  refine Eq.trans (b := S [rexI w rd rs] ++ S [15, 182] ++ S [modR 192 rd rs]) (by kernel_rfl) ?_
  simp only [S_append]
  exact congrArg S (Eq.trans (b := [rexI w rd rs, 15, 182, modR 192 rd rs]) (by rfl) (Eq.trans (b := [rexI w rd rs, 15, 182, modI 192 rd rs]) (by rw [modR_eq (.inl rfl) hrd hrs]) (by kernel_rfl)))

theorem u8_22 (w rd rs n : Int) : (T8 22 w rd rs n).bare = (bif (bif (cm .neq w 4) then (bif (cm .neq w 8) then true else (bif (cm .neq 8 w) then true else (bif (!(bif (cm .geq rd 0) then (cm .leq rd 15) else false)) then true else (bif (!(bif (cm .geq rs 0) then (cm .leq rs 15) else false)) then true else (cm .neq n 0))))) else (bif (cm .neq 8 w) then true else (bif (!(bif (cm .geq rd 0) then (cm .leq rd 15) else false)) then true else (bif (!(bif (cm .geq rs 0) then (cm .leq rs 15) else false)) then true else (cm .neq n 0))))) then .ret (.tup [.str ⟨#[]⟩, .int true .i64 1]) [] else .ret (.tup [(.str (strOf (nth [rexI w rd rs] 0) 1 ++ (ByteArray.mk #[15, 183]) ++ strOf (nth [conv .u8 (ar .add .i64 (ar .add .i64 192 (ar .mul .i64 8 (ar .rem .i64 rd 8))) (ar .rem .i64 rs 8))] 0) 1)), .int true .i64 0]) []) :=
  (t8 22 w rd rs n).trans (by kernel_rfl)
attribute [local irreducible] evalF Lf.gives in
theorem ref8_22 (w rd rs n : Int) : (T8 22 w rd rs n).leaf.gives (.tup [.str (strX 22 w rd rs n), .int false .i64 (errX 22 w rd rs n)]) := by
  have hE : errX 22 w rd rs n = (bif (decide (w = 4) || decide (w = 8)) && ((false || decide (w = 8)) && (regX rd && (regX rs && decide (n = 0)))) then (bif ((true) || false) then 0 else 10) else 1) := by kernel_rfl
  refine gives_tree (u8_22 w rd rs n) ?_
  refine gives_cond (fun h1 => ?_) (fun h1 => ?_)
  · have hA : ((decide (w = 4) || decide (w = 8)) && ((false || decide (w = 8)) && (regX rd && (regX rs && decide (n = 0))))) = false := by
      simp [cms] at h1 ⊢
      first | done | omega | ((repeat' split at h1) <;> omega) | ((repeat' split at h1) <;> (repeat' split at h1) <;> omega) | skip
    have he : errX 22 w rd rs n = 1 := by rw [hE, hA]; rfl
    exact givesE (strX_bad he (by decide)) he.symm
  have hA : ((decide (w = 4) || decide (w = 8)) && ((false || decide (w = 8)) && (regX rd && (regX rs && decide (n = 0))))) = true := by
    simp [cms] at h1 ⊢
    first | done | omega | ((repeat' split at h1) <;> omega) | ((repeat' split at h1) <;> (repeat' split at h1) <;> omega) | skip
  have he : errX 22 w rd rs n = 0 := by rw [hE, hA]; rfl
  have hrd : small rd := by simp [regX] at hA; simp only [small]; omega
  have hrs : small rs := by simp [regX] at hA; simp only [small]; omega
  have hw : w = 4 ∨ w = 8 := by simp at hA; omega
  refine givesE ?_ he.symm
  rw [strX_ok he]
  refine Eq.trans (b := S [rexI w rd rs] ++ S [15, 183] ++ S [modR 192 rd rs]) (by kernel_rfl) ?_
  simp only [S_append]
  exact congrArg S (Eq.trans (b := [rexI w rd rs, 15, 183, modR 192 rd rs]) (by rfl) (Eq.trans (b := [rexI w rd rs, 15, 183, modI 192 rd rs]) (by rw [modR_eq (.inl rfl) hrd hrs]) (by kernel_rfl)))

theorem u8_23 (w rd rs n : Int) : (T8 23 w rd rs n).bare = (bif (bif (cm .neq w 4) then (bif (cm .neq w 8) then true else (bif (cm .neq 8 w) then true else (bif (!(bif (cm .geq rd 0) then (cm .leq rd 15) else false)) then true else (bif (!(bif (cm .geq rs 0) then (cm .leq rs 15) else false)) then true else (cm .neq n 0))))) else (bif (cm .neq 8 w) then true else (bif (!(bif (cm .geq rd 0) then (cm .leq rd 15) else false)) then true else (bif (!(bif (cm .geq rs 0) then (cm .leq rs 15) else false)) then true else (cm .neq n 0))))) then .ret (.tup [.str ⟨#[]⟩, .int true .i64 1]) [] else .ret (.tup [(.str (strOf (nth [rexI w rd rs] 0) 1 ++ (ByteArray.mk #[15, 190]) ++ strOf (nth [conv .u8 (ar .add .i64 (ar .add .i64 192 (ar .mul .i64 8 (ar .rem .i64 rd 8))) (ar .rem .i64 rs 8))] 0) 1)), .int true .i64 0]) []) :=
  (t8 23 w rd rs n).trans (by kernel_rfl)
attribute [local irreducible] evalF Lf.gives in
theorem ref8_23 (w rd rs n : Int) : (T8 23 w rd rs n).leaf.gives (.tup [.str (strX 23 w rd rs n), .int false .i64 (errX 23 w rd rs n)]) := by
  have hE : errX 23 w rd rs n = (bif (decide (w = 4) || decide (w = 8)) && ((false || decide (w = 8)) && (regX rd && (regX rs && decide (n = 0)))) then (bif ((true) || false) then 0 else 10) else 1) := by kernel_rfl
  refine gives_tree (u8_23 w rd rs n) ?_
  refine gives_cond (fun h1 => ?_) (fun h1 => ?_)
  · have hA : ((decide (w = 4) || decide (w = 8)) && ((false || decide (w = 8)) && (regX rd && (regX rs && decide (n = 0))))) = false := by
      simp [cms] at h1 ⊢
      first | done | omega | ((repeat' split at h1) <;> omega) | ((repeat' split at h1) <;> (repeat' split at h1) <;> omega) | skip
    have he : errX 23 w rd rs n = 1 := by rw [hE, hA]; rfl
    exact givesE (strX_bad he (by decide)) he.symm
  have hA : ((decide (w = 4) || decide (w = 8)) && ((false || decide (w = 8)) && (regX rd && (regX rs && decide (n = 0))))) = true := by
    simp [cms] at h1 ⊢
    first | done | omega | ((repeat' split at h1) <;> omega) | ((repeat' split at h1) <;> (repeat' split at h1) <;> omega) | skip
  have he : errX 23 w rd rs n = 0 := by rw [hE, hA]; rfl
  have hrd : small rd := by simp [regX] at hA; simp only [small]; omega
  have hrs : small rs := by simp [regX] at hA; simp only [small]; omega
  have hw : w = 4 ∨ w = 8 := by simp at hA; omega
  refine givesE ?_ he.symm
  rw [strX_ok he]
  refine Eq.trans (b := S [rexI w rd rs] ++ S [15, 190] ++ S [modR 192 rd rs]) (by kernel_rfl) ?_
  simp only [S_append]
  exact congrArg S (Eq.trans (b := [rexI w rd rs, 15, 190, modR 192 rd rs]) (by rfl) (Eq.trans (b := [rexI w rd rs, 15, 190, modI 192 rd rs]) (by rw [modR_eq (.inl rfl) hrd hrs]) (by kernel_rfl)))

theorem u8_24 (w rd rs n : Int) : (T8 24 w rd rs n).bare = (bif (bif (cm .neq w 4) then (bif (cm .neq w 8) then true else (bif (cm .neq 8 w) then true else (bif (!(bif (cm .geq rd 0) then (cm .leq rd 15) else false)) then true else (bif (!(bif (cm .geq rs 0) then (cm .leq rs 15) else false)) then true else (cm .neq n 0))))) else (bif (cm .neq 8 w) then true else (bif (!(bif (cm .geq rd 0) then (cm .leq rd 15) else false)) then true else (bif (!(bif (cm .geq rs 0) then (cm .leq rs 15) else false)) then true else (cm .neq n 0))))) then .ret (.tup [.str ⟨#[]⟩, .int true .i64 1]) [] else .ret (.tup [(.str (strOf (nth [rexI w rd rs] 0) 1 ++ (ByteArray.mk #[15, 191]) ++ strOf (nth [conv .u8 (ar .add .i64 (ar .add .i64 192 (ar .mul .i64 8 (ar .rem .i64 rd 8))) (ar .rem .i64 rs 8))] 0) 1)), .int true .i64 0]) []) :=
  (t8 24 w rd rs n).trans (by kernel_rfl)
attribute [local irreducible] evalF Lf.gives in
theorem ref8_24 (w rd rs n : Int) : (T8 24 w rd rs n).leaf.gives (.tup [.str (strX 24 w rd rs n), .int false .i64 (errX 24 w rd rs n)]) := by
  have hE : errX 24 w rd rs n = (bif (decide (w = 4) || decide (w = 8)) && ((false || decide (w = 8)) && (regX rd && (regX rs && decide (n = 0)))) then (bif ((true) || false) then 0 else 10) else 1) := by kernel_rfl
  refine gives_tree (u8_24 w rd rs n) ?_
  refine gives_cond (fun h1 => ?_) (fun h1 => ?_)
  · have hA : ((decide (w = 4) || decide (w = 8)) && ((false || decide (w = 8)) && (regX rd && (regX rs && decide (n = 0))))) = false := by
      simp [cms] at h1 ⊢
      first | done | omega | ((repeat' split at h1) <;> omega) | ((repeat' split at h1) <;> (repeat' split at h1) <;> omega) | skip
    have he : errX 24 w rd rs n = 1 := by rw [hE, hA]; rfl
    exact givesE (strX_bad he (by decide)) he.symm
  have hA : ((decide (w = 4) || decide (w = 8)) && ((false || decide (w = 8)) && (regX rd && (regX rs && decide (n = 0))))) = true := by
    simp [cms] at h1 ⊢
    first | done | omega | ((repeat' split at h1) <;> omega) | ((repeat' split at h1) <;> (repeat' split at h1) <;> omega) | skip
  have he : errX 24 w rd rs n = 0 := by rw [hE, hA]; rfl
  have hrd : small rd := by simp [regX] at hA; simp only [small]; omega
  have hrs : small rs := by simp [regX] at hA; simp only [small]; omega
  have hw : w = 4 ∨ w = 8 := by simp at hA; omega
  refine givesE ?_ he.symm
  rw [strX_ok he]
  refine Eq.trans (b := S [rexI w rd rs] ++ S [15, 191] ++ S [modR 192 rd rs]) (by kernel_rfl) ?_
  simp only [S_append]
  exact congrArg S (Eq.trans (b := [rexI w rd rs, 15, 191, modR 192 rd rs]) (by rfl) (Eq.trans (b := [rexI w rd rs, 15, 191, modI 192 rd rs]) (by rw [modR_eq (.inl rfl) hrd hrs]) (by kernel_rfl)))

end Go.X
end
