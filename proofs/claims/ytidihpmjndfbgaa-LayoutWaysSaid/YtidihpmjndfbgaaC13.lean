/-
  layout: leads: its tree.
-/
import Derived.Test.YtidihpmjndfbgaaC9
import Derived.Test.YtidihpmjndfbgaaC11
import Derived.Test.YtidihpmjndfbgaaB12
import Derived.Test.YtidihpmjndfbgaaB6
set_option linter.unusedSimpArgs false
set_option linter.unusedVariables false
section
set_option linter.unusedVariables false
open Go Go.Ev Go.Proofs
namespace Go.La

/-- a number, a test that is not to be reckoned -/
noncomputable def opq (n : Int) : Int := Classical.choose (⟨n, rfl⟩ : ∃ m, m = n)
theorem opq_eq (n : Int) : opq n = n := Classical.choose_spec (⟨n, rfl⟩ : ∃ m, m = n)
noncomputable def opb (b : Bool) : Bool := clsB (b = true)
theorem opb_eq (b : Bool) : opb b = b := by
  cases b
  · exact Bool.eq_false_iff.2 fun h => by cases clsB_iff.1 h
  · exact clsB_iff.2 rfl
/-- the page's Decode of rv, not to be reckoned -/
noncomputable def dO (w : Int) : Int := opq (Rv.decV w ((Rv.decI w : Int) + 1))
noncomputable def dD (w : Int) : Int := opq (Rv.decV w (Rv.rdB (Rv.decK w) (Rv.W w)))
noncomputable def dN (w : Int) : Int := opq (Rv.decV w (Rv.numB (Rv.decK w) (Rv.W w)))
noncomputable def dK (w : Int) : Bool := opb (Rv.decOk w)
noncomputable def s30 : Ev.Spec := fun args H nm => match args, H with
  | [.int _ .u32 w], [] => some ⟨[clsB (0 ≤ w ∧ w < 4294967296)], .tup [.agg [.int false .i64 (dO w), .int false .i64 (dD w), .int false .i64 (opq (Rv.decV w (Rv.r1B (Rv.decK w) (Rv.W w)))), .int false .i64 (opq (Rv.decV w (Rv.r2B (Rv.decK w) (Rv.W w)))), .int false .i64 (dN w)], .bool false (dK w)], []⟩
  | _, _ => none
theorem s30_eq (w : Int) (nm : Nat) : specOf Rv.g11 [.int false .u32 w] [] nm = some ⟨[decide (0 ≤ w), decide (w < 4294967296)], .tup [.agg (Rv.decSV w), .bool false (Rv.decOk w)], []⟩ := rfl
theorem ok30 : SpecOk Try.prog 30 s30 := by
  refine ⟨Rv.ok11s.1, fun args H nm r h hn => ?_⟩
  unfold s30 at h
  split at h
  · rename_i l w
    simp only [Option.some.injEq] at h
    subst h
    simp only [allB, Bool.and_true] at hn
    obtain ⟨h0, h1⟩ := clsB_iff.1 hn
    have := Rv.ok11s.2 [.int false .u32 w] [] nm _ (s30_eq w nm) (by simp only [allB, Bool.and_true, Bool.and_eq_true, decide_eq_true_eq]; exact ⟨h0, h1⟩)
    simp only [dO, dD, dN, dK, opq_eq, opb_eq]
    exact this
  · cases h
noncomputable def EV0 : Env := envOf [(29, specOf X.g11), (30, s30)] noLoop
theorem ev0_calls : CallsOk EV0 Try.prog := (SpecsOk.cons X.spec11 (SpecsOk.cons ok30 SpecsOk.nil)).calls noLoop
theorem ev0_loop : EV0.loop = noLoop := rfl
noncomputable def EV : Env := ⟨EV0.call, fun n S => match n with | 0 => some (unr EV0 Try.prog Try.f19.results.toList (loopOf Try.f19 0) 0 3 S) | _ => none⟩

theorem t19x (s : ByteArray) : (evalF EV Try.prog 19 [SV.int true .i64 2, SV.str s] [] 1024).bare =
    (.ret (.tup [(.int false .i64 (bif cm .gtr (X.decX s).len 0 then ar .add .i64 (X.decX s).len (X.decX s).n else ar .add .i64 (X.decX s).len (X.decX s).n)), (.bool false (bif cm .gtr (X.decX s).len 0 then bif cm .eql (X.decX s).o 40 then true else bif cm .eql (X.decX s).o 42 then true else bif cm .eql (X.decX s).o 43 then true else bif cm .eql (X.decX s).o 44 then true else cm .eql (X.decX s).o 45 else false))]) []) := by kernel_rfl

theorem t19r (s : ByteArray) : (evalF EV Try.prog 19 [SV.int true .i64 1, SV.str s] [] 1024).bare =
    (bif (cm .leq 4 (↑s.size : Int)) then
      bif (Nat.blt (0) (s.size)) then
        bif (Nat.blt (1) (s.size)) then
          bif (Nat.blt (2) (s.size)) then
            bif (Nat.blt (3) (s.size)) then
              bif (clsB (0 ≤ ar .or .u32 (ar .or .u32 (ar .or .u32 (conv .u32 (chr s 0)) (ar .shl .u32 (conv .u32 (chr s 1)) 8)) (ar .shl .u32 (conv .u32 (chr s 2)) 16)) (ar .shl .u32 (conv .u32 (chr s 3)) 24) ∧ ar .or .u32 (ar .or .u32 (ar .or .u32 (conv .u32 (chr s 0)) (ar .shl .u32 (conv .u32 (chr s 1)) 8)) (ar .shl .u32 (conv .u32 (chr s 2)) 16)) (ar .shl .u32 (conv .u32 (chr s 3)) 24) < 4294967296)) then
                bif (!dK (ar .or .u32 (ar .or .u32 (ar .or .u32 (conv .u32 (chr s 0)) (ar .shl .u32 (conv .u32 (chr s 1)) 8)) (ar .shl .u32 (conv .u32 (chr s 2)) 16)) (ar .shl .u32 (conv .u32 (chr s 3)) 24))) then
                  .ret (.tup [(.int true .i64 0), (.bool true false)]) []
                else
                  bif (bif cm .eql (dO (ar .or .u32 (ar .or .u32 (ar .or .u32 (conv .u32 (chr s 0)) (ar .shl .u32 (conv .u32 (chr s 1)) 8)) (ar .shl .u32 (conv .u32 (chr s 2)) 16)) (ar .shl .u32 (conv .u32 (chr s 3)) 24))) 3 then true else bif cm .neq (dN (ar .or .u32 (ar .or .u32 (ar .or .u32 (conv .u32 (chr s 0)) (ar .shl .u32 (conv .u32 (chr s 1)) 8)) (ar .shl .u32 (conv .u32 (chr s 2)) 16)) (ar .shl .u32 (conv .u32 (chr s 3)) 24))) 8 then true else cm .lss (↑s.size : Int) 8) then
                    .ret (.tup [(.int false .i64 (upd (nth [0, 0] 0) 0 (dN (ar .or .u32 (ar .or .u32 (ar .or .u32 (conv .u32 (chr s 0)) (ar .shl .u32 (conv .u32 (chr s 1)) 8)) (ar .shl .u32 (conv .u32 (chr s 2)) 16)) (ar .shl .u32 (conv .u32 (chr s 3)) 24))) 0)), (.bool true true)]) []
                  else
                    bif (cm .leq 8 (↑s.size : Int)) then
                      bif (Nat.blt (4) (s.size)) then
                        bif (Nat.blt (5) (s.size)) then
                          bif (Nat.blt (6) (s.size)) then
                            bif (Nat.blt (7) (s.size)) then
                              bif (clsB (0 ≤ ar .or .u32 (ar .or .u32 (ar .or .u32 (conv .u32 (chr s 4)) (ar .shl .u32 (conv .u32 (chr s 5)) 8)) (ar .shl .u32 (conv .u32 (chr s 6)) 16)) (ar .shl .u32 (conv .u32 (chr s 7)) 24) ∧ ar .or .u32 (ar .or .u32 (ar .or .u32 (conv .u32 (chr s 4)) (ar .shl .u32 (conv .u32 (chr s 5)) 8)) (ar .shl .u32 (conv .u32 (chr s 6)) 16)) (ar .shl .u32 (conv .u32 (chr s 7)) 24) < 4294967296)) then
                                bif (bif !dK (ar .or .u32 (ar .or .u32 (ar .or .u32 (conv .u32 (chr s 4)) (ar .shl .u32 (conv .u32 (chr s 5)) 8)) (ar .shl .u32 (conv .u32 (chr s 6)) 16)) (ar .shl .u32 (conv .u32 (chr s 7)) 24)) then true else bif cm .neq (dO (ar .or .u32 (ar .or .u32 (ar .or .u32 (conv .u32 (chr s 4)) (ar .shl .u32 (conv .u32 (chr s 5)) 8)) (ar .shl .u32 (conv .u32 (chr s 6)) 16)) (ar .shl .u32 (conv .u32 (chr s 7)) 24))) 3 then true else cm .neq (dD (ar .or .u32 (ar .or .u32 (ar .or .u32 (conv .u32 (chr s 4)) (ar .shl .u32 (conv .u32 (chr s 5)) 8)) (ar .shl .u32 (conv .u32 (chr s 6)) 16)) (ar .shl .u32 (conv .u32 (chr s 7)) 24))) 0) then
                                  .ret (.tup [(.int false .i64 (upd (upd (nth [0, 0] 0) 0 (dN (ar .or .u32 (ar .or .u32 (ar .or .u32 (conv .u32 (chr s 0)) (ar .shl .u32 (conv .u32 (chr s 1)) 8)) (ar .shl .u32 (conv .u32 (chr s 2)) 16)) (ar .shl .u32 (conv .u32 (chr s 3)) 24)))) 1 (dN (ar .or .u32 (ar .or .u32 (ar .or .u32 (conv .u32 (chr s 4)) (ar .shl .u32 (conv .u32 (chr s 5)) 8)) (ar .shl .u32 (conv .u32 (chr s 6)) 16)) (ar .shl .u32 (conv .u32 (chr s 7)) 24))) 0)), (.bool true true)]) []
                                else
                                  .ret (.tup [(.int false .i64 (ar .add .i64 4 (upd (upd (nth [0, 0] 0) 0 (dN (ar .or .u32 (ar .or .u32 (ar .or .u32 (conv .u32 (chr s 0)) (ar .shl .u32 (conv .u32 (chr s 1)) 8)) (ar .shl .u32 (conv .u32 (chr s 2)) 16)) (ar .shl .u32 (conv .u32 (chr s 3)) 24)))) 1 (dN (ar .or .u32 (ar .or .u32 (ar .or .u32 (conv .u32 (chr s 4)) (ar .shl .u32 (conv .u32 (chr s 5)) 8)) (ar .shl .u32 (conv .u32 (chr s 6)) 16)) (ar .shl .u32 (conv .u32 (chr s 7)) 24))) 1))), (.bool true true)]) []
                              else .bad
                            else .bad
                          else .bad
                        else .bad
                      else .bad
                    else
                      .ret (.tup [(.int false .i64 (ar .add .i64 4 (upd (nth [0, 0] 0) 0 (dN (ar .or .u32 (ar .or .u32 (ar .or .u32 (conv .u32 (chr s 0)) (ar .shl .u32 (conv .u32 (chr s 1)) 8)) (ar .shl .u32 (conv .u32 (chr s 2)) 16)) (ar .shl .u32 (conv .u32 (chr s 3)) 24))) 1))), (.bool true true)]) []
              else .bad
            else .bad
          else .bad
        else .bad
      else .bad
    else
      .ret (.tup [(.int false .i64 4), (.bool true true)]) []) := by kernel_rfl

end Go.La
end

section
set_option linter.unusedVariables false
open Go Go.Ev Go.Proofs
namespace Go.La

noncomputable def EB : Env := envOf [(34, specOf (g34 true)), (35, specOf (g34 false))] noLoop
theorem eb_calls : CallsOk EB Try.prog := (SpecsOk.cons spec34 (SpecsOk.cons spec35 SpecsOk.nil)).calls noLoop
theorem eb_loop : EB.loop = noLoop := rfl
--LEAVES

theorem t23 (y : Y) (i : Int) : (evalF EB Try.prog 23 [SV.ptr 0 0 0, SV.int false .i64 i] (hY y) 1024).bare =
    (bif (decide (0 ≤ i)) then
      bif (decide (i < (y.n : Int))) then
        bif (Nat.blt (i.toNat) (y.n)) then
          bif (Nat.blt (i.toNat) (y.n)) then
            bif (cm .eql (y.kd i.toNat) 1) then
              bif (decide (0 ≤ i)) then
                bif (decide (i < (y.n : Int))) then
                  bif (Nat.blt (i.toNat) (y.n)) then
                    bif (Nat.blt (i.toNat) (y.n)) then
                      .ret (.str (y.bs i.toNat)) []
                    else .bad
                  else .bad
                else .bad
              else .bad
            else
              bif (cm .eql (y.kd i.toNat) 2) then
                .ret (.str ((ByteArray.mk #[]))) []
              else
                bif (cm .eql y.t 1) then
                  bif (clsB (decide (y.t = 1) = true)) then
                    bif (inB y.n i) then
                      bif (labB y.n y.lb) then
                        bif (Nat.beq (y.n) (y.n)) then
                          bif (Nat.beq (y.n) (y.n)) then
                            bif (Nat.beq (y.n) (y.n)) then
                              bif (Nat.beq (y.n + 1) (y.n + 1)) then
                                bif (Nat.beq (y.n + 1) (y.n + 1)) then
                                  .ret (.str (byY y i.toNat)) []
                                else .bad
                              else .bad
                            else .bad
                          else .bad
                        else .bad
                      else .bad
                    else .bad
                  else .bad
                else
                  bif (clsB (decide (y.t = 1) = false)) then
                    bif (inB y.n i) then
                      bif (labB y.n y.lb) then
                        bif (Nat.beq (y.n) (y.n)) then
                          bif (Nat.beq (y.n) (y.n)) then
                            bif (Nat.beq (y.n) (y.n)) then
                              bif (Nat.beq (y.n + 1) (y.n + 1)) then
                                bif (Nat.beq (y.n + 1) (y.n + 1)) then
                                  .ret (.str (byY y i.toNat)) []
                                else .bad
                              else .bad
                            else .bad
                          else .bad
                        else .bad
                      else .bad
                    else .bad
                  else .bad
          else .bad
        else .bad
      else .bad
    else .bad) := by kernel_rfl

noncomputable def g23 : List SV → Heap → Option R
  | [.ptr k r c, .int false .i64 i], H => match unY H with
    | some (nn, y) => match Nat.beq k 0 && (Nat.beq r 0 && Nat.beq c 0) with
      | true => some ⟨inB y.n i :: labB y.n y.lb :: nn, .str (byI y i.toNat), []⟩
      | false => none
    | none => none
  | _, _ => none
theorem fn23 : Try.prog.funcs[23]? = some Try.f23 := by kernel_rfl
theorem b23 : Try.f23.body = some (bodyOf Try.f23) := by kernel_rfl
theorem n23 : (Try.f23.name == "runtime.NumGoroutine") = false := by kernel_rfl
attribute [local irreducible] evalF Lf.gives byY in
theorem spec23 : SpecOk Try.prog 23 (specOf g23) := spec_okA false eb_calls mixed fn23 b23 n23 (loops_noLoop eb_loop _ _) g23 fun a0 H0 r hg hn => by
  unfold g23 at hg
  split at hg
  · rename_i k r c i
    split at hg
    · rename_i nn y hy
      split at hg
      · rename_i hk
        simp only [Bool.and_eq_true, Nat.beq_eq] at hk
        obtain ⟨rfl, rfl, rfl⟩ := hk
        simp only [Option.some.injEq] at hg
        subst hg
        simp only [allB, Bool.and_eq_true] at hn
        obtain ⟨hi, hlb, hnn⟩ := hn
        have hi' := inB_iff.1 hi
        obtain ⟨h0, h1⟩ := hi'
        refine ⟨_, id, fun _ => rfl, ?_⟩
        show GivesD _ (evalF EB Try.prog 23 _ (roH [] H0) base).leaf
        rw [unY_all hy hnn]
        refine gives_giv (gives_tree (t23 y i) ?_)
        have hl : i.toNat < y.n := by omega
        simp only [decide_eq_true h0, decide_eq_true h1, blt_t hl, cond_true, cm_eql', hi, hlb, beq_t, byI]
        refine gives_cond (fun c => ?_) (fun c => ?_)
        · rw [c]; exact gives_ret fun σ σ' => rfl
        rw [c]
        refine gives_cond (fun c => ?_) (fun c => ?_)
        · rw [c]; exact gives_ret fun σ σ' => rfl
        rw [c]
        cases ht : decide (y.t = 1)
        · have e : clsB True = true := clsB_iff.2 trivial
          simp only [e, cond_true, cond_false]
          exact gives_ret fun σ σ' => rfl
        · have e : clsB True = true := clsB_iff.2 trivial
          simp only [e, cond_true, cond_false]
          exact gives_ret fun σ σ' => rfl
      · cases hg
    · cases hg
  · cases hg

end Go.La
end

section
set_option linter.unusedVariables false
open Go Go.Ev Go.Proofs
namespace Go.La

/-- what is being laid, its places found -/
def y0 (x : It) (t : Int) (lg : Nat → Bool) : Y := ⟨x, t, domK x x.n, lbK x x.n, lg, fun _ => 0⟩
def yOf (x : It) (t : Int) (lg : Nat → Bool) : Y := ⟨x, t, domK x x.n, lbK x x.n, lg, fun r => (posN (y0 x t lg) r : Int)⟩
/-- what is long in the end -/
def finL (x : It) (t : Int) : Nat → (Nat → Bool) → Nat → Bool
  | 0, lg => lg
  | f + 1, lg => bif anyG (yOf x t lg) then finL x t f (growF (yOf x t lg)) else lg
def lastL (x : It) (t : Int) : Nat → Bool := finL x t x.n fun _ => false
def yL (x : It) (t : Int) : Y := yOf x t (lastL x t)
def hF (y : Y) : Heap := [(0, .tab y.n y.cols false), (1104, .map ⟨.i64, y.dom, [⟨.i64, y.lb⟩], false⟩ true), (1312, .tab y.n [.bools y.lg] true), (1376, .tab (y.n + 1) [.ints .i64 y.pos] true), (1408, .cells [.int false .i64 y.t, .sl 0 y.n, .mp 1104, .sl 1312 y.n, .sl 1376 (y.n + 1)])]
noncomputable def fB (lg : Nat → Bool) : Bool := clsB (lg = fun _ => false)
noncomputable def E9c : Env := envOf [(20, specOf g20T), (21, specOf g21), (22, specOf g22), (23, specOf g23)] noLoop
theorem e9c_calls : CallsOk E9c Try.prog := (SpecsOk.cons spec20T (SpecsOk.cons spec21 (SpecsOk.cons spec22 (SpecsOk.cons spec23 SpecsOk.nil)))).calls noLoop
theorem e9c_loop : E9c.loop = noLoop := rfl

def v9a (n : Nat) : List SV := [.sl 0 n, .ptr 1408 0 0]
def lk9a : Lp := ⟨69, [1, 9], 1472, fun _ _ => none⟩
noncomputable def get9a : List SV → Heap → Option Tr
  | [.sl ka na, .ptr k r c], [(j0, .tab n1 [.ints .i64 kd, .strs bs, .ints .i64 N, .ints .i64 op, .ints .i64 r1, .ints .i64 r2] _), (j1, .map ⟨.i64, dom, [⟨.i64, lb⟩], false⟩ true), (j2, .tab n3 [.bools lg] true), (j3, .tab n4 [.ints .i64 pos] true), (j4, .cells [.int _ .i64 t, .sl k1 m1, .mp k2, .sl k3 m3, .sl k4 m4])] =>
    some (Tr.needs [Nat.beq ka 0, Nat.beq na n1, Nat.beq k 1408, Nat.beq r 0, Nat.beq c 0, Nat.beq j0 0, Nat.beq j1 1104, Nat.beq j2 1312, Nat.beq j3 1376, Nat.beq j4 1408, Nat.beq k1 0, Nat.beq k2 1104, Nat.beq k3 1312, Nat.beq k4 1376,
      Nat.beq m1 n1, Nat.beq m3 n1, Nat.beq n3 n1, Nat.beq m4 (n1 + 1), Nat.beq n4 (n1 + 1), okB t ⟨n1, kd, bs, N, op, r1, r2⟩, clsB (dom = domK ⟨n1, kd, bs, N, op, r1, r2⟩ n1), clsB (lb = lbK ⟨n1, kd, bs, N, op, r1, r2⟩ n1), fB lg,
      clsB (pos = fun r => (posN (y0 ⟨n1, kd, bs, N, op, r1, r2⟩ t fun _ => false) r : Int))] (exitT lk9a 0 [.sl 0 n1, .ptr 1408 0 0] (hF (yL ⟨n1, kd, bs, N, op, r1, r2⟩ t))))
  | _, _ => none
noncomputable def lp9a : Lp := { lk9a with get := get9a }
theorem r9a (y : Y) : (evalB E9c Try.prog Try.f9.results.toList (loopOf Try.f9 0) 1 lp9a (v9a y.n) (hF y)).view [1, 9] =
    (bif (fewB y.toIt) then
      bif (labB y.n y.lb) then
        bif (Nat.beq y.n y.n) then
          bif (Nat.beq y.n y.n) then
            bif (Nat.beq y.n y.n) then
              bif (Nat.beq (y.n + 1) (y.n + 1)) then
                bif (Nat.beq (y.n + 1) (y.n + 1)) then
                  bif (anyG y) then
                    bif (fewB y.toIt) then
                      bif (Nat.beq y.n y.n) then
                        bif (Nat.beq y.n y.n) then
                          bif (Nat.beq y.n y.n) then
                            bif (Nat.beq (y.n + 1) (y.n + 1)) then
                              bif (Nat.beq (y.n + 1) (y.n + 1)) then
                                .norm 69 [.sl 0 y.n, .ptr 1408 0 0] (hF { y with lg := growF y, pos := fun r => (posN { y with lg := growF y } r : Int) })
                              else .bad
                            else .bad
                          else .bad
                        else .bad
                      else .bad
                    else .bad
                  else
                    .exit 0 69 [.sl 0 y.n, .ptr 1408 0 0] (hF { y with lg := growF y })
                else .bad
              else .bad
            else .bad
          else .bad
        else .bad
      else .bad
    else .bad) := by kernel_rfl

/-- the bytes of the first items -/
def catB (y : Y) : Nat → ByteArray
  | 0 => .empty
  | j + 1 => catB y j ++ byI y j
def hFb (y : Y) (m : Nat) (g : Nat → Int) : Heap := [(0, .tab y.n y.cols false), (1104, .map ⟨.i64, y.dom, [⟨.i64, y.lb⟩], false⟩ true), (1312, .tab y.n [.bools y.lg] true), (1376, .tab (y.n + 1) [.ints .i64 y.pos] true), (1408, .cells [.int false .i64 y.t, .sl 0 y.n, .mp 1104, .sl 1312 y.n, .sl 1376 (y.n + 1)]), (1800, .tab m [.ints .u8 g] true)]
noncomputable def smY (y : Y) : Bool := clsB (y.n ≤ 32000 ∧ ∀ i, i < y.n → (byI y i).size ≤ 64)
def v9b (y : Y) (m : Nat) (i : Int) : List SV := [.sl 0 y.n, .ptr 1408 0 0, .sl 1800 m, .sl 0 y.n, .int false .i64 y.n, .int false .i64 i]
def lk9b : Lp := ⟨69, [1, 9, 10, 47, 48, 49], 1900, fun _ _ => none⟩
noncomputable def get9b : List SV → Heap → Option Tr
  | [.sl ka na, .ptr k r c, .val (.slice none 0 0), .sl kb nb, .int _ .i64 n, .int _ .i64 i], [(j0, .tab n1 [.ints .i64 kd, .strs bs, .ints .i64 N, .ints .i64 op, .ints .i64 r1, .ints .i64 r2] _), (j1, .map ⟨.i64, dom, [⟨.i64, lb⟩], false⟩ true), (j2, .tab n3 [.bools lg] true), (j3, .tab n4 [.ints .i64 pos] true), (j4, .cells [.int _ .i64 t, .sl k1 m1, .mp k2, .sl k3 m3, .sl k4 m4])] =>
    some (Tr.needs [Nat.beq ka 0, Nat.beq na n1, Nat.beq k 1408, Nat.beq r 0, Nat.beq c 0, Nat.beq kb 0, Nat.beq nb n1, decide (n = n1), decide (i = 0), Nat.beq j0 0, Nat.beq j1 1104, Nat.beq j2 1312, Nat.beq j3 1376, Nat.beq j4 1408, Nat.beq k1 0, Nat.beq k2 1104, Nat.beq k3 1312, Nat.beq k4 1376,
      Nat.beq m1 n1, Nat.beq m3 n1, Nat.beq n3 n1, Nat.beq m4 (n1 + 1), Nat.beq n4 (n1 + 1), labB n1 lb, smY ⟨⟨n1, kd, bs, N, op, r1, r2⟩, t, dom, lb, lg, pos⟩] (exitT lk9b 2 [.sl 0 n1, .ptr 1408 0 0, .sl 1800 (catB ⟨⟨n1, kd, bs, N, op, r1, r2⟩, t, dom, lb, lg, pos⟩ n1).size, .any, .any, .any]
        (hFb ⟨⟨n1, kd, bs, N, op, r1, r2⟩, t, dom, lb, lg, pos⟩ (catB ⟨⟨n1, kd, bs, N, op, r1, r2⟩, t, dom, lb, lg, pos⟩ n1).size (chr (catB ⟨⟨n1, kd, bs, N, op, r1, r2⟩, t, dom, lb, lg, pos⟩ n1)))))
  | _, _ => none
noncomputable def lp9b : Lp := { lk9b with get := get9b }
noncomputable def E9 : Env := ⟨E9c.call, loopEnv [(0, lp9a), (1, lp9b)]⟩
--LEAVES

theorem r9b (y : Y) (m : Nat) (g : Nat → Int) (i : Int) : (evalB E9c Try.prog Try.f9.results.toList (loopOf Try.f9 1) 2 lp9b (v9b y m i) (hFb y m g)).view [1, 9, 10, 47, 48, 49] =
    (bif (cm .lss i (y.n : Int)) then
      bif (inB y.n i) then
        bif (labB y.n y.lb) then
          bif (Nat.beq (y.n) (y.n)) then
            bif (Nat.beq (y.n) (y.n)) then
              bif (Nat.beq (y.n) (y.n)) then
                bif (Nat.beq (y.n + 1) (y.n + 1)) then
                  bif (Nat.beq (y.n + 1) (y.n + 1)) then
                    bif (Nat.ble (m) (m)) then
                      bif (Nat.ble ((m + (byI y i.toNat).size) * 1) (1099511627776)) then
                        .norm 69 [(.sl 0 (y.n)), (.ptr 1408 0 0), (.sl 2012 (m + (byI y i.toNat).size)), (.sl 0 (y.n)), (.int false .i64 ((y.n : Int))), (.int false .i64 (ar .add .i64 i 1))] [(0, .tab (y.n) [.ints .i64 (y.kd), .strs (y.bs), .ints .i64 (y.N), .ints .i64 (y.op), .ints .i64 (y.r1), .ints .i64 (y.r2)] false), (1104, (Blk.map { kk := .i64, dom := y.dom, vs := [{ k := .i64, g := y.lb }], agg := false } true)), (1312, .tab (y.n) [.bools (y.lg)] true), (1376, .tab (y.n + 1) [.ints .i64 (y.pos)] true), (1408, .cells [(.int false .i64 (y.t)), (.sl 0 (y.n)), (.mp 1104), (.sl 1312 (y.n)), (.sl 1376 (y.n + 1))]), (1800, .dead), (2012, .tab (m + (byI y i.toNat).size) [.ints .u8 (cat m g (chr (byI y i.toNat)))] true)]
                      else .bad
                    else .bad
                  else .bad
                else .bad
              else .bad
            else .bad
          else .bad
        else .bad
      else .bad
    else
      .exit 2 69 [(.sl 0 (y.n)), (.ptr 1408 0 0), (.sl 1800 (m)), (.sl 0 (y.n)), (.int false .i64 ((y.n : Int))), (.int false .i64 (i))] [(0, .tab (y.n) [.ints .i64 (y.kd), .strs (y.bs), .ints .i64 (y.N), .ints .i64 (y.op), .ints .i64 (y.r1), .ints .i64 (y.r2)] false), (1104, (Blk.map { kk := .i64, dom := y.dom, vs := [{ k := .i64, g := y.lb }], agg := false } true)), (1312, .tab (y.n) [.bools (y.lg)] true), (1376, .tab (y.n + 1) [.ints .i64 (y.pos)] true), (1408, .cells [(.int false .i64 (y.t)), (.sl 0 (y.n)), (.mp 1104), (.sl 1312 (y.n)), (.sl 1376 (y.n + 1))]), (1800, .tab (m) [.ints .u8 (g)] true)]) := by kernel_rfl

theorem t9 (x : It) (t : Int) : (evalF E9 Try.prog 9 [SV.int false .i64 t, SV.sl 0 x.n] (hI x) 1024).leaf =
    (bif (Nat.beq (x.n) (x.n)) then
      bif (okB t x) then
        bif (decide (0 ≤ (↑x.n : Int))) then
          bif (decide ((↑x.n : Int) ≤ (↑x.n : Int))) then
            bif (Nat.ble ((↑x.n : Int).toNat * 1) (140737488355328)) then
              bif (Nat.ble ((↑x.n : Int).toNat) (140737488355328)) then
                bif (decide (0 ≤ ar .add .i64 (↑x.n : Int) 1)) then
                  bif (decide (ar .add .i64 (↑x.n : Int) 1 ≤ ar .add .i64 (↑x.n : Int) 1)) then
                    bif (Nat.ble ((ar .add .i64 (↑x.n : Int) 1).toNat * 8) (140737488355328)) then
                      bif (Nat.ble ((ar .add .i64 (↑x.n : Int) 1).toNat) (140737488355328)) then
                        bif (fewB x) then
                          bif (Nat.beq (x.n) (x.n)) then
                            bif (Nat.beq ((↑x.n : Int).toNat) (x.n)) then
                              bif (Nat.beq ((↑x.n : Int).toNat) (x.n)) then
                                bif (Nat.beq ((ar .add .i64 (↑x.n : Int) 1).toNat) (x.n + 1)) then
                                  bif (Nat.beq ((ar .add .i64 (↑x.n : Int) 1).toNat) (x.n + 1)) then
                                    bif (Nat.beq (x.n) (x.n)) then
                                      bif (Nat.beq (x.n) (x.n)) then
                                        bif (Nat.beq ((↑x.n : Int).toNat) (x.n)) then
                                          bif (Nat.beq ((↑x.n : Int).toNat) (x.n)) then
                                            bif (Nat.beq ((ar .add .i64 (↑x.n : Int) 1).toNat) (x.n + 1)) then
                                              bif (Nat.beq (x.n + 1) (x.n + 1)) then
                                                bif (okB t x) then
                                                  bif (clsB (domK x x.n = domK x x.n)) then
                                                    bif (clsB (lbK x x.n = lbK x x.n)) then
                                                      bif (fB fun x => false) then
                                                        bif (clsB ((fun r => (↑(posN { n := x.n, kd := x.kd, bs := x.bs, N := x.N, op := x.op, r1 := x.r1, r2 := x.r2, t := t, dom := domK x x.n, lb := lbK x x.n, lg := fun x => false, pos := fun x => 0 } r) : Int)) = fun r => (↑(posN (y0 x t fun x => false) r) : Int))) then
                                                          bif (decide (0 ≤ (↑x.n : Int))) then
                                                            bif (decide ((↑x.n : Int) < (↑((yL x t).n + 1) : Int))) then
                                                              bif (Nat.blt ((↑x.n : Int).toNat) ((yL x t).n + 1)) then
                                                                bif (Nat.blt ((↑x.n : Int).toNat) ((yL x t).n + 1)) then
                                                                  bif (cm .gtr ((yL x t).pos (↑x.n : Int).toNat) 258048) then
                                                                    .ret (.tup [(.str ((ByteArray.mk #[]))), (.val (Value.slice none 0 0)), (.int true .i64 10)]) [(0, .tab ((yL x t).n) [.ints .i64 ((yL x t).kd), .strs ((yL x t).bs), .ints .i64 ((yL x t).N), .ints .i64 ((yL x t).op), .ints .i64 ((yL x t).r1), .ints .i64 ((yL x t).r2)] false), (1104, (Blk.map { kk := .i64, dom := (yL x t).dom, vs := [{ k := .i64, g := (yL x t).lb }], agg := false } true)), (1312, .tab ((yL x t).n) [.bools ((yL x t).lg)] true), (1376, .tab ((yL x t).n + 1) [.ints .i64 ((yL x t).pos)] true), (1408, .cells [(.int false .i64 ((yL x t).t)), (.sl 0 ((yL x t).n)), (.mp 1104), (.sl 1312 ((yL x t).n)), (.sl 1376 ((yL x t).n + 1))])]
                                                                  else
                                                                    bif (Nat.beq (x.n) ((yL x t).n)) then
                                                                      bif (Nat.beq (x.n) ((yL x t).n)) then
                                                                        bif (decide ((↑x.n : Int) = (↑(yL x t).n : Int))) then
                                                                          bif (Nat.beq ((yL x t).n) ((yL x t).n)) then
                                                                            bif (Nat.beq ((yL x t).n) ((yL x t).n)) then
                                                                              bif (Nat.beq ((yL x t).n) ((yL x t).n)) then
                                                                                bif (Nat.beq ((yL x t).n + 1) ((yL x t).n + 1)) then
                                                                                  bif (Nat.beq ((yL x t).n + 1) ((yL x t).n + 1)) then
                                                                                    bif (labB (yL x t).n (yL x t).lb) then
                                                                                      bif (smY (yL x t)) then
                                                                                        bif (Nat.ble ((catB (yL x t) (yL x t).n).size) ((catB (yL x t) (yL x t).n).size)) then
                                                                                          bif (decide (0 ≤ (↑(yL x t).n : Int))) then
                                                                                            bif (decide ((↑(yL x t).n : Int) ≤ (↑(yL x t).n : Int))) then
                                                                                              bif (Nat.ble ((↑(yL x t).n : Int).toNat) ((yL x t).n + 1)) then
                                                                                                bif (Nat.ble (0) ((↑(yL x t).n : Int).toNat)) then
                                                                                                  bif (Nat.ble ((↑(yL x t).n : Int).toNat) ((yL x t).n + 1)) then
                                                                                                    .ret (.tup [(.str (strOf (chr (catB (yL x t) (yL x t).n)) (catB (yL x t) (yL x t).n).size)), (.sl 2060 ((↑(yL x t).n : Int).toNat - 0)), (.int true .i64 0)]) [(0, .tab ((yL x t).n) [.ints .i64 ((yL x t).kd), .strs ((yL x t).bs), .ints .i64 ((yL x t).N), .ints .i64 ((yL x t).op), .ints .i64 ((yL x t).r1), .ints .i64 ((yL x t).r2)] false), (1104, (Blk.map { kk := .i64, dom := (yL x t).dom, vs := [{ k := .i64, g := (yL x t).lb }], agg := false } true)), (1312, .tab ((yL x t).n) [.bools ((yL x t).lg)] true), (1376, .tab ((yL x t).n + 1) [.ints .i64 ((yL x t).pos)] false), (1408, .cells [(.int false .i64 ((yL x t).t)), (.sl 0 ((yL x t).n)), (.mp 1104), (.sl 1312 ((yL x t).n)), (.sl 1376 ((yL x t).n + 1))]), (1800, .tab ((catB (yL x t) (yL x t).n).size) [.ints .u8 (chr (catB (yL x t) (yL x t).n))] true), (2060, .tab ((↑(yL x t).n : Int).toNat - 0) [.ints .i64 (from_ 0 (yL x t).pos)] false)]
                                                                                                  else .bad
                                                                                                else .bad
                                                                                              else .bad
                                                                                            else .bad
                                                                                          else .bad
                                                                                        else .bad
                                                                                      else .bad
                                                                                    else .bad
                                                                                  else .bad
                                                                                else .bad
                                                                              else .bad
                                                                            else .bad
                                                                          else .bad
                                                                        else .bad
                                                                      else .bad
                                                                    else .bad
                                                                else .bad
                                                              else .bad
                                                            else .bad
                                                          else .bad
                                                        else .bad
                                                      else .bad
                                                    else .bad
                                                  else .bad
                                                else .bad
                                              else .bad
                                            else .bad
                                          else .bad
                                        else .bad
                                      else .bad
                                    else .bad
                                  else .bad
                                else .bad
                              else .bad
                            else .bad
                          else .bad
                        else .bad
                      else .bad
                    else .bad
                  else .bad
                else .bad
              else .bad
            else .bad
          else .bad
        else .bad
      else .bad
    else .bad) := by kernel_rfl

end Go.La
end

section
set_option linter.unusedVariables false
open Go Go.Ev Go.Proofs
namespace Go.La

theorem e9_calls : CallsOk E9 Try.prog := fun f args H nm r h hn => e9c_calls f args H nm r h hn

/-- how many are short yet -/
def cntF (lg : Nat → Bool) : Nat → Nat
  | 0 => 0
  | i + 1 => cntF lg i + (bif lg i then 0 else 1)
theorem cntF_le {lg lg' : Nat → Bool} : ∀ n, (∀ i, i < n → lg i = true → lg' i = true) → cntF lg' n ≤ cntF lg n
  | 0, _ => Nat.le_refl _
  | n + 1, h => by
    have := cntF_le n fun i hi => h i (by omega)
    have h' := h n (by omega)
    simp only [cntF]
    cases hl : lg n
    · cases lg' n <;> simp <;> omega
    · rw [h' hl]; simpa using this
theorem cntF_lt {lg lg' : Nat → Bool} : ∀ n, (∀ i, i < n → lg i = true → lg' i = true) → (∃ i, i < n ∧ lg i = false ∧ lg' i = true) → cntF lg' n < cntF lg n
  | 0, _, ⟨i, hi, _⟩ => by omega
  | n + 1, h, ⟨i, hi, h1, h2⟩ => by
    by_cases e : i = n
    · subst e
      have := cntF_le i fun j hj => h j (by omega)
      simp only [cntF, h1, h2, cond_true, cond_false]; omega
    · have := cntF_lt n (fun j hj => h j (by omega)) ⟨i, by omega, h1, h2⟩
      have h' := h n (by omega)
      simp only [cntF]
      cases hl : lg n
      · cases lg' n <;> simp <;> omega
      · rw [h' hl]; simpa using this
theorem cntF_n (n : Nat) (lg : Nat → Bool) : cntF lg n ≤ n := by
  induction n with
  | zero => exact Nat.le_refl _
  | succ n ih => simp only [cntF]; cases lg n <;> simp <;> omega

theorem posN_congr {y y' : Y} (h : ∀ i, szY y i = szY y' i) : ∀ i, posN y i = posN y' i
  | 0 => rfl
  | i + 1 => by simp only [posN, posN_congr h i, h i]

theorem toList_loop (bs : ByteArray) (n : Nat) : ∀ i r, bs.size - i = n → ByteArray.toList.loop bs i r = r.reverse ++ bs.data.toList.drop i := by
  induction n with
  | zero =>
    intro i r h
    rw [ByteArray.toList.loop, if_neg (by omega)]
    rw [List.drop_eq_nil_of_le (by simp; have : bs.data.size = bs.size := rfl; omega), List.append_nil]
  | succ n ih =>
    intro i r h
    rw [ByteArray.toList.loop, if_pos (by omega), ih (i + 1) _ (by omega)]
    have hi : i < bs.data.toList.length := by simp; have : bs.data.size = bs.size := rfl; omega
    rw [List.drop_eq_getElem_cons hi]
    have e : bs.get! i = bs.data.toList[i] := by
      have hs : i < bs.data.size := by simpa using hi
      rw [Array.getElem_toList]
      exact getElem!_pos bs.data i hs
    rw [e]
    simp

theorem toList_data (s : ByteArray) : s.toList = s.data.toList := by
  unfold ByteArray.toList
  rw [toList_loop s s.size 0 [] (by omega)]
  simp

theorem seq_iff (s t : ByteArray) : seq s t = true ↔ s = t := by
  unfold seq
  rw [toList_data, toList_data, beq_iff_eq]
  constructor
  · intro h
    exact ByteArray.ext (Array.toList_inj.1 h)
  · rintro rfl
    rfl
theorem anyG_iff {y : Y} : anyG y = true ↔ ∃ i, i < y.n ∧ mayB y i = true := by
  unfold anyG moreN
  rw [Nat.blt_eq]
  constructor
  · intro h
    have hm := List.getElem_mem h
    exact ⟨_, moreL_mem.1 hm⟩
  · rintro ⟨i, h1, h2⟩
    exact List.length_pos_of_mem (moreL_mem.2 ⟨h1, h2⟩)

theorem one_size {t kd : Int} {s : ByteArray} {n op r1 r2 : Int} (h : oneB t kd s n op r1 r2 = true) : s.size ≤ 64 := by
  unfold oneB at h
  have hz : seq s ⟨#[]⟩ = true → s.size ≤ 64 := fun e => by
    rw [(seq_iff _ _).1 e]; decide
  by_cases h1 : kd = 1
  · rw [decide_eq_true h1, cond_true] at h
    simp only [Bool.and_eq_true, decide_eq_true_eq] at h
    exact h.2.2.2.2.1
  · rw [decide_eq_false h1, cond_false] at h
    cases h2 : (decide (kd = 2) || (decide (kd = 3) || decide (kd = 5))) with
    | true =>
      rw [h2, cond_true] at h
      simp only [Bool.and_eq_true] at h
      exact hz h.2.2.2
    | false =>
      rw [h2, cond_false] at h
      by_cases h4 : kd = 4
      · rw [decide_eq_true h4, cond_true] at h
        simp only [Bool.and_eq_true] at h
        exact hz h.1
      · rw [decide_eq_false h4, cond_false] at h; cases h
theorem val_one {t : Int} {x : It} {n : Nat} (h : valK t x n = true) {i : Nat} (hi : i < n) : oneB t (x.kd i) (x.bs i) (x.N i) (x.op i) (x.r1 i) (x.r2 i) = true := by
  have := valK_le (show i + 1 ≤ n from hi) h
  simp only [valK, Bool.and_eq_true] at this
  exact this.2.1
theorem ok_few {t : Int} {x : It} (h : okP t x) : fewB x = true := fewB_iff.2 ⟨h.1, fun i hi => one_size (val_one h.2.2.1 hi)⟩
theorem lbK_range (x : It) (c : Int) : ∀ j, 0 ≤ lbK x j c ∧ lbK x j c < (j : Int) + 1
  | 0 => by simp [lbK]
  | j + 1 => by
    have := lbK_range x c j
    simp only [lbK]
    cases decide (x.kd j = 2)
    · simp only [cond_false]; omega
    · simp only [cond_true, updI]
      cases c == x.N j
      · simp only [cond_false]; omega
      · simp only [cond_true]; omega
theorem ok_lab (x : It) : labB x.n (lbK x x.n) = true := labB_iff.2 fun c => lbK_range x c x.n

/-! the loop -/
structure X9a where
  x : It
  t : Int
  lg : Nat → Bool
  f : Nat
def ok9a (s : X9a) : Prop := okP s.t s.x ∧ cntF s.lg s.x.n ≤ s.f ∧ finL s.x s.t s.f s.lg = lastL s.x s.t
def vs9a (s : X9a) : List SV := v9a s.x.n
def hp9a (s : X9a) : Heap := hF (yOf s.x s.t s.lg)
def out9a (s : X9a) : Vw := .exit 0 69 [.sl 0 s.x.n, .ptr 1408 0 0] (hF (yL s.x s.t))

theorem hF_wk (x : It) (t : Int) (dom : Int → Bool) (lb : Int → Int) {lg lg' : Nat → Bool} {pos pos' : Nat → Int} {f : Bool} {l : Bool} (h1 : ∀ i, i < x.n → lg i = lg' i) (h2 : ∀ i, i < x.n + 1 → pos i = pos' i) :
    wkH (rmap []) [(0, .tab x.n x.cols f), (1104, .map ⟨.i64, dom, [⟨.i64, lb⟩], false⟩ true), (1312, .tab x.n [.bools lg] true), (1376, .tab (x.n + 1) [.ints .i64 pos] true), (1408, .cells [.int l .i64 t, .sl 0 x.n, .mp 1104, .sl 1312 x.n, .sl 1376 (x.n + 1)])] (hF ⟨x, t, dom, lb, lg', pos'⟩) := by
  simp [hF, wkH, wkB, wkCs, wkC, simL, sim, rmap, rlook, Ev.look, It.cols, wkM_refl]
  exact ⟨h1, h2⟩

theorem entry9a (l : List SV) (H : Heap) (T : Tr) (h : lp9a.get l H = some T) (hb : T.leaf ≠ .bad) : ∃ x r, ok9a x ∧ WkV r lp9a.nm l H (vs9a x) (hp9a x) ∧ T.leaf = toLf lp9a (out9a x) := by
  replace h : get9a l H = some T := h
  unfold get9a at h
  split at h
  · rename_i ka na k r c j0 n1 kd bs N op r1 r2 _ j1 dom lb j2 n3 lg j3 n4 pos j4 _ t k1 m1 k2 k3 m3 k4 m4
    simp only [Option.some.injEq] at h
    subst h
    obtain ⟨hn, he⟩ := needs_ne hb
    rw [he]
    simp only [allB, Bool.and_eq_true, Bool.and_true, Nat.beq_eq, okB, fB, clsB_iff] at hn
    obtain ⟨rfl, rfl, rfl, rfl, rfl, rfl, rfl, rfl, rfl, rfl, rfl, rfl, rfl, rfl, rfl, rfl, rfl, rfl, rfl, hok, rfl, rfl, rfl, rfl⟩ := hn
    refine ⟨⟨⟨n3, kd, bs, N, op, r1, r2⟩, t, fun _ => false, n3⟩, [], ⟨hok, cntF_n _ _, rfl⟩, ?_, ?_⟩
    · exact ⟨rfl, ⟨⟨rfl, rfl⟩, ⟨rfl, rfl, rfl⟩, trivial⟩, hF_wk ⟨n3, kd, bs, N, op, r1, r2⟩ t _ _ (fun _ _ => rfl) (fun _ _ => rfl), rfl, rfl⟩
    · simp only [exitT_leaf, out9a]
      rfl
  · cases h

attribute [local irreducible] evalB Tr.view in
theorem round9a (s : X9a) (hx : ok9a s) : Round lp9a ok9a (fun s => s.f) vs9a hp9a out9a s ((evalB E9c Try.prog Try.f9.results.toList (loopOf Try.f9 0) (0 + 1) lp9a (vs9a s) (hp9a s)).view lp9a.ks) := by
  obtain ⟨x, t, lg, f⟩ := s
  obtain ⟨h0, h1, h2⟩ := hx
  simp only at h0 h1 h2
  have hr := r9a (yOf x t lg)
  rw [show evalB E9c Try.prog Try.f9.results.toList (loopOf Try.f9 0) (0 + 1) lp9a (vs9a ⟨x, t, lg, f⟩) (hp9a ⟨x, t, lg, f⟩) = evalB E9c Try.prog Try.f9.results.toList (loopOf Try.f9 0) 1 lp9a (v9a (yOf x t lg).n) (hF (yOf x t lg)) from rfl, show lp9a.ks = [1, 9] from rfl, hr]
  have e1 : fewB (yOf x t lg).toIt = true := ok_few h0
  have e2 : labB (yOf x t lg).n (yOf x t lg).lb = true := ok_lab x
  simp only [e1, e2, beq_t, cond_true]
  cases ha : anyG (yOf x t lg) with
  | true =>
    simp only [cond_true]
    have hlt : cntF (growF (yOf x t lg)) x.n < cntF lg x.n := by
      obtain ⟨i, hi, hm⟩ := anyG_iff.1 ha
      have hm' : (!(yOf x t lg).lg i && !shB (yOf x t lg).t ((yOf x t lg).kd i) (wyZ (yOf x t lg) i)) = true := hm
      refine cntF_lt x.n (fun i _ h => ?_) ⟨i, hi, ?_, ?_⟩
      · show ((yOf x t lg).lg i || _) = true
        rw [show (yOf x t lg).lg i = true from h]; rfl
      · have := (Bool.and_eq_true _ _ ▸ hm' : _ ∧ _).1
        exact Bool.not_eq_true' _ ▸ this
      · show (_ || mayB _ i) = true
        rw [hm, Bool.or_true]
    cases f with
    | zero => omega
    | succ f =>
      have hf : finL x t f (growF (yOf x t lg)) = lastL x t := by
        rw [← h2]; simp only [finL, ha, cond_true]
      refine ⟨rfl, ⟨x, t, growF (yOf x t lg), f⟩, [], ⟨h0, by simp only; omega, hf⟩, Nat.lt_succ_self f, rfl, rfl, ?_, ?_, rfl, rfl⟩
      · exact ⟨⟨rfl, rfl⟩, ⟨rfl, rfl, rfl⟩, trivial⟩
      · exact hF_wk x t _ _ (fun _ _ => rfl) (fun i _ => congrArg Int.ofNat (posN_congr (y := { yOf x t lg with lg := growF (yOf x t lg) }) (y' := y0 x t (growF (yOf x t lg))) (fun _ => rfl) i))
  | false =>
    simp only [cond_false]
    have hl : lg = lastL x t := by
      rw [← h2]
      cases f with
      | zero => rfl
      | succ f => simp only [finL, ha, cond_false]
    refine ⟨rfl, [.sl 0 x.n, .ptr 1408 0 0], _, [], rfl, rfl, ?_, ?_, rfl, rfl⟩
    · exact ⟨⟨rfl, rfl⟩, ⟨rfl, rfl, rfl⟩, trivial⟩
    · rw [yL, ← hl]
      refine hF_wk x t _ _ (fun i hi => ?_) (fun _ _ => rfl)
      show (lg i || mayB (yOf x t lg) i) = lg i
      have : mayB (yOf x t lg) i = false := by
        rw [Bool.eq_false_iff]
        intro hm
        have : anyG (yOf x t lg) = true := anyG_iff.2 ⟨i, hi, hm⟩
        rw [ha] at this; cases this
      rw [this, Bool.or_false]

attribute [local irreducible] evalB Tr.view in
theorem loop9a : LoopOk E9 Try.prog Try.f9 0 (loopOf Try.f9 0) :=
  loop_okE mixed (fun S => rfl) (by decide) ok9a (fun s => s.f) vs9a hp9a out9a entry9a fun x hx => ⟨E9c, e9c_calls, loops_noLoop e9c_loop _ _, round9a x hx⟩

end Go.La
end

section
set_option linter.unusedVariables false
open Go Go.Ev Go.Proofs
namespace Go.La

theorem grow_cnt {x : It} {t : Int} {lg : Nat → Bool} (ha : anyG (yOf x t lg) = true) : cntF (growF (yOf x t lg)) x.n < cntF lg x.n := by
  obtain ⟨i, hi, hm⟩ := anyG_iff.1 ha
  have hm' : (!(yOf x t lg).lg i && !shB (yOf x t lg).t ((yOf x t lg).kd i) (wyZ (yOf x t lg) i)) = true := hm
  refine cntF_lt x.n (fun i _ h => ?_) ⟨i, hi, ?_, ?_⟩
  · show ((yOf x t lg).lg i || _) = true
    rw [show (yOf x t lg).lg i = true from h]; rfl
  · have := (Bool.and_eq_true _ _ ▸ hm' : _ ∧ _).1
    exact Bool.not_eq_true' _ ▸ this
  · show (_ || mayB _ i) = true
    rw [hm, Bool.or_true]
theorem cntF_zero {lg : Nat → Bool} : ∀ n, cntF lg n = 0 → ∀ i, i < n → lg i = true
  | 0, _, i, hi => by omega
  | n + 1, h, i, hi => by
    simp only [cntF] at h
    by_cases e : i = n
    · subst e
      cases hl : lg i
      · rw [hl, cond_false] at h; omega
      · rfl
    · exact cntF_zero n (by omega) i (by omega)
theorem finL_fix (x : It) (t : Int) : ∀ (f : Nat) (lg : Nat → Bool), cntF lg x.n ≤ f → anyG (yOf x t (finL x t f lg)) = false
  | 0, lg, h => by
    rw [Bool.eq_false_iff]
    intro ha
    have := grow_cnt ha
    simp only [finL] at this
    omega
  | f + 1, lg, h => by
    cases ha : anyG (yOf x t lg) with
    | true =>
      simp only [finL, ha, cond_true]
      exact finL_fix x t f _ (by have := grow_cnt ha; omega)
    | false => simp only [finL, ha, cond_false]
theorem yL_fix (x : It) (t : Int) : anyG (yL x t) = false := finL_fix x t x.n _ (cntF_n _ _)
theorem yL_short {x : It} {t : Int} {i : Nat} (hi : i < x.n) (hl : (yL x t).lg i = false) : shB t (x.kd i) (wyZ (yL x t) i) = true := by
  have h : mayB (yL x t) i = false := by
    rw [Bool.eq_false_iff]
    intro hm
    have : anyG (yL x t) = true := anyG_iff.2 ⟨i, hi, hm⟩
    rw [yL_fix] at this; cases this
  unfold mayB at h
  rw [hl, Bool.not_false, Bool.true_and] at h
  exact Bool.not_eq_false' _ ▸ h

/-- places are small -/
theorem pos_range {x : It} {t : Int} {lg : Nat → Bool} (h : okP t x) {r : Nat} (hr : r ≤ x.n) : 0 ≤ (yOf x t lg).pos r ∧ (yOf x t lg).pos r ≤ 2048000 := by
  have hf := fewB_iff.1 (ok_few h)
  have := posN_le (y := y0 x t lg) hf.2 r hr
  have hn := hf.1
  show (0 : Int) ≤ (posN (y0 x t lg) r : Nat) ∧ ((posN (y0 x t lg) r : Nat) : Int) ≤ 2048000
  omega
/-- how far a way is -/
theorem way_eq {x : It} {t : Int} {lg : Nat → Bool} (h : okP t x) {i : Nat} (hi : i < x.n) : wyZ (yOf x t lg) i = (yOf x t lg).pos (lbK x x.n (x.N i)).toNat - (yOf x t lg).pos i ∧ -2048000 ≤ wyZ (yOf x t lg) i ∧ wyZ (yOf x t lg) i ≤ 2048000 := by
  have h1 := lbK_range x (x.N i) x.n
  have h2 := pos_range (lg := lg) h (show (lbK x x.n (x.N i)).toNat ≤ x.n by omega)
  have h3 := pos_range (lg := lg) h (show i ≤ x.n by omega)
  have e : wyZ (yOf x t lg) i = (yOf x t lg).pos (lbK x x.n (x.N i)).toNat - (yOf x t lg).pos i := by
    show ar .sub .i64 ((yOf x t lg).pos (lbK x x.n (x.N i)).toNat) ((yOf x t lg).pos i) = _
    simp only [ar, IntKind.wrap_i64]; omega
  rw [e]
  omega

theorem S_size (l : List Int) : (X.S l).size = l.length := by simp [X.S, ByteArray.size]
theorem strOf_size (g : Nat → Int) (m : Nat) : (strOf g m).size = m := by simp [strOf, ByteArray.size]
theorem wd4_size (op rd r1 r2 n : Int) : (wd4 op rd r1 r2 n).size = 4 := strOf_size _ 4
theorem e40 (n : Int) : X.errX 40 4 0 0 n = (bif decide (-2147483648 ≤ n) && decide (n ≤ 2147483647) then 0 else 10) := by
  have : X.errX 40 4 0 0 n = (bif (decide (-2147483648 ≤ n) && decide (n ≤ 2147483647)) || false then 0 else 10) := by kernel_rfl
  rw [this, Bool.or_false]
theorem e42 (n : Int) : X.errX 42 4 0 0 n = (bif decide (-2147483648 ≤ n) && decide (n ≤ 2147483647) then 0 else 10) := by
  have : X.errX 42 4 0 0 n = (bif (decide (-2147483648 ≤ n) && decide (n ≤ 2147483647)) || false then 0 else 10) := by kernel_rfl
  rw [this, Bool.or_false]
theorem e43 (n : Int) : X.errX 43 4 0 0 n = (bif decide (-128 ≤ n) && decide (n ≤ 127) then 0 else 10) := by
  have : X.errX 43 4 0 0 n = (bif (decide (-128 ≤ n) && decide (n ≤ 127)) || false then 0 else 10) := by kernel_rfl
  rw [this, Bool.or_false]
theorem e44 (c n : Int) : X.errX 44 4 c 0 n = (bif X.condX c then (bif decide (-2147483648 ≤ n) && decide (n ≤ 2147483647) then 0 else 10) else 1) := by
  have : X.errX 44 4 c 0 n = (bif X.condX c && true then (bif (decide (-2147483648 ≤ n) && decide (n ≤ 2147483647)) || false then 0 else 10) else 1) := by kernel_rfl
  rw [this, Bool.and_true, Bool.or_false]
theorem e45 (c n : Int) : X.errX 45 4 c 0 n = (bif X.condX c then (bif decide (-128 ≤ n) && decide (n ≤ 127) then 0 else 10) else 1) := by
  have : X.errX 45 4 c 0 n = (bif X.condX c && true then (bif (decide (-128 ≤ n) && decide (n ≤ 127)) || false then 0 else 10) else 1) := by kernel_rfl
  rw [this, Bool.and_true, Bool.or_false]
theorem z40 (n : Int) : (X.encL 40 4 0 0 n).length = 5 := by kernel_rfl
theorem z42 (n : Int) : (X.encL 42 4 0 0 n).length = 5 := by kernel_rfl
theorem z43 (n : Int) : (X.encL 43 4 0 0 n).length = 2 := by kernel_rfl
theorem z44 (c n : Int) : (X.encL 44 4 c 0 n).length = 6 := by kernel_rfl
theorem z45 (c n : Int) : (X.encL 45 4 c 0 n).length = 2 := by kernel_rfl
theorem str_size {op w rd rs n : Int} {k : Nat} (he : X.errX op w rd rs n = 0) (hz : (X.encL op w rd rs n).length = k) : (X.strX op w rd rs n).size = k := by
  rw [X.strX_ok he, S_size, hz]

theorem by_size {x : It} {t : Int} (h : okP t x) {i : Nat} (hi : i < x.n) : (byI (yL x t) i).size = szY (yL x t) i := by
  have hw := way_eq (lg := lastL x t) h hi
  have ho := val_one h.2.2.1 hi
  have hsh := yL_short (t := t) hi
  show (byI (yL x t) i).size = szN t (x.kd i) (x.bs i).size ((yL x t).lg i)
  have hb : byI (yL x t) i = bif decide (x.kd i = 1) then x.bs i else bif decide (x.kd i = 2) then .empty else byK t (x.kd i) (x.op i) (x.r1 i) (x.r2 i) ((yL x t).lg i) (x.bs i).size (wyZ (yL x t) i) := rfl
  rw [hb]
  change _ ∧ -2048000 ≤ wyZ (yL x t) i ∧ wyZ (yL x t) i ≤ 2048000 at hw
  obtain ⟨_, hw1, hw2⟩ := hw
  revert hsh
  generalize wyZ (yL x t) i = w at *
  generalize (yL x t).lg i = lg at *
  intro hsh
  unfold oneB at ho
  by_cases h1 : x.kd i = 1
  · simp only [decide_eq_true h1, cond_true, szN]
  by_cases h2 : x.kd i = 2
  · simp only [h2, szN]; rfl
  rw [decide_eq_false h1, cond_false] at ho ⊢
  rw [decide_eq_false h2, cond_false]
  have hk : x.kd i = 3 ∨ x.kd i = 4 ∨ x.kd i = 5 := by
    by_cases h3 : x.kd i = 3
    · exact .inl h3
    by_cases h5 : x.kd i = 5
    · exact .inr (.inr h5)
    by_cases h4 : x.kd i = 4
    · exact .inr (.inl h4)
    simp [h2, h3, h4, h5] at ho
  have sub : ∀ k : Nat, k ≤ 64 → ar .sub .i64 w (k : Int) = w - k := fun k hk => by
    simp only [ar, IntKind.wrap_i64]; omega
  rcases h.2.1 with rfl | rfl
  · rcases hk with e | e | e <;> rw [e] <;> cases lg <;> simp [byK, szN, wd4_size]
  · rcases hk with e | e | e <;> rw [e]
    · cases lg
      · have hs := hsh rfl
        rw [e] at hs
        have hs : (decide (-128 ≤ ar .sub .i64 w 2) && decide (ar .sub .i64 w 2 < 128)) = true := hs
        simp only [Bool.and_eq_true, decide_eq_true_eq] at hs
        show (X.strX 43 4 0 0 (ar .sub .i64 w 2)).size = 2
        refine str_size ?_ (z43 _)
        rw [e43, decide_eq_true hs.1, decide_eq_true (show ar .sub .i64 w 2 ≤ 127 by omega)]
        rfl
      · show (X.strX 42 4 0 0 (ar .sub .i64 w (szN 2 3 (x.bs i).size true : Nat))).size = 5
        rw [show szN 2 3 (x.bs i).size true = 5 from rfl, sub 5 (by omega)]
        refine str_size ?_ (z42 _)
        rw [e42, decide_eq_true (show -2147483648 ≤ w - ((5 : Nat) : Int) by omega), decide_eq_true (show w - ((5 : Nat) : Int) ≤ 2147483647 by omega)]
        rfl
    · have hc : X.condX (x.op i) = true := by
        rw [e] at ho
        simp only [condB] at ho
        simp at ho
        simp only [X.condX]
        simp
        omega
      cases lg
      · have hs := hsh rfl
        rw [e] at hs
        have hs : (decide (-128 ≤ ar .sub .i64 w 2) && decide (ar .sub .i64 w 2 < 128)) = true := hs
        simp only [Bool.and_eq_true, decide_eq_true_eq] at hs
        show (X.strX 45 4 (x.op i) 0 (ar .sub .i64 w 2)).size = 2
        refine str_size ?_ (z45 _ _)
        rw [e45, hc, decide_eq_true hs.1, decide_eq_true (show ar .sub .i64 w 2 ≤ 127 by omega)]
        rfl
      · show (X.strX 44 4 (x.op i) 0 (ar .sub .i64 w (szN 2 4 (x.bs i).size true : Nat))).size = 6
        rw [show szN 2 4 (x.bs i).size true = 6 from rfl, sub 6 (by omega)]
        refine str_size ?_ (z44 _ _)
        rw [e44, hc, decide_eq_true (show -2147483648 ≤ w - ((6 : Nat) : Int) by omega), decide_eq_true (show w - ((6 : Nat) : Int) ≤ 2147483647 by omega)]
        rfl
    · have hz : szN 2 5 (x.bs i).size lg = 5 := by cases lg <;> rfl
      rw [hz]
      show (X.strX 40 4 0 0 (ar .sub .i64 w (szN 2 5 (x.bs i).size lg : Nat))).size = 5
      rw [hz]
      refine str_size ?_ (z40 _)
      rw [sub 5 (by omega), e40, decide_eq_true (show -2147483648 ≤ w - ((5 : Nat) : Int) by omega), decide_eq_true (show w - ((5 : Nat) : Int) ≤ 2147483647 by omega)]
      rfl

end Go.La
end

section
set_option linter.unusedVariables false
open Go Go.Ev Go.Proofs
namespace Go.La

theorem app_size (a b : ByteArray) : (a ++ b).size = a.size + b.size := ByteArray.size_append
theorem chr_app (a b : ByteArray) (r : Nat) : cat a.size (chr a) (chr b) r = chr (a ++ b) r := by
  unfold cat chr
  have hd : (a ++ b).data = a.data ++ b.data := ByteArray.data_append
  rw [hd, Array.getD_eq_getD_getElem?, Array.getD_eq_getD_getElem?, Array.getD_eq_getD_getElem?, Array.getElem?_append]
  by_cases h : r < a.size
  · rw [blt_t h, cond_true, if_pos (show r < a.data.size from h)]
  · rw [blt_f h, cond_false, if_neg (show ¬ r < a.data.size from h)]
    rfl
theorem catB_le {y : Y} (h : ∀ i, i < y.n → (byI y i).size ≤ 64) : ∀ j, j ≤ y.n → (catB y j).size ≤ 64 * j
  | 0, _ => Nat.le_refl _
  | j + 1, hj => by
    have := catB_le h j (by omega)
    have := h j (by omega)
    simp only [catB, app_size]; omega

structure X9b where
  y : Y
  j : Nat
def ok9b (s : X9b) : Prop := s.j ≤ s.y.n ∧ labB s.y.n s.y.lb = true ∧ s.y.n ≤ 32000 ∧ ∀ i, i < s.y.n → (byI s.y i).size ≤ 64
def vs9b (s : X9b) : List SV := v9b s.y (catB s.y s.j).size s.j
def hp9b (s : X9b) : Heap := hFb s.y (catB s.y s.j).size (chr (catB s.y s.j))
def out9b (s : X9b) : Vw := .exit 2 69 [.sl 0 s.y.n, .ptr 1408 0 0, .sl 1800 (catB s.y s.y.n).size, .any, .any, .any] (hFb s.y (catB s.y s.y.n).size (chr (catB s.y s.y.n)))

theorem hFb_wkN (y : Y) {f l : Bool} {g : Nat → Int} :
    wkH (rmap [(1800, .nil 1)]) [(0, .tab y.n y.cols f), (1104, .map ⟨.i64, y.dom, [⟨.i64, y.lb⟩], false⟩ true), (1312, .tab y.n [.bools y.lg] true), (1376, .tab (y.n + 1) [.ints .i64 y.pos] true), (1408, .cells [.int l .i64 y.t, .sl 0 y.n, .mp 1104, .sl 1312 y.n, .sl 1376 (y.n + 1)])] (hFb y 0 g) := by
  simp [hFb, wkH, wkB, wkCs, wkC, wkN, simL, sim, rmap, rlook, Ev.look, It.cols, wkM_refl]
theorem hFb_wk (y : Y) {m : Nat} {g g' : Nat → Int} (hg : ∀ i, i < m → g i = g' i) :
    wkH (rmap []) [(0, .tab y.n y.cols false), (1104, .map ⟨.i64, y.dom, [⟨.i64, y.lb⟩], false⟩ true), (1312, .tab y.n [.bools y.lg] true), (1376, .tab (y.n + 1) [.ints .i64 y.pos] true), (1408, .cells [.int false .i64 y.t, .sl 0 y.n, .mp 1104, .sl 1312 y.n, .sl 1376 (y.n + 1)]), (1800, .tab m [.ints .u8 g] true)] (hFb y m g') := by
  simp [hFb, wkH, wkB, wkCs, wkC, simL, sim, rmap, rlook, Ev.look, It.cols, wkM_refl]
  exact hg
theorem hFb_wkA (y : Y) {m : Nat} {g g' : Nat → Int} (hg : ∀ i, i < m → g i = g' i) :
    wkH (rmap [(1800, .old 2012)]) [(0, .tab y.n y.cols false), (1104, .map ⟨.i64, y.dom, [⟨.i64, y.lb⟩], false⟩ true), (1312, .tab y.n [.bools y.lg] true), (1376, .tab (y.n + 1) [.ints .i64 y.pos] true), (1408, .cells [.int false .i64 y.t, .sl 0 y.n, .mp 1104, .sl 1312 y.n, .sl 1376 (y.n + 1)]), (1800, .dead), (2012, .tab m [.ints .u8 g] true)] (hFb y m g') := by
  simp [hFb, wkH, wkB, wkCs, wkC, simL, sim, rmap, rlook, Ev.look, It.cols, wkM_refl]
  exact hg

theorem entry9b (l : List SV) (H : Heap) (T : Tr) (h : lp9b.get l H = some T) (hb : T.leaf ≠ .bad) : ∃ x r, ok9b x ∧ WkV r lp9b.nm l H (vs9b x) (hp9b x) ∧ T.leaf = toLf lp9b (out9b x) := by
  replace h : get9b l H = some T := h
  unfold get9b at h
  split at h
  · rename_i ka na k r c kb nb _ n _ i j0 n1 kd bs N op r1 r2 _ j1 dom lb j2 n3 lg j3 n4 pos j4 _ t k1 m1 k2 k3 m3 k4 m4
    simp only [Option.some.injEq] at h
    subst h
    obtain ⟨hn, he⟩ := needs_ne hb
    rw [he]
    simp only [allB, Bool.and_eq_true, Bool.and_true, Nat.beq_eq, decide_eq_true_eq, smY, clsB_iff] at hn
    obtain ⟨rfl, rfl, rfl, rfl, rfl, rfl, rfl, rfl, rfl, rfl, rfl, rfl, rfl, rfl, rfl, rfl, rfl, rfl, rfl, rfl, rfl, rfl, rfl, hlb, hs, hz⟩ := hn
    refine ⟨⟨⟨⟨n3, kd, bs, N, op, r1, r2⟩, t, dom, lb, lg, pos⟩, 0⟩, [(1800, .nil 1)], ⟨Nat.zero_le _, hlb, hs, hz⟩, ?_, ?_⟩
    · exact ⟨rfl, ⟨⟨rfl, rfl⟩, ⟨rfl, rfl, rfl⟩, ⟨trivial, rfl, 1, rfl⟩, ⟨rfl, rfl⟩, ⟨rfl, rfl⟩, ⟨rfl, rfl⟩, trivial⟩, hFb_wkN ⟨⟨n3, kd, bs, N, op, r1, r2⟩, t, dom, lb, lg, pos⟩, rfl, rfl⟩
    · simp only [exitT_leaf, out9b]
      rfl
  · cases h

attribute [local irreducible] evalB Tr.view byI in
theorem round9b (s : X9b) (hx : ok9b s) : Round lp9b ok9b (fun s => s.y.n - s.j) vs9b hp9b out9b s ((evalB E9c Try.prog Try.f9.results.toList (loopOf Try.f9 1) (1 + 1) lp9b (vs9b s) (hp9b s)).view lp9b.ks) := by
  obtain ⟨y, j⟩ := s
  obtain ⟨h0, h1, h2, h3⟩ := hx
  simp only at h0 h1 h2 h3
  have hr := r9b y (catB y j).size (chr (catB y j)) j
  rw [show evalB E9c Try.prog Try.f9.results.toList (loopOf Try.f9 1) (1 + 1) lp9b (vs9b ⟨y, j⟩) (hp9b ⟨y, j⟩) = evalB E9c Try.prog Try.f9.results.toList (loopOf Try.f9 1) 2 lp9b (v9b y (catB y j).size j) (hFb y (catB y j).size (chr (catB y j))) from rfl, show lp9b.ks = [1, 9, 10, 47, 48, 49] from rfl, hr]
  by_cases hj : j < y.n
  · have hb := catB_le h3 j (by omega)
    have hb' := h3 j hj
    have e1 : cm .lss (j : Int) (y.n : Int) = true := by rw [cm_lss']; exact decide_eq_true (by omega)
    have e4 : inB y.n (j : Int) = true := inB_iff.2 ⟨by omega, by omega⟩
    simp only [e1, e4, h1, beq_t, cond_true, Int.toNat_natCast, addOne (show j < 9223372036854775807 by omega), ble_t (Nat.le_refl (catB y j).size), ble_t (show ((catB y j).size + (byI y j).size) * 1 ≤ 1099511627776 by omega)]
    refine ⟨rfl, ⟨y, j + 1⟩, [(1800, .old 2012)], ⟨hj, h1, h2, h3⟩, by show y.n - (j + 1) < y.n - j; omega, rfl, rfl, ?_, ?_, rfl, rfl⟩
    · exact ⟨⟨rfl, rfl⟩, ⟨rfl, rfl, rfl⟩, ⟨rfl, (app_size _ _).symm⟩, ⟨rfl, rfl⟩, ⟨rfl, rfl⟩, ⟨rfl, rfl⟩, trivial⟩
    · show wkH _ _ (hFb y (catB y j ++ byI y j).size (chr (catB y j ++ byI y j)))
      rw [app_size]
      exact hFb_wkA y fun i _ => chr_app _ _ i
  · obtain rfl : j = y.n := by omega
    have e1 : cm .lss (y.n : Int) (y.n : Int) = false := by simp [cm]
    simp only [e1, cond_false]
    refine ⟨rfl, _, _, [], rfl, rfl, ?_, ?_, rfl, rfl⟩
    · exact ⟨⟨rfl, rfl⟩, ⟨rfl, rfl, rfl⟩, ⟨rfl, rfl⟩, trivial, trivial, trivial, trivial⟩
    · exact hFb_wk y fun _ _ => rfl

attribute [local irreducible] evalB Tr.view in
theorem loop9b : LoopOk E9 Try.prog Try.f9 1 (loopOf Try.f9 1) :=
  loop_okE mixed (fun S => rfl) (by decide) ok9b (fun s => s.y.n - s.j) vs9b hp9b out9b entry9b fun x hx => ⟨E9c, e9c_calls, loops_noLoop e9c_loop _ _, round9b x hx⟩
theorem fn9 : Try.prog.funcs[9]? = some Try.f9 := by kernel_rfl
theorem b9 : Try.f9.body = some (bodyOf Try.f9) := by kernel_rfl
theorem n9 : (Try.f9.name == "runtime.NumGoroutine") = false := by kernel_rfl
theorem nl9 : Code.loops (bodyOf Try.f9) = 2 := by kernel_rfl
theorem nth9a : nthLoop (bodyOf Try.f9) 0 = some (loopOf Try.f9 0) := by kernel_rfl
theorem nth9b : nthLoop (bodyOf Try.f9) 1 = some (loopOf Try.f9 1) := by kernel_rfl
theorem loops9 : LoopsOk E9 Try.prog Try.f9 (bodyOf Try.f9) 0 := loops2 nl9
  (fun a ha => by rw [nth9a] at ha; simp only [Option.some.injEq] at ha; subst ha; exact loop9a)
  (fun a ha => by rw [nth9b] at ha; simp only [Option.some.injEq] at ha; subst ha; exact loop9b)

end Go.La
end

section
set_option linter.unusedVariables false
open Go Go.Ev Go.Proofs
namespace Go.La

theorem strOf_chr (s : ByteArray) : strOf (chr s) s.size = s := by
  apply ByteArray.ext
  apply Array.ext
  · simp [strOf]
  · intro i h1 h2
    simp [strOf, chr, Array.getD, h2]
    rw [dif_pos (show i < s.size from h2)]

theorem gd_need {r : R} {c : Bool} {x : Lf} (h : c = true) (hx : GivesD r x) : GivesD r (bif c then x else .bad) := by
  rw [h]; exact hx

/-- all bytes -/
def outB (x : It) (t : Int) : ByteArray := catB (yL x t) x.n
def endN (x : It) (t : Int) : Int := (yL x t).pos x.n
noncomputable def fitB (x : It) (t : Int) : Bool := clsB (endN x t ≤ 258048)
noncomputable def farB (x : It) (t : Int) : Bool := clsB (258048 < endN x t)

noncomputable def g9T : List SV → Heap → Option R
  | [.int false .i64 t, .sl k n], [(j0, .tab n1 [.ints .i64 kd, .strs bs, .ints .i64 N, .ints .i64 op, .ints .i64 r1, .ints .i64 r2] _)] => match Nat.beq k 0 && Nat.beq j0 0 with
    | true => some ⟨[Nat.beq n n1, okB t ⟨n1, kd, bs, N, op, r1, r2⟩, fitB ⟨n1, kd, bs, N, op, r1, r2⟩ t], .tup [.str (outB ⟨n1, kd, bs, N, op, r1, r2⟩ t), .sl 1024 n1, .int true .i64 0],
        [(0, .tab n1 (It.cols ⟨n1, kd, bs, N, op, r1, r2⟩) false), (1024, .tab n1 [.ints .i64 (yL ⟨n1, kd, bs, N, op, r1, r2⟩ t).pos] false)]⟩
    | false => none
  | _, _ => none
noncomputable def g9R : List SV → Heap → Option R
  | [.int false .i64 t, .sl k n], [(j0, .tab n1 [.ints .i64 kd, .strs bs, .ints .i64 N, .ints .i64 op, .ints .i64 r1, .ints .i64 r2] _)] => match Nat.beq k 0 && Nat.beq j0 0 with
    | true => some ⟨[Nat.beq n n1, okB t ⟨n1, kd, bs, N, op, r1, r2⟩, farB ⟨n1, kd, bs, N, op, r1, r2⟩ t], .tup [.str ⟨#[]⟩, .val (.slice none 0 0), .int true .i64 10], []⟩
    | false => none
  | _, _ => none

theorem sm_ok {x : It} {t : Int} (h : okP t x) : smY (yL x t) = true := clsB_iff.2 ⟨h.1, fun i hi => by
  have hi' : i < x.n := hi
  rw [by_size h hi']
  exact szN_le ((fewB_iff.1 (ok_few h)).2 i hi')⟩

attribute [local irreducible] evalF yL catB in
theorem spec9T : SpecOk Try.prog 9 (specOf g9T) := spec_okU false mixed fn9 b9 n9 g9T fun a0 H0 r hg hn => by
  unfold g9T at hg
  split at hg
  · rename_i t k n j0 n1 kd bs N op r1 r2 _
    split at hg
    · rename_i hk
      simp only [Bool.and_eq_true, Nat.beq_eq] at hk
      obtain ⟨rfl, rfl⟩ := hk
      simp only [Option.some.injEq] at hg
      subst hg
      simp only [allB, Bool.and_eq_true, Bool.and_true, Nat.beq_eq] at hn
      obtain ⟨rfl, hok, hfit⟩ := hn
      refine ⟨E9, [.int false .i64 t, .sl 0 n], [], e9_calls, loops9, id, fun _ => rfl, (fun k hk => (by cases hk)), ?_⟩
      show GivesD _ (evalF E9 Try.prog 9 [.int false .i64 t, .sl 0 n] (hI ⟨n, kd, bs, N, op, r1, r2⟩) 1024).leaf
      rw [t9 ⟨n, kd, bs, N, op, r1, r2⟩ t]
      generalize hx : (⟨n, kd, bs, N, op, r1, r2⟩ : It) = x at *
      have hP : okP t x := clsB_iff.1 hok
      have hs := hP.1
      have hadd : ar .add .i64 (x.n : Int) 1 = ((x.n + 1 : Nat) : Int) := addOne (by omega)
      have hyn : (yL x t).n = x.n := by unfold yL; rfl
      have hlab : labB (yL x t).n (yL x t).lb = true := by unfold yL; exact ok_lab x
      have hsm := sm_ok hP
      have hfew := ok_few hP
      have hfar : cm .gtr ((yL x t).pos x.n) 258048 = false := by
        have := clsB_iff.1 hfit
        have : (yL x t).pos x.n ≤ 258048 := this
        exact decide_eq_false (by omega)
      simp only [hadd, Int.toNat_natCast, hyn, hfar, cond_false] at *
      repeat' refine gd_need (by first | exact beq_t _ | exact hok | exact decide_eq_true (by omega) | exact ble_t (by omega) | exact blt_t (by omega) | exact hfew | exact hlab | exact hsm | exact clsB_iff.2 trivial | exact clsB_iff.2 rfl) ?_
      have hn1 : n = x.n := by rw [← hx]
      subst hn1
      refine ⟨[(1024, .old 2060)], rfl, fun σ => ?_, ?_, rfl⟩
      · simp only [strOf_chr, outB]
        rfl
      · simp [wkH, wkB, wkCs, wkC, rmap, rlook, Ev.look, It.cols, from_, hyn]
        exact ⟨fun _ _ => by unfold yL; rfl, fun _ _ => by unfold yL; rfl, fun _ _ => by unfold yL; rfl, fun _ _ => by unfold yL; rfl, fun _ _ => by unfold yL; rfl, fun _ _ => by unfold yL; rfl⟩
    · cases hg
  · cases hg

attribute [local irreducible] evalF yL catB in
theorem spec9R : SpecOk Try.prog 9 (specOf g9R) := spec_okU false mixed fn9 b9 n9 g9R fun a0 H0 r hg hn => by
  unfold g9R at hg
  split at hg
  · rename_i t k n j0 n1 kd bs N op r1 r2 _
    split at hg
    · rename_i hk
      simp only [Bool.and_eq_true, Nat.beq_eq] at hk
      obtain ⟨rfl, rfl⟩ := hk
      simp only [Option.some.injEq] at hg
      subst hg
      simp only [allB, Bool.and_eq_true, Bool.and_true, Nat.beq_eq] at hn
      obtain ⟨rfl, hok, hfit⟩ := hn
      refine ⟨E9, [.int false .i64 t, .sl 0 n], [], e9_calls, loops9, id, fun _ => rfl, (fun k hk => (by cases hk)), ?_⟩
      show GivesD _ (evalF E9 Try.prog 9 [.int false .i64 t, .sl 0 n] (hI ⟨n, kd, bs, N, op, r1, r2⟩) 1024).leaf
      rw [t9 ⟨n, kd, bs, N, op, r1, r2⟩ t]
      generalize hx : (⟨n, kd, bs, N, op, r1, r2⟩ : It) = x at *
      have hP : okP t x := clsB_iff.1 hok
      have hs := hP.1
      have hadd : ar .add .i64 (x.n : Int) 1 = ((x.n + 1 : Nat) : Int) := addOne (by omega)
      have hyn : (yL x t).n = x.n := by unfold yL; rfl
      have hfew := ok_few hP
      have hfar : cm .gtr ((yL x t).pos x.n) 258048 = true := by
        have := clsB_iff.1 hfit
        have : 258048 < (yL x t).pos x.n := this
        exact decide_eq_true (by omega)
      simp only [hadd, Int.toNat_natCast, hyn, hfar, cond_true]
      repeat' refine gd_need (by first | exact beq_t _ | exact hok | exact decide_eq_true (by omega) | exact ble_t (by omega) | exact blt_t (by omega) | exact hfew | exact clsB_iff.2 trivial | exact clsB_iff.2 rfl) ?_
      exact ⟨[], rfl, fun σ => rfl, trivial, rfl⟩
    · cases hg
  · cases hg

/-- what may not be -/
noncomputable def E9n : Env := envOf [(20, specOf g20F)] noLoop
theorem e9n_calls : CallsOk E9n Try.prog := (SpecsOk.cons spec20F SpecsOk.nil).calls noLoop
theorem e9n_loop : E9n.loop = noLoop := rfl
theorem t9n (x : It) (t : Int) : (evalF E9n Try.prog 9 [SV.int false .i64 t, SV.sl 0 x.n] (hI x) 1024).bare =
    bif Nat.beq x.n x.n then bif Nat.ble x.n 4611686018427387904 then bif noB t x then .ret (.tup [.str ⟨#[]⟩, .val (.slice none 0 0), .int true .i64 1]) [] else .bad else .bad else .bad := by kernel_rfl
noncomputable def g9F : List SV → Heap → Option R
  | [.int false .i64 t, .sl k n], [(j0, .tab n1 [.ints .i64 kd, .strs bs, .ints .i64 N, .ints .i64 op, .ints .i64 r1, .ints .i64 r2] _)] => match Nat.beq k 0 && Nat.beq j0 0 with
    | true => some ⟨[Nat.beq n n1, Nat.ble n1 4611686018427387904, noB t ⟨n1, kd, bs, N, op, r1, r2⟩], .tup [.str ⟨#[]⟩, .val (.slice none 0 0), .int true .i64 1], []⟩
    | false => none
  | _, _ => none
attribute [local irreducible] evalF Lf.gives in
theorem spec9F : SpecOk Try.prog 9 (specOf g9F) := spec_okU false mixed fn9 b9 n9 g9F fun a0 H0 r hg hn => by
  unfold g9F at hg
  split at hg
  · rename_i t k n j0 n1 kd bs N op r1 r2 _
    split at hg
    · rename_i hk
      simp only [Bool.and_eq_true, Nat.beq_eq] at hk
      obtain ⟨rfl, rfl⟩ := hk
      simp only [Option.some.injEq] at hg
      subst hg
      simp only [allB, Bool.and_eq_true, Bool.and_true, Nat.beq_eq] at hn
      obtain ⟨rfl, hsm, hno⟩ := hn
      refine ⟨E9n, [.int false .i64 t, .sl 0 n], [], e9n_calls, loops_noLoop e9n_loop _ _, id, fun _ => rfl, (fun k hk => (by cases hk)), ?_⟩
      show GivesD _ (evalF E9n Try.prog 9 [.int false .i64 t, .sl 0 n] (hI ⟨n, kd, bs, N, op, r1, r2⟩) 1024).leaf
      refine gives_giv (gives_tree (t9n ⟨n, kd, bs, N, op, r1, r2⟩ t) ?_)
      simp only [beq_t, hsm, hno, cond_true]
      exact gives_ret fun σ σ' => rfl
    · cases hg
  · cases hg

end Go.La
end

section
set_option linter.unusedVariables false
open Go Go.Ev Go.Proofs Go.Bx
namespace Go.La

theorem chr_strOf (g : Nat → Int) {n j : Nat} (hj : j < n) (h0 : 0 ≤ g j) (h1 : g j < 256) : chr (strOf g n) j = g j := by
  simp [chr, strOf, Array.getD, hj]
  omega
theorem chr_appL (a b : ByteArray) {j : Nat} (h : j < a.size) : chr (a ++ b) j = chr a j := by
  rw [← chr_app, cat, show Nat.blt j a.size = true from blt_t h, cond_true]
theorem chr_appR (a b : ByteArray) (j : Nat) : chr (a ++ b) (a.size + j) = chr b j := by
  rw [← chr_app, cat, show Nat.blt (a.size + j) a.size = false from blt_f (by omega), cond_false, Nat.add_sub_cancel_left]

/-- four bytes as a word -/
def w4 (s : ByteArray) (k : Nat) : Int := ar .or .u32 (ar .or .u32 (ar .or .u32 (conv .u32 (chr s k)) (ar .shl .u32 (conv .u32 (chr s (k + 1))) 8)) (ar .shl .u32 (conv .u32 (chr s (k + 2))) 16)) (ar .shl .u32 (conv .u32 (chr s (k + 3))) 24)
theorem u8_of (B : BitVec 32) : conv .u8 (iv .u32 B) = ((B &&& 255#32).toNat : Int) := by
  have e : iv .u32 B = (B.toNat : Int) := rfl
  rw [e]
  show IntKind.u8.wrap _ = _
  rw [BitVec.toNat_and, show (255#32).toNat = 2 ^ 8 - 1 from rfl, Nat.and_two_pow_sub_one_eq_mod]
  simp only [IntKind.wrap, IntKind.bits, IntKind.signed]
  simp
theorem u32_of (B : BitVec 32) : conv .u32 ((B.toNat : Int)) = iv .u32 B := by
  rw [U32.conv]
  simp
theorem byte_lt (B : BitVec 32) : ((B &&& 255#32).toNat : Int) < 256 := by
  rw [BitVec.toNat_and, show (255#32).toNat = 2 ^ 8 - 1 from rfl, Nat.and_two_pow_sub_one_eq_mod]
  omega
def byX (r : Nat) : BX := .and (.shr (.atom 0) r) (.lit 255)
def kn0 : Kn := fun _ _ => none
theorem kn0_ok (env : Nat → Nat) : kn0.ok env := fun _ _ _ h => by cases h
def allX : BX := .or (.or (.or (byX 0) (.cut (.shl (byX 8) 8) 32)) (.cut (.shl (byX 16) 16) 32)) (.cut (.shl (byX 24) 24) 32)
theorem bv_join (B : BitVec 32) : ((((B >>> 0) &&& 255#32) ||| (((B >>> 8) &&& 255#32) <<< 8)) ||| (((B >>> 16) &&& 255#32) <<< 16)) ||| (((B >>> 24) &&& 255#32) <<< 24) = B :=
  Rv.bvEq (kn := fun _ i => match Nat.blt i 32 with | true => none | false => some false) (env := fun _ => B.toNat) (fun a i b h => by
      have h : (match Nat.blt i 32 with | true => none | false => some false) = some b := h
      split at h
      · cases h
      · rename_i hb
        simp only [Option.some.injEq] at h
        subst h
        have : 32 ≤ i := by rw [Bool.eq_false_iff, ne_eq, Nat.blt_eq] at hb; omega
        exact Nat.testBit_lt_two_pow (Nat.lt_of_lt_of_le B.isLt (Nat.pow_le_pow_right (by decide) this)))
    allX (.atom 0) (by simp [allX, byX, BX.eval]) rfl (by kernel_rfl)
theorem or_iv (X Y : BitVec 32) : ar .or .u32 (iv .u32 X) (iv .u32 Y) = iv .u32 (X ||| Y) := by
  rw [U32.or, U32.inv, U32.inv]
theorem shl_iv (X : BitVec 32) (m : Int) (h : 0 ≤ m) : ar .shl .u32 (iv .u32 X) m = iv .u32 (X <<< m.toNat) := by
  rw [U32.shl _ _ h, U32.inv]
theorem w4_join {s : ByteArray} {k : Nat} {B : BitVec 32} (h0 : chr s k = ((B >>> 0 &&& 255#32).toNat : Int)) (h1 : chr s (k + 1) = ((B >>> 8 &&& 255#32).toNat : Int)) (h2 : chr s (k + 2) = ((B >>> 16 &&& 255#32).toNat : Int)) (h3 : chr s (k + 3) = ((B >>> 24 &&& 255#32).toNat : Int)) : w4 s k = iv .u32 B := by
  unfold w4
  rw [h0, h1, h2, h3, u32_of, u32_of, u32_of, u32_of, shl_iv _ 8 (by decide), shl_iv _ 16 (by decide), shl_iv _ 24 (by decide), or_iv, or_iv, or_iv]
  exact congrArg (iv .u32) (bv_join B)
theorem wd4_chr {op rd r1 r2 n : Int} (h : Rv.errL op rd r1 r2 n = 0) {r j : Nat} (hj : j < 4) (hr : r = 8 * j) : chr (wd4 op rd r1 r2 n) j = ((Rv.wordOf op rd r1 r2 n >>> r &&& 255#32).toNat : Int) := by
  have hw := Rv.word_iv h
  have e : ∀ m : Int, 0 ≤ m → ar .shr .u32 (iv .u32 (Rv.wordOf op rd r1 r2 n)) m = iv .u32 (Rv.wordOf op rd r1 r2 n >>> m.toNat) := fun m hm => U32.shr _ _ hm
  have hg : nth [conv .u8 (Rv.wordL op rd r1 r2 n), conv .u8 (ar .shr .u32 (Rv.wordL op rd r1 r2 n) 8), conv .u8 (ar .shr .u32 (Rv.wordL op rd r1 r2 n) 16), conv .u8 (ar .shr .u32 (Rv.wordL op rd r1 r2 n) 24)] 0 j = ((Rv.wordOf op rd r1 r2 n >>> r &&& 255#32).toNat : Int) := by
    subst hr
    rw [hw, e 8 (by decide), e 16 (by decide), e 24 (by decide), u8_of, u8_of, u8_of, u8_of]
    have : j = 0 ∨ j = 1 ∨ j = 2 ∨ j = 3 := by omega
    rcases this with rfl | rfl | rfl | rfl
    · simp [nth]
    · rfl
    · rfl
    · rfl
  unfold wd4
  rw [chr_strOf _ hj (by rw [hg]; omega) (by rw [hg]; exact byte_lt _), hg]
theorem w4_wd {op rd r1 r2 n : Int} (h : Rv.errL op rd r1 r2 n = 0) : w4 (wd4 op rd r1 r2 n) 0 = Rv.wordL op rd r1 r2 n := by
  rw [Rv.word_iv h]
  exact w4_join (wd4_chr h (by decide) rfl) (wd4_chr h (by decide) rfl) (wd4_chr h (by decide) rfl) (wd4_chr h (by decide) rfl)
theorem w4_left {op rd r1 r2 n : Int} (h : Rv.errL op rd r1 r2 n = 0) (b : ByteArray) : w4 (wd4 op rd r1 r2 n ++ b) 0 = Rv.wordL op rd r1 r2 n := by
  have e : ∀ j, j < 4 → chr (wd4 op rd r1 r2 n ++ b) j = chr (wd4 op rd r1 r2 n) j := fun j hj => chr_appL _ _ (by rw [wd4_size]; exact hj)
  rw [← w4_wd h]
  simp only [w4, Nat.zero_add]
  rw [e 0 (by decide), e 1 (by decide), e 2 (by decide), e 3 (by decide)]
theorem w4_right {op rd r1 r2 n op' rd' r1' r2' n' : Int} (h : Rv.errL op rd r1 r2 n = 0) : w4 (wd4 op' rd' r1' r2' n' ++ wd4 op rd r1 r2 n) 4 = Rv.wordL op rd r1 r2 n := by
  have e : ∀ j, chr (wd4 op' rd' r1' r2' n' ++ wd4 op rd r1 r2 n) (4 + j) = chr (wd4 op rd r1 r2 n) j := fun j => by
    have := chr_appR (wd4 op' rd' r1' r2' n') (wd4 op rd r1 r2 n) j
    rwa [wd4_size] at this
  rw [← w4_wd h]
  simp only [w4, Nat.zero_add]
  rw [e 1, e 2, e 3, ← e 0]

end Go.La
end

section
set_option linter.unusedVariables false
open Go Go.Ev Go.Proofs
namespace Go.La

/-- a way's bytes, and how far it leads -/
inductive WayB : Int → ByteArray → Int → Prop
  | x (k rd m : Int) (hk : k = 40 ∨ k = 42 ∨ k = 43 ∨ k = 44 ∨ k = 45) (he : X.errX k 4 rd 0 m = 0) (hm : -4611686018427387904 ≤ m ∧ m ≤ 4611686018427387904) : WayB 2 (X.strX k 4 rd 0 m) (((X.strX k 4 rd 0 m).size : Int) + m)
  | a (op rd r1 r2 n : Int) (h : Rv.errL op rd r1 r2 n = 0) : WayB 1 (wd4 op rd r1 r2 n) n
  | b (op r1 r2 m : Int) (h : Rv.errL op 0 r1 r2 8 = 0) (ho : op ≠ 3) (h' : Rv.errL 3 0 0 0 m = 0) : WayB 1 (wd4 op 0 r1 r2 8 ++ wd4 3 0 0 0 m) (4 + m)
noncomputable def ldE (t : Int) (s : ByteArray) : Int := opq (if t = 2 then (X.decX s).len + (X.decX s).n else if s.size = 4 then dN (w4 s 0) else 4 + dN (w4 s 4))

theorem dec_all {op rd r1 r2 n : Int} (h : Rv.errL op rd r1 r2 n = 0) : dK (Rv.wordL op rd r1 r2 n) = true ∧ dO (Rv.wordL op rd r1 r2 n) = op ∧ dD (Rv.wordL op rd r1 r2 n) = rd ∧ dN (Rv.wordL op rd r1 r2 n) = n := by
  obtain ⟨h1, h2, h3, _, _, h6⟩ := Rv.dec_enc h
  simp only [dK, dO, dD, dN, opq_eq, opb_eq, Rv.decV, h1, cond_true, h2, h3, h6]
  exact ⟨trivial, trivial, trivial, trivial⟩
theorem word_rng {op rd r1 r2 n : Int} (h : Rv.errL op rd r1 r2 n = 0) : 0 ≤ Rv.wordL op rd r1 r2 n ∧ Rv.wordL op rd r1 r2 n < 4294967296 := by
  rw [Rv.word_iv h]
  have e : iv .u32 (Rv.wordOf op rd r1 r2 n) = ((Rv.wordOf op rd r1 r2 n).toNat : Int) := rfl
  have := (Rv.wordOf op rd r1 r2 n).isLt
  rw [e]
  omega
theorem app_sz (a b : ByteArray) : (a ++ b).size = a.size + b.size := ByteArray.size_append
theorem way_ld {t : Int} {s : ByteArray} {n : Int} (h : WayB t s n) : ldE t s = n := by
  unfold ldE
  rw [opq_eq]
  cases h with
  | x k rd m hk he hm =>
    rw [if_pos rfl, X.dec_way hk he (by unfold X.inI; omega)]
  | a op rd r1 r2 n h =>
    rw [if_neg (by decide), if_pos (wd4_size _ _ _ _ _), w4_wd h]
    exact (dec_all h).2.2.2
  | b op r1 r2 m h ho h' =>
    rw [if_neg (by decide), if_neg (by rw [app_sz, wd4_size, wd4_size]; decide), w4_right h', (dec_all h').2.2.2]

noncomputable def wayS (t : Int) (s : ByteArray) : Bool := clsB (∃ n, WayB t s n)
noncomputable def g19 : List SV → Heap → Option R
  | [.int false .i64 t, .str s], [] => some ⟨[wayS t s], .tup [.int false .i64 (ldE t s), .bool false true], []⟩
  | _, _ => none
theorem fn19 : Try.prog.funcs[19]? = some Try.f19 := by kernel_rfl
theorem b19 : Try.f19.body = some (bodyOf Try.f19) := by kernel_rfl
theorem n19 : (Try.f19.name == "runtime.NumGoroutine") = false := by kernel_rfl
theorem nl19 : Code.loops (bodyOf Try.f19) = 1 := by kernel_rfl
theorem nth19 : nthLoop (bodyOf Try.f19) 0 = some (loopOf Try.f19 0) := by kernel_rfl
theorem ev_calls : CallsOk EV Try.prog := fun f args H nm r h hn => ev0_calls f args H nm r h hn
theorem loops19 : LoopsOk EV Try.prog Try.f19 (bodyOf Try.f19) 0 := loops1 nl19 fun a ha => by
  rw [nth19] at ha
  simp only [Option.some.injEq] at ha
  subst ha
  exact unr_ok ev0_calls mixed 3 (fun S => rfl) (loops_noLoop ev0_loop _ _)
theorem gd_c {x y : Lf} {c : Bool} {s : SV} (h : c = true) (hx : x.gives s) : (bif c then x else y : Lf).gives s := by
  rw [h]; exact hx
theorem gd_f {x y : Lf} {c : Bool} {s : SV} (h : c = false) (hx : y.gives s) : (bif c then x else y : Lf).gives s := by
  rw [h]; exact hx
theorem upd_at {α : Type} (g : Nat → α) (r : Nat) (v : α) : upd g r v r = v := by
  unfold upd; rw [Nat.beq_refl]; rfl

attribute [local irreducible] evalF Lf.gives in
theorem spec19 : SpecOk Try.prog 19 (specOf g19) := spec_okA false ev_calls mixed fn19 b19 n19 loops19 g19 fun a0 H0 r hg hn => by
  unfold g19 at hg
  split at hg
  · rename_i t s
    simp only [Option.some.injEq] at hg
    subst hg
    simp only [allB, Bool.and_true] at hn
    obtain ⟨n, hw⟩ := clsB_iff.1 hn
    have hl := way_ld hw
    show ∃ a0', _
    rw [hl]
    cases hw with
    | x k rd m hk he hm =>
      refine ⟨[.int true .i64 2, .str (X.strX k 4 rd 0 m)], fun _ => by simp [SV.alL, SV.al], fun σ => by simp [denL, den], gives_giv (gives_tree (t19x _) ?_)⟩
      rw [X.dec_way hk he (by unfold X.inI; omega)]
      have hs := S_size (X.encL k 4 rd 0 m)
      have hz : 1 ≤ (X.strX k 4 rd 0 m).size ∧ (X.strX k 4 rd 0 m).size ≤ 6 := by
        rw [X.strX_ok he, S_size]
        rcases hk with rfl | rfl | rfl | rfl | rfl
        · rw [X.l40]; simp [X.tailL]
        · rw [X.l42]; simp [X.tailL]
        · rw [X.l43]; simp [X.tailL]
        · rw [X.l44]; simp [X.tailL]
        · rw [X.l45]; simp [X.tailL]
      have h1 : cm .gtr ((X.strX k 4 rd 0 m).size : Int) 0 = true := decide_eq_true (by omega)
      have h2 : ar .add .i64 ((X.strX k 4 rd 0 m).size : Int) m = ((X.strX k 4 rd 0 m).size : Int) + m := by
        simp only [ar, IntKind.wrap_i64]; omega
      simp only [h1, h2, cond_true]
      have h3 : (bif cm .eql k 40 then true else bif cm .eql k 42 then true else bif cm .eql k 43 then true else bif cm .eql k 44 then true else cm .eql k 45) = true := by
        rcases hk with rfl | rfl | rfl | rfl | rfl <;> rfl
      rw [h3]
      exact gives_ret fun σ σ' => rfl
    | a op rd r1 r2 n h =>
      refine ⟨[.int true .i64 1, .str (wd4 op rd r1 r2 n)], fun _ => by simp [SV.alL, SV.al], fun σ => by simp [denL, den], gives_giv (gives_tree (t19r _) ?_)⟩
      have hz := wd4_size op rd r1 r2 n
      have hw : ar .or .u32 (ar .or .u32 (ar .or .u32 (conv .u32 (chr (wd4 op rd r1 r2 n) 0)) (ar .shl .u32 (conv .u32 (chr (wd4 op rd r1 r2 n) 1)) 8)) (ar .shl .u32 (conv .u32 (chr (wd4 op rd r1 r2 n) 2)) 16)) (ar .shl .u32 (conv .u32 (chr (wd4 op rd r1 r2 n) 3)) 24) = Rv.wordL op rd r1 r2 n := w4_wd h
      obtain ⟨d1, d2, d3, d4⟩ := dec_all h
      have hr := word_rng h
      simp only [hw, d1, d2, d4, hz]
      refine gd_c rfl (gd_c rfl (gd_c rfl (gd_c rfl (gd_c rfl (gd_c (clsB_iff.2 hr) (gd_f rfl (gd_c ?_ ?_)))))))
      · cases cm .eql op 3 <;> cases cm .neq n 8 <;> rfl
      · rw [upd_at]
        exact gives_ret fun σ σ' => rfl
    | b op r1 r2 m h ho h' =>
      refine ⟨[.int true .i64 1, .str (wd4 op 0 r1 r2 8 ++ wd4 3 0 0 0 m)], fun _ => by simp [SV.alL, SV.al], fun σ => by simp [denL, den], gives_giv (gives_tree (t19r _) ?_)⟩
      have hz : (wd4 op 0 r1 r2 8 ++ wd4 3 0 0 0 m).size = 8 := by rw [app_sz, wd4_size, wd4_size]
      have hw := w4_left h (wd4 3 0 0 0 m)
      have hw' := w4_right (op' := op) (rd' := 0) (r1' := r1) (r2' := r2) (n' := 8) h'
      generalize wd4 op 0 r1 r2 8 ++ wd4 3 0 0 0 m = s at *
      have hw : ar .or .u32 (ar .or .u32 (ar .or .u32 (conv .u32 (chr s 0)) (ar .shl .u32 (conv .u32 (chr s 1)) 8)) (ar .shl .u32 (conv .u32 (chr s 2)) 16)) (ar .shl .u32 (conv .u32 (chr s 3)) 24) = Rv.wordL op 0 r1 r2 8 := hw
      have hw' : ar .or .u32 (ar .or .u32 (ar .or .u32 (conv .u32 (chr s 4)) (ar .shl .u32 (conv .u32 (chr s 5)) 8)) (ar .shl .u32 (conv .u32 (chr s 6)) 16)) (ar .shl .u32 (conv .u32 (chr s 7)) 24) = Rv.wordL 3 0 0 0 m := hw'
      obtain ⟨d1, d2, d3, d4⟩ := dec_all h
      obtain ⟨e1, e2, e3, e4⟩ := dec_all h'
      have hr := word_rng h
      have hr' := word_rng h'
      have ho : cm .eql op 3 = false := by rw [cm_eql']; exact decide_eq_false ho
      have hm : ar .add .i64 4 m = 4 + m := by
        have := (Rv.err_zero h').2.2.2
        have : Rv.fitsL 7 m = true := this
        simp only [Rv.fitsL, Rv.inL] at this
        simp at this
        simp only [ar, IntKind.wrap_i64]; omega
      simp only [hw, hw', d1, d2, d4, e1, e2, e3, e4, hz, ho, upd_at, hm]
      refine gd_c rfl (gd_c rfl (gd_c rfl (gd_c rfl (gd_c rfl (gd_c (clsB_iff.2 hr) (gd_f rfl (gd_f rfl (gd_c rfl (gd_c rfl (gd_c rfl (gd_c rfl (gd_c rfl (gd_c (clsB_iff.2 hr') (gd_f rfl ?_))))))))))))))
      exact gives_ret fun σ σ' => rfl
  · cases hg

end Go.La
end

section
set_option linter.unusedVariables false
open Go Go.Ev Go.Proofs
namespace Go.La

noncomputable def EN : Env := envOf [] noLoop
theorem en_calls : CallsOk EN Try.prog := SpecsOk.nil.calls noLoop
theorem en_loop : EN.loop = noLoop := rfl
/-- rows that are the same -/
noncomputable def eqA (n : Nat) (g h : Nat → Int) : Bool := @decide (∀ i, i < n → g i = h i) (Classical.propDecidable _)
theorem eqA_iff {n : Nat} {g h : Nat → Int} : eqA n g h = true ↔ ∀ i, i < n → g i = h i := @decide_eq_true_iff _ (Classical.propDecidable _)

/-! EqLongs -/
def h13 (n : Nat) (g h : Nat → Int) : Heap := [(0, .tab n [.ints .i64 g] false), (1, .tab n [.ints .i64 h] false)]
def v13 (n : Nat) (i : Int) : List SV := [.sl 0 n, .sl 1 n, .int false .i64 i]
def lk13 : Lp := ⟨26, [0, 1, 5], 1136, fun _ _ => none⟩
noncomputable def get13 : List SV → Heap → Option Tr
  | [.sl ka n, .sl kb m, .int _ .i64 i], [(ja, .tab n' [.ints .i64 g] _), (jb, .tab m' [.ints .i64 h] _)] =>
    some (Tr.needs [Nat.beq ka 0, Nat.beq kb 1, Nat.beq ja 0, Nat.beq jb 1, Nat.beq n m, Nat.beq n n', Nat.beq n m', decide (i = 0), eqA n g h, Nat.ble n 100000000] (exitT lk13 0 [.any, .any, .any] (h13 n g h)))
  | _, _ => none
noncomputable def lp13 : Lp := { lk13 with get := get13 }
noncomputable def E13 : Env := ⟨EN.call, loopEnv [(0, lp13)]⟩
theorem r13 (n : Nat) (g : Nat → Int) (h : Nat → Int) (i : Int) : (evalB EN Try.prog Try.f13.results.toList (loopOf Try.f13 0) 1 lp13 (v13 n i) (h13 n g h)).view [0, 1, 5] =
    (bif (cm BinOp.lss i (↑n : Int)) then
      bif (decide (0 ≤ i)) then
        bif (decide (i < (↑n : Int))) then
          bif (Nat.blt (i.toNat) (n)) then
            bif (Nat.blt (i.toNat) (n)) then
              bif (decide (0 ≤ i)) then
                bif (decide (i < (↑n : Int))) then
                  bif (Nat.blt (i.toNat) (n)) then
                    bif (Nat.blt (i.toNat) (n)) then
                      bif (cm BinOp.neq (g i.toNat) (h i.toNat)) then
                        .ret (.bool true false) [(0, .tab (n) [.ints IntKind.i64 (g)] false), (1, .tab (n) [.ints IntKind.i64 (h)] false)]
                      else
                        .norm 26 [(.sl 0 (n)), (.sl 1 (n)), (.int false IntKind.i64 (ar BinOp.add IntKind.i64 i 1))] [(0, .tab (n) [.ints IntKind.i64 (g)] false), (1, .tab (n) [.ints IntKind.i64 (h)] false)]
                    else .bad
                  else .bad
                else .bad
              else .bad
            else .bad
          else .bad
        else .bad
      else .bad
    else
      .exit 0 26 [(.sl 0 (n)), (.sl 1 (n)), (.int false IntKind.i64 (i))] [(0, .tab (n) [.ints IntKind.i64 (g)] false), (1, .tab (n) [.ints IntKind.i64 (h)] false)]) := by kernel_rfl

theorem t13 (n : Nat) (g : Nat → Int) (h : Nat → Int) : (evalF E13 Try.prog 13 [SV.sl 0 n, SV.sl 1 n] (h13 n g h) 1024).bare =
    (bif (cm BinOp.neq (↑n : Int) (↑n : Int)) then
      .ret (.bool true false) []
    else
      bif (Nat.beq (n) (n)) then
        bif (Nat.beq (n) (n)) then
          bif (Nat.beq (n) (n)) then
            bif (eqA n g h) then
              bif (Nat.ble (n) (100000000)) then
                .ret (.bool true true) []
              else .bad
            else .bad
          else .bad
        else .bad
      else .bad) := by kernel_rfl

theorem e47_calls : CallsOk E13 Try.prog := fun f args H nm r h hn => en_calls f args H nm r h hn
structure X13 where
  n : Nat
  g : Nat → Int
  h : Nat → Int
  i : Nat
def ok13 (x : X13) : Prop := x.i ≤ x.n ∧ x.n ≤ 100000000 ∧ ∀ i, i < x.n → x.g i = x.h i
def vs13 (x : X13) : List SV := v13 x.n x.i
def hp13 (x : X13) : Heap := h13 x.n x.g x.h
def out13 (x : X13) : Vw := .exit 0 26 [.any, .any, .any] (hp13 x)

theorem entry13 (l : List SV) (H : Heap) (T : Tr) (h : lp13.get l H = some T) (hb : T.leaf ≠ .bad) : ∃ x r, ok13 x ∧ WkV r lp13.nm l H (vs13 x) (hp13 x) ∧ T.leaf = toLf lp13 (out13 x) := by
  replace h : get13 l H = some T := h
  unfold get13 at h
  split at h
  · rename_i ka n kb m _ i ja n' g _ jb m' hh _
    simp only [Option.some.injEq] at h
    subst h
    obtain ⟨hn, he⟩ := needs_ne hb
    rw [he]
    simp only [allB, Bool.and_eq_true, Bool.and_true, decide_eq_true_eq, Nat.beq_eq, eqA_iff, Nat.ble_eq] at hn
    obtain ⟨rfl, rfl, rfl, rfl, rfl, rfl, rfl, rfl, heq, hl⟩ := hn
    refine ⟨⟨n, g, hh, 0⟩, [], ⟨Nat.zero_le _, hl, heq⟩, ?_, ?_⟩
    · simp [WkV, vs13, hp13, v13, h13, wkF, wkS, sim, simL, wkH, wkB, wkCs, wkC, rmap, rlook, Ev.look, oldsOf, uniqN, mem, SV.al, SV.alL, Ev.hal, Blk.al, lt, rok, lp13, lk13]
    · simp only [exitT_leaf, out13, hp13]
      rfl
  · cases h

attribute [local irreducible] evalB Tr.view in
theorem round13 (x : X13) (hx : ok13 x) : Round lp13 ok13 (fun x => x.n - x.i) vs13 hp13 out13 x ((evalB EN Try.prog Try.f13.results.toList (loopOf Try.f13 0) (0 + 1) lp13 (vs13 x) (hp13 x)).view lp13.ks) := by
  obtain ⟨n, g, h, i⟩ := x
  obtain ⟨h0, h1, h2⟩ := hx
  simp only at h0 h1 h2
  have hr := r13 n g h i
  rw [show evalB EN Try.prog Try.f13.results.toList (loopOf Try.f13 0) (0 + 1) lp13 (vs13 ⟨n, g, h, i⟩) (hp13 ⟨n, g, h, i⟩) = evalB EN Try.prog Try.f13.results.toList (loopOf Try.f13 0) 1 lp13 (v13 n i) (h13 n g h) from rfl, show lp13.ks = [0, 1, 5] from rfl, hr]
  by_cases hi : i < n
  · have e1 : cm .lss (i : Int) (n : Int) = true := by rw [cm_lss']; exact decide_eq_true (by omega)
    have e2 : decide (0 ≤ (i : Int)) = true := decide_eq_true (by omega)
    have e3 : decide ((i : Int) < (n : Int)) = true := decide_eq_true (by omega)
    have e4 : Nat.blt i n = true := blt_t hi
    have e5 : cm .neq (g i) (h i) = false := by rw [h2 i hi]; simp [cm]
    simp only [e1, e2, e3, e4, e5, cond_true, cond_false, Int.toNat_natCast, addOne (show i < 9223372036854775807 by omega)]
    refine ⟨rfl, ⟨n, g, h, i + 1⟩, [], ⟨hi, h1, h2⟩, by show n - (i + 1) < n - i; omega, rfl, ?_⟩
    simp [WkV, vs13, hp13, v13, h13, wkF, wkS, sim, simL, wkH, wkB, wkCs, wkC, rmap, rlook, Ev.look, oldsOf, uniqN, mem, SV.al, SV.alL, Ev.hal, Blk.al, lt, rok, lp13, lk13]
  · obtain rfl : i = n := by omega
    have e1 : cm .lss (i : Int) (i : Int) = false := by simp [cm]
    simp only [e1, cond_false]
    refine ⟨rfl, [.any, .any, .any], _, [], rfl, ?_⟩
    simp [WkV, hp13, h13, wkF, wkS, sim, simL, wkH, wkB, wkCs, wkC, rmap, rlook, Ev.look, oldsOf, uniqN, mem, SV.al, SV.alL, Ev.hal, Blk.al, lt, rok, lp13, lk13]

attribute [local irreducible] evalB Tr.view in
theorem loop13 : LoopOk E13 Try.prog Try.f13 0 (loopOf Try.f13 0) :=
  loop_okE mixed (fun S => rfl) (by decide) ok13 (fun x => x.n - x.i) vs13 hp13 out13 entry13 fun x hx => ⟨EN, en_calls, loops_noLoop en_loop _ _, round13 x hx⟩
theorem fn13 : Try.prog.funcs[13]? = some Try.f13 := by kernel_rfl
theorem b13 : Try.f13.body = some (bodyOf Try.f13) := by kernel_rfl
theorem n13 : (Try.f13.name == "runtime.NumGoroutine") = false := by kernel_rfl
theorem nl13 : Code.loops (bodyOf Try.f13) = 1 := by kernel_rfl
theorem nth13 : nthLoop (bodyOf Try.f13) 0 = some (loopOf Try.f13 0) := by kernel_rfl
theorem loops13 : LoopsOk E13 Try.prog Try.f13 (bodyOf Try.f13) 0 := loops1 nl13 fun a ha => by
  rw [nth13] at ha
  simp only [Option.some.injEq] at ha
  subst ha
  exact loop13

/-- what is the same, is -/
noncomputable def g13 : List SV → Heap → Option R
  | [.sl ka n, .sl kb m], [(ja, .tab n' [.ints .i64 g] _), (jb, .tab m' [.ints .i64 h] _)] => match Nat.beq ka 0 && (Nat.beq kb 1 && (Nat.beq ja 0 && Nat.beq jb 1)) with
    | true => some ⟨[Nat.beq n m, Nat.beq n n', Nat.beq n m', eqA n g h, Nat.ble n 100000000], .bool true true, []⟩
    | false => none
  | _, _ => none
attribute [local irreducible] evalF in
theorem spec13 : SpecOk Try.prog 13 (specOf g13) := spec_okA false e47_calls mixed fn13 b13 n13 loops13 g13 fun a0 H0 r hg hn => by
  unfold g13 at hg
  split at hg
  · rename_i ka n kb m ja n' g _ jb m' h _
    split at hg
    · rename_i hk
      simp only [Bool.and_eq_true, Nat.beq_eq] at hk
      obtain ⟨rfl, rfl, rfl, rfl⟩ := hk
      simp only [Option.some.injEq] at hg
      subst hg
      simp only [allB, Bool.and_true, Bool.and_eq_true, Nat.beq_eq, eqA_iff, Nat.ble_eq] at hn
      obtain ⟨rfl, rfl, rfl, heq, hl⟩ := hn
      refine ⟨[.sl 0 n, .sl 1 n], fun h => h, fun σ => rfl, ?_⟩
      refine gives_giv (gives_tree (t13 n g h) ?_)
      have e1 : cm .neq (n : Int) (n : Int) = false := by simp [cm]
      rw [e1, cond_false, beq_t, cond_true, cond_true, cond_true, eqA_iff.2 heq, cond_true, ble_t hl, cond_true]
      exact gives_ret fun σ σ' => by simp only [den]
    · cases hg
  · cases hg


end Go.La
end

section
set_option linter.unusedVariables false
open Go Go.Ev Go.Proofs
namespace Go.La

noncomputable def EP : Env := inlF Try.prog (envOf [] noLoop) [24, 17, 18, 25] [] [] 3
theorem namedP : named Try.prog [24, 17, 18, 25] = true := by kernel_rfl
theorem ep_calls : CallsOk EP Try.prog := (inlF_calls (SpecsOk.nil.calls noLoop) mixed namedP rfl rfl 3).1
theorem ep_loop : EP.loop = noLoop := rfl
def hA (x : It) (at_ : Nat → Bool) : Heap := [(0, .tab x.n x.cols false), (1168, .tab 32001 [.bools at_] true)]
def v10a (x : It) (t i : Int) : List SV := [.int false .i64 t, .sl 0 x.n, .sl 1168 32001, .int false .i64 i]
def lk10a : Lp := ⟨159, [0, 1, 5, 6], 1216, fun _ _ => none⟩
def lp10a : Lp := lk10a
def v10b (x : It) (t i : Int) : List SV := [.int false .i64 t, .sl 0 x.n, .sl 1168 32001, .int false .i64 i]
def lk10b : Lp := ⟨159, [0, 1, 5, 7], 1232, fun _ _ => none⟩
def lp10b : Lp := lk10b
--LEAVES

theorem r10a (x : It) (t : Int) (a : Nat → Bool) (i : Int) : (evalB EP Try.prog Try.f10.results.toList (loopOf Try.f10 0) 1 lp10a (v10a x t i) (hA x a)).view [0, 1, 5, 6] =
    (bif (cm BinOp.lss i (↑x.n : Int)) then
      bif (decide (0 ≤ i)) then
        bif (decide (i < (↑x.n : Int))) then
          bif (Nat.blt (i.toNat) (x.n)) then
            bif (Nat.blt (i.toNat) (x.n)) then
              bif (bif cm BinOp.eql (x.kd i.toNat) 2 then allB [decide (0 ≤ i), decide (i < (↑x.n : Int)), i.toNat.blt x.n, i.toNat.blt x.n] else true) then
                bif (bif cm BinOp.eql (x.kd i.toNat) 2 then bif cm BinOp.geq (x.N i.toNat) 0 then cm BinOp.leq (x.N i.toNat) 32000 else false else false) then
                  bif (decide (0 ≤ i)) then
                    bif (decide (i < (↑x.n : Int))) then
                      bif (Nat.blt (i.toNat) (x.n)) then
                        bif (Nat.blt (i.toNat) (x.n)) then
                          bif (decide (0 ≤ x.N i.toNat)) then
                            bif (decide (x.N i.toNat < 32001)) then
                              bif (Nat.blt ((x.N i.toNat).toNat) (32001)) then
                                bif (Nat.blt ((x.N i.toNat).toNat) (32001)) then
                                  bif (a (x.N i.toNat).toNat) then
                                    .ret (.bool true false) [(0, .tab (x.n) [.ints IntKind.i64 (x.kd), .strs (x.bs), .ints IntKind.i64 (x.N), .ints IntKind.i64 (x.op), .ints IntKind.i64 (x.r1), .ints IntKind.i64 (x.r2)] false), (1168, .tab 32001 [.bools (a)] true)]
                                  else
                                    bif (decide (0 ≤ i)) then
                                      bif (decide (i < (↑x.n : Int))) then
                                        bif (Nat.blt (i.toNat) (x.n)) then
                                          bif (Nat.blt (i.toNat) (x.n)) then
                                            bif (decide (0 ≤ x.N i.toNat)) then
                                              bif (decide (x.N i.toNat < 32001)) then
                                                bif (Nat.blt ((x.N i.toNat).toNat) (32001)) then
                                                  bif (Nat.blt ((x.N i.toNat).toNat) (32001)) then
                                                    .norm 159 [(.int false IntKind.i64 (t)), (.sl 0 (x.n)), (.sl 1168 32001), (.int false IntKind.i64 (ar BinOp.add IntKind.i64 i 1))] [(0, .tab (x.n) [.ints IntKind.i64 (x.kd), .strs (x.bs), .ints IntKind.i64 (x.N), .ints IntKind.i64 (x.op), .ints IntKind.i64 (x.r1), .ints IntKind.i64 (x.r2)] false), (1168, .tab 32001 [.bools (upd a (x.N i.toNat).toNat true)] true)]
                                                  else .bad
                                                else .bad
                                              else .bad
                                            else .bad
                                          else .bad
                                        else .bad
                                      else .bad
                                    else .bad
                                else .bad
                              else .bad
                            else .bad
                          else .bad
                        else .bad
                      else .bad
                    else .bad
                  else .bad
                else
                  .norm 159 [(.int false IntKind.i64 (t)), (.sl 0 (x.n)), (.sl 1168 32001), (.int false IntKind.i64 (ar BinOp.add IntKind.i64 i 1))] [(0, .tab (x.n) [.ints IntKind.i64 (x.kd), .strs (x.bs), .ints IntKind.i64 (x.N), .ints IntKind.i64 (x.op), .ints IntKind.i64 (x.r1), .ints IntKind.i64 (x.r2)] false), (1168, .tab 32001 [.bools (a)] true)]
              else .bad
            else .bad
          else .bad
        else .bad
      else .bad
    else
      .exit 0 159 [(.int false IntKind.i64 (t)), (.sl 0 (x.n)), (.sl 1168 32001), (.int false IntKind.i64 (i))] [(0, .tab (x.n) [.ints IntKind.i64 (x.kd), .strs (x.bs), .ints IntKind.i64 (x.N), .ints IntKind.i64 (x.op), .ints IntKind.i64 (x.r1), .ints IntKind.i64 (x.r2)] false), (1168, .tab 32001 [.bools (a)] true)]) := by kernel_rfl

theorem r10b (x : It) (t : Int) (a : Nat → Bool) (i : Int) : (evalB EP Try.prog Try.f10.results.toList (loopOf Try.f10 1) 2 lp10b (v10b x t i) (hA x a)).view [0, 1, 5, 7] =
    (bif (cm BinOp.lss i (↑x.n : Int)) then
      bif (decide (0 ≤ i)) then
        bif (decide (i < (↑x.n : Int))) then
          bif (Nat.blt (i.toNat) (x.n)) then
            bif (Nat.blt (i.toNat) (x.n)) then
              bif (cm BinOp.eql (x.kd i.toNat) 1) then
                bif (bif cm BinOp.leq (↑(x.bs i.toNat).size : Int) 64 then allB [bif cm BinOp.eql t 2 then true else true] else true) then
                  bif (bif !bif cm BinOp.leq (↑(x.bs i.toNat).size : Int) 64 then bif cm BinOp.eql t 2 then true else cm BinOp.eql (ar BinOp.rem IntKind.i64 (↑(x.bs i.toNat).size : Int) 4) 0 else false then true else !(x.kd i.toNat == x.kd i.toNat && (seq (x.bs i.toNat) (x.bs i.toNat) && (x.N i.toNat == 0 && (x.op i.toNat == 0 && (x.r1 i.toNat == 0 && (x.r2 i.toNat == 0 && true))))))) then
                    .ret (.bool true false) [(0, .tab (x.n) [.ints IntKind.i64 (x.kd), .strs (x.bs), .ints IntKind.i64 (x.N), .ints IntKind.i64 (x.op), .ints IntKind.i64 (x.r1), .ints IntKind.i64 (x.r2)] false), (1168, .tab 32001 [.bools (a)] true), (1360, .cells [(.int false IntKind.i64 (x.kd i.toNat)), (.str (x.bs i.toNat)), (.int false IntKind.i64 (x.N i.toNat)), (.int false IntKind.i64 (x.op i.toNat)), (.int false IntKind.i64 (x.r1 i.toNat)), (.int false IntKind.i64 (x.r2 i.toNat))]), (1472, .cells [(.int false IntKind.i64 (x.kd i.toNat)), (.str (x.bs i.toNat)), (.int true IntKind.i64 0), (.int true IntKind.i64 0), (.int true IntKind.i64 0), (.int true IntKind.i64 0)])]
                  else
                    .norm 159 [(.int false IntKind.i64 (t)), (.sl 0 (x.n)), (.sl 1168 32001), (.int false IntKind.i64 (ar BinOp.add IntKind.i64 i 1))] [(0, .tab (x.n) [.ints IntKind.i64 (x.kd), .strs (x.bs), .ints IntKind.i64 (x.N), .ints IntKind.i64 (x.op), .ints IntKind.i64 (x.r1), .ints IntKind.i64 (x.r2)] false), (1168, .tab 32001 [.bools (a)] true), (1360, .cells [(.int false IntKind.i64 (x.kd i.toNat)), (.str (x.bs i.toNat)), (.int false IntKind.i64 (x.N i.toNat)), (.int false IntKind.i64 (x.op i.toNat)), (.int false IntKind.i64 (x.r1 i.toNat)), (.int false IntKind.i64 (x.r2 i.toNat))]), (1472, .cells [(.int false IntKind.i64 (x.kd i.toNat)), (.str (x.bs i.toNat)), (.int true IntKind.i64 0), (.int true IntKind.i64 0), (.int true IntKind.i64 0), (.int true IntKind.i64 0)])]
                else .bad
              else
                bif (cm BinOp.eql (x.kd i.toNat) 2) then
                  bif (bif !bif cm BinOp.geq (x.N i.toNat) 0 then cm BinOp.leq (x.N i.toNat) 32000 else false then true else !(x.kd i.toNat == x.kd i.toNat && (seq (x.bs i.toNat) (ByteArray.mk #[]) && (x.N i.toNat == x.N i.toNat && (x.op i.toNat == 0 && (x.r1 i.toNat == 0 && (x.r2 i.toNat == 0 && true))))))) then
                    .ret (.bool true false) [(0, .tab (x.n) [.ints IntKind.i64 (x.kd), .strs (x.bs), .ints IntKind.i64 (x.N), .ints IntKind.i64 (x.op), .ints IntKind.i64 (x.r1), .ints IntKind.i64 (x.r2)] false), (1168, .tab 32001 [.bools (a)] true), (1360, .cells [(.int false IntKind.i64 (x.kd i.toNat)), (.str (x.bs i.toNat)), (.int false IntKind.i64 (x.N i.toNat)), (.int false IntKind.i64 (x.op i.toNat)), (.int false IntKind.i64 (x.r1 i.toNat)), (.int false IntKind.i64 (x.r2 i.toNat))]), (1472, .cells [(.int false IntKind.i64 (x.kd i.toNat)), (.str ((ByteArray.mk #[]))), (.int false IntKind.i64 (x.N i.toNat)), (.int true IntKind.i64 0), (.int true IntKind.i64 0), (.int true IntKind.i64 0)])]
                  else
                    .norm 159 [(.int false IntKind.i64 (t)), (.sl 0 (x.n)), (.sl 1168 32001), (.int false IntKind.i64 (ar BinOp.add IntKind.i64 i 1))] [(0, .tab (x.n) [.ints IntKind.i64 (x.kd), .strs (x.bs), .ints IntKind.i64 (x.N), .ints IntKind.i64 (x.op), .ints IntKind.i64 (x.r1), .ints IntKind.i64 (x.r2)] false), (1168, .tab 32001 [.bools (a)] true), (1360, .cells [(.int false IntKind.i64 (x.kd i.toNat)), (.str (x.bs i.toNat)), (.int false IntKind.i64 (x.N i.toNat)), (.int false IntKind.i64 (x.op i.toNat)), (.int false IntKind.i64 (x.r1 i.toNat)), (.int false IntKind.i64 (x.r2 i.toNat))]), (1472, .cells [(.int false IntKind.i64 (x.kd i.toNat)), (.str ((ByteArray.mk #[]))), (.int false IntKind.i64 (x.N i.toNat)), (.int true IntKind.i64 0), (.int true IntKind.i64 0), (.int true IntKind.i64 0)])]
                else
                  bif (cm BinOp.eql (x.kd i.toNat) 3) then
                    bif (bif bif cm BinOp.geq (x.N i.toNat) 0 then cm BinOp.leq (x.N i.toNat) 32000 else false then allB [decide (0 ≤ x.N i.toNat), decide (x.N i.toNat < 32001), (x.N i.toNat).toNat.blt 32001, (x.N i.toNat).toNat.blt 32001] else true) then
                      bif (bif !bif bif cm BinOp.geq (x.N i.toNat) 0 then cm BinOp.leq (x.N i.toNat) 32000 else false then a (x.N i.toNat).toNat else false then true else !(x.kd i.toNat == x.kd i.toNat && (seq (x.bs i.toNat) (ByteArray.mk #[]) && (x.N i.toNat == x.N i.toNat && (x.op i.toNat == 0 && (x.r1 i.toNat == 0 && (x.r2 i.toNat == 0 && true))))))) then
                        .ret (.bool true false) [(0, .tab (x.n) [.ints IntKind.i64 (x.kd), .strs (x.bs), .ints IntKind.i64 (x.N), .ints IntKind.i64 (x.op), .ints IntKind.i64 (x.r1), .ints IntKind.i64 (x.r2)] false), (1168, .tab 32001 [.bools (a)] true), (1360, .cells [(.int false IntKind.i64 (x.kd i.toNat)), (.str (x.bs i.toNat)), (.int false IntKind.i64 (x.N i.toNat)), (.int false IntKind.i64 (x.op i.toNat)), (.int false IntKind.i64 (x.r1 i.toNat)), (.int false IntKind.i64 (x.r2 i.toNat))]), (1472, .cells [(.int false IntKind.i64 (x.kd i.toNat)), (.str ((ByteArray.mk #[]))), (.int false IntKind.i64 (x.N i.toNat)), (.int true IntKind.i64 0), (.int true IntKind.i64 0), (.int true IntKind.i64 0)])]
                      else
                        .norm 159 [(.int false IntKind.i64 (t)), (.sl 0 (x.n)), (.sl 1168 32001), (.int false IntKind.i64 (ar BinOp.add IntKind.i64 i 1))] [(0, .tab (x.n) [.ints IntKind.i64 (x.kd), .strs (x.bs), .ints IntKind.i64 (x.N), .ints IntKind.i64 (x.op), .ints IntKind.i64 (x.r1), .ints IntKind.i64 (x.r2)] false), (1168, .tab 32001 [.bools (a)] true), (1360, .cells [(.int false IntKind.i64 (x.kd i.toNat)), (.str (x.bs i.toNat)), (.int false IntKind.i64 (x.N i.toNat)), (.int false IntKind.i64 (x.op i.toNat)), (.int false IntKind.i64 (x.r1 i.toNat)), (.int false IntKind.i64 (x.r2 i.toNat))]), (1472, .cells [(.int false IntKind.i64 (x.kd i.toNat)), (.str ((ByteArray.mk #[]))), (.int false IntKind.i64 (x.N i.toNat)), (.int true IntKind.i64 0), (.int true IntKind.i64 0), (.int true IntKind.i64 0)])]
                    else .bad
                  else
                    bif (cm BinOp.eql (x.kd i.toNat) 5) then
                      bif (bif bif cm BinOp.geq (x.N i.toNat) 0 then cm BinOp.leq (x.N i.toNat) 32000 else false then allB [decide (0 ≤ x.N i.toNat), decide (x.N i.toNat < 32001), (x.N i.toNat).toNat.blt 32001, (x.N i.toNat).toNat.blt 32001] else true) then
                        bif (bif !bif bif cm BinOp.geq (x.N i.toNat) 0 then cm BinOp.leq (x.N i.toNat) 32000 else false then a (x.N i.toNat).toNat else false then true else !(x.kd i.toNat == x.kd i.toNat && (seq (x.bs i.toNat) (ByteArray.mk #[]) && (x.N i.toNat == x.N i.toNat && (x.op i.toNat == 0 && (x.r1 i.toNat == 0 && (x.r2 i.toNat == 0 && true))))))) then
                          .ret (.bool true false) [(0, .tab (x.n) [.ints IntKind.i64 (x.kd), .strs (x.bs), .ints IntKind.i64 (x.N), .ints IntKind.i64 (x.op), .ints IntKind.i64 (x.r1), .ints IntKind.i64 (x.r2)] false), (1168, .tab 32001 [.bools (a)] true), (1360, .cells [(.int false IntKind.i64 (x.kd i.toNat)), (.str (x.bs i.toNat)), (.int false IntKind.i64 (x.N i.toNat)), (.int false IntKind.i64 (x.op i.toNat)), (.int false IntKind.i64 (x.r1 i.toNat)), (.int false IntKind.i64 (x.r2 i.toNat))]), (1472, .cells [(.int false IntKind.i64 (x.kd i.toNat)), (.str ((ByteArray.mk #[]))), (.int false IntKind.i64 (x.N i.toNat)), (.int true IntKind.i64 0), (.int true IntKind.i64 0), (.int true IntKind.i64 0)])]
                        else
                          .norm 159 [(.int false IntKind.i64 (t)), (.sl 0 (x.n)), (.sl 1168 32001), (.int false IntKind.i64 (ar BinOp.add IntKind.i64 i 1))] [(0, .tab (x.n) [.ints IntKind.i64 (x.kd), .strs (x.bs), .ints IntKind.i64 (x.N), .ints IntKind.i64 (x.op), .ints IntKind.i64 (x.r1), .ints IntKind.i64 (x.r2)] false), (1168, .tab 32001 [.bools (a)] true), (1360, .cells [(.int false IntKind.i64 (x.kd i.toNat)), (.str (x.bs i.toNat)), (.int false IntKind.i64 (x.N i.toNat)), (.int false IntKind.i64 (x.op i.toNat)), (.int false IntKind.i64 (x.r1 i.toNat)), (.int false IntKind.i64 (x.r2 i.toNat))]), (1472, .cells [(.int false IntKind.i64 (x.kd i.toNat)), (.str ((ByteArray.mk #[]))), (.int false IntKind.i64 (x.N i.toNat)), (.int true IntKind.i64 0), (.int true IntKind.i64 0), (.int true IntKind.i64 0)])]
                      else .bad
                    else
                      bif (cm BinOp.eql (x.kd i.toNat) 4) then
                        bif (bif bif cm BinOp.geq (x.N i.toNat) 0 then cm BinOp.leq (x.N i.toNat) 32000 else false then allB [decide (0 ≤ x.N i.toNat), decide (x.N i.toNat < 32001), (x.N i.toNat).toNat.blt 32001, (x.N i.toNat).toNat.blt 32001] else true) then
                          bif (cm BinOp.eql t 1) then
                            bif (bif !bif bif bif cm BinOp.geq (x.N i.toNat) 0 then cm BinOp.leq (x.N i.toNat) 32000 else false then a (x.N i.toNat).toNat else false then bif bif cm BinOp.geq (x.op i.toNat) 5 then cm BinOp.leq (x.op i.toNat) 10 else false then bif bif cm BinOp.geq (x.r1 i.toNat) 0 then cm BinOp.leq (x.r1 i.toNat) 31 else false then bif cm BinOp.geq (x.r2 i.toNat) 0 then cm BinOp.leq (x.r2 i.toNat) 31 else false else false else false else false then true else !(x.kd i.toNat == x.kd i.toNat && (seq (x.bs i.toNat) (ByteArray.mk #[]) && (x.N i.toNat == x.N i.toNat && (x.op i.toNat == x.op i.toNat && (x.r1 i.toNat == x.r1 i.toNat && (x.r2 i.toNat == x.r2 i.toNat && true))))))) then
                              .ret (.bool true false) [(0, .tab (x.n) [.ints IntKind.i64 (x.kd), .strs (x.bs), .ints IntKind.i64 (x.N), .ints IntKind.i64 (x.op), .ints IntKind.i64 (x.r1), .ints IntKind.i64 (x.r2)] false), (1168, .tab 32001 [.bools (a)] true), (1360, .cells [(.int false IntKind.i64 (x.kd i.toNat)), (.str (x.bs i.toNat)), (.int false IntKind.i64 (x.N i.toNat)), (.int false IntKind.i64 (x.op i.toNat)), (.int false IntKind.i64 (x.r1 i.toNat)), (.int false IntKind.i64 (x.r2 i.toNat))]), (1472, .cells [(.int false IntKind.i64 (x.kd i.toNat)), (.str ((ByteArray.mk #[]))), (.int false IntKind.i64 (x.N i.toNat)), (.int false IntKind.i64 (x.op i.toNat)), (.int false IntKind.i64 (x.r1 i.toNat)), (.int false IntKind.i64 (x.r2 i.toNat))])]
                            else
                              .norm 159 [(.int false IntKind.i64 (t)), (.sl 0 (x.n)), (.sl 1168 32001), (.int false IntKind.i64 (ar BinOp.add IntKind.i64 i 1))] [(0, .tab (x.n) [.ints IntKind.i64 (x.kd), .strs (x.bs), .ints IntKind.i64 (x.N), .ints IntKind.i64 (x.op), .ints IntKind.i64 (x.r1), .ints IntKind.i64 (x.r2)] false), (1168, .tab 32001 [.bools (a)] true), (1360, .cells [(.int false IntKind.i64 (x.kd i.toNat)), (.str (x.bs i.toNat)), (.int false IntKind.i64 (x.N i.toNat)), (.int false IntKind.i64 (x.op i.toNat)), (.int false IntKind.i64 (x.r1 i.toNat)), (.int false IntKind.i64 (x.r2 i.toNat))]), (1472, .cells [(.int false IntKind.i64 (x.kd i.toNat)), (.str ((ByteArray.mk #[]))), (.int false IntKind.i64 (x.N i.toNat)), (.int false IntKind.i64 (x.op i.toNat)), (.int false IntKind.i64 (x.r1 i.toNat)), (.int false IntKind.i64 (x.r2 i.toNat))])]
                          else
                            bif (bif !bif bif bif cm BinOp.geq (x.N i.toNat) 0 then cm BinOp.leq (x.N i.toNat) 32000 else false then a (x.N i.toNat).toNat else false then bif cm BinOp.geq (x.op i.toNat) 2 then bif cm BinOp.leq (x.op i.toNat) 7 then true else bif cm BinOp.geq (x.op i.toNat) 12 then cm BinOp.leq (x.op i.toNat) 15 else false else bif cm BinOp.geq (x.op i.toNat) 12 then cm BinOp.leq (x.op i.toNat) 15 else false else false then true else !(x.kd i.toNat == x.kd i.toNat && (seq (x.bs i.toNat) (ByteArray.mk #[]) && (x.N i.toNat == x.N i.toNat && (x.op i.toNat == x.op i.toNat && (x.r1 i.toNat == 0 && (x.r2 i.toNat == 0 && true))))))) then
                              .ret (.bool true false) [(0, .tab (x.n) [.ints IntKind.i64 (x.kd), .strs (x.bs), .ints IntKind.i64 (x.N), .ints IntKind.i64 (x.op), .ints IntKind.i64 (x.r1), .ints IntKind.i64 (x.r2)] false), (1168, .tab 32001 [.bools (a)] true), (1360, .cells [(.int false IntKind.i64 (x.kd i.toNat)), (.str (x.bs i.toNat)), (.int false IntKind.i64 (x.N i.toNat)), (.int false IntKind.i64 (x.op i.toNat)), (.int false IntKind.i64 (x.r1 i.toNat)), (.int false IntKind.i64 (x.r2 i.toNat))]), (1472, .cells [(.int false IntKind.i64 (x.kd i.toNat)), (.str ((ByteArray.mk #[]))), (.int false IntKind.i64 (x.N i.toNat)), (.int false IntKind.i64 (x.op i.toNat)), (.int true IntKind.i64 0), (.int true IntKind.i64 0)])]
                            else
                              .norm 159 [(.int false IntKind.i64 (t)), (.sl 0 (x.n)), (.sl 1168 32001), (.int false IntKind.i64 (ar BinOp.add IntKind.i64 i 1))] [(0, .tab (x.n) [.ints IntKind.i64 (x.kd), .strs (x.bs), .ints IntKind.i64 (x.N), .ints IntKind.i64 (x.op), .ints IntKind.i64 (x.r1), .ints IntKind.i64 (x.r2)] false), (1168, .tab 32001 [.bools (a)] true), (1360, .cells [(.int false IntKind.i64 (x.kd i.toNat)), (.str (x.bs i.toNat)), (.int false IntKind.i64 (x.N i.toNat)), (.int false IntKind.i64 (x.op i.toNat)), (.int false IntKind.i64 (x.r1 i.toNat)), (.int false IntKind.i64 (x.r2 i.toNat))]), (1472, .cells [(.int false IntKind.i64 (x.kd i.toNat)), (.str ((ByteArray.mk #[]))), (.int false IntKind.i64 (x.N i.toNat)), (.int false IntKind.i64 (x.op i.toNat)), (.int true IntKind.i64 0), (.int true IntKind.i64 0)])]
                        else .bad
                      else
                        .ret (.bool true false) [(0, .tab (x.n) [.ints IntKind.i64 (x.kd), .strs (x.bs), .ints IntKind.i64 (x.N), .ints IntKind.i64 (x.op), .ints IntKind.i64 (x.r1), .ints IntKind.i64 (x.r2)] false), (1168, .tab 32001 [.bools (a)] true), (1360, .cells [(.int false IntKind.i64 (x.kd i.toNat)), (.str (x.bs i.toNat)), (.int false IntKind.i64 (x.N i.toNat)), (.int false IntKind.i64 (x.op i.toNat)), (.int false IntKind.i64 (x.r1 i.toNat)), (.int false IntKind.i64 (x.r2 i.toNat))]), (1472, .cells [(.int false IntKind.i64 (x.kd i.toNat)), (.str ((ByteArray.mk #[]))), (.int false IntKind.i64 (x.N i.toNat)), (.int true IntKind.i64 0), (.int true IntKind.i64 0), (.int true IntKind.i64 0)])]
            else .bad
          else .bad
        else .bad
      else .bad
    else
      .exit 2 159 [(.int false IntKind.i64 (t)), (.sl 0 (x.n)), (.sl 1168 32001), (.int false IntKind.i64 (i))] [(0, .tab (x.n) [.ints IntKind.i64 (x.kd), .strs (x.bs), .ints IntKind.i64 (x.N), .ints IntKind.i64 (x.op), .ints IntKind.i64 (x.r1), .ints IntKind.i64 (x.r2)] false), (1168, .tab 32001 [.bools (a)] true)]) := by kernel_rfl

end Go.La
end

section
set_option linter.unusedVariables false
open Go Go.Ev Go.Proofs
namespace Go.La

def isLab (x : It) (j : Nat) : Bool := decide (x.kd j = 2) && (decide (0 ≤ x.N j) && decide (x.N j ≤ 32000))
/-- which labels are there; is none there twice -/
def atK (x : It) : Nat → Nat → Bool
  | 0 => fun _ => false
  | j + 1 => bif isLab x j then upd (atK x j) (x.N j).toNat true else atK x j
def unK (x : It) : Nat → Bool
  | 0 => true
  | j + 1 => unK x j && !(isLab x j && atK x j (x.N j).toNat)
theorem unK_le {x : It} : ∀ {j i : Nat}, i ≤ j → unK x j = true → unK x i = true
  | 0, i, h, hv => by obtain rfl : i = 0 := by omega
                      exact hv
  | j + 1, i, h, hv => by
    by_cases e : i = j + 1
    · subst e; exact hv
    · simp only [unK, Bool.and_eq_true] at hv
      exact unK_le (show i ≤ j by omega) hv.1
noncomputable def unC (x : It) : Bool := clsB (unK x x.n = true)
noncomputable def get10a : List SV → Heap → Option Tr
  | [.int _ .i64 t, .sl ka na, .sl kb nb, .int _ .i64 i], [(j0, .tab n1 [.ints .i64 kd, .strs bs, .ints .i64 N, .ints .i64 op, .ints .i64 r1, .ints .i64 r2] _), (j1, .tab n2 [.bools a] true)] =>
    some (Tr.needs [Nat.beq ka 0, Nat.beq na n1, Nat.beq kb 1168, clsB (nb = 32001), decide (i = 0), Nat.beq j0 0, Nat.beq j1 1168, clsB (n2 = 32001), smB n1, fB a]
      (.node (unC ⟨n1, kd, bs, N, op, r1, r2⟩) (exitT lk10a 0 [.int false .i64 t, .sl 0 n1, .sl 1168 32001, .any] (hA ⟨n1, kd, bs, N, op, r1, r2⟩ (atK ⟨n1, kd, bs, N, op, r1, r2⟩ n1))) (.ret (.bool true false) [])))
  | _, _ => none
noncomputable def lq10a : Lp := { lk10a with get := get10a }
structure X10 where
  x : It
  t : Int
  j : Nat
def ok10a (s : X10) : Prop := s.j ≤ s.x.n ∧ s.x.n ≤ 32000 ∧ unK s.x s.j = true
def vs10a (s : X10) : List SV := v10a s.x s.t s.j
def hp10a (s : X10) : Heap := hA s.x (atK s.x s.j)
noncomputable def out10a (s : X10) : Vw := bif unC s.x then .exit 0 159 [.int false .i64 s.t, .sl 0 s.x.n, .sl 1168 32001, .any] (hA s.x (atK s.x s.x.n)) else .ret (.bool true false) []
theorem hA_wk (x : It) {a a' : Nat → Bool} {f : Bool} (h : a = a') : wkH (rmap []) [(0, .tab x.n x.cols f), (1168, .tab 32001 [.bools a] true)] (hA x a') := by
  subst h
  simp [hA, wkH, wkB, wkCs, wkC, rmap, rlook, Ev.look, It.cols]

theorem entry10a (l : List SV) (H : Heap) (T : Tr) (h : lq10a.get l H = some T) (hb : T.leaf ≠ .bad) : ∃ x r, ok10a x ∧ WkV r lq10a.nm l H (vs10a x) (hp10a x) ∧ T.leaf = toLf lq10a (out10a x) := by
  replace h : get10a l H = some T := h
  unfold get10a at h
  split at h
  · rename_i _ t ka na kb nb _ i j0 n1 kd bs N op r1 r2 _ j1 n2 a
    simp only [Option.some.injEq] at h
    subst h
    obtain ⟨hn, he⟩ := needs_ne hb
    rw [he]
    simp only [allB, Bool.and_eq_true, Bool.and_true, decide_eq_true_eq, Nat.beq_eq, smB_iff, fB, clsB_iff] at hn
    obtain ⟨rfl, rfl, rfl, rfl, rfl, rfl, rfl, rfl, hs, rfl⟩ := hn
    refine ⟨⟨⟨na, kd, bs, N, op, r1, r2⟩, t, 0⟩, [], ⟨Nat.zero_le _, hs, rfl⟩, ?_, ?_⟩
    · exact ⟨rfl, ⟨⟨rfl, rfl⟩, ⟨rfl, rfl⟩, ⟨rfl, rfl⟩, ⟨rfl, rfl⟩, trivial⟩, hA_wk ⟨na, kd, bs, N, op, r1, r2⟩ rfl, rfl, rfl⟩
    · rw [leaf_node, exitT_leaf, out10a, toLf_cond]
      rfl
  · cases h

theorem lq_lp {E : Env} {P : Program} {res : List ResultVar} {c : Code} {n : Nat} {l : List SV} {H : Heap} : evalB E P res c n lq10a l H = evalB E P res c n lp10a l H := rfl
attribute [local irreducible] evalB Tr.view in
theorem round10a (s : X10) (hx : ok10a s) : Round lq10a ok10a (fun s => s.x.n - s.j) vs10a hp10a out10a s ((evalB EP Try.prog Try.f10.results.toList (loopOf Try.f10 0) (0 + 1) lq10a (vs10a s) (hp10a s)).view lq10a.ks) := by
  obtain ⟨x, t, j⟩ := s
  obtain ⟨h0, h1, h2⟩ := hx
  simp only at h0 h1 h2
  have hr := r10a x t (atK x j) j
  rw [show evalB EP Try.prog Try.f10.results.toList (loopOf Try.f10 0) (0 + 1) lq10a (vs10a ⟨x, t, j⟩) (hp10a ⟨x, t, j⟩) = evalB EP Try.prog Try.f10.results.toList (loopOf Try.f10 0) 1 lp10a (v10a x t j) (hA x (atK x j)) from lq_lp, show lq10a.ks = [0, 1, 5, 6] from rfl, hr]
  by_cases hj : j < x.n
  · have e1 : cm .lss (j : Int) (x.n : Int) = true := by rw [cm_lss']; exact decide_eq_true (by omega)
    have e2 : decide (0 ≤ (j : Int)) = true := decide_eq_true (by omega)
    have e3 : decide ((j : Int) < (x.n : Int)) = true := decide_eq_true (by omega)
    have e4 : (bif cm .eql (x.kd j) 2 then bif cm .geq (x.N j) 0 then cm .leq (x.N j) 32000 else false else false) = isLab x j := by
      unfold isLab
      rw [cm_eql', cm_geq', cm_leq']
      cases decide (x.kd j = 2) <;> cases decide (0 ≤ x.N j) <;> rfl
    have e5 : (bif cm .eql (x.kd j) 2 then true else true) = true := by cases cm .eql (x.kd j) 2 <;> rfl
    simp only [e1, e2, e3, e4, e5, blt_t hj, cond_true, Int.toNat_natCast, allB, Bool.and_true, addOne (show j < 9223372036854775807 by omega)]
    have hv : unK x (j + 1) = !(isLab x j && atK x j (x.N j).toNat) := by simp only [unK, h2, Bool.true_and]
    cases hl : isLab x j with
    | false =>
      rw [hl] at hv
      simp only [cond_false]
      refine ⟨rfl, ⟨x, t, j + 1⟩, [], ⟨hj, h1, hv⟩, by show x.n - (j + 1) < x.n - j; omega, rfl, rfl, ?_, ?_, rfl, rfl⟩
      · exact ⟨⟨rfl, rfl⟩, ⟨rfl, rfl⟩, ⟨rfl, rfl⟩, ⟨rfl, rfl⟩, trivial⟩
      · exact hA_wk x (by simp only [atK, hl, cond_false])
    | true =>
      rw [hl, Bool.true_and] at hv
      have hl' := hl
      simp only [isLab, Bool.and_eq_true, decide_eq_true_eq] at hl'
      obtain ⟨_, q0, q1⟩ := hl'
      simp only [cond_true, decide_eq_true q0, decide_eq_true (show x.N j < 32001 by omega), blt_t (show (x.N j).toNat < 32001 by omega)]
      cases ha : atK x j (x.N j).toNat with
      | true =>
        rw [ha] at hv
        simp only [cond_true]
        have : unC x = false := by
          rw [Bool.eq_false_iff]
          intro h'
          have := unK_le (show j + 1 ≤ x.n from hj) (clsB_iff.1 h')
          rw [hv] at this; cases this
        exact ⟨.bool true false, [], [], by simp only [out10a, this, cond_false], rfl, rfl, trivial, rfl⟩
      | false =>
        rw [ha] at hv
        simp only [cond_false]
        refine ⟨rfl, ⟨x, t, j + 1⟩, [], ⟨hj, h1, hv⟩, by show x.n - (j + 1) < x.n - j; omega, rfl, rfl, ?_, ?_, rfl, rfl⟩
        · exact ⟨⟨rfl, rfl⟩, ⟨rfl, rfl⟩, ⟨rfl, rfl⟩, ⟨rfl, rfl⟩, trivial⟩
        · exact hA_wk x (by simp only [atK, hl, cond_true])
  · obtain rfl : j = x.n := by omega
    have e1 : cm .lss (x.n : Int) (x.n : Int) = false := by simp [cm]
    have hu : unC x = true := clsB_iff.2 h2
    simp only [e1, cond_false]
    refine ⟨rfl, [.int false .i64 t, .sl 0 x.n, .sl 1168 32001, .any], _, [], by simp only [out10a, hu, cond_true]; rfl, rfl, ?_, ?_, rfl, rfl⟩
    · exact ⟨⟨rfl, rfl⟩, ⟨rfl, rfl⟩, ⟨rfl, rfl⟩, trivial, trivial⟩
    · exact hA_wk x rfl

end Go.La
end

section
set_option linter.unusedVariables false
open Go Go.Ev Go.Proofs
namespace Go.La

noncomputable def ER : Env := inlF Try.prog (envOf [(28, specOf g28)] noLoop) [26, 27] [] [] 3
theorem namedR : named Try.prog [26, 27] = true := by kernel_rfl
theorem er_calls : CallsOk ER Try.prog := (inlF_calls ((SpecsOk.cons spec28 SpecsOk.nil).calls noLoop) mixed namedR rfl rfl 3).1
theorem er_loop : ER.loop = noLoop := rfl
def hR (x : It) (lg : Nat → Bool) (p q : Nat → Int) : Heap := [(0, .tab x.n x.cols false), (1104, .tab x.n [.bools lg] true), (1168, .tab x.n [.ints .i64 p] true), (1200, .tab 32001 [.ints .i64 q] true)]
/-! the placing -/
def v11b (x : It) (t h i : Int) : List SV := [.int false .i64 t, .sl 0 x.n, .sl 1104 x.n, .sl 1168 x.n, .sl 1200 32001, .int false .i64 h, .int false .i64 i]
def lp11b : Lp := ⟨164, [0, 1, 7, 8, 9, 10, 11], 1264, fun _ _ => none⟩
/-! the bytes -/
def hRb (x : It) (lg : Nat → Bool) (p q : Nat → Int) (m : Nat) (g : Nat → Int) : Heap := hR x lg p q ++ [(1800, .tab m [.ints .u8 g] true)]
def v11d (x : It) (t : Int) (m : Nat) (i : Int) : List SV := [.int false .i64 t, .sl 0 x.n, .sl 1104 x.n, .sl 1168 x.n, .sl 1200 32001, .sl 1800 m, .int false .i64 i]
def lp11d : Lp := ⟨164, [0, 1, 7, 8, 9, 16, 17], 1900, fun _ _ => none⟩
--LEAVES

theorem r11b (x : It) (t : Int) (lg : Nat → Bool) (p : Nat → Int) (q : Nat → Int) (h : Int) (i : Int) : (evalB ER Try.prog Try.f11.results.toList (loopOf Try.f11 1) 2 lp11b (v11b x t h i) (hR x lg p q)).view [0, 1, 7, 8, 9, 10, 11] =
    (bif (cm .lss i (↑x.n : Int)) then
      bif (decide (0 ≤ i)) then
        bif (decide (i < (↑x.n : Int))) then
          bif (Nat.blt (i.toNat) (x.n)) then
            bif (Nat.blt (i.toNat) (x.n)) then
              bif (decide (0 ≤ i)) then
                bif (decide (i < (↑x.n : Int))) then
                  bif (Nat.blt (i.toNat) (x.n)) then
                    bif (Nat.blt (i.toNat) (x.n)) then
                      bif (cm .eql (x.kd i.toNat) 2) then
                        bif (decide (0 ≤ i)) then
                          bif (decide (i < (↑x.n : Int))) then
                            bif (Nat.blt (i.toNat) (x.n)) then
                              bif (Nat.blt (i.toNat) (x.n)) then
                                bif (decide (0 ≤ x.N i.toNat)) then
                                  bif (decide (x.N i.toNat < 32001)) then
                                    bif (Nat.blt ((x.N i.toNat).toNat) (32001)) then
                                      bif (Nat.blt ((x.N i.toNat).toNat) (32001)) then
                                        bif (decide (0 ≤ i)) then
                                          bif (decide (i < (↑x.n : Int))) then
                                            bif (Nat.blt (i.toNat) (x.n)) then
                                              bif (Nat.blt (i.toNat) (x.n)) then
                                                bif (decide (0 ≤ i)) then
                                                  bif (decide (i < (↑x.n : Int))) then
                                                    bif (Nat.blt (i.toNat) (x.n)) then
                                                      bif (Nat.blt (i.toNat) (x.n)) then
                                                        .norm 164 [(.int false .i64 (t)), (.sl 0 (x.n)), (.sl 1104 (x.n)), (.sl 1168 (x.n)), (.sl 1200 32001), (.int false .i64 (ar .add .i64 h (bif cm .eql (x.kd i.toNat) 1 then (↑(x.bs i.toNat).size : Int) else bif cm .eql (x.kd i.toNat) 2 then 0 else bif cm .eql t 1 then bif bif cm .eql (x.kd i.toNat) 4 then lg i.toNat else false then 8 else 4 else bif bif cm .eql (x.kd i.toNat) 5 then true else bif cm .eql (x.kd i.toNat) 3 then lg i.toNat else false then 5 else bif lg i.toNat then 6 else 2))), (.int false .i64 (ar .add .i64 i 1))] [(0, .tab (x.n) [.ints .i64 (x.kd), .strs (x.bs), .ints .i64 (x.N), .ints .i64 (x.op), .ints .i64 (x.r1), .ints .i64 (x.r2)] false), (1104, .tab (x.n) [.bools (lg)] true), (1168, .tab (x.n) [.ints .i64 (upd p i.toNat h)] true), (1200, .tab 32001 [.ints .i64 (upd q (x.N i.toNat).toNat h)] true)]
                                                      else .bad
                                                    else .bad
                                                  else .bad
                                                else .bad
                                              else .bad
                                            else .bad
                                          else .bad
                                        else .bad
                                      else .bad
                                    else .bad
                                  else .bad
                                else .bad
                              else .bad
                            else .bad
                          else .bad
                        else .bad
                      else
                        bif (decide (0 ≤ i)) then
                          bif (decide (i < (↑x.n : Int))) then
                            bif (Nat.blt (i.toNat) (x.n)) then
                              bif (Nat.blt (i.toNat) (x.n)) then
                                bif (decide (0 ≤ i)) then
                                  bif (decide (i < (↑x.n : Int))) then
                                    bif (Nat.blt (i.toNat) (x.n)) then
                                      bif (Nat.blt (i.toNat) (x.n)) then
                                        .norm 164 [(.int false .i64 (t)), (.sl 0 (x.n)), (.sl 1104 (x.n)), (.sl 1168 (x.n)), (.sl 1200 32001), (.int false .i64 (ar .add .i64 h (bif cm .eql (x.kd i.toNat) 1 then (↑(x.bs i.toNat).size : Int) else bif cm .eql (x.kd i.toNat) 2 then 0 else bif cm .eql t 1 then bif bif cm .eql (x.kd i.toNat) 4 then lg i.toNat else false then 8 else 4 else bif bif cm .eql (x.kd i.toNat) 5 then true else bif cm .eql (x.kd i.toNat) 3 then lg i.toNat else false then 5 else bif lg i.toNat then 6 else 2))), (.int false .i64 (ar .add .i64 i 1))] [(0, .tab (x.n) [.ints .i64 (x.kd), .strs (x.bs), .ints .i64 (x.N), .ints .i64 (x.op), .ints .i64 (x.r1), .ints .i64 (x.r2)] false), (1104, .tab (x.n) [.bools (lg)] true), (1168, .tab (x.n) [.ints .i64 (upd p i.toNat h)] true), (1200, .tab 32001 [.ints .i64 (q)] true)]
                                      else .bad
                                    else .bad
                                  else .bad
                                else .bad
                              else .bad
                            else .bad
                          else .bad
                        else .bad
                    else .bad
                  else .bad
                else .bad
              else .bad
            else .bad
          else .bad
        else .bad
      else .bad
    else
      .exit 2 164 [(.int false .i64 (t)), (.sl 0 (x.n)), (.sl 1104 (x.n)), (.sl 1168 (x.n)), (.sl 1200 32001), (.int false .i64 (h)), (.int false .i64 (i))] [(0, .tab (x.n) [.ints .i64 (x.kd), .strs (x.bs), .ints .i64 (x.N), .ints .i64 (x.op), .ints .i64 (x.r1), .ints .i64 (x.r2)] false), (1104, .tab (x.n) [.bools (lg)] true), (1168, .tab (x.n) [.ints .i64 (p)] true), (1200, .tab 32001 [.ints .i64 (q)] true)]) := by kernel_rfl

theorem r11d (x : It) (t : Int) (lg : Nat → Bool) (p : Nat → Int) (q : Nat → Int) (m : Nat) (g : Nat → Int) (i : Int) : (evalB ER Try.prog Try.f11.results.toList (loopOf Try.f11 3) 4 lp11d (v11d x t m i) (hRb x lg p q m g)).view [0, 1, 7, 8, 9, 16, 17] =
    (bif (cm .lss i (↑x.n : Int)) then
      bif (decide (0 ≤ i)) then
        bif (decide (i < (↑x.n : Int))) then
          bif (Nat.blt (i.toNat) (x.n)) then
            bif (Nat.blt (i.toNat) (x.n)) then
              bif (cm .eql (x.kd i.toNat) 1) then
                bif (Nat.ble (m) (m)) then
                  bif (Nat.ble ((m + (x.bs i.toNat).size) * 1) (1099511627776)) then
                    .norm 164 [(.int false .i64 (t)), (.sl 0 (x.n)), (.sl 1104 (x.n)), (.sl 1168 (x.n)), (.sl 1200 32001), (.sl 2172 (m + (x.bs i.toNat).size)), (.int false .i64 (ar .add .i64 i 1))] [(0, .tab (x.n) [.ints .i64 (x.kd), .strs (x.bs), .ints .i64 (x.N), .ints .i64 (x.op), .ints .i64 (x.r1), .ints .i64 (x.r2)] false), (1104, .tab (x.n) [.bools (lg)] true), (1168, .tab (x.n) [.ints .i64 (p)] true), (1200, .tab 32001 [.ints .i64 (q)] true), (1800, .dead), (2028, .cells [(.int false .i64 (x.kd i.toNat)), (.str (x.bs i.toNat)), (.int false .i64 (x.N i.toNat)), (.int false .i64 (x.op i.toNat)), (.int false .i64 (x.r1 i.toNat)), (.int false .i64 (x.r2 i.toNat))]), (2172, .tab (m + (x.bs i.toNat).size) [.ints .u8 (cat m g (chr (x.bs i.toNat)))] true)]
                  else .bad
                else .bad
              else
                bif (cm .eql (x.kd i.toNat) 3) then
                  bif (decide (0 ≤ i)) then
                    bif (decide (i < (↑x.n : Int))) then
                      bif (Nat.blt (i.toNat) (x.n)) then
                        bif (Nat.blt (i.toNat) (x.n)) then
                          bif (decide (0 ≤ x.N i.toNat)) then
                            bif (decide (x.N i.toNat < 32001)) then
                              bif (Nat.blt ((x.N i.toNat).toNat) (32001)) then
                                bif (Nat.blt ((x.N i.toNat).toNat) (32001)) then
                                  bif (decide (0 ≤ i)) then
                                    bif (decide (i < (↑x.n : Int))) then
                                      bif (Nat.blt (i.toNat) (x.n)) then
                                        bif (Nat.blt (i.toNat) (x.n)) then
                                          bif (clsB (x.kd i.toNat = 3 ∨ x.kd i.toNat = 4 ∨ x.kd i.toNat = 5)) then
                                            bif (Nat.ble (m) (m)) then
                                              bif (Nat.ble ((m + (byK t (x.kd i.toNat) (x.op i.toNat) (x.r1 i.toNat) (x.r2 i.toNat) (lg i.toNat) (x.bs i.toNat).size (ar .sub .i64 (q (x.N i.toNat).toNat) (p i.toNat))).size) * 1) (1099511627776)) then
                                                .norm 164 [(.int false .i64 (t)), (.sl 0 (x.n)), (.sl 1104 (x.n)), (.sl 1168 (x.n)), (.sl 1200 32001), (.sl 2444 (m + (byK t (x.kd i.toNat) (x.op i.toNat) (x.r1 i.toNat) (x.r2 i.toNat) (lg i.toNat) (x.bs i.toNat).size (ar .sub .i64 (q (x.N i.toNat).toNat) (p i.toNat))).size)), (.int false .i64 (ar .add .i64 i 1))] [(0, .tab (x.n) [.ints .i64 (x.kd), .strs (x.bs), .ints .i64 (x.N), .ints .i64 (x.op), .ints .i64 (x.r1), .ints .i64 (x.r2)] false), (1104, .tab (x.n) [.bools (lg)] true), (1168, .tab (x.n) [.ints .i64 (p)] true), (1200, .tab 32001 [.ints .i64 (q)] true), (1800, .dead), (2028, .cells [(.int false .i64 (x.kd i.toNat)), (.str (x.bs i.toNat)), (.int false .i64 (x.N i.toNat)), (.int false .i64 (x.op i.toNat)), (.int false .i64 (x.r1 i.toNat)), (.int false .i64 (x.r2 i.toNat))]), (2444, .tab (m + (byK t (x.kd i.toNat) (x.op i.toNat) (x.r1 i.toNat) (x.r2 i.toNat) (lg i.toNat) (x.bs i.toNat).size (ar .sub .i64 (q (x.N i.toNat).toNat) (p i.toNat))).size) [.ints .u8 (cat m g (chr (byK t (x.kd i.toNat) (x.op i.toNat) (x.r1 i.toNat) (x.r2 i.toNat) (lg i.toNat) (x.bs i.toNat).size (ar .sub .i64 (q (x.N i.toNat).toNat) (p i.toNat)))))] true)]
                                              else .bad
                                            else .bad
                                          else .bad
                                        else .bad
                                      else .bad
                                    else .bad
                                  else .bad
                                else .bad
                              else .bad
                            else .bad
                          else .bad
                        else .bad
                      else .bad
                    else .bad
                  else .bad
                else
                  bif (cm .eql (x.kd i.toNat) 4) then
                    bif (decide (0 ≤ i)) then
                      bif (decide (i < (↑x.n : Int))) then
                        bif (Nat.blt (i.toNat) (x.n)) then
                          bif (Nat.blt (i.toNat) (x.n)) then
                            bif (decide (0 ≤ x.N i.toNat)) then
                              bif (decide (x.N i.toNat < 32001)) then
                                bif (Nat.blt ((x.N i.toNat).toNat) (32001)) then
                                  bif (Nat.blt ((x.N i.toNat).toNat) (32001)) then
                                    bif (decide (0 ≤ i)) then
                                      bif (decide (i < (↑x.n : Int))) then
                                        bif (Nat.blt (i.toNat) (x.n)) then
                                          bif (Nat.blt (i.toNat) (x.n)) then
                                            bif (clsB (x.kd i.toNat = 3 ∨ x.kd i.toNat = 4 ∨ x.kd i.toNat = 5)) then
                                              bif (Nat.ble (m) (m)) then
                                                bif (Nat.ble ((m + (byK t (x.kd i.toNat) (x.op i.toNat) (x.r1 i.toNat) (x.r2 i.toNat) (lg i.toNat) (x.bs i.toNat).size (ar .sub .i64 (q (x.N i.toNat).toNat) (p i.toNat))).size) * 1) (1099511627776)) then
                                                  .norm 164 [(.int false .i64 (t)), (.sl 0 (x.n)), (.sl 1104 (x.n)), (.sl 1168 (x.n)), (.sl 1200 32001), (.sl 2476 (m + (byK t (x.kd i.toNat) (x.op i.toNat) (x.r1 i.toNat) (x.r2 i.toNat) (lg i.toNat) (x.bs i.toNat).size (ar .sub .i64 (q (x.N i.toNat).toNat) (p i.toNat))).size)), (.int false .i64 (ar .add .i64 i 1))] [(0, .tab (x.n) [.ints .i64 (x.kd), .strs (x.bs), .ints .i64 (x.N), .ints .i64 (x.op), .ints .i64 (x.r1), .ints .i64 (x.r2)] false), (1104, .tab (x.n) [.bools (lg)] true), (1168, .tab (x.n) [.ints .i64 (p)] true), (1200, .tab 32001 [.ints .i64 (q)] true), (1800, .dead), (2028, .cells [(.int false .i64 (x.kd i.toNat)), (.str (x.bs i.toNat)), (.int false .i64 (x.N i.toNat)), (.int false .i64 (x.op i.toNat)), (.int false .i64 (x.r1 i.toNat)), (.int false .i64 (x.r2 i.toNat))]), (2476, .tab (m + (byK t (x.kd i.toNat) (x.op i.toNat) (x.r1 i.toNat) (x.r2 i.toNat) (lg i.toNat) (x.bs i.toNat).size (ar .sub .i64 (q (x.N i.toNat).toNat) (p i.toNat))).size) [.ints .u8 (cat m g (chr (byK t (x.kd i.toNat) (x.op i.toNat) (x.r1 i.toNat) (x.r2 i.toNat) (lg i.toNat) (x.bs i.toNat).size (ar .sub .i64 (q (x.N i.toNat).toNat) (p i.toNat)))))] true)]
                                                else .bad
                                              else .bad
                                            else .bad
                                          else .bad
                                        else .bad
                                      else .bad
                                    else .bad
                                  else .bad
                                else .bad
                              else .bad
                            else .bad
                          else .bad
                        else .bad
                      else .bad
                    else .bad
                  else
                    bif (cm .eql (x.kd i.toNat) 5) then
                      bif (decide (0 ≤ i)) then
                        bif (decide (i < (↑x.n : Int))) then
                          bif (Nat.blt (i.toNat) (x.n)) then
                            bif (Nat.blt (i.toNat) (x.n)) then
                              bif (decide (0 ≤ x.N i.toNat)) then
                                bif (decide (x.N i.toNat < 32001)) then
                                  bif (Nat.blt ((x.N i.toNat).toNat) (32001)) then
                                    bif (Nat.blt ((x.N i.toNat).toNat) (32001)) then
                                      bif (decide (0 ≤ i)) then
                                        bif (decide (i < (↑x.n : Int))) then
                                          bif (Nat.blt (i.toNat) (x.n)) then
                                            bif (Nat.blt (i.toNat) (x.n)) then
                                              bif (clsB (x.kd i.toNat = 3 ∨ x.kd i.toNat = 4 ∨ x.kd i.toNat = 5)) then
                                                bif (Nat.ble (m) (m)) then
                                                  bif (Nat.ble ((m + (byK t (x.kd i.toNat) (x.op i.toNat) (x.r1 i.toNat) (x.r2 i.toNat) (lg i.toNat) (x.bs i.toNat).size (ar .sub .i64 (q (x.N i.toNat).toNat) (p i.toNat))).size) * 1) (1099511627776)) then
                                                    .norm 164 [(.int false .i64 (t)), (.sl 0 (x.n)), (.sl 1104 (x.n)), (.sl 1168 (x.n)), (.sl 1200 32001), (.sl 2508 (m + (byK t (x.kd i.toNat) (x.op i.toNat) (x.r1 i.toNat) (x.r2 i.toNat) (lg i.toNat) (x.bs i.toNat).size (ar .sub .i64 (q (x.N i.toNat).toNat) (p i.toNat))).size)), (.int false .i64 (ar .add .i64 i 1))] [(0, .tab (x.n) [.ints .i64 (x.kd), .strs (x.bs), .ints .i64 (x.N), .ints .i64 (x.op), .ints .i64 (x.r1), .ints .i64 (x.r2)] false), (1104, .tab (x.n) [.bools (lg)] true), (1168, .tab (x.n) [.ints .i64 (p)] true), (1200, .tab 32001 [.ints .i64 (q)] true), (1800, .dead), (2028, .cells [(.int false .i64 (x.kd i.toNat)), (.str (x.bs i.toNat)), (.int false .i64 (x.N i.toNat)), (.int false .i64 (x.op i.toNat)), (.int false .i64 (x.r1 i.toNat)), (.int false .i64 (x.r2 i.toNat))]), (2508, .tab (m + (byK t (x.kd i.toNat) (x.op i.toNat) (x.r1 i.toNat) (x.r2 i.toNat) (lg i.toNat) (x.bs i.toNat).size (ar .sub .i64 (q (x.N i.toNat).toNat) (p i.toNat))).size) [.ints .u8 (cat m g (chr (byK t (x.kd i.toNat) (x.op i.toNat) (x.r1 i.toNat) (x.r2 i.toNat) (lg i.toNat) (x.bs i.toNat).size (ar .sub .i64 (q (x.N i.toNat).toNat) (p i.toNat)))))] true)]
                                                  else .bad
                                                else .bad
                                              else .bad
                                            else .bad
                                          else .bad
                                        else .bad
                                      else .bad
                                    else .bad
                                  else .bad
                                else .bad
                              else .bad
                            else .bad
                          else .bad
                        else .bad
                      else .bad
                    else
                      .norm 164 [(.int false .i64 (t)), (.sl 0 (x.n)), (.sl 1104 (x.n)), (.sl 1168 (x.n)), (.sl 1200 32001), (.sl 1800 (m)), (.int false .i64 (ar .add .i64 i 1))] [(0, .tab (x.n) [.ints .i64 (x.kd), .strs (x.bs), .ints .i64 (x.N), .ints .i64 (x.op), .ints .i64 (x.r1), .ints .i64 (x.r2)] false), (1104, .tab (x.n) [.bools (lg)] true), (1168, .tab (x.n) [.ints .i64 (p)] true), (1200, .tab 32001 [.ints .i64 (q)] true), (1800, .tab (m) [.ints .u8 (g)] true), (2028, .cells [(.int false .i64 (x.kd i.toNat)), (.str (x.bs i.toNat)), (.int false .i64 (x.N i.toNat)), (.int false .i64 (x.op i.toNat)), (.int false .i64 (x.r1 i.toNat)), (.int false .i64 (x.r2 i.toNat))])]
            else .bad
          else .bad
        else .bad
      else .bad
    else
      .exit 6 164 [(.int false .i64 (t)), (.sl 0 (x.n)), (.sl 1104 (x.n)), (.sl 1168 (x.n)), (.sl 1200 32001), (.sl 1800 (m)), (.int false .i64 (i))] [(0, .tab (x.n) [.ints .i64 (x.kd), .strs (x.bs), .ints .i64 (x.N), .ints .i64 (x.op), .ints .i64 (x.r1), .ints .i64 (x.r2)] false), (1104, .tab (x.n) [.bools (lg)] true), (1168, .tab (x.n) [.ints .i64 (p)] true), (1200, .tab 32001 [.ints .i64 (q)] true), (1800, .tab (m) [.ints .u8 (g)] true)]) := by kernel_rfl

end Go.La
end

section
set_option linter.unusedVariables false
open Go Go.Ev Go.Proofs
namespace Go.La

def lbrB (n : Int) : Bool := decide (0 ≤ n) && decide (n ≤ 32000)
/-- may an item be, with the page's labels -/
def itB (t : Int) (x : It) (a : Nat → Bool) (i : Nat) : Bool :=
  oneB t (x.kd i) (x.bs i) (x.N i) (x.op i) (x.r1 i) (x.r2 i) && (bif decide (x.kd i = 2) then lbrB (x.N i) else bif decide (x.kd i = 3) || (decide (x.kd i = 4) || decide (x.kd i = 5)) then lbrB (x.N i) && a (x.N i).toNat else true)
noncomputable def itC (t : Int) (x : It) (a : Nat → Bool) : Bool := clsB (∀ i, i < x.n → itB t x a i = true)
noncomputable def tgB (t : Int) : Bool := clsB (t = 1 ∨ t = 2)
noncomputable def get10b : List SV → Heap → Option Tr
  | [.int _ .i64 t, .sl ka na, .sl kb nb, .int _ .i64 i], [(j0, .tab n1 [.ints .i64 kd, .strs bs, .ints .i64 N, .ints .i64 op, .ints .i64 r1, .ints .i64 r2] _), (j1, .tab n2 [.bools a] true)] =>
    some (Tr.needs [Nat.beq ka 0, Nat.beq na n1, Nat.beq kb 1168, clsB (nb = 32001), decide (i = 0), Nat.beq j0 0, Nat.beq j1 1168, clsB (n2 = 32001), smB n1, tgB t]
      (.node (itC t ⟨n1, kd, bs, N, op, r1, r2⟩ a) (exitT lk10b 2 [.any, .any, .any, .any] (hA ⟨n1, kd, bs, N, op, r1, r2⟩ a)) (.ret (.bool true false) [])))
  | _, _ => none
noncomputable def lq10b : Lp := { lk10b with get := get10b }
noncomputable def E10 : Env := ⟨EP.call, loopEnv [(0, lq10a), (1, lq10b)]⟩
--LEAVES

theorem t10 (x : It) (t : Int) : (evalF E10 Try.prog 10 [SV.int false IntKind.i64 t, SV.sl 0 x.n] (hI x) 1024).bare =
    (bif (bif !bif cm BinOp.eql t 1 then true else cm BinOp.eql t 2 then true else cm BinOp.gtr (↑x.n : Int) 32000) then
      .ret (.bool true false) []
    else
      bif (Nat.beq (x.n) (x.n)) then
        bif (clsB (32001 = 32001)) then
          bif (clsB (32001 = 32001)) then
            bif (smB x.n) then
              bif (fB fun x => false) then
                bif (unC { n := x.n, kd := x.kd, bs := x.bs, N := x.N, op := x.op, r1 := x.r1, r2 := x.r2 }) then
                  bif (Nat.beq (x.n) (x.n)) then
                    bif (clsB (32001 = 32001)) then
                      bif (clsB (32001 = 32001)) then
                        bif (smB x.n) then
                          bif (tgB t) then
                            bif (itC t { n := x.n, kd := x.kd, bs := x.bs, N := x.N, op := x.op, r1 := x.r1, r2 := x.r2 } (atK { n := x.n, kd := x.kd, bs := x.bs, N := x.N, op := x.op, r1 := x.r1, r2 := x.r2 } x.n)) then
                              .ret (.bool true true) []
                            else
                              .ret (.bool true false) []
                          else .bad
                        else .bad
                      else .bad
                    else .bad
                  else .bad
                else
                  .ret (.bool true false) []
              else .bad
            else .bad
          else .bad
        else .bad
      else .bad) := by kernel_rfl

end Go.La
end
