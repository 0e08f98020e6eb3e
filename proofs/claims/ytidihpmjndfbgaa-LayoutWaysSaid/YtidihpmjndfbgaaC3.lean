/-
  rv: what its functions give.
-/
import Derived.Test.YtidihpmjndfbgaaB2
import Derived.Test.YtidihpmjndfbgaaProg
import Derived.KernelRfl
set_option linter.unusedSimpArgs false
set_option linter.unusedVariables false
section
set_option linter.unusedVariables false
open Go Go.Ev Go.Proofs
namespace Go.Rv

def kinds : List Int := [6, 6, 7, 1, 5, 5, 5, 5, 5, 5, 1, 1, 1, 1, 1, 1, 1, 4, 4, 4, 4, 1, 1, 1, 1, 1, 1, 2, 2, 2, 1, 3, 3, 3, 0, 0, 0, 0, 0, 0, 0, 0, 0, 0, 0, 0, 0, 0, 0, 0, 0, 0, 0, 0, 0, 0, 0, 0, 0, 0, 0, 0, 8]
def lows : List Int := [55, 23, 111, 103, 99, 99, 99, 99, 99, 99, 3, 3, 3, 3, 3, 3, 3, 35, 35, 35, 35, 19, 19, 19, 19, 19, 19, 19, 19, 19, 27, 27, 27, 27, 51, 51, 51, 51, 51, 51, 51, 51, 51, 51, 51, 51, 51, 51, 51, 51, 51, 51, 59, 59, 59, 59, 59, 59, 59, 59, 59, 59, 115]
def mids : List Int := [0, 0, 0, 0, 0, 1, 4, 5, 6, 7, 0, 1, 2, 3, 4, 5, 6, 0, 1, 2, 3, 0, 2, 3, 4, 6, 7, 1, 5, 5, 0, 1, 5, 5, 0, 0, 1, 2, 3, 4, 5, 5, 6, 7, 0, 1, 2, 3, 4, 5, 6, 7, 0, 0, 1, 5, 5, 0, 4, 5, 6, 7, 0]
def fs : List Int := [0, 0, 0, 0, 0, 0, 0, 0, 0, 0, 0, 0, 0, 0, 0, 0, 0, 0, 0, 0, 0, 0, 0, 0, 0, 0, 0, 0, 0, 32, 0, 0, 0, 32, 0, 32, 0, 0, 0, 0, 0, 32, 0, 0, 1, 1, 1, 1, 1, 1, 1, 1, 0, 32, 0, 0, 32, 1, 1, 1, 1, 1, 0]
/-- the page's letter of a kind: 'R', 'I', 'h', 'w', 'S', 'B', 'U', 'J', 'E' -/
def letters : List Int := [82, 73, 104, 119, 83, 66, 85, 74, 69]
def letter (i : Nat) : Int := nth letters 0 (nth kinds 0 i).toNat

def cols : List Col := [.ints .i64 (nth kinds 0), .ints .u32 (nth lows 0), .ints .u32 (nth mids 0), .ints .u32 (nth fs 0)]

/-- rv.forms -/
def g12 : List SV → Heap → Option R := fun a H => match a, H with
  | [], [] => some ⟨[], .sl 1024 63, [(1024, .tab 63 cols true)]⟩
  | _, _ => none
def s12 : Ev.Spec := specOf g12

def fmt (op : Int) : List SV := [.int false .u8 (letter (op - 1).toNat), .int false .u32 (nth lows 0 (op - 1).toNat), .int false .u32 (nth mids 0 (op - 1).toNat), .int false .u32 (nth fs 0 (op - 1).toNat)]

/-- gantletref18.Format -/
def s18 : Ev.Spec := fun args H nm => match args with
  | [.int _ .i64 op] => some ⟨[decide (1 ≤ op), decide (op ≤ 63)], .tup (fmt op), []⟩
  | _ => none

def plains : List Nat := [17, 18, 42, 57, 58, 43, 67, 68, 69, 70, 81, 80]
noncomputable def E0 : Env := envOf [] noLoop
noncomputable def E1 : Env := inl Try.prog (envOf [(66, s12), (41, s18)] noLoop) plains 3

end Go.Rv
end

section
set_option linter.unusedVariables false
set_option maxRecDepth 100000
open Go Go.Ev Go.Proofs
namespace Go.Rv

theorem mixed : Try.prog.follows .mixedOrders = true := by kernel_rfl
theorem e0_calls : CallsOk E0 Try.prog := SpecsOk.nil.calls noLoop

theorem t12 : ((evalF E0 Try.prog 66 [] [] 1024).leaf) = .ret (.sl 2048 63) [(2048, .tab 63 cols true)] := by kernel_rfl

theorem fn12 : Try.prog.funcs[66]? = some Try.f66 := by kernel_rfl
theorem e0_loop : E0.loop = noLoop := rfl
theorem b12 : Try.f66.body.isSome = true := by kernel_rfl
theorem b18 : Try.f41.body.isSome = true := by kernel_rfl
theorem n12 : (Try.f66.name == "runtime.NumGoroutine") = false := by kernel_rfl
theorem n18 : (Try.f41.name == "runtime.NumGoroutine") = false := by kernel_rfl
theorem fn18 : Try.prog.funcs[41]? = some Try.f41 := by kernel_rfl

theorem c12 : ∃ c, Try.f66.body = some c := Option.isSome_iff_exists.1 b12
theorem ok12 : SpecOk Try.prog 66 s12 := by
  obtain ⟨c, hc⟩ := c12
  refine spec_ok e0_calls mixed fn12 hc n12 (loops_noLoop e0_loop c 0) g12 fun a0 H0 r h hn => ?_
  unfold g12 at h
  split at h
  · simp only [Option.some.injEq] at h
    subst h
    rw [show roH (namesH [(1024, Blk.tab 63 cols true)]) [] = [] from rfl, show base = 1024 from rfl, t12]
    exact ⟨[(1024, .old 2048)], rfl, ⟨rfl, rfl⟩, ⟨⟨Nat.le_refl _, fun h => h, ⟨rfl, fun _ _ => rfl⟩, ⟨rfl, fun _ _ => rfl⟩, ⟨rfl, fun _ _ => rfl⟩, ⟨rfl, fun _ _ => rfl⟩, trivial⟩, trivial⟩, rfl⟩
  · cases h

/-! a closed leaf's value -/
def eqSV : SV → SV → Bool
  | .int _ k n, .int _ k' n' => decide (k = k') && decide (n = n')
  | .bool _ b, .bool _ b' => b == b'
  | _, _ => false
def eqSVs : List SV → List SV → Bool
  | [], [] => true
  | x :: l, y :: l' => eqSV x y && eqSVs l l'
  | _, _ => false
def givesT : Lf → List SV → Bool
  | .ret (.tup l) _, l' => eqSVs l l'
  | _, _ => false

theorem eqSV_den {x y : SV} (h : eqSV x y = true) (σ σ' : Sg) : den σ x = den σ' y := by
  cases x <;> cases y <;> simp [eqSV] at h <;> simp [den, h]
theorem eqSVs_den : ∀ {l l' : List SV}, eqSVs l l' = true → ∀ σ σ', denL σ l = denL σ' l'
  | [], [], _, _, _ => rfl
  | x :: l, y :: l', h, σ, σ' => by
    simp only [eqSVs, Bool.and_eq_true] at h
    simp only [denL, eqSV_den h.1 σ σ', eqSVs_den h.2 σ σ']
  | [], _ :: _, h, _, _ => by cases h
  | _ :: _, [], h, _, _ => by cases h
theorem givesT_gives {l : Lf} {m : List SV} (h : givesT l m = true) : l.gives (.tup m) := by
  unfold givesT at h
  split at h
  · exact fun σ σ' => by simp only [den, eqSVs_den h σ' σ]
  · cases h


def x18 (op : Int) : Lf :=
    (bif (cm BinOp.eql op 1) then
      .ret (.tup [(.int true IntKind.u8 85), (.int true IntKind.u32 55), (.int true IntKind.u32 0), (.int true IntKind.u32 0)]) []
    else
      bif (cm BinOp.eql op 2) then
        .ret (.tup [(.int true IntKind.u8 85), (.int true IntKind.u32 23), (.int true IntKind.u32 0), (.int true IntKind.u32 0)]) []
      else
        bif (cm BinOp.eql op 3) then
          .ret (.tup [(.int true IntKind.u8 74), (.int true IntKind.u32 111), (.int true IntKind.u32 0), (.int true IntKind.u32 0)]) []
        else
          bif (cm BinOp.eql op 4) then
            .ret (.tup [(.int true IntKind.u8 73), (.int true IntKind.u32 103), (.int true IntKind.u32 0), (.int true IntKind.u32 0)]) []
          else
            bif (bif cm BinOp.geq op 5 then cm BinOp.leq op 10 else false) then
              bif (decide (0 ≤ ar BinOp.sub IntKind.i64 op 5)) then
                bif (decide (ar BinOp.sub IntKind.i64 op 5 < ↑6)) then
                  bif ((ar BinOp.sub IntKind.i64 op 5).toNat.blt 6) then
                    bif ((ar BinOp.sub IntKind.i64 op 5).toNat.blt 6) then
                      .ret (.tup [(.int true IntKind.u8 66), (.int true IntKind.u32 99), (.int false IntKind.u32 (nth [0, 1, 4, 5, 6, 7] 0 (ar BinOp.sub IntKind.i64 op 5).toNat)), (.int true IntKind.u32 0)]) []
                    else .bad
                  else .bad
                else .bad
              else .bad
            else
              bif (bif cm BinOp.geq op 11 then cm BinOp.leq op 17 else false) then
                .ret (.tup [(.int true IntKind.u8 73), (.int true IntKind.u32 3), (.int false IntKind.u32 (conv IntKind.u32 (ar BinOp.sub IntKind.i64 op 11))), (.int true IntKind.u32 0)]) []
              else
                bif (bif cm BinOp.geq op 18 then cm BinOp.leq op 21 else false) then
                  .ret (.tup [(.int true IntKind.u8 83), (.int true IntKind.u32 35), (.int false IntKind.u32 (conv IntKind.u32 (ar BinOp.sub IntKind.i64 op 18))), (.int true IntKind.u32 0)]) []
                else
                  bif (bif cm BinOp.geq op 22 then cm BinOp.leq op 27 else false) then
                    bif (decide (0 ≤ ar BinOp.sub IntKind.i64 op 22)) then
                      bif (decide (ar BinOp.sub IntKind.i64 op 22 < ↑6)) then
                        bif ((ar BinOp.sub IntKind.i64 op 22).toNat.blt 6) then
                          bif ((ar BinOp.sub IntKind.i64 op 22).toNat.blt 6) then
                            .ret (.tup [(.int true IntKind.u8 73), (.int true IntKind.u32 19), (.int false IntKind.u32 (nth [0, 2, 3, 4, 6, 7] 0 (ar BinOp.sub IntKind.i64 op 22).toNat)), (.int true IntKind.u32 0)]) []
                          else .bad
                        else .bad
                      else .bad
                    else .bad
                  else
                    bif (bif cm BinOp.geq op 28 then cm BinOp.leq op 30 else false) then
                      bif (decide (0 ≤ ar BinOp.sub IntKind.i64 op 28)) then
                        bif (decide (ar BinOp.sub IntKind.i64 op 28 < ↑3)) then
                          bif ((ar BinOp.sub IntKind.i64 op 28).toNat.blt 3) then
                            bif ((ar BinOp.sub IntKind.i64 op 28).toNat.blt 3) then
                              bif (decide (0 ≤ ar BinOp.sub IntKind.i64 op 28)) then
                                bif (decide (ar BinOp.sub IntKind.i64 op 28 < ↑3)) then
                                  bif ((ar BinOp.sub IntKind.i64 op 28).toNat.blt 3) then
                                    bif ((ar BinOp.sub IntKind.i64 op 28).toNat.blt 3) then
                                      .ret (.tup [(.int true IntKind.u8 104), (.int true IntKind.u32 19), (.int false IntKind.u32 (nth [1, 5, 5] 0 (ar BinOp.sub IntKind.i64 op 28).toNat)), (.int false IntKind.u32 (nth [0, 0, 32] 0 (ar BinOp.sub IntKind.i64 op 28).toNat))]) []
                                    else .bad
                                  else .bad
                                else .bad
                              else .bad
                            else .bad
                          else .bad
                        else .bad
                      else .bad
                    else
                      bif (cm BinOp.eql op 31) then
                        .ret (.tup [(.int true IntKind.u8 73), (.int true IntKind.u32 27), (.int true IntKind.u32 0), (.int true IntKind.u32 0)]) []
                      else
                        bif (bif cm BinOp.geq op 32 then cm BinOp.leq op 34 else false) then
                          bif (decide (0 ≤ ar BinOp.sub IntKind.i64 op 32)) then
                            bif (decide (ar BinOp.sub IntKind.i64 op 32 < ↑3)) then
                              bif ((ar BinOp.sub IntKind.i64 op 32).toNat.blt 3) then
                                bif ((ar BinOp.sub IntKind.i64 op 32).toNat.blt 3) then
                                  bif (decide (0 ≤ ar BinOp.sub IntKind.i64 op 32)) then
                                    bif (decide (ar BinOp.sub IntKind.i64 op 32 < ↑3)) then
                                      bif ((ar BinOp.sub IntKind.i64 op 32).toNat.blt 3) then
                                        bif ((ar BinOp.sub IntKind.i64 op 32).toNat.blt 3) then
                                          .ret (.tup [(.int true IntKind.u8 119), (.int true IntKind.u32 27), (.int false IntKind.u32 (nth [1, 5, 5] 0 (ar BinOp.sub IntKind.i64 op 32).toNat)), (.int false IntKind.u32 (nth [0, 0, 32] 0 (ar BinOp.sub IntKind.i64 op 32).toNat))]) []
                                        else .bad
                                      else .bad
                                    else .bad
                                  else .bad
                                else .bad
                              else .bad
                            else .bad
                          else .bad
                        else
                          bif (bif cm BinOp.geq op 35 then cm BinOp.leq op 44 else false) then
                            bif (decide (0 ≤ ar BinOp.sub IntKind.i64 op 35)) then
                              bif (decide (ar BinOp.sub IntKind.i64 op 35 < ↑10)) then
                                bif ((ar BinOp.sub IntKind.i64 op 35).toNat.blt 10) then
                                  bif ((ar BinOp.sub IntKind.i64 op 35).toNat.blt 10) then
                                    bif (decide (0 ≤ ar BinOp.sub IntKind.i64 op 35)) then
                                      bif (decide (ar BinOp.sub IntKind.i64 op 35 < ↑10)) then
                                        bif ((ar BinOp.sub IntKind.i64 op 35).toNat.blt 10) then
                                          bif ((ar BinOp.sub IntKind.i64 op 35).toNat.blt 10) then
                                            .ret (.tup [(.int true IntKind.u8 82), (.int true IntKind.u32 51), (.int false IntKind.u32 (nth [0, 0, 1, 2, 3, 4, 5, 5, 6, 7] 0 (ar BinOp.sub IntKind.i64 op 35).toNat)), (.int false IntKind.u32 (nth [0, 32, 0, 0, 0, 0, 0, 32, 0, 0] 0 (ar BinOp.sub IntKind.i64 op 35).toNat))]) []
                                          else .bad
                                        else .bad
                                      else .bad
                                    else .bad
                                  else .bad
                                else .bad
                              else .bad
                            else .bad
                          else
                            bif (bif cm BinOp.geq op 45 then cm BinOp.leq op 52 else false) then
                              .ret (.tup [(.int true IntKind.u8 82), (.int true IntKind.u32 51), (.int false IntKind.u32 (conv IntKind.u32 (ar BinOp.sub IntKind.i64 op 45))), (.int true IntKind.u32 1)]) []
                            else
                              bif (bif cm BinOp.geq op 53 then cm BinOp.leq op 57 else false) then
                                bif (decide (0 ≤ ar BinOp.sub IntKind.i64 op 53)) then
                                  bif (decide (ar BinOp.sub IntKind.i64 op 53 < ↑5)) then
                                    bif ((ar BinOp.sub IntKind.i64 op 53).toNat.blt 5) then
                                      bif ((ar BinOp.sub IntKind.i64 op 53).toNat.blt 5) then
                                        bif (decide (0 ≤ ar BinOp.sub IntKind.i64 op 53)) then
                                          bif (decide (ar BinOp.sub IntKind.i64 op 53 < ↑5)) then
                                            bif ((ar BinOp.sub IntKind.i64 op 53).toNat.blt 5) then
                                              bif ((ar BinOp.sub IntKind.i64 op 53).toNat.blt 5) then
                                                .ret (.tup [(.int true IntKind.u8 82), (.int true IntKind.u32 59), (.int false IntKind.u32 (nth [0, 0, 1, 5, 5] 0 (ar BinOp.sub IntKind.i64 op 53).toNat)), (.int false IntKind.u32 (nth [0, 32, 0, 0, 32] 0 (ar BinOp.sub IntKind.i64 op 53).toNat))]) []
                                              else .bad
                                            else .bad
                                          else .bad
                                        else .bad
                                      else .bad
                                    else .bad
                                  else .bad
                                else .bad
                              else
                                bif (bif cm BinOp.geq op 58 then cm BinOp.leq op 62 else false) then
                                  bif (decide (0 ≤ ar BinOp.sub IntKind.i64 op 58)) then
                                    bif (decide (ar BinOp.sub IntKind.i64 op 58 < ↑5)) then
                                      bif ((ar BinOp.sub IntKind.i64 op 58).toNat.blt 5) then
                                        bif ((ar BinOp.sub IntKind.i64 op 58).toNat.blt 5) then
                                          .ret (.tup [(.int true IntKind.u8 82), (.int true IntKind.u32 59), (.int false IntKind.u32 (nth [0, 4, 5, 6, 7] 0 (ar BinOp.sub IntKind.i64 op 58).toNat)), (.int true IntKind.u32 1)]) []
                                        else .bad
                                      else .bad
                                    else .bad
                                  else .bad
                                else
                                  .ret (.tup [(.int true IntKind.u8 69), (.int true IntKind.u32 115), (.int true IntKind.u32 0), (.int true IntKind.u32 0)]) [])

theorem t18 (op : Int) : (evalF E0 Try.prog 41 [SV.int false IntKind.i64 op] [] 0).bare = x18 op := by kernel_rfl

theorem c18 : ((List.range 63).all fun i => givesT (x18 (Int.ofNat (i + 1))) (fmt (Int.ofNat (i + 1)))) = true := by kernel_rfl

theorem c18' (i : Nat) (hi : i < 63) : givesT (x18 (Int.ofNat (i + 1))) (fmt (Int.ofNat (i + 1))) = true := List.all_eq_true.1 c18 i (List.mem_range.2 hi)

attribute [local irreducible] evalF Lf.gives in
theorem ok18 : SpecOk Try.prog 41 s18 := by
  refine ⟨⟨Try.f41, fn18, b18, n18⟩, fun args H nm r h hn => ?_⟩
  unfold s18 at h
  split at h
  · rename_i l op
    simp only [Option.some.injEq] at h
    subst h
    simp only [allB, Bool.and_true, Bool.and_eq_true, decide_eq_true_eq] at hn
    obtain ⟨i, hi⟩ : ∃ i : Nat, op = Int.ofNat (i + 1) := ⟨(op - 1).toNat, by simp only [Int.ofNat_eq_natCast]; omega⟩
    subst hi
    have h1 : ∀ σ σ', denL σ [SV.int l .i64 (Int.ofNat (i + 1))] = denL σ' [SV.int false .i64 (Int.ofNat (i + 1))] := fun σ σ' => by simp only [denL, den]
    have h2 : SV.alL (lt 0) [SV.int false .i64 (Int.ofNat (i + 1))] = true := by simp only [SV.alL, SV.al, Bool.and_self]
    have h3 : (evalF E0 Try.prog 41 [SV.int false .i64 (Int.ofNat (i + 1))] [] 0).leaf.gives (.tup (fmt (Int.ofNat (i + 1)))) := gives_tree (t18 _) (givesT_gives (c18' i (by have := hn.2; simp only [Int.ofNat_eq_natCast] at this; omega)))
    refine pure_ok0 (args0 := [SV.int false .i64 (Int.ofNat (i + 1))]) e0_calls mixed e0_loop fn18 b18 ?_ h1 h2 ?_
    · rfl
    · dsimp only
      exact h3
  · cases h

theorem named1 : named Try.prog plains = true := by kernel_rfl
theorem e1_calls : CallsOk E1 Try.prog := (inl_calls ((SpecsOk.cons ok12 (SpecsOk.cons ok18 SpecsOk.nil)).calls noLoop) mixed named1 3).1
theorem e1_loop : E1.loop = noLoop := rfl

end Go.Rv
end

section
set_option linter.unusedVariables false
open Go Go.Ev Go.Proofs
namespace Go.Rv

theorem t6 (op : Int) (rd : Int) (r1 : Int) (r2 : Int) (n : Int) : (evalF E1 Try.prog 60 [SV.agg [SV.int false IntKind.i64 op, SV.int false IntKind.i64 rd, SV.int false IntKind.i64 r1, SV.int false IntKind.i64 r2, SV.int false IntKind.i64 n]] [] 0).bare =
    (bif (bif cm BinOp.lss op 1 then true else cm BinOp.gtr op 63) then
      .ret (.tup [(.int true IntKind.u32 0), (.int true IntKind.i64 1)]) []
    else
      bif (decide (0 ≤ ar BinOp.sub IntKind.i64 op 1)) then
        bif (decide (ar BinOp.sub IntKind.i64 op 1 < ↑63)) then
          bif ((ar BinOp.sub IntKind.i64 op 1).toNat.blt 63) then
            bif ((ar BinOp.sub IntKind.i64 op 1).toNat.blt 63) then
              bif (bif !bif cm BinOp.geq rd 0 then bif cm BinOp.lss rd 32 then bif bif cm BinOp.eql (nth kinds 0 (ar BinOp.sub IntKind.i64 op 1).toNat) 0 then true else bif cm BinOp.eql (nth kinds 0 (ar BinOp.sub IntKind.i64 op 1).toNat) 1 then true else bif cm BinOp.eql (nth kinds 0 (ar BinOp.sub IntKind.i64 op 1).toNat) 2 then true else bif cm BinOp.eql (nth kinds 0 (ar BinOp.sub IntKind.i64 op 1).toNat) 3 then true else bif cm BinOp.eql (nth kinds 0 (ar BinOp.sub IntKind.i64 op 1).toNat) 4 then false else bif cm BinOp.eql (nth kinds 0 (ar BinOp.sub IntKind.i64 op 1).toNat) 5 then false else bif cm BinOp.eql (nth kinds 0 (ar BinOp.sub IntKind.i64 op 1).toNat) 6 then true else bif cm BinOp.eql (nth kinds 0 (ar BinOp.sub IntKind.i64 op 1).toNat) 7 then true else false then true else cm BinOp.eql rd 0 else false else false then true else bif !bif cm BinOp.geq r1 0 then bif cm BinOp.lss r1 32 then bif bif cm BinOp.eql (nth kinds 0 (ar BinOp.sub IntKind.i64 op 1).toNat) 0 then true else bif cm BinOp.eql (nth kinds 0 (ar BinOp.sub IntKind.i64 op 1).toNat) 1 then true else bif cm BinOp.eql (nth kinds 0 (ar BinOp.sub IntKind.i64 op 1).toNat) 2 then true else bif cm BinOp.eql (nth kinds 0 (ar BinOp.sub IntKind.i64 op 1).toNat) 3 then true else bif cm BinOp.eql (nth kinds 0 (ar BinOp.sub IntKind.i64 op 1).toNat) 4 then true else bif cm BinOp.eql (nth kinds 0 (ar BinOp.sub IntKind.i64 op 1).toNat) 5 then true else bif cm BinOp.eql (nth kinds 0 (ar BinOp.sub IntKind.i64 op 1).toNat) 6 then false else bif cm BinOp.eql (nth kinds 0 (ar BinOp.sub IntKind.i64 op 1).toNat) 7 then false else false then true else cm BinOp.eql r1 0 else false else false then true else !bif cm BinOp.geq r2 0 then bif cm BinOp.lss r2 32 then bif bif cm BinOp.eql (nth kinds 0 (ar BinOp.sub IntKind.i64 op 1).toNat) 0 then true else bif cm BinOp.eql (nth kinds 0 (ar BinOp.sub IntKind.i64 op 1).toNat) 1 then false else bif cm BinOp.eql (nth kinds 0 (ar BinOp.sub IntKind.i64 op 1).toNat) 2 then false else bif cm BinOp.eql (nth kinds 0 (ar BinOp.sub IntKind.i64 op 1).toNat) 3 then false else bif cm BinOp.eql (nth kinds 0 (ar BinOp.sub IntKind.i64 op 1).toNat) 4 then true else bif cm BinOp.eql (nth kinds 0 (ar BinOp.sub IntKind.i64 op 1).toNat) 5 then true else bif cm BinOp.eql (nth kinds 0 (ar BinOp.sub IntKind.i64 op 1).toNat) 6 then false else bif cm BinOp.eql (nth kinds 0 (ar BinOp.sub IntKind.i64 op 1).toNat) 7 then false else false then true else cm BinOp.eql r2 0 else false else false) then
                .ret (.tup [(.int true IntKind.u32 0), (.int true IntKind.i64 1)]) []
              else
                bif (!bif cm BinOp.eql (nth kinds 0 (ar BinOp.sub IntKind.i64 op 1).toNat) 1 then bif cm BinOp.geq n (-2048) then cm BinOp.lss n 2048 else false else bif cm BinOp.eql (nth kinds 0 (ar BinOp.sub IntKind.i64 op 1).toNat) 4 then bif cm BinOp.geq n (-2048) then cm BinOp.lss n 2048 else false else bif cm BinOp.eql (nth kinds 0 (ar BinOp.sub IntKind.i64 op 1).toNat) 2 then bif cm BinOp.geq n 0 then cm BinOp.lss n 64 else false else bif cm BinOp.eql (nth kinds 0 (ar BinOp.sub IntKind.i64 op 1).toNat) 3 then bif cm BinOp.geq n 0 then cm BinOp.lss n 32 else false else bif cm BinOp.eql (nth kinds 0 (ar BinOp.sub IntKind.i64 op 1).toNat) 5 then bif bif cm BinOp.geq n (-4096) then cm BinOp.lss n 4096 else false then cm BinOp.eql (ar BinOp.and IntKind.i64 n 1) 0 else false else bif cm BinOp.eql (nth kinds 0 (ar BinOp.sub IntKind.i64 op 1).toNat) 6 then bif cm BinOp.geq n 0 then cm BinOp.lss n 1048576 else false else bif cm BinOp.eql (nth kinds 0 (ar BinOp.sub IntKind.i64 op 1).toNat) 7 then bif bif cm BinOp.geq n (-1048576) then cm BinOp.lss n 1048576 else false then cm BinOp.eql (ar BinOp.and IntKind.i64 n 1) 0 else false else cm BinOp.eql n 0) then
                  .ret (.tup [(.int true IntKind.u32 0), (.int true IntKind.i64 10)]) []
                else
                  bif (bif cm BinOp.eql (nth kinds 0 (ar BinOp.sub IntKind.i64 op 1).toNat) 1 then allB [decide (0 ≤ 20)] else allB (mergeB (cm BinOp.eql (nth kinds 0 (ar BinOp.sub IntKind.i64 op 1).toNat) 2) [decide (0 ≤ 20)] (mergeB (cm BinOp.eql (nth kinds 0 (ar BinOp.sub IntKind.i64 op 1).toNat) 3) [decide (0 ≤ 20)] (mergeB (cm BinOp.eql (nth kinds 0 (ar BinOp.sub IntKind.i64 op 1).toNat) 4) [decide (0 ≤ 0), decide (0 ≤ 5), decide (0 ≤ 7), decide (0 ≤ 5), decide (0 ≤ 7), decide (0 ≤ 25)] (mergeB (cm BinOp.eql (nth kinds 0 (ar BinOp.sub IntKind.i64 op 1).toNat) 5) [decide (0 ≤ 11), decide (0 ≤ 1), decide (0 ≤ 7), decide (0 ≤ 1), decide (0 ≤ 4), decide (0 ≤ 8), decide (0 ≤ 5), decide (0 ≤ 6), decide (0 ≤ 25), decide (0 ≤ 12), decide (0 ≤ 1), decide (0 ≤ 31)] (mergeB (cm BinOp.eql (nth kinds 0 (ar BinOp.sub IntKind.i64 op 1).toNat) 6) [decide (0 ≤ 12)] (mergeB (cm BinOp.eql (nth kinds 0 (ar BinOp.sub IntKind.i64 op 1).toNat) 7) [decide (0 ≤ 12), decide (0 ≤ 8), decide (0 ≤ 12), decide (0 ≤ 11), decide (0 ≤ 1), decide (0 ≤ 20), decide (0 ≤ 1), decide (0 ≤ 10), decide (0 ≤ 21), decide (0 ≤ 20), decide (0 ≤ 1), decide (0 ≤ 31)] []))))))) then
                    .ret (.tup [(.int false IntKind.u32 (ar BinOp.or IntKind.u32 (ar BinOp.or IntKind.u32 (ar BinOp.or IntKind.u32 (ar BinOp.or IntKind.u32 (ar BinOp.or IntKind.u32 (ar BinOp.or IntKind.u32 (nth lows 0 (ar BinOp.sub IntKind.i64 op 1).toNat) (ar BinOp.shl IntKind.u32 (conv IntKind.u32 rd) 7)) (ar BinOp.shl IntKind.u32 (nth mids 0 (ar BinOp.sub IntKind.i64 op 1).toNat) 12)) (ar BinOp.shl IntKind.u32 (conv IntKind.u32 r1) 15)) (ar BinOp.shl IntKind.u32 (conv IntKind.u32 r2) 20)) (ar BinOp.shl IntKind.u32 (nth fs 0 (ar BinOp.sub IntKind.i64 op 1).toNat) 25)) (bif cm BinOp.eql (nth kinds 0 (ar BinOp.sub IntKind.i64 op 1).toNat) 1 then ar BinOp.shl IntKind.u32 (conv IntKind.u32 n) 20 else bif cm BinOp.eql (nth kinds 0 (ar BinOp.sub IntKind.i64 op 1).toNat) 2 then ar BinOp.shl IntKind.u32 (conv IntKind.u32 n) 20 else bif cm BinOp.eql (nth kinds 0 (ar BinOp.sub IntKind.i64 op 1).toNat) 3 then ar BinOp.shl IntKind.u32 (conv IntKind.u32 n) 20 else bif cm BinOp.eql (nth kinds 0 (ar BinOp.sub IntKind.i64 op 1).toNat) 4 then ar BinOp.or IntKind.u32 (ar BinOp.shl IntKind.u32 (ar BinOp.and IntKind.u32 (ar BinOp.shr IntKind.u32 (conv IntKind.u32 n) 0) (ar BinOp.sub IntKind.u32 (ar BinOp.shl IntKind.u32 1 5) 1)) 7) (ar BinOp.shl IntKind.u32 (ar BinOp.and IntKind.u32 (ar BinOp.shr IntKind.u32 (conv IntKind.u32 n) 5) (ar BinOp.sub IntKind.u32 (ar BinOp.shl IntKind.u32 1 7) 1)) 25) else bif cm BinOp.eql (nth kinds 0 (ar BinOp.sub IntKind.i64 op 1).toNat) 5 then ar BinOp.or IntKind.u32 (ar BinOp.or IntKind.u32 (ar BinOp.or IntKind.u32 (ar BinOp.shl IntKind.u32 (ar BinOp.and IntKind.u32 (ar BinOp.shr IntKind.u32 (conv IntKind.u32 n) 11) (ar BinOp.sub IntKind.u32 (ar BinOp.shl IntKind.u32 1 1) 1)) 7) (ar BinOp.shl IntKind.u32 (ar BinOp.and IntKind.u32 (ar BinOp.shr IntKind.u32 (conv IntKind.u32 n) 1) (ar BinOp.sub IntKind.u32 (ar BinOp.shl IntKind.u32 1 4) 1)) 8)) (ar BinOp.shl IntKind.u32 (ar BinOp.and IntKind.u32 (ar BinOp.shr IntKind.u32 (conv IntKind.u32 n) 5) (ar BinOp.sub IntKind.u32 (ar BinOp.shl IntKind.u32 1 6) 1)) 25)) (ar BinOp.shl IntKind.u32 (ar BinOp.and IntKind.u32 (ar BinOp.shr IntKind.u32 (conv IntKind.u32 n) 12) (ar BinOp.sub IntKind.u32 (ar BinOp.shl IntKind.u32 1 1) 1)) 31) else bif cm BinOp.eql (nth kinds 0 (ar BinOp.sub IntKind.i64 op 1).toNat) 6 then ar BinOp.shl IntKind.u32 (conv IntKind.u32 n) 12 else bif cm BinOp.eql (nth kinds 0 (ar BinOp.sub IntKind.i64 op 1).toNat) 7 then ar BinOp.or IntKind.u32 (ar BinOp.or IntKind.u32 (ar BinOp.or IntKind.u32 (ar BinOp.shl IntKind.u32 (ar BinOp.and IntKind.u32 (ar BinOp.shr IntKind.u32 (conv IntKind.u32 n) 12) (ar BinOp.sub IntKind.u32 (ar BinOp.shl IntKind.u32 1 8) 1)) 12) (ar BinOp.shl IntKind.u32 (ar BinOp.and IntKind.u32 (ar BinOp.shr IntKind.u32 (conv IntKind.u32 n) 11) (ar BinOp.sub IntKind.u32 (ar BinOp.shl IntKind.u32 1 1) 1)) 20)) (ar BinOp.shl IntKind.u32 (ar BinOp.and IntKind.u32 (ar BinOp.shr IntKind.u32 (conv IntKind.u32 n) 1) (ar BinOp.sub IntKind.u32 (ar BinOp.shl IntKind.u32 1 10) 1)) 21)) (ar BinOp.shl IntKind.u32 (ar BinOp.and IntKind.u32 (ar BinOp.shr IntKind.u32 (conv IntKind.u32 n) 20) (ar BinOp.sub IntKind.u32 (ar BinOp.shl IntKind.u32 1 1) 1)) 31) else 0))), (.int true IntKind.i64 0)]) []
                  else .bad
            else .bad
          else .bad
        else .bad
      else .bad) := by kernel_rfl

theorem t7 (op : Int) (rd : Int) (r1 : Int) (r2 : Int) (n : Int) : (evalF E1 Try.prog 44 [SV.agg [SV.int false IntKind.i64 op, SV.int false IntKind.i64 rd, SV.int false IntKind.i64 r1, SV.int false IntKind.i64 r2, SV.int false IntKind.i64 n]] [] 0).bare =
    (bif (!bif cm BinOp.geq op 1 then cm BinOp.leq op 63 else false) then
      .ret (.tup [(.int true IntKind.u32 0), (.int true IntKind.i64 1)]) []
    else
      bif (decide (1 ≤ op)) then
        bif (decide (op ≤ 63)) then
          bif (bif !bif bif cm BinOp.geq rd 0 then cm BinOp.leq rd 31 else false then bif bif cm BinOp.eql (letter (op - 1).toNat) 85 then true else bif cm BinOp.eql (letter (op - 1).toNat) 74 then true else bif cm BinOp.eql (letter (op - 1).toNat) 73 then true else bif cm BinOp.eql (letter (op - 1).toNat) 104 then true else bif cm BinOp.eql (letter (op - 1).toNat) 119 then true else bif cm BinOp.eql (letter (op - 1).toNat) 66 then false else bif cm BinOp.eql (letter (op - 1).toNat) 83 then false else bif cm BinOp.eql (letter (op - 1).toNat) 82 then true else false then true else cm BinOp.eql rd 0 else false then true else bif !bif bif cm BinOp.geq r1 0 then cm BinOp.leq r1 31 else false then bif bif cm BinOp.eql (letter (op - 1).toNat) 85 then false else bif cm BinOp.eql (letter (op - 1).toNat) 74 then false else bif cm BinOp.eql (letter (op - 1).toNat) 73 then true else bif cm BinOp.eql (letter (op - 1).toNat) 104 then true else bif cm BinOp.eql (letter (op - 1).toNat) 119 then true else bif cm BinOp.eql (letter (op - 1).toNat) 66 then true else bif cm BinOp.eql (letter (op - 1).toNat) 83 then true else bif cm BinOp.eql (letter (op - 1).toNat) 82 then true else false then true else cm BinOp.eql r1 0 else false then true else !bif bif cm BinOp.geq r2 0 then cm BinOp.leq r2 31 else false then bif bif cm BinOp.eql (letter (op - 1).toNat) 85 then false else bif cm BinOp.eql (letter (op - 1).toNat) 74 then false else bif cm BinOp.eql (letter (op - 1).toNat) 73 then false else bif cm BinOp.eql (letter (op - 1).toNat) 104 then false else bif cm BinOp.eql (letter (op - 1).toNat) 119 then false else bif cm BinOp.eql (letter (op - 1).toNat) 66 then true else bif cm BinOp.eql (letter (op - 1).toNat) 83 then true else bif cm BinOp.eql (letter (op - 1).toNat) 82 then true else false then true else cm BinOp.eql r2 0 else false) then
            .ret (.tup [(.int true IntKind.u32 0), (.int true IntKind.i64 1)]) []
          else
            bif (bif cm BinOp.eql (letter (op - 1).toNat) 85 then allB [] else allB (mergeB (cm BinOp.eql (letter (op - 1).toNat) 74) [bif cm BinOp.geq n (-1048576) then allB [bif cm BinOp.lss n 1048576 then allB [2 != 0] else allB []] else allB []] (mergeB (cm BinOp.eql (letter (op - 1).toNat) 66) [bif cm BinOp.geq n (-4096) then allB [bif cm BinOp.lss n 4096 then allB [2 != 0] else allB []] else allB []] (mergeB (cm BinOp.eql (letter (op - 1).toNat) 73) [] (mergeB (cm BinOp.eql (letter (op - 1).toNat) 83) [] (mergeB (cm BinOp.eql (letter (op - 1).toNat) 104) [] (mergeB (cm BinOp.eql (letter (op - 1).toNat) 119) [] []))))))) then
              bif (!bif cm BinOp.eql (letter (op - 1).toNat) 85 then bif cm BinOp.geq n 0 then cm BinOp.lss n 1048576 else false else bif cm BinOp.eql (letter (op - 1).toNat) 74 then bif cm BinOp.geq n (-1048576) then bif cm BinOp.lss n 1048576 then cm BinOp.eql (ar BinOp.rem IntKind.i64 n 2) 0 else false else false else bif cm BinOp.eql (letter (op - 1).toNat) 66 then bif cm BinOp.geq n (-4096) then bif cm BinOp.lss n 4096 then cm BinOp.eql (ar BinOp.rem IntKind.i64 n 2) 0 else false else false else bif cm BinOp.eql (letter (op - 1).toNat) 73 then bif cm BinOp.geq n (-2048) then cm BinOp.leq n 2047 else false else bif cm BinOp.eql (letter (op - 1).toNat) 83 then bif cm BinOp.geq n (-2048) then cm BinOp.leq n 2047 else false else bif cm BinOp.eql (letter (op - 1).toNat) 104 then bif cm BinOp.geq n 0 then cm BinOp.lss n 64 else false else bif cm BinOp.eql (letter (op - 1).toNat) 119 then bif cm BinOp.geq n 0 then cm BinOp.lss n 32 else false else cm BinOp.eql n 0) then
                .ret (.tup [(.int true IntKind.u32 0), (.int true IntKind.i64 10)]) []
              else
                bif (cm BinOp.eql (letter (op - 1).toNat) 85) then
                  .ret (.tup [(.int false IntKind.u32 (ar BinOp.or IntKind.u32 (ar BinOp.or IntKind.u32 (ar BinOp.or IntKind.u32 (nth lows 0 (op - 1).toNat) (ar BinOp.shl IntKind.u32 (nth mids 0 (op - 1).toNat) 12)) (ar BinOp.shl IntKind.u32 (conv IntKind.u32 rd) 7)) (ar BinOp.shl IntKind.u32 (conv IntKind.u32 n) 12))), (.int true IntKind.i64 0)]) []
                else
                  bif (cm BinOp.eql (letter (op - 1).toNat) 74) then
                    .ret (.tup [(.int false IntKind.u32 (ar BinOp.or IntKind.u32 (ar BinOp.or IntKind.u32 (ar BinOp.or IntKind.u32 (ar BinOp.or IntKind.u32 (ar BinOp.or IntKind.u32 (ar BinOp.or IntKind.u32 (nth lows 0 (op - 1).toNat) (ar BinOp.shl IntKind.u32 (nth mids 0 (op - 1).toNat) 12)) (ar BinOp.shl IntKind.u32 (conv IntKind.u32 rd) 7)) (ar BinOp.shl IntKind.u32 (ar BinOp.and IntKind.u32 (ar BinOp.shr IntKind.u32 (conv IntKind.u32 n) 20) 1) 31)) (ar BinOp.shl IntKind.u32 (ar BinOp.and IntKind.u32 (ar BinOp.shr IntKind.u32 (conv IntKind.u32 n) 1) 1023) 21)) (ar BinOp.shl IntKind.u32 (ar BinOp.and IntKind.u32 (ar BinOp.shr IntKind.u32 (conv IntKind.u32 n) 11) 1) 20)) (ar BinOp.shl IntKind.u32 (ar BinOp.and IntKind.u32 (ar BinOp.shr IntKind.u32 (conv IntKind.u32 n) 12) 255) 12))), (.int true IntKind.i64 0)]) []
                  else
                    bif (cm BinOp.eql (letter (op - 1).toNat) 73) then
                      .ret (.tup [(.int false IntKind.u32 (ar BinOp.or IntKind.u32 (ar BinOp.or IntKind.u32 (ar BinOp.or IntKind.u32 (ar BinOp.or IntKind.u32 (nth lows 0 (op - 1).toNat) (ar BinOp.shl IntKind.u32 (nth mids 0 (op - 1).toNat) 12)) (ar BinOp.shl IntKind.u32 (conv IntKind.u32 rd) 7)) (ar BinOp.shl IntKind.u32 (conv IntKind.u32 r1) 15)) (ar BinOp.shl IntKind.u32 (conv IntKind.u32 n) 20))), (.int true IntKind.i64 0)]) []
                    else
                      bif (cm BinOp.eql (letter (op - 1).toNat) 104) then
                        .ret (.tup [(.int false IntKind.u32 (ar BinOp.or IntKind.u32 (ar BinOp.or IntKind.u32 (ar BinOp.or IntKind.u32 (ar BinOp.or IntKind.u32 (ar BinOp.or IntKind.u32 (nth lows 0 (op - 1).toNat) (ar BinOp.shl IntKind.u32 (nth mids 0 (op - 1).toNat) 12)) (ar BinOp.shl IntKind.u32 (conv IntKind.u32 rd) 7)) (ar BinOp.shl IntKind.u32 (conv IntKind.u32 r1) 15)) (ar BinOp.shl IntKind.u32 (conv IntKind.u32 n) 20)) (ar BinOp.shl IntKind.u32 (nth fs 0 (op - 1).toNat) 25))), (.int true IntKind.i64 0)]) []
                      else
                        bif (cm BinOp.eql (letter (op - 1).toNat) 119) then
                          .ret (.tup [(.int false IntKind.u32 (ar BinOp.or IntKind.u32 (ar BinOp.or IntKind.u32 (ar BinOp.or IntKind.u32 (ar BinOp.or IntKind.u32 (ar BinOp.or IntKind.u32 (nth lows 0 (op - 1).toNat) (ar BinOp.shl IntKind.u32 (nth mids 0 (op - 1).toNat) 12)) (ar BinOp.shl IntKind.u32 (conv IntKind.u32 rd) 7)) (ar BinOp.shl IntKind.u32 (conv IntKind.u32 r1) 15)) (ar BinOp.shl IntKind.u32 (conv IntKind.u32 n) 20)) (ar BinOp.shl IntKind.u32 (nth fs 0 (op - 1).toNat) 25))), (.int true IntKind.i64 0)]) []
                        else
                          bif (cm BinOp.eql (letter (op - 1).toNat) 66) then
                            .ret (.tup [(.int false IntKind.u32 (ar BinOp.or IntKind.u32 (ar BinOp.or IntKind.u32 (ar BinOp.or IntKind.u32 (ar BinOp.or IntKind.u32 (ar BinOp.or IntKind.u32 (ar BinOp.or IntKind.u32 (ar BinOp.or IntKind.u32 (nth lows 0 (op - 1).toNat) (ar BinOp.shl IntKind.u32 (nth mids 0 (op - 1).toNat) 12)) (ar BinOp.shl IntKind.u32 (conv IntKind.u32 r1) 15)) (ar BinOp.shl IntKind.u32 (conv IntKind.u32 r2) 20)) (ar BinOp.shl IntKind.u32 (ar BinOp.and IntKind.u32 (ar BinOp.shr IntKind.u32 (conv IntKind.u32 n) 12) 1) 31)) (ar BinOp.shl IntKind.u32 (ar BinOp.and IntKind.u32 (ar BinOp.shr IntKind.u32 (conv IntKind.u32 n) 5) 63) 25)) (ar BinOp.shl IntKind.u32 (ar BinOp.and IntKind.u32 (ar BinOp.shr IntKind.u32 (conv IntKind.u32 n) 1) 15) 8)) (ar BinOp.shl IntKind.u32 (ar BinOp.and IntKind.u32 (ar BinOp.shr IntKind.u32 (conv IntKind.u32 n) 11) 1) 7))), (.int true IntKind.i64 0)]) []
                          else
                            bif (cm BinOp.eql (letter (op - 1).toNat) 83) then
                              .ret (.tup [(.int false IntKind.u32 (ar BinOp.or IntKind.u32 (ar BinOp.or IntKind.u32 (ar BinOp.or IntKind.u32 (ar BinOp.or IntKind.u32 (ar BinOp.or IntKind.u32 (nth lows 0 (op - 1).toNat) (ar BinOp.shl IntKind.u32 (nth mids 0 (op - 1).toNat) 12)) (ar BinOp.shl IntKind.u32 (conv IntKind.u32 r1) 15)) (ar BinOp.shl IntKind.u32 (conv IntKind.u32 r2) 20)) (ar BinOp.shl IntKind.u32 (ar BinOp.and IntKind.u32 (ar BinOp.shr IntKind.u32 (conv IntKind.u32 n) 5) 127) 25)) (ar BinOp.shl IntKind.u32 (ar BinOp.and IntKind.u32 (conv IntKind.u32 n) 31) 7))), (.int true IntKind.i64 0)]) []
                            else
                              bif (cm BinOp.eql (letter (op - 1).toNat) 82) then
                                .ret (.tup [(.int false IntKind.u32 (ar BinOp.or IntKind.u32 (ar BinOp.or IntKind.u32 (ar BinOp.or IntKind.u32 (ar BinOp.or IntKind.u32 (ar BinOp.or IntKind.u32 (nth lows 0 (op - 1).toNat) (ar BinOp.shl IntKind.u32 (nth mids 0 (op - 1).toNat) 12)) (ar BinOp.shl IntKind.u32 (conv IntKind.u32 rd) 7)) (ar BinOp.shl IntKind.u32 (conv IntKind.u32 r1) 15)) (ar BinOp.shl IntKind.u32 (conv IntKind.u32 r2) 20)) (ar BinOp.shl IntKind.u32 (nth fs 0 (op - 1).toNat) 25))), (.int true IntKind.i64 0)]) []
                              else
                                .ret (.tup [(.int false IntKind.u32 (ar BinOp.or IntKind.u32 (nth lows 0 (op - 1).toNat) (ar BinOp.shl IntKind.u32 (nth mids 0 (op - 1).toNat) 12))), (.int true IntKind.i64 0)]) []
            else .bad
        else .bad
      else .bad) := by kernel_rfl


end Go.Rv
end
