/-
  x86: Encode says that, op by op.
-/
import Derived.Test.YtidihpmjndfbgaaC7
import Derived.Test.YtidihpmjndfbgaaB6
set_option linter.unusedSimpArgs false
set_option linter.unusedVariables false
section
set_option linter.unusedVariables false
open Go Go.Ev Go.Proofs
namespace Go.X

attribute [local irreducible] evalF Lf.gives in
theorem enc7_1 (w rd rs n : Int) : (T7 1 w rd rs n).leaf.gives (.tup [.str (strX 1 w rd rs n), .int false .i64 (errX 1 w rd rs n)]) := by
  have hE : errX 1 w rd rs n = (bif (decide (w = 4) || decide (w = 8)) && ((true || decide (w = 0)) && (regX rd && (regX rs && decide (n = 0)))) then (bif ((true) || false) then 0 else 10) else 1) := by kernel_rfl
  refine gives_tree (t7_1 w rd rs n) ?_
  refine gives_cond (fun h1 => ?_) (fun h1 => ?_)
  · have hA : ((decide (w = 4) || decide (w = 8)) && ((true || decide (w = 0)) && (regX rd && (regX rs && decide (n = 0))))) = false := by
      simp [cms] at h1 ⊢
      first | done | omega | (split at h1 <;> omega) | ((repeat' split at h1) <;> omega) | skip
    have he : errX 1 w rd rs n = 1 := by rw [hE, hA]; rfl
    exact givesE (strX_bad he (by decide)) he.symm
  · have hA : ((decide (w = 4) || decide (w = 8)) && ((true || decide (w = 0)) && (regX rd && (regX rs && decide (n = 0))))) = true := by
      simp [cms] at h1 ⊢
      first | done | omega | (split at h1 <;> omega) | ((repeat' split at h1) <;> omega) | skip
    have he : errX 1 w rd rs n = 0 := by rw [hE, hA]; rfl
    refine gives_cond (fun _ => ?_) (fun h3 => ?_)
    case refine_2 => exfalso; revert h3; cases cm .eql w 8 <;> simp [allB]
    have hrd : small rd := by simp [regX] at hA; simp only [small]; omega
    have hrs : small rs := by simp [regX] at hA; simp only [small]; omega
    have hw : w = 4 ∨ w = 8 := by simp at hA; omega
    refine givesE ?_ he.symm
    rw [strX_ok he, strOf_S]
    exact congrArg S (Eq.trans (b := [rexA w rs rd, 137, modA 192 rs rd]) (by kernel_rfl) (Eq.trans (b := [rexI w rs rd, 137, modI 192 rs rd]) (by rw [rexA_eq hw hrs hrd, modA_eq (.inl rfl) hrs hrd]) (by kernel_rfl)))

attribute [local irreducible] evalF Lf.gives in
theorem enc7_2 (w rd rs n : Int) : (T7 2 w rd rs n).leaf.gives (.tup [.str (strX 2 w rd rs n), .int false .i64 (errX 2 w rd rs n)]) := by
  have hE : errX 2 w rd rs n = (bif (decide (w = 4) || decide (w = 8)) && ((false || decide (w = 8)) && (regX rd && (decide (rs = 0) && (true || decide (n = 0))))) then (bif ((decide (-2147483648 ≤ n) && decide (n ≤ 2147483647)) || false) then 0 else 10) else 1) := by kernel_rfl
  refine gives_tree (t7_2 w rd rs n) ?_
  refine gives_cond (fun h1 => ?_) (fun h1 => ?_)
  · have hA : ((decide (w = 4) || decide (w = 8)) && ((false || decide (w = 8)) && (regX rd && (decide (rs = 0) && (true || decide (n = 0)))))) = false := by
      simp [cms] at h1 ⊢
      first | done | omega | (split at h1 <;> omega) | ((repeat' split at h1) <;> omega) | skip
    have he : errX 2 w rd rs n = 1 := by rw [hE, hA]; rfl
    exact givesE (strX_bad he (by decide)) he.symm
  · have hA : ((decide (w = 4) || decide (w = 8)) && ((false || decide (w = 8)) && (regX rd && (decide (rs = 0) && (true || decide (n = 0)))))) = true := by
      simp [cms] at h1 ⊢
      first | done | omega | (split at h1 <;> omega) | ((repeat' split at h1) <;> omega) | skip
    refine gives_cond (fun h2 => ?_) (fun h2 => ?_)
    · have hF : ((decide (-2147483648 ≤ n) && decide (n ≤ 2147483647)) || false) = false := by
        simp [cms] at h2 ⊢
        first | done | omega | skip
      have he : errX 2 w rd rs n = 10 := by rw [hE, hA, hF]; rfl
      exact givesE (strX_bad he (by decide)) he.symm
    · have hF : ((decide (-2147483648 ≤ n) && decide (n ≤ 2147483647)) || false) = true := by
        simp [cms] at h2 ⊢
        first | done | omega | skip
      have he : errX 2 w rd rs n = 0 := by rw [hE, hA, hF]; rfl
      refine gives_cond (fun _ => ?_) (fun h3 => ?_)
      case refine_2 => exfalso; revert h3; cases cm .eql w 8 <;> simp [allB]
      have hrd : small rd := by simp [regX] at hA; simp only [small]; omega
      have hw : w = 4 ∨ w = 8 := by simp at hA; omega
      refine givesE ?_ he.symm
      rw [strX_ok he, strOf_S]
      exact congrArg S (Eq.trans (b := [rexA w 0 rd, 199, modA 192 0 rd, bat n 0, bat n 1, bat n 2, bat n 3]) (by kernel_rfl) (Eq.trans (b := [rexI w 0 rd, 199, modI 192 0 rd, bat n 0, bat n 1, bat n 2, bat n 3]) (by rw [rexA_eq hw (by decide : small 0) hrd, modA_eq (.inl rfl) (by decide : small 0) hrd] <;> rfl) (by kernel_rfl)))

attribute [local irreducible] evalF Lf.gives in
theorem enc7_3 (w rd rs n : Int) : (T7 3 w rd rs n).leaf.gives (.tup [.str (strX 3 w rd rs n), .int false .i64 (errX 3 w rd rs n)]) := by
  have hE : errX 3 w rd rs n = (bif (decide (w = 4) || decide (w = 8)) && ((false || decide (w = 8)) && (regX rd && decide (rs = 0))) then (bif ((true) || false) then 0 else 10) else 1) := by kernel_rfl
  refine gives_tree (t7_3 w rd rs n) ?_
  refine gives_cond (fun h1 => ?_) (fun h1 => ?_)
  · have hA : ((decide (w = 4) || decide (w = 8)) && ((false || decide (w = 8)) && (regX rd && decide (rs = 0)))) = false := by
      simp [cms] at h1 ⊢
      first | done | omega | (split at h1 <;> omega) | ((repeat' split at h1) <;> omega) | skip
    have he : errX 3 w rd rs n = 1 := by rw [hE, hA]; rfl
    exact givesE (strX_bad he (by decide)) he.symm
  · have hA : ((decide (w = 4) || decide (w = 8)) && ((false || decide (w = 8)) && (regX rd && decide (rs = 0)))) = true := by
      simp [cms] at h1 ⊢
      first | done | omega | (split at h1 <;> omega) | ((repeat' split at h1) <;> omega) | skip
    have he : errX 3 w rd rs n = 0 := by rw [hE, hA]; rfl
    refine gives_cond (fun _ => ?_) (fun h3 => ?_)
    case refine_2 => exfalso; revert h3; cases cm .eql w 8 <;> simp [allB]
    have hrd : small rd := by simp [regX] at hA; simp only [small]; omega
    have hw : w = 4 ∨ w = 8 := by simp at hA; omega
    refine givesE ?_ he.symm
    rw [strX_ok he, strOf_S]
    exact congrArg S (Eq.trans (b := [rexA w 0 rd, ar .add .u8 184 (conv .u8 (ar .and .i64 rd 7)), bat n 0, bat n 1, bat n 2, bat n 3, bat n 4, bat n 5, bat n 6, bat n 7]) (by kernel_rfl) (Eq.trans (b := [rexI w 0 rd, 184 + rd % 8, bat n 0, bat n 1, bat n 2, bat n 3, bat n 4, bat n 5, bat n 6, bat n 7]) (by rw [rexA_eq hw (by decide : small 0) hrd, addReg (by decide) hrd]) (by kernel_rfl)))

attribute [local irreducible] evalF Lf.gives in
theorem enc7_4 (w rd rs n : Int) : (T7 4 w rd rs n).leaf.gives (.tup [.str (strX 4 w rd rs n), .int false .i64 (errX 4 w rd rs n)]) := by
  have hE : errX 4 w rd rs n = (bif (decide (w = 4) || decide (w = 8)) && ((true || decide (w = 0)) && (regX rd && (regX rs && decide (n = 0)))) then (bif ((true) || false) then 0 else 10) else 1) := by kernel_rfl
  refine gives_tree (t7_4 w rd rs n) ?_
  refine gives_cond (fun h1 => ?_) (fun h1 => ?_)
  · have hA : ((decide (w = 4) || decide (w = 8)) && ((true || decide (w = 0)) && (regX rd && (regX rs && decide (n = 0))))) = false := by
      simp [cms] at h1 ⊢
      first | done | omega | (split at h1 <;> omega) | ((repeat' split at h1) <;> omega) | skip
    have he : errX 4 w rd rs n = 1 := by rw [hE, hA]; rfl
    exact givesE (strX_bad he (by decide)) he.symm
  · have hA : ((decide (w = 4) || decide (w = 8)) && ((true || decide (w = 0)) && (regX rd && (regX rs && decide (n = 0))))) = true := by
      simp [cms] at h1 ⊢
      first | done | omega | (split at h1 <;> omega) | ((repeat' split at h1) <;> omega) | skip
    have he : errX 4 w rd rs n = 0 := by rw [hE, hA]; rfl
    refine gives_cond (fun _ => ?_) (fun h3 => ?_)
    case refine_2 => exfalso; revert h3; cases cm .eql w 8 <;> simp [allB]
    have hrd : small rd := by simp [regX] at hA; simp only [small]; omega
    have hrs : small rs := by simp [regX] at hA; simp only [small]; omega
    have hw : w = 4 ∨ w = 8 := by simp at hA; omega
    refine givesE ?_ he.symm
    rw [strX_ok he, strOf_S]
    exact congrArg S (Eq.trans (b := [rexA w rs rd, 1, modA 192 rs rd]) (by kernel_rfl) (Eq.trans (b := [rexI w rs rd, 1, modI 192 rs rd]) (by rw [rexA_eq hw hrs hrd, modA_eq (.inl rfl) hrs hrd]) (by kernel_rfl)))

attribute [local irreducible] evalF Lf.gives in
theorem enc7_5 (w rd rs n : Int) : (T7 5 w rd rs n).leaf.gives (.tup [.str (strX 5 w rd rs n), .int false .i64 (errX 5 w rd rs n)]) := by
  have hE : errX 5 w rd rs n = (bif (decide (w = 4) || decide (w = 8)) && ((true || decide (w = 0)) && (regX rd && (regX rs && decide (n = 0)))) then (bif ((true) || false) then 0 else 10) else 1) := by kernel_rfl
  refine gives_tree (t7_5 w rd rs n) ?_
  refine gives_cond (fun h1 => ?_) (fun h1 => ?_)
  · have hA : ((decide (w = 4) || decide (w = 8)) && ((true || decide (w = 0)) && (regX rd && (regX rs && decide (n = 0))))) = false := by
      simp [cms] at h1 ⊢
      first | done | omega | (split at h1 <;> omega) | ((repeat' split at h1) <;> omega) | skip
    have he : errX 5 w rd rs n = 1 := by rw [hE, hA]; rfl
    exact givesE (strX_bad he (by decide)) he.symm
  · have hA : ((decide (w = 4) || decide (w = 8)) && ((true || decide (w = 0)) && (regX rd && (regX rs && decide (n = 0))))) = true := by
      simp [cms] at h1 ⊢
      first | done | omega | (split at h1 <;> omega) | ((repeat' split at h1) <;> omega) | skip
    have he : errX 5 w rd rs n = 0 := by rw [hE, hA]; rfl
    refine gives_cond (fun _ => ?_) (fun h3 => ?_)
    case refine_2 => exfalso; revert h3; cases cm .eql w 8 <;> simp [allB]
    have hrd : small rd := by simp [regX] at hA; simp only [small]; omega
    have hrs : small rs := by simp [regX] at hA; simp only [small]; omega
    have hw : w = 4 ∨ w = 8 := by simp at hA; omega
    refine givesE ?_ he.symm
    rw [strX_ok he, strOf_S]
    exact congrArg S (Eq.trans (b := [rexA w rs rd, 41, modA 192 rs rd]) (by kernel_rfl) (Eq.trans (b := [rexI w rs rd, 41, modI 192 rs rd]) (by rw [rexA_eq hw hrs hrd, modA_eq (.inl rfl) hrs hrd]) (by kernel_rfl)))

attribute [local irreducible] evalF Lf.gives in
theorem enc7_6 (w rd rs n : Int) : (T7 6 w rd rs n).leaf.gives (.tup [.str (strX 6 w rd rs n), .int false .i64 (errX 6 w rd rs n)]) := by
  have hE : errX 6 w rd rs n = (bif (decide (w = 4) || decide (w = 8)) && ((true || decide (w = 0)) && (regX rd && (regX rs && decide (n = 0)))) then (bif ((true) || false) then 0 else 10) else 1) := by kernel_rfl
  refine gives_tree (t7_6 w rd rs n) ?_
  refine gives_cond (fun h1 => ?_) (fun h1 => ?_)
  · have hA : ((decide (w = 4) || decide (w = 8)) && ((true || decide (w = 0)) && (regX rd && (regX rs && decide (n = 0))))) = false := by
      simp [cms] at h1 ⊢
      first | done | omega | (split at h1 <;> omega) | ((repeat' split at h1) <;> omega) | skip
    have he : errX 6 w rd rs n = 1 := by rw [hE, hA]; rfl
    exact givesE (strX_bad he (by decide)) he.symm
  · have hA : ((decide (w = 4) || decide (w = 8)) && ((true || decide (w = 0)) && (regX rd && (regX rs && decide (n = 0))))) = true := by
      simp [cms] at h1 ⊢
      first | done | omega | (split at h1 <;> omega) | ((repeat' split at h1) <;> omega) | skip
    have he : errX 6 w rd rs n = 0 := by rw [hE, hA]; rfl
    refine gives_cond (fun _ => ?_) (fun h3 => ?_)
    case refine_2 => exfalso; revert h3; cases cm .eql w 8 <;> simp [allB]
    have hrd : small rd := by simp [regX] at hA; simp only [small]; omega
    have hrs : small rs := by simp [regX] at hA; simp only [small]; omega
    have hw : w = 4 ∨ w = 8 := by simp at hA; omega
    refine givesE ?_ he.symm
    rw [strX_ok he, strOf_S]
    exact congrArg S (Eq.trans (b := [rexA w rs rd, 33, modA 192 rs rd]) (by kernel_rfl) (Eq.trans (b := [rexI w rs rd, 33, modI 192 rs rd]) (by rw [rexA_eq hw hrs hrd, modA_eq (.inl rfl) hrs hrd]) (by kernel_rfl)))

attribute [local irreducible] evalF Lf.gives in
theorem enc7_7 (w rd rs n : Int) : (T7 7 w rd rs n).leaf.gives (.tup [.str (strX 7 w rd rs n), .int false .i64 (errX 7 w rd rs n)]) := by
  have hE : errX 7 w rd rs n = (bif (decide (w = 4) || decide (w = 8)) && ((true || decide (w = 0)) && (regX rd && (regX rs && decide (n = 0)))) then (bif ((true) || false) then 0 else 10) else 1) := by kernel_rfl
  refine gives_tree (t7_7 w rd rs n) ?_
  refine gives_cond (fun h1 => ?_) (fun h1 => ?_)
  · have hA : ((decide (w = 4) || decide (w = 8)) && ((true || decide (w = 0)) && (regX rd && (regX rs && decide (n = 0))))) = false := by
      simp [cms] at h1 ⊢
      first | done | omega | (split at h1 <;> omega) | ((repeat' split at h1) <;> omega) | skip
    have he : errX 7 w rd rs n = 1 := by rw [hE, hA]; rfl
    exact givesE (strX_bad he (by decide)) he.symm
  · have hA : ((decide (w = 4) || decide (w = 8)) && ((true || decide (w = 0)) && (regX rd && (regX rs && decide (n = 0))))) = true := by
      simp [cms] at h1 ⊢
      first | done | omega | (split at h1 <;> omega) | ((repeat' split at h1) <;> omega) | skip
    have he : errX 7 w rd rs n = 0 := by rw [hE, hA]; rfl
    refine gives_cond (fun _ => ?_) (fun h3 => ?_)
    case refine_2 => exfalso; revert h3; cases cm .eql w 8 <;> simp [allB]
    have hrd : small rd := by simp [regX] at hA; simp only [small]; omega
    have hrs : small rs := by simp [regX] at hA; simp only [small]; omega
    have hw : w = 4 ∨ w = 8 := by simp at hA; omega
    refine givesE ?_ he.symm
    rw [strX_ok he, strOf_S]
    exact congrArg S (Eq.trans (b := [rexA w rs rd, 9, modA 192 rs rd]) (by kernel_rfl) (Eq.trans (b := [rexI w rs rd, 9, modI 192 rs rd]) (by rw [rexA_eq hw hrs hrd, modA_eq (.inl rfl) hrs hrd]) (by kernel_rfl)))

attribute [local irreducible] evalF Lf.gives in
theorem enc7_8 (w rd rs n : Int) : (T7 8 w rd rs n).leaf.gives (.tup [.str (strX 8 w rd rs n), .int false .i64 (errX 8 w rd rs n)]) := by
  have hE : errX 8 w rd rs n = (bif (decide (w = 4) || decide (w = 8)) && ((true || decide (w = 0)) && (regX rd && (regX rs && decide (n = 0)))) then (bif ((true) || false) then 0 else 10) else 1) := by kernel_rfl
  refine gives_tree (t7_8 w rd rs n) ?_
  refine gives_cond (fun h1 => ?_) (fun h1 => ?_)
  · have hA : ((decide (w = 4) || decide (w = 8)) && ((true || decide (w = 0)) && (regX rd && (regX rs && decide (n = 0))))) = false := by
      simp [cms] at h1 ⊢
      first | done | omega | (split at h1 <;> omega) | ((repeat' split at h1) <;> omega) | skip
    have he : errX 8 w rd rs n = 1 := by rw [hE, hA]; rfl
    exact givesE (strX_bad he (by decide)) he.symm
  · have hA : ((decide (w = 4) || decide (w = 8)) && ((true || decide (w = 0)) && (regX rd && (regX rs && decide (n = 0))))) = true := by
      simp [cms] at h1 ⊢
      first | done | omega | (split at h1 <;> omega) | ((repeat' split at h1) <;> omega) | skip
    have he : errX 8 w rd rs n = 0 := by rw [hE, hA]; rfl
    refine gives_cond (fun _ => ?_) (fun h3 => ?_)
    case refine_2 => exfalso; revert h3; cases cm .eql w 8 <;> simp [allB]
    have hrd : small rd := by simp [regX] at hA; simp only [small]; omega
    have hrs : small rs := by simp [regX] at hA; simp only [small]; omega
    have hw : w = 4 ∨ w = 8 := by simp at hA; omega
    refine givesE ?_ he.symm
    rw [strX_ok he, strOf_S]
    exact congrArg S (Eq.trans (b := [rexA w rs rd, 49, modA 192 rs rd]) (by kernel_rfl) (Eq.trans (b := [rexI w rs rd, 49, modI 192 rs rd]) (by rw [rexA_eq hw hrs hrd, modA_eq (.inl rfl) hrs hrd]) (by kernel_rfl)))

attribute [local irreducible] evalF Lf.gives in
theorem enc7_9 (w rd rs n : Int) : (T7 9 w rd rs n).leaf.gives (.tup [.str (strX 9 w rd rs n), .int false .i64 (errX 9 w rd rs n)]) := by
  have hE : errX 9 w rd rs n = (bif (decide (w = 4) || decide (w = 8)) && ((true || decide (w = 0)) && (regX rd && (regX rs && decide (n = 0)))) then (bif ((true) || false) then 0 else 10) else 1) := by kernel_rfl
  refine gives_tree (t7_9 w rd rs n) ?_
  refine gives_cond (fun h1 => ?_) (fun h1 => ?_)
  · have hA : ((decide (w = 4) || decide (w = 8)) && ((true || decide (w = 0)) && (regX rd && (regX rs && decide (n = 0))))) = false := by
      simp [cms] at h1 ⊢
      first | done | omega | (split at h1 <;> omega) | ((repeat' split at h1) <;> omega) | skip
    have he : errX 9 w rd rs n = 1 := by rw [hE, hA]; rfl
    exact givesE (strX_bad he (by decide)) he.symm
  · have hA : ((decide (w = 4) || decide (w = 8)) && ((true || decide (w = 0)) && (regX rd && (regX rs && decide (n = 0))))) = true := by
      simp [cms] at h1 ⊢
      first | done | omega | (split at h1 <;> omega) | ((repeat' split at h1) <;> omega) | skip
    have he : errX 9 w rd rs n = 0 := by rw [hE, hA]; rfl
    refine gives_cond (fun _ => ?_) (fun h3 => ?_)
    case refine_2 => exfalso; revert h3; cases cm .eql w 8 <;> simp [allB]
    have hrd : small rd := by simp [regX] at hA; simp only [small]; omega
    have hrs : small rs := by simp [regX] at hA; simp only [small]; omega
    have hw : w = 4 ∨ w = 8 := by simp at hA; omega
    refine givesE ?_ he.symm
    rw [strX_ok he, strOf_S]
    exact congrArg S (Eq.trans (b := [rexA w rs rd, 57, modA 192 rs rd]) (by kernel_rfl) (Eq.trans (b := [rexI w rs rd, 57, modI 192 rs rd]) (by rw [rexA_eq hw hrs hrd, modA_eq (.inl rfl) hrs hrd]) (by kernel_rfl)))

attribute [local irreducible] evalF Lf.gives in
theorem enc7_10 (w rd rs n : Int) : (T7 10 w rd rs n).leaf.gives (.tup [.str (strX 10 w rd rs n), .int false .i64 (errX 10 w rd rs n)]) := by
  have hE : errX 10 w rd rs n = (bif (decide (w = 4) || decide (w = 8)) && ((true || decide (w = 0)) && (regX rd && (regX rs && decide (n = 0)))) then (bif ((true) || false) then 0 else 10) else 1) := by kernel_rfl
  refine gives_tree (t7_10 w rd rs n) ?_
  refine gives_cond (fun h1 => ?_) (fun h1 => ?_)
  · have hA : ((decide (w = 4) || decide (w = 8)) && ((true || decide (w = 0)) && (regX rd && (regX rs && decide (n = 0))))) = false := by
      simp [cms] at h1 ⊢
      first | done | omega | (split at h1 <;> omega) | ((repeat' split at h1) <;> omega) | skip
    have he : errX 10 w rd rs n = 1 := by rw [hE, hA]; rfl
    exact givesE (strX_bad he (by decide)) he.symm
  · have hA : ((decide (w = 4) || decide (w = 8)) && ((true || decide (w = 0)) && (regX rd && (regX rs && decide (n = 0))))) = true := by
      simp [cms] at h1 ⊢
      first | done | omega | (split at h1 <;> omega) | ((repeat' split at h1) <;> omega) | skip
    have he : errX 10 w rd rs n = 0 := by rw [hE, hA]; rfl
    refine gives_cond (fun _ => ?_) (fun h3 => ?_)
    case refine_2 => exfalso; revert h3; cases cm .eql w 8 <;> simp [allB]
    have hrd : small rd := by simp [regX] at hA; simp only [small]; omega
    have hrs : small rs := by simp [regX] at hA; simp only [small]; omega
    have hw : w = 4 ∨ w = 8 := by simp at hA; omega
    refine givesE ?_ he.symm
    rw [strX_ok he, strOf_S]
    exact congrArg S (Eq.trans (b := [rexA w rd rs, 15, 175, modA 192 rd rs]) (by kernel_rfl) (Eq.trans (b := [rexI w rd rs, 15, 175, modI 192 rd rs]) (by rw [rexA_eq hw hrd hrs, modA_eq (.inl rfl) hrd hrs]) (by kernel_rfl)))

attribute [local irreducible] evalF Lf.gives in
theorem enc7_11 (w rd rs n : Int) : (T7 11 w rd rs n).leaf.gives (.tup [.str (strX 11 w rd rs n), .int false .i64 (errX 11 w rd rs n)]) := by
  have hE : errX 11 w rd rs n = (bif (decide (w = 4) || decide (w = 8)) && ((true || decide (w = 0)) && (regX rd && (decide (rs = 0) && (false || decide (n = 0))))) then (bif ((true) || false) then 0 else 10) else 1) := by kernel_rfl
  refine gives_tree (t7_11 w rd rs n) ?_
  refine gives_cond (fun h1 => ?_) (fun h1 => ?_)
  · have hA : ((decide (w = 4) || decide (w = 8)) && ((true || decide (w = 0)) && (regX rd && (decide (rs = 0) && (false || decide (n = 0)))))) = false := by
      simp [cms] at h1 ⊢
      first | done | omega | (split at h1 <;> omega) | ((repeat' split at h1) <;> omega) | skip
    have he : errX 11 w rd rs n = 1 := by rw [hE, hA]; rfl
    exact givesE (strX_bad he (by decide)) he.symm
  · have hA : ((decide (w = 4) || decide (w = 8)) && ((true || decide (w = 0)) && (regX rd && (decide (rs = 0) && (false || decide (n = 0)))))) = true := by
      simp [cms] at h1 ⊢
      first | done | omega | (split at h1 <;> omega) | ((repeat' split at h1) <;> omega) | skip
    have he : errX 11 w rd rs n = 0 := by rw [hE, hA]; rfl
    refine gives_cond (fun _ => ?_) (fun h3 => ?_)
    case refine_2 => exfalso; revert h3; cases cm .eql w 8 <;> simp [allB]
    have hrd : small rd := by simp [regX] at hA; simp only [small]; omega
    have hw : w = 4 ∨ w = 8 := by simp at hA; omega
    refine givesE ?_ he.symm
    rw [strX_ok he, strOf_S]
    exact congrArg S (Eq.trans (b := [rexA w 3 rd, 247, modA 192 3 rd]) (by kernel_rfl) (Eq.trans (b := [rexI w 0 rd, 247, modI 192 3 rd]) (by rw [rexA_eq hw (by decide : small 3) hrd, modA_eq (.inl rfl) (by decide : small 3) hrd] <;> rfl) (by kernel_rfl)))

attribute [local irreducible] evalF Lf.gives in
theorem enc7_12 (w rd rs n : Int) : (T7 12 w rd rs n).leaf.gives (.tup [.str (strX 12 w rd rs n), .int false .i64 (errX 12 w rd rs n)]) := by
  have hE : errX 12 w rd rs n = (bif (decide (w = 4) || decide (w = 8)) && ((true || decide (w = 0)) && (regX rd && (decide (rs = 0) && (false || decide (n = 0))))) then (bif ((true) || false) then 0 else 10) else 1) := by kernel_rfl
  refine gives_tree (t7_12 w rd rs n) ?_
  refine gives_cond (fun h1 => ?_) (fun h1 => ?_)
  · have hA : ((decide (w = 4) || decide (w = 8)) && ((true || decide (w = 0)) && (regX rd && (decide (rs = 0) && (false || decide (n = 0)))))) = false := by
      simp [cms] at h1 ⊢
      first | done | omega | (split at h1 <;> omega) | ((repeat' split at h1) <;> omega) | skip
    have he : errX 12 w rd rs n = 1 := by rw [hE, hA]; rfl
    exact givesE (strX_bad he (by decide)) he.symm
  · have hA : ((decide (w = 4) || decide (w = 8)) && ((true || decide (w = 0)) && (regX rd && (decide (rs = 0) && (false || decide (n = 0)))))) = true := by
      simp [cms] at h1 ⊢
      first | done | omega | (split at h1 <;> omega) | ((repeat' split at h1) <;> omega) | skip
    have he : errX 12 w rd rs n = 0 := by rw [hE, hA]; rfl
    refine gives_cond (fun _ => ?_) (fun h3 => ?_)
    case refine_2 => exfalso; revert h3; cases cm .eql w 8 <;> simp [allB]
    have hrd : small rd := by simp [regX] at hA; simp only [small]; omega
    have hw : w = 4 ∨ w = 8 := by simp at hA; omega
    refine givesE ?_ he.symm
    rw [strX_ok he, strOf_S]
    exact congrArg S (Eq.trans (b := [rexA w 2 rd, 247, modA 192 2 rd]) (by kernel_rfl) (Eq.trans (b := [rexI w 0 rd, 247, modI 192 2 rd]) (by rw [rexA_eq hw (by decide : small 2) hrd, modA_eq (.inl rfl) (by decide : small 2) hrd] <;> rfl) (by kernel_rfl)))

end Go.X
end

section
set_option linter.unusedVariables false
open Go Go.Ev Go.Proofs
namespace Go.X

theorem t7_13 (w : Int) (rd : Int) (rs : Int) (n : Int) : (T7 13 w rd rs n).bare =
    (bif (bif cm .neq w 4 then bif cm .neq w 8 then true else !bif bif cm .geq rd 0 then cm .lss rd 16 else false then bif cm .eql rs 0 then cm .eql n 0 else false else false else !bif bif cm .geq rd 0 then cm .lss rd 16 else false then bif cm .eql rs 0 then cm .eql n 0 else false else false) then
 .ret (.tup [.str ⟨#[]⟩, .int true .i64 1]) []
 else
 bif (bif cm .eql w 8 then allB [decide (0 ≤ 3), decide (0 ≤ 2), decide (0 ≤ 3)] else allB [decide (0 ≤ 3), decide (0 ≤ 2), decide (0 ≤ 3)]) then
 .ret (.tup [(.str (strOf (cat (1 + (ByteArray.mk #[247]).size + 1) (cat (1 + (ByteArray.mk #[247]).size) (cat 1 (nth [bif cm .eql w 8 then ar .or .u8 (ar .or .u8 (ar .or .u8 64 8) (ar .shl .u8 (conv .u8 (ar .shr .i64 7 3)) 2)) (conv .u8 (ar .shr .i64 rd 3)) else ar .or .u8 (ar .or .u8 64 (ar .shl .u8 (conv .u8 (ar .shr .i64 7 3)) 2)) (conv .u8 (ar .shr .i64 rd 3))] 0) (chr (ByteArray.mk #[247]))) (nth [ar .or .u8 (ar .or .u8 192 (ar .shl .u8 (conv .u8 (ar .and .i64 7 7)) 3)) (conv .u8 (ar .and .i64 rd 7))] 0)) (bat n)) (1 + (ByteArray.mk #[247]).size + 1 + Int.toNat 0))), .int true .i64 0]) []
 else .bad) := by kernel_rfl

theorem t7_14 (w : Int) (rd : Int) (rs : Int) (n : Int) : (T7 14 w rd rs n).bare =
    (bif (bif cm .neq w 4 then bif cm .neq w 8 then true else !bif bif cm .geq rd 0 then cm .lss rd 16 else false then bif cm .eql rs 0 then cm .eql n 0 else false else false else !bif bif cm .geq rd 0 then cm .lss rd 16 else false then bif cm .eql rs 0 then cm .eql n 0 else false else false) then
 .ret (.tup [.str ⟨#[]⟩, .int true .i64 1]) []
 else
 bif (bif cm .eql w 8 then allB [decide (0 ≤ 3), decide (0 ≤ 2), decide (0 ≤ 3)] else allB [decide (0 ≤ 3), decide (0 ≤ 2), decide (0 ≤ 3)]) then
 .ret (.tup [(.str (strOf (cat (1 + (ByteArray.mk #[247]).size + 1) (cat (1 + (ByteArray.mk #[247]).size) (cat 1 (nth [bif cm .eql w 8 then ar .or .u8 (ar .or .u8 (ar .or .u8 64 8) (ar .shl .u8 (conv .u8 (ar .shr .i64 6 3)) 2)) (conv .u8 (ar .shr .i64 rd 3)) else ar .or .u8 (ar .or .u8 64 (ar .shl .u8 (conv .u8 (ar .shr .i64 6 3)) 2)) (conv .u8 (ar .shr .i64 rd 3))] 0) (chr (ByteArray.mk #[247]))) (nth [ar .or .u8 (ar .or .u8 192 (ar .shl .u8 (conv .u8 (ar .and .i64 6 7)) 3)) (conv .u8 (ar .and .i64 rd 7))] 0)) (bat n)) (1 + (ByteArray.mk #[247]).size + 1 + Int.toNat 0))), .int true .i64 0]) []
 else .bad) := by kernel_rfl

theorem t7_15 (w : Int) (rd : Int) (rs : Int) (n : Int) : (T7 15 w rd rs n).bare =
    (bif (bif cm .neq w 4 then bif cm .neq w 8 then true else !bif bif cm .geq rd 0 then cm .lss rd 16 else false then bif cm .eql rs 0 then cm .eql n 0 else false else false else !bif bif cm .geq rd 0 then cm .lss rd 16 else false then bif cm .eql rs 0 then cm .eql n 0 else false else false) then
 .ret (.tup [.str ⟨#[]⟩, .int true .i64 1]) []
 else
 bif (bif cm .eql w 8 then allB [decide (0 ≤ 3), decide (0 ≤ 2), decide (0 ≤ 3)] else allB [decide (0 ≤ 3), decide (0 ≤ 2), decide (0 ≤ 3)]) then
 .ret (.tup [(.str (strOf (cat (1 + (ByteArray.mk #[211]).size + 1) (cat (1 + (ByteArray.mk #[211]).size) (cat 1 (nth [bif cm .eql w 8 then ar .or .u8 (ar .or .u8 (ar .or .u8 64 8) (ar .shl .u8 (conv .u8 (ar .shr .i64 4 3)) 2)) (conv .u8 (ar .shr .i64 rd 3)) else ar .or .u8 (ar .or .u8 64 (ar .shl .u8 (conv .u8 (ar .shr .i64 4 3)) 2)) (conv .u8 (ar .shr .i64 rd 3))] 0) (chr (ByteArray.mk #[211]))) (nth [ar .or .u8 (ar .or .u8 192 (ar .shl .u8 (conv .u8 (ar .and .i64 4 7)) 3)) (conv .u8 (ar .and .i64 rd 7))] 0)) (bat n)) (1 + (ByteArray.mk #[211]).size + 1 + Int.toNat 0))), .int true .i64 0]) []
 else .bad) := by kernel_rfl

theorem t7_16 (w : Int) (rd : Int) (rs : Int) (n : Int) : (T7 16 w rd rs n).bare =
    (bif (bif cm .neq w 4 then bif cm .neq w 8 then true else !bif bif cm .geq rd 0 then cm .lss rd 16 else false then bif cm .eql rs 0 then cm .eql n 0 else false else false else !bif bif cm .geq rd 0 then cm .lss rd 16 else false then bif cm .eql rs 0 then cm .eql n 0 else false else false) then
 .ret (.tup [.str ⟨#[]⟩, .int true .i64 1]) []
 else
 bif (bif cm .eql w 8 then allB [decide (0 ≤ 3), decide (0 ≤ 2), decide (0 ≤ 3)] else allB [decide (0 ≤ 3), decide (0 ≤ 2), decide (0 ≤ 3)]) then
 .ret (.tup [(.str (strOf (cat (1 + (ByteArray.mk #[211]).size + 1) (cat (1 + (ByteArray.mk #[211]).size) (cat 1 (nth [bif cm .eql w 8 then ar .or .u8 (ar .or .u8 (ar .or .u8 64 8) (ar .shl .u8 (conv .u8 (ar .shr .i64 5 3)) 2)) (conv .u8 (ar .shr .i64 rd 3)) else ar .or .u8 (ar .or .u8 64 (ar .shl .u8 (conv .u8 (ar .shr .i64 5 3)) 2)) (conv .u8 (ar .shr .i64 rd 3))] 0) (chr (ByteArray.mk #[211]))) (nth [ar .or .u8 (ar .or .u8 192 (ar .shl .u8 (conv .u8 (ar .and .i64 5 7)) 3)) (conv .u8 (ar .and .i64 rd 7))] 0)) (bat n)) (1 + (ByteArray.mk #[211]).size + 1 + Int.toNat 0))), .int true .i64 0]) []
 else .bad) := by kernel_rfl

theorem t7_17 (w : Int) (rd : Int) (rs : Int) (n : Int) : (T7 17 w rd rs n).bare =
    (bif (bif cm .neq w 4 then bif cm .neq w 8 then true else !bif bif cm .geq rd 0 then cm .lss rd 16 else false then bif cm .eql rs 0 then cm .eql n 0 else false else false else !bif bif cm .geq rd 0 then cm .lss rd 16 else false then bif cm .eql rs 0 then cm .eql n 0 else false else false) then
 .ret (.tup [.str ⟨#[]⟩, .int true .i64 1]) []
 else
 bif (bif cm .eql w 8 then allB [decide (0 ≤ 3), decide (0 ≤ 2), decide (0 ≤ 3)] else allB [decide (0 ≤ 3), decide (0 ≤ 2), decide (0 ≤ 3)]) then
 .ret (.tup [(.str (strOf (cat (1 + (ByteArray.mk #[211]).size + 1) (cat (1 + (ByteArray.mk #[211]).size) (cat 1 (nth [bif cm .eql w 8 then ar .or .u8 (ar .or .u8 (ar .or .u8 64 8) (ar .shl .u8 (conv .u8 (ar .shr .i64 7 3)) 2)) (conv .u8 (ar .shr .i64 rd 3)) else ar .or .u8 (ar .or .u8 64 (ar .shl .u8 (conv .u8 (ar .shr .i64 7 3)) 2)) (conv .u8 (ar .shr .i64 rd 3))] 0) (chr (ByteArray.mk #[211]))) (nth [ar .or .u8 (ar .or .u8 192 (ar .shl .u8 (conv .u8 (ar .and .i64 7 7)) 3)) (conv .u8 (ar .and .i64 rd 7))] 0)) (bat n)) (1 + (ByteArray.mk #[211]).size + 1 + Int.toNat 0))), .int true .i64 0]) []
 else .bad) := by kernel_rfl

theorem t7_18 (w : Int) (rd : Int) (rs : Int) (n : Int) : (T7 18 w rd rs n).bare =
    (bif (bif cm .neq w 4 then bif cm .neq w 8 then true else !bif cm .eql rd 0 then bif cm .eql rs 0 then cm .eql n 0 else false else false else !bif cm .eql rd 0 then bif cm .eql rs 0 then cm .eql n 0 else false else false) then
 .ret (.tup [.str ⟨#[]⟩, .int true .i64 1]) []
 else
 bif (bif cm .eql w 8 then allB [decide (0 ≤ 3), decide (0 ≤ 2), decide (0 ≤ 3)] else allB [decide (0 ≤ 3), decide (0 ≤ 2), decide (0 ≤ 3)]) then
 .ret (.tup [(.str (strOf (cat (1 + (ByteArray.mk #[153]).size) (cat 1 (nth [bif cm .eql w 8 then ar .or .u8 (ar .or .u8 (ar .or .u8 64 8) (ar .shl .u8 (conv .u8 (ar .shr .i64 0 3)) 2)) (conv .u8 (ar .shr .i64 0 3)) else ar .or .u8 (ar .or .u8 64 (ar .shl .u8 (conv .u8 (ar .shr .i64 0 3)) 2)) (conv .u8 (ar .shr .i64 0 3))] 0) (chr (ByteArray.mk #[153]))) (bat n)) (1 + (ByteArray.mk #[153]).size + Int.toNat 0))), .int true .i64 0]) []
 else .bad) := by kernel_rfl

theorem t7_19 (w : Int) (rd : Int) (rs : Int) (n : Int) : (T7 19 w rd rs n).bare =
    (bif (bif cm .neq w 4 then bif cm .neq w 8 then true else bif cm .neq w 8 then true else !bif bif cm .geq rd 0 then cm .lss rd 16 else false then bif cm .eql rs 0 then true else false else false else bif cm .neq w 8 then true else !bif bif cm .geq rd 0 then cm .lss rd 16 else false then bif cm .eql rs 0 then true else false else false) then
 .ret (.tup [.str ⟨#[]⟩, .int true .i64 1]) []
 else
 bif (bif !bif cm .geq n (-2147483648) then cm .leq n 2147483647 else false then cm .neq 1 7 else false) then
 .ret (.tup [.str ⟨#[]⟩, .int true .i64 10]) []
 else
 bif (bif cm .eql w 8 then allB [decide (0 ≤ 3), decide (0 ≤ 2), decide (0 ≤ 3)] else allB [decide (0 ≤ 3), decide (0 ≤ 2), decide (0 ≤ 3)]) then
 .ret (.tup [(.str (strOf (cat (1 + (ByteArray.mk #[129]).size + 1) (cat (1 + (ByteArray.mk #[129]).size) (cat 1 (nth [bif cm .eql w 8 then ar .or .u8 (ar .or .u8 (ar .or .u8 64 8) (ar .shl .u8 (conv .u8 (ar .shr .i64 0 3)) 2)) (conv .u8 (ar .shr .i64 rd 3)) else ar .or .u8 (ar .or .u8 64 (ar .shl .u8 (conv .u8 (ar .shr .i64 0 3)) 2)) (conv .u8 (ar .shr .i64 rd 3))] 0) (chr (ByteArray.mk #[129]))) (nth [ar .or .u8 (ar .or .u8 192 (ar .shl .u8 (conv .u8 (ar .and .i64 0 7)) 3)) (conv .u8 (ar .and .i64 rd 7))] 0)) (bat n)) (1 + (ByteArray.mk #[129]).size + 1 + Int.toNat 4))), .int true .i64 0]) []
 else .bad) := by kernel_rfl

theorem t7_20 (w : Int) (rd : Int) (rs : Int) (n : Int) : (T7 20 w rd rs n).bare =
    (bif (bif cm .neq w 4 then bif cm .neq w 8 then true else bif cm .neq w 4 then true else !bif bif cm .geq rd 0 then cm .lss rd 16 else false then bif cm .eql rs 0 then bif cm .geq n 2 then bif cm .leq n 7 then true else bif cm .geq n 12 then cm .leq n 15 else false else bif cm .geq n 12 then cm .leq n 15 else false else false else false else bif cm .neq w 4 then true else !bif bif cm .geq rd 0 then cm .lss rd 16 else false then bif cm .eql rs 0 then bif cm .geq n 2 then bif cm .leq n 7 then true else bif cm .geq n 12 then cm .leq n 15 else false else bif cm .geq n 12 then cm .leq n 15 else false else false else false) then
 .ret (.tup [.str ⟨#[]⟩, .int true .i64 1]) []
 else
 bif (bif cm .eql w 8 then allB [decide (0 ≤ 3), decide (0 ≤ 2), decide (0 ≤ 3)] else allB [decide (0 ≤ 3), decide (0 ≤ 2), decide (0 ≤ 3)]) then
 .ret (.tup [(.str (strOf (cat (1 + (ByteArray.mk #[15, 144]).size + 1) (cat (1 + (ByteArray.mk #[15, 144]).size) (cat 1 (nth [bif cm .eql w 8 then ar .or .u8 (ar .or .u8 (ar .or .u8 64 8) (ar .shl .u8 (conv .u8 (ar .shr .i64 0 3)) 2)) (conv .u8 (ar .shr .i64 rd 3)) else ar .or .u8 (ar .or .u8 64 (ar .shl .u8 (conv .u8 (ar .shr .i64 0 3)) 2)) (conv .u8 (ar .shr .i64 rd 3))] 0) (upd (chr (ByteArray.mk #[15, 144])) (ar .sub .i64 (↑(ByteArray.mk #[15, 144]).size) 1).toNat (ar .add .u8 (chr (ByteArray.mk #[15, 144]) (ar .sub .i64 (↑(ByteArray.mk #[15, 144]).size) 1).toNat) (conv .u8 n)))) (nth [ar .or .u8 (ar .or .u8 192 (ar .shl .u8 (conv .u8 (ar .and .i64 0 7)) 3)) (conv .u8 (ar .and .i64 rd 7))] 0)) (bat n)) (1 + (ByteArray.mk #[15, 144]).size + 1 + Int.toNat 0))), .int true .i64 0]) []
 else .bad) := by kernel_rfl

theorem t7_21 (w : Int) (rd : Int) (rs : Int) (n : Int) : (T7 21 w rd rs n).bare =
    (bif (bif cm .neq w 4 then bif cm .neq w 8 then true else bif cm .neq w 8 then true else !bif bif cm .geq rd 0 then cm .lss rd 16 else false then bif bif cm .geq rs 0 then cm .lss rs 16 else false then cm .eql n 0 else false else false else bif cm .neq w 8 then true else !bif bif cm .geq rd 0 then cm .lss rd 16 else false then bif bif cm .geq rs 0 then cm .lss rs 16 else false then cm .eql n 0 else false else false) then
 .ret (.tup [.str ⟨#[]⟩, .int true .i64 1]) []
 else
 bif (bif cm .eql w 8 then allB [decide (0 ≤ 3), decide (0 ≤ 2), decide (0 ≤ 3)] else allB [decide (0 ≤ 3), decide (0 ≤ 2), decide (0 ≤ 3)]) then
 .ret (.tup [(.str (strOf (cat (1 + (ByteArray.mk #[15, 182]).size + 1) (cat (1 + (ByteArray.mk #[15, 182]).size) (cat 1 (nth [bif cm .eql w 8 then ar .or .u8 (ar .or .u8 (ar .or .u8 64 8) (ar .shl .u8 (conv .u8 (ar .shr .i64 rd 3)) 2)) (conv .u8 (ar .shr .i64 rs 3)) else ar .or .u8 (ar .or .u8 64 (ar .shl .u8 (conv .u8 (ar .shr .i64 rd 3)) 2)) (conv .u8 (ar .shr .i64 rs 3))] 0) (chr (ByteArray.mk #[15, 182]))) (nth [ar .or .u8 (ar .or .u8 192 (ar .shl .u8 (conv .u8 (ar .and .i64 rd 7)) 3)) (conv .u8 (ar .and .i64 rs 7))] 0)) (bat n)) (1 + (ByteArray.mk #[15, 182]).size + 1 + Int.toNat 0))), .int true .i64 0]) []
 else .bad) := by kernel_rfl

theorem t7_22 (w : Int) (rd : Int) (rs : Int) (n : Int) : (T7 22 w rd rs n).bare =
    (bif (bif cm .neq w 4 then bif cm .neq w 8 then true else bif cm .neq w 8 then true else !bif bif cm .geq rd 0 then cm .lss rd 16 else false then bif bif cm .geq rs 0 then cm .lss rs 16 else false then cm .eql n 0 else false else false else bif cm .neq w 8 then true else !bif bif cm .geq rd 0 then cm .lss rd 16 else false then bif bif cm .geq rs 0 then cm .lss rs 16 else false then cm .eql n 0 else false else false) then
 .ret (.tup [.str ⟨#[]⟩, .int true .i64 1]) []
 else
 bif (bif cm .eql w 8 then allB [decide (0 ≤ 3), decide (0 ≤ 2), decide (0 ≤ 3)] else allB [decide (0 ≤ 3), decide (0 ≤ 2), decide (0 ≤ 3)]) then
 .ret (.tup [(.str (strOf (cat (1 + (ByteArray.mk #[15, 183]).size + 1) (cat (1 + (ByteArray.mk #[15, 183]).size) (cat 1 (nth [bif cm .eql w 8 then ar .or .u8 (ar .or .u8 (ar .or .u8 64 8) (ar .shl .u8 (conv .u8 (ar .shr .i64 rd 3)) 2)) (conv .u8 (ar .shr .i64 rs 3)) else ar .or .u8 (ar .or .u8 64 (ar .shl .u8 (conv .u8 (ar .shr .i64 rd 3)) 2)) (conv .u8 (ar .shr .i64 rs 3))] 0) (chr (ByteArray.mk #[15, 183]))) (nth [ar .or .u8 (ar .or .u8 192 (ar .shl .u8 (conv .u8 (ar .and .i64 rd 7)) 3)) (conv .u8 (ar .and .i64 rs 7))] 0)) (bat n)) (1 + (ByteArray.mk #[15, 183]).size + 1 + Int.toNat 0))), .int true .i64 0]) []
 else .bad) := by kernel_rfl

theorem t7_23 (w : Int) (rd : Int) (rs : Int) (n : Int) : (T7 23 w rd rs n).bare =
    (bif (bif cm .neq w 4 then bif cm .neq w 8 then true else bif cm .neq w 8 then true else !bif bif cm .geq rd 0 then cm .lss rd 16 else false then bif bif cm .geq rs 0 then cm .lss rs 16 else false then cm .eql n 0 else false else false else bif cm .neq w 8 then true else !bif bif cm .geq rd 0 then cm .lss rd 16 else false then bif bif cm .geq rs 0 then cm .lss rs 16 else false then cm .eql n 0 else false else false) then
 .ret (.tup [.str ⟨#[]⟩, .int true .i64 1]) []
 else
 bif (bif cm .eql w 8 then allB [decide (0 ≤ 3), decide (0 ≤ 2), decide (0 ≤ 3)] else allB [decide (0 ≤ 3), decide (0 ≤ 2), decide (0 ≤ 3)]) then
 .ret (.tup [(.str (strOf (cat (1 + (ByteArray.mk #[15, 190]).size + 1) (cat (1 + (ByteArray.mk #[15, 190]).size) (cat 1 (nth [bif cm .eql w 8 then ar .or .u8 (ar .or .u8 (ar .or .u8 64 8) (ar .shl .u8 (conv .u8 (ar .shr .i64 rd 3)) 2)) (conv .u8 (ar .shr .i64 rs 3)) else ar .or .u8 (ar .or .u8 64 (ar .shl .u8 (conv .u8 (ar .shr .i64 rd 3)) 2)) (conv .u8 (ar .shr .i64 rs 3))] 0) (chr (ByteArray.mk #[15, 190]))) (nth [ar .or .u8 (ar .or .u8 192 (ar .shl .u8 (conv .u8 (ar .and .i64 rd 7)) 3)) (conv .u8 (ar .and .i64 rs 7))] 0)) (bat n)) (1 + (ByteArray.mk #[15, 190]).size + 1 + Int.toNat 0))), .int true .i64 0]) []
 else .bad) := by kernel_rfl

theorem t7_24 (w : Int) (rd : Int) (rs : Int) (n : Int) : (T7 24 w rd rs n).bare =
    (bif (bif cm .neq w 4 then bif cm .neq w 8 then true else bif cm .neq w 8 then true else !bif bif cm .geq rd 0 then cm .lss rd 16 else false then bif bif cm .geq rs 0 then cm .lss rs 16 else false then cm .eql n 0 else false else false else bif cm .neq w 8 then true else !bif bif cm .geq rd 0 then cm .lss rd 16 else false then bif bif cm .geq rs 0 then cm .lss rs 16 else false then cm .eql n 0 else false else false) then
 .ret (.tup [.str ⟨#[]⟩, .int true .i64 1]) []
 else
 bif (bif cm .eql w 8 then allB [decide (0 ≤ 3), decide (0 ≤ 2), decide (0 ≤ 3)] else allB [decide (0 ≤ 3), decide (0 ≤ 2), decide (0 ≤ 3)]) then
 .ret (.tup [(.str (strOf (cat (1 + (ByteArray.mk #[15, 191]).size + 1) (cat (1 + (ByteArray.mk #[15, 191]).size) (cat 1 (nth [bif cm .eql w 8 then ar .or .u8 (ar .or .u8 (ar .or .u8 64 8) (ar .shl .u8 (conv .u8 (ar .shr .i64 rd 3)) 2)) (conv .u8 (ar .shr .i64 rs 3)) else ar .or .u8 (ar .or .u8 64 (ar .shl .u8 (conv .u8 (ar .shr .i64 rd 3)) 2)) (conv .u8 (ar .shr .i64 rs 3))] 0) (chr (ByteArray.mk #[15, 191]))) (nth [ar .or .u8 (ar .or .u8 192 (ar .shl .u8 (conv .u8 (ar .and .i64 rd 7)) 3)) (conv .u8 (ar .and .i64 rs 7))] 0)) (bat n)) (1 + (ByteArray.mk #[15, 191]).size + 1 + Int.toNat 0))), .int true .i64 0]) []
 else .bad) := by kernel_rfl

end Go.X
end

section
set_option linter.unusedVariables false
open Go Go.Ev Go.Proofs
namespace Go.X

attribute [local irreducible] evalF Lf.gives in
theorem enc7_13 (w rd rs n : Int) : (T7 13 w rd rs n).leaf.gives (.tup [.str (strX 13 w rd rs n), .int false .i64 (errX 13 w rd rs n)]) := by
  have hE : errX 13 w rd rs n = (bif (decide (w = 4) || decide (w = 8)) && ((true || decide (w = 0)) && (regX rd && (decide (rs = 0) && (false || decide (n = 0))))) then (bif ((true) || false) then 0 else 10) else 1) := by kernel_rfl
  refine gives_tree (t7_13 w rd rs n) ?_
  refine gives_cond (fun h1 => ?_) (fun h1 => ?_)
  · have hA : ((decide (w = 4) || decide (w = 8)) && ((true || decide (w = 0)) && (regX rd && (decide (rs = 0) && (false || decide (n = 0)))))) = false := by
      simp [cms] at h1 ⊢
      first | done | omega | (split at h1 <;> omega) | ((repeat' split at h1) <;> omega) | skip
    have he : errX 13 w rd rs n = 1 := by rw [hE, hA]; rfl
    exact givesE (strX_bad he (by decide)) he.symm
  · have hA : ((decide (w = 4) || decide (w = 8)) && ((true || decide (w = 0)) && (regX rd && (decide (rs = 0) && (false || decide (n = 0)))))) = true := by
      simp [cms] at h1 ⊢
      first | done | omega | (split at h1 <;> omega) | ((repeat' split at h1) <;> omega) | skip
    have he : errX 13 w rd rs n = 0 := by rw [hE, hA]; rfl
    refine gives_cond (fun _ => ?_) (fun h3 => ?_)
    case refine_2 => exfalso; revert h3; cases cm .eql w 8 <;> simp [allB]
    have hrd : small rd := by simp [regX] at hA; simp only [small]; omega
    have hw : w = 4 ∨ w = 8 := by simp at hA; omega
    refine givesE ?_ he.symm
    rw [strX_ok he, strOf_S]
    exact congrArg S (Eq.trans (b := [rexA w 7 rd, 247, modA 192 7 rd]) (by kernel_rfl) (Eq.trans (b := [rexI w 0 rd, 247, modI 192 7 rd]) (by rw [rexA_eq hw (by decide : small 7) hrd, modA_eq (.inl rfl) (by decide : small 7) hrd] <;> rfl) (by kernel_rfl)))

attribute [local irreducible] evalF Lf.gives in
theorem enc7_14 (w rd rs n : Int) : (T7 14 w rd rs n).leaf.gives (.tup [.str (strX 14 w rd rs n), .int false .i64 (errX 14 w rd rs n)]) := by
  have hE : errX 14 w rd rs n = (bif (decide (w = 4) || decide (w = 8)) && ((true || decide (w = 0)) && (regX rd && (decide (rs = 0) && (false || decide (n = 0))))) then (bif ((true) || false) then 0 else 10) else 1) := by kernel_rfl
  refine gives_tree (t7_14 w rd rs n) ?_
  refine gives_cond (fun h1 => ?_) (fun h1 => ?_)
  · have hA : ((decide (w = 4) || decide (w = 8)) && ((true || decide (w = 0)) && (regX rd && (decide (rs = 0) && (false || decide (n = 0)))))) = false := by
      simp [cms] at h1 ⊢
      first | done | omega | (split at h1 <;> omega) | ((repeat' split at h1) <;> omega) | skip
    have he : errX 14 w rd rs n = 1 := by rw [hE, hA]; rfl
    exact givesE (strX_bad he (by decide)) he.symm
  · have hA : ((decide (w = 4) || decide (w = 8)) && ((true || decide (w = 0)) && (regX rd && (decide (rs = 0) && (false || decide (n = 0)))))) = true := by
      simp [cms] at h1 ⊢
      first | done | omega | (split at h1 <;> omega) | ((repeat' split at h1) <;> omega) | skip
    have he : errX 14 w rd rs n = 0 := by rw [hE, hA]; rfl
    refine gives_cond (fun _ => ?_) (fun h3 => ?_)
    case refine_2 => exfalso; revert h3; cases cm .eql w 8 <;> simp [allB]
    have hrd : small rd := by simp [regX] at hA; simp only [small]; omega
    have hw : w = 4 ∨ w = 8 := by simp at hA; omega
    refine givesE ?_ he.symm
    rw [strX_ok he, strOf_S]
    exact congrArg S (Eq.trans (b := [rexA w 6 rd, 247, modA 192 6 rd]) (by kernel_rfl) (Eq.trans (b := [rexI w 0 rd, 247, modI 192 6 rd]) (by rw [rexA_eq hw (by decide : small 6) hrd, modA_eq (.inl rfl) (by decide : small 6) hrd] <;> rfl) (by kernel_rfl)))

attribute [local irreducible] evalF Lf.gives in
theorem enc7_15 (w rd rs n : Int) : (T7 15 w rd rs n).leaf.gives (.tup [.str (strX 15 w rd rs n), .int false .i64 (errX 15 w rd rs n)]) := by
  have hE : errX 15 w rd rs n = (bif (decide (w = 4) || decide (w = 8)) && ((true || decide (w = 0)) && (regX rd && (decide (rs = 0) && (false || decide (n = 0))))) then (bif ((true) || false) then 0 else 10) else 1) := by kernel_rfl
  refine gives_tree (t7_15 w rd rs n) ?_
  refine gives_cond (fun h1 => ?_) (fun h1 => ?_)
  · have hA : ((decide (w = 4) || decide (w = 8)) && ((true || decide (w = 0)) && (regX rd && (decide (rs = 0) && (false || decide (n = 0)))))) = false := by
      simp [cms] at h1 ⊢
      first | done | omega | (split at h1 <;> omega) | ((repeat' split at h1) <;> omega) | skip
    have he : errX 15 w rd rs n = 1 := by rw [hE, hA]; rfl
    exact givesE (strX_bad he (by decide)) he.symm
  · have hA : ((decide (w = 4) || decide (w = 8)) && ((true || decide (w = 0)) && (regX rd && (decide (rs = 0) && (false || decide (n = 0)))))) = true := by
      simp [cms] at h1 ⊢
      first | done | omega | (split at h1 <;> omega) | ((repeat' split at h1) <;> omega) | skip
    have he : errX 15 w rd rs n = 0 := by rw [hE, hA]; rfl
    refine gives_cond (fun _ => ?_) (fun h3 => ?_)
    case refine_2 => exfalso; revert h3; cases cm .eql w 8 <;> simp [allB]
    have hrd : small rd := by simp [regX] at hA; simp only [small]; omega
    have hw : w = 4 ∨ w = 8 := by simp at hA; omega
    refine givesE ?_ he.symm
    rw [strX_ok he, strOf_S]
    exact congrArg S (Eq.trans (b := [rexA w 4 rd, 211, modA 192 4 rd]) (by kernel_rfl) (Eq.trans (b := [rexI w 0 rd, 211, modI 192 4 rd]) (by rw [rexA_eq hw (by decide : small 4) hrd, modA_eq (.inl rfl) (by decide : small 4) hrd] <;> rfl) (by kernel_rfl)))

attribute [local irreducible] evalF Lf.gives in
theorem enc7_16 (w rd rs n : Int) : (T7 16 w rd rs n).leaf.gives (.tup [.str (strX 16 w rd rs n), .int false .i64 (errX 16 w rd rs n)]) := by
  have hE : errX 16 w rd rs n = (bif (decide (w = 4) || decide (w = 8)) && ((true || decide (w = 0)) && (regX rd && (decide (rs = 0) && (false || decide (n = 0))))) then (bif ((true) || false) then 0 else 10) else 1) := by kernel_rfl
  refine gives_tree (t7_16 w rd rs n) ?_
  refine gives_cond (fun h1 => ?_) (fun h1 => ?_)
  · have hA : ((decide (w = 4) || decide (w = 8)) && ((true || decide (w = 0)) && (regX rd && (decide (rs = 0) && (false || decide (n = 0)))))) = false := by
      simp [cms] at h1 ⊢
      first | done | omega | (split at h1 <;> omega) | ((repeat' split at h1) <;> omega) | skip
    have he : errX 16 w rd rs n = 1 := by rw [hE, hA]; rfl
    exact givesE (strX_bad he (by decide)) he.symm
  · have hA : ((decide (w = 4) || decide (w = 8)) && ((true || decide (w = 0)) && (regX rd && (decide (rs = 0) && (false || decide (n = 0)))))) = true := by
      simp [cms] at h1 ⊢
      first | done | omega | (split at h1 <;> omega) | ((repeat' split at h1) <;> omega) | skip
    have he : errX 16 w rd rs n = 0 := by rw [hE, hA]; rfl
    refine gives_cond (fun _ => ?_) (fun h3 => ?_)
    case refine_2 => exfalso; revert h3; cases cm .eql w 8 <;> simp [allB]
    have hrd : small rd := by simp [regX] at hA; simp only [small]; omega
    have hw : w = 4 ∨ w = 8 := by simp at hA; omega
    refine givesE ?_ he.symm
    rw [strX_ok he, strOf_S]
    exact congrArg S (Eq.trans (b := [rexA w 5 rd, 211, modA 192 5 rd]) (by kernel_rfl) (Eq.trans (b := [rexI w 0 rd, 211, modI 192 5 rd]) (by rw [rexA_eq hw (by decide : small 5) hrd, modA_eq (.inl rfl) (by decide : small 5) hrd] <;> rfl) (by kernel_rfl)))

attribute [local irreducible] evalF Lf.gives in
theorem enc7_17 (w rd rs n : Int) : (T7 17 w rd rs n).leaf.gives (.tup [.str (strX 17 w rd rs n), .int false .i64 (errX 17 w rd rs n)]) := by
  have hE : errX 17 w rd rs n = (bif (decide (w = 4) || decide (w = 8)) && ((true || decide (w = 0)) && (regX rd && (decide (rs = 0) && (false || decide (n = 0))))) then (bif ((true) || false) then 0 else 10) else 1) := by kernel_rfl
  refine gives_tree (t7_17 w rd rs n) ?_
  refine gives_cond (fun h1 => ?_) (fun h1 => ?_)
  · have hA : ((decide (w = 4) || decide (w = 8)) && ((true || decide (w = 0)) && (regX rd && (decide (rs = 0) && (false || decide (n = 0)))))) = false := by
      simp [cms] at h1 ⊢
      first | done | omega | (split at h1 <;> omega) | ((repeat' split at h1) <;> omega) | skip
    have he : errX 17 w rd rs n = 1 := by rw [hE, hA]; rfl
    exact givesE (strX_bad he (by decide)) he.symm
  · have hA : ((decide (w = 4) || decide (w = 8)) && ((true || decide (w = 0)) && (regX rd && (decide (rs = 0) && (false || decide (n = 0)))))) = true := by
      simp [cms] at h1 ⊢
      first | done | omega | (split at h1 <;> omega) | ((repeat' split at h1) <;> omega) | skip
    have he : errX 17 w rd rs n = 0 := by rw [hE, hA]; rfl
    refine gives_cond (fun _ => ?_) (fun h3 => ?_)
    case refine_2 => exfalso; revert h3; cases cm .eql w 8 <;> simp [allB]
    have hrd : small rd := by simp [regX] at hA; simp only [small]; omega
    have hw : w = 4 ∨ w = 8 := by simp at hA; omega
    refine givesE ?_ he.symm
    rw [strX_ok he, strOf_S]
    exact congrArg S (Eq.trans (b := [rexA w 7 rd, 211, modA 192 7 rd]) (by kernel_rfl) (Eq.trans (b := [rexI w 0 rd, 211, modI 192 7 rd]) (by rw [rexA_eq hw (by decide : small 7) hrd, modA_eq (.inl rfl) (by decide : small 7) hrd] <;> rfl) (by kernel_rfl)))

attribute [local irreducible] evalF Lf.gives in
theorem enc7_18 (w rd rs n : Int) : (T7 18 w rd rs n).leaf.gives (.tup [.str (strX 18 w rd rs n), .int false .i64 (errX 18 w rd rs n)]) := by
  have hE : errX 18 w rd rs n = (bif (decide (w = 4) || decide (w = 8)) && ((true || decide (w = 0)) && (decide (rd = 0) && (decide (rs = 0) && decide (n = 0)))) then (bif ((true) || false) then 0 else 10) else 1) := by kernel_rfl
  refine gives_tree (t7_18 w rd rs n) ?_
  refine gives_cond (fun h1 => ?_) (fun h1 => ?_)
  · have hA : ((decide (w = 4) || decide (w = 8)) && ((true || decide (w = 0)) && (decide (rd = 0) && (decide (rs = 0) && decide (n = 0))))) = false := by
      simp [cms] at h1 ⊢
      first | done | omega | (split at h1 <;> omega) | ((repeat' split at h1) <;> omega) | skip
    have he : errX 18 w rd rs n = 1 := by rw [hE, hA]; rfl
    exact givesE (strX_bad he (by decide)) he.symm
  · have hA : ((decide (w = 4) || decide (w = 8)) && ((true || decide (w = 0)) && (decide (rd = 0) && (decide (rs = 0) && decide (n = 0))))) = true := by
      simp [cms] at h1 ⊢
      first | done | omega | (split at h1 <;> omega) | ((repeat' split at h1) <;> omega) | skip
    have he : errX 18 w rd rs n = 0 := by rw [hE, hA]; rfl
    refine gives_cond (fun _ => ?_) (fun h3 => ?_)
    case refine_2 => exfalso; revert h3; cases cm .eql w 8 <;> simp [allB]
    have hw : w = 4 ∨ w = 8 := by simp at hA; omega
    refine givesE ?_ he.symm
    rw [strX_ok he, strOf_S]
    exact congrArg S (Eq.trans (b := [rexA w 0 0, 153]) (by kernel_rfl) (Eq.trans (b := [rexI w 0 0, 153]) (by rw [rexA_eq hw (by decide : small 0) (by decide : small 0)]) (by kernel_rfl)))

attribute [local irreducible] evalF Lf.gives in
theorem enc7_19 (w rd rs n : Int) : (T7 19 w rd rs n).leaf.gives (.tup [.str (strX 19 w rd rs n), .int false .i64 (errX 19 w rd rs n)]) := by
  have hE : errX 19 w rd rs n = (bif (decide (w = 4) || decide (w = 8)) && ((false || decide (w = 8)) && (regX rd && (decide (rs = 0) && (true || decide (n = 0))))) then (bif ((decide (-2147483648 ≤ n) && decide (n ≤ 2147483647)) || false) then 0 else 10) else 1) := by kernel_rfl
  refine gives_tree (t7_19 w rd rs n) ?_
  refine gives_cond (fun h1 => ?_) (fun h1 => ?_)
  · have hA : ((decide (w = 4) || decide (w = 8)) && ((false || decide (w = 8)) && (regX rd && (decide (rs = 0) && (true || decide (n = 0)))))) = false := by
      simp [cms] at h1 ⊢
      first | done | omega | (split at h1 <;> omega) | ((repeat' split at h1) <;> omega) | skip
    have he : errX 19 w rd rs n = 1 := by rw [hE, hA]; rfl
    exact givesE (strX_bad he (by decide)) he.symm
  · have hA : ((decide (w = 4) || decide (w = 8)) && ((false || decide (w = 8)) && (regX rd && (decide (rs = 0) && (true || decide (n = 0)))))) = true := by
      simp [cms] at h1 ⊢
      first | done | omega | (split at h1 <;> omega) | ((repeat' split at h1) <;> omega) | skip
    refine gives_cond (fun h2 => ?_) (fun h2 => ?_)
    · have hF : ((decide (-2147483648 ≤ n) && decide (n ≤ 2147483647)) || false) = false := by
        simp [cms] at h2 ⊢
        first | done | omega | skip
      have he : errX 19 w rd rs n = 10 := by rw [hE, hA, hF]; rfl
      exact givesE (strX_bad he (by decide)) he.symm
    · have hF : ((decide (-2147483648 ≤ n) && decide (n ≤ 2147483647)) || false) = true := by
        simp [cms] at h2 ⊢
        first | done | omega | skip
      have he : errX 19 w rd rs n = 0 := by rw [hE, hA, hF]; rfl
      refine gives_cond (fun _ => ?_) (fun h3 => ?_)
      case refine_2 => exfalso; revert h3; cases cm .eql w 8 <;> simp [allB]
      have hrd : small rd := by simp [regX] at hA; simp only [small]; omega
      have hw : w = 4 ∨ w = 8 := by simp at hA; omega
      refine givesE ?_ he.symm
      rw [strX_ok he, strOf_S]
      exact congrArg S (Eq.trans (b := [rexA w 0 rd, 129, modA 192 0 rd, bat n 0, bat n 1, bat n 2, bat n 3]) (by kernel_rfl) (Eq.trans (b := [rexI w 0 rd, 129, modI 192 0 rd, bat n 0, bat n 1, bat n 2, bat n 3]) (by rw [rexA_eq hw (by decide : small 0) hrd, modA_eq (.inl rfl) (by decide : small 0) hrd] <;> rfl) (by kernel_rfl)))

attribute [local irreducible] evalF Lf.gives in
theorem enc7_20 (w rd rs n : Int) : (T7 20 w rd rs n).leaf.gives (.tup [.str (strX 20 w rd rs n), .int false .i64 (errX 20 w rd rs n)]) := by
  have hE : errX 20 w rd rs n = (bif (decide (w = 4) || decide (w = 8)) && ((false || decide (w = 4)) && (regX rd && (decide (rs = 0) && condX n))) then (bif ((true) || true) then 0 else 10) else 1) := by kernel_rfl
  refine gives_tree (t7_20 w rd rs n) ?_
  refine gives_cond (fun h1 => ?_) (fun h1 => ?_)
  · have hA : ((decide (w = 4) || decide (w = 8)) && ((false || decide (w = 4)) && (regX rd && (decide (rs = 0) && condX n)))) = false := by
      simp [cms] at h1 ⊢
      first | done | omega | (split at h1 <;> omega) | ((repeat' split at h1) <;> omega) | skip
    have he : errX 20 w rd rs n = 1 := by rw [hE, hA]; rfl
    exact givesE (strX_bad he (by decide)) he.symm
  · have hA : ((decide (w = 4) || decide (w = 8)) && ((false || decide (w = 4)) && (regX rd && (decide (rs = 0) && condX n)))) = true := by
      simp [cms] at h1 ⊢
      first | done | omega | (split at h1 <;> omega) | ((repeat' split at h1) <;> omega) | skip
    have he : errX 20 w rd rs n = 0 := by rw [hE, hA]; rfl
    refine gives_cond (fun _ => ?_) (fun h3 => ?_)
    case refine_2 => exfalso; revert h3; cases cm .eql w 8 <;> simp [allB]
    have hrd : small rd := by simp [regX] at hA; simp only [small]; omega
    have hcn : small n := by simp [regX, condX] at hA; simp only [small]; omega
    have hw : w = 4 ∨ w = 8 := by simp at hA; omega
    refine givesE ?_ he.symm
    rw [strX_ok he, strOf_S]
    exact congrArg S (Eq.trans (b := [rexA w 0 rd, 15, ar .add .u8 144 (conv .u8 n), modA 192 0 rd]) (by kernel_rfl) (Eq.trans (b := [rexI w 0 rd, 15, 144 + n, modI 192 0 rd]) (by rw [rexA_eq hw (by decide : small 0) hrd, addCond (by decide) hcn, modA_eq (.inl rfl) (by decide : small 0) hrd]) (by kernel_rfl)))

attribute [local irreducible] evalF Lf.gives in
theorem enc7_21 (w rd rs n : Int) : (T7 21 w rd rs n).leaf.gives (.tup [.str (strX 21 w rd rs n), .int false .i64 (errX 21 w rd rs n)]) := by
  have hE : errX 21 w rd rs n = (bif (decide (w = 4) || decide (w = 8)) && ((false || decide (w = 8)) && (regX rd && (regX rs && decide (n = 0)))) then (bif ((true) || false) then 0 else 10) else 1) := by kernel_rfl
  refine gives_tree (t7_21 w rd rs n) ?_
  refine gives_cond (fun h1 => ?_) (fun h1 => ?_)
  · have hA : ((decide (w = 4) || decide (w = 8)) && ((false || decide (w = 8)) && (regX rd && (regX rs && decide (n = 0))))) = false := by
      simp [cms] at h1 ⊢
      first | done | omega | (split at h1 <;> omega) | ((repeat' split at h1) <;> omega) | skip
    have he : errX 21 w rd rs n = 1 := by rw [hE, hA]; rfl
    exact givesE (strX_bad he (by decide)) he.symm
  · have hA : ((decide (w = 4) || decide (w = 8)) && ((false || decide (w = 8)) && (regX rd && (regX rs && decide (n = 0))))) = true := by
      simp [cms] at h1 ⊢
      first | done | omega | (split at h1 <;> omega) | ((repeat' split at h1) <;> omega) | skip
    have he : errX 21 w rd rs n = 0 := by rw [hE, hA]; rfl
    refine gives_cond (fun _ => ?_) (fun h3 => ?_)
    case refine_2 => exfalso; revert h3; cases cm .eql w 8 <;> simp [allB]
    have hrd : small rd := by simp [regX] at hA; simp only [small]; omega
    have hrs : small rs := by simp [regX] at hA; simp only [small]; omega
    have hw : w = 4 ∨ w = 8 := by simp at hA; omega
    refine givesE ?_ he.symm
    rw [strX_ok he, strOf_S]
    exact congrArg S (Eq.trans (b := [rexA w rd rs, 15, 182, modA 192 rd rs]) (by kernel_rfl) (Eq.trans (b := [rexI w rd rs, 15, 182, modI 192 rd rs]) (by rw [rexA_eq hw hrd hrs, modA_eq (.inl rfl) hrd hrs]) (by kernel_rfl)))

attribute [local irreducible] evalF Lf.gives in
theorem enc7_22 (w rd rs n : Int) : (T7 22 w rd rs n).leaf.gives (.tup [.str (strX 22 w rd rs n), .int false .i64 (errX 22 w rd rs n)]) := by
  have hE : errX 22 w rd rs n = (bif (decide (w = 4) || decide (w = 8)) && ((false || decide (w = 8)) && (regX rd && (regX rs && decide (n = 0)))) then (bif ((true) || false) then 0 else 10) else 1) := by kernel_rfl
  refine gives_tree (t7_22 w rd rs n) ?_
  refine gives_cond (fun h1 => ?_) (fun h1 => ?_)
  · have hA : ((decide (w = 4) || decide (w = 8)) && ((false || decide (w = 8)) && (regX rd && (regX rs && decide (n = 0))))) = false := by
      simp [cms] at h1 ⊢
      first | done | omega | (split at h1 <;> omega) | ((repeat' split at h1) <;> omega) | skip
    have he : errX 22 w rd rs n = 1 := by rw [hE, hA]; rfl
    exact givesE (strX_bad he (by decide)) he.symm
  · have hA : ((decide (w = 4) || decide (w = 8)) && ((false || decide (w = 8)) && (regX rd && (regX rs && decide (n = 0))))) = true := by
      simp [cms] at h1 ⊢
      first | done | omega | (split at h1 <;> omega) | ((repeat' split at h1) <;> omega) | skip
    have he : errX 22 w rd rs n = 0 := by rw [hE, hA]; rfl
    refine gives_cond (fun _ => ?_) (fun h3 => ?_)
    case refine_2 => exfalso; revert h3; cases cm .eql w 8 <;> simp [allB]
    have hrd : small rd := by simp [regX] at hA; simp only [small]; omega
    have hrs : small rs := by simp [regX] at hA; simp only [small]; omega
    have hw : w = 4 ∨ w = 8 := by simp at hA; omega
    refine givesE ?_ he.symm
    rw [strX_ok he, strOf_S]
    exact congrArg S (Eq.trans (b := [rexA w rd rs, 15, 183, modA 192 rd rs]) (by kernel_rfl) (Eq.trans (b := [rexI w rd rs, 15, 183, modI 192 rd rs]) (by rw [rexA_eq hw hrd hrs, modA_eq (.inl rfl) hrd hrs]) (by kernel_rfl)))

attribute [local irreducible] evalF Lf.gives in
theorem enc7_23 (w rd rs n : Int) : (T7 23 w rd rs n).leaf.gives (.tup [.str (strX 23 w rd rs n), .int false .i64 (errX 23 w rd rs n)]) := by
  have hE : errX 23 w rd rs n = (bif (decide (w = 4) || decide (w = 8)) && ((false || decide (w = 8)) && (regX rd && (regX rs && decide (n = 0)))) then (bif ((true) || false) then 0 else 10) else 1) := by kernel_rfl
  refine gives_tree (t7_23 w rd rs n) ?_
  refine gives_cond (fun h1 => ?_) (fun h1 => ?_)
  · have hA : ((decide (w = 4) || decide (w = 8)) && ((false || decide (w = 8)) && (regX rd && (regX rs && decide (n = 0))))) = false := by
      simp [cms] at h1 ⊢
      first | done | omega | (split at h1 <;> omega) | ((repeat' split at h1) <;> omega) | skip
    have he : errX 23 w rd rs n = 1 := by rw [hE, hA]; rfl
    exact givesE (strX_bad he (by decide)) he.symm
  · have hA : ((decide (w = 4) || decide (w = 8)) && ((false || decide (w = 8)) && (regX rd && (regX rs && decide (n = 0))))) = true := by
      simp [cms] at h1 ⊢
      first | done | omega | (split at h1 <;> omega) | ((repeat' split at h1) <;> omega) | skip
    have he : errX 23 w rd rs n = 0 := by rw [hE, hA]; rfl
    refine gives_cond (fun _ => ?_) (fun h3 => ?_)
    case refine_2 => exfalso; revert h3; cases cm .eql w 8 <;> simp [allB]
    have hrd : small rd := by simp [regX] at hA; simp only [small]; omega
    have hrs : small rs := by simp [regX] at hA; simp only [small]; omega
    have hw : w = 4 ∨ w = 8 := by simp at hA; omega
    refine givesE ?_ he.symm
    rw [strX_ok he, strOf_S]
    exact congrArg S (Eq.trans (b := [rexA w rd rs, 15, 190, modA 192 rd rs]) (by kernel_rfl) (Eq.trans (b := [rexI w rd rs, 15, 190, modI 192 rd rs]) (by rw [rexA_eq hw hrd hrs, modA_eq (.inl rfl) hrd hrs]) (by kernel_rfl)))

attribute [local irreducible] evalF Lf.gives in
theorem enc7_24 (w rd rs n : Int) : (T7 24 w rd rs n).leaf.gives (.tup [.str (strX 24 w rd rs n), .int false .i64 (errX 24 w rd rs n)]) := by
  have hE : errX 24 w rd rs n = (bif (decide (w = 4) || decide (w = 8)) && ((false || decide (w = 8)) && (regX rd && (regX rs && decide (n = 0)))) then (bif ((true) || false) then 0 else 10) else 1) := by kernel_rfl
  refine gives_tree (t7_24 w rd rs n) ?_
  refine gives_cond (fun h1 => ?_) (fun h1 => ?_)
  · have hA : ((decide (w = 4) || decide (w = 8)) && ((false || decide (w = 8)) && (regX rd && (regX rs && decide (n = 0))))) = false := by
      simp [cms] at h1 ⊢
      first | done | omega | (split at h1 <;> omega) | ((repeat' split at h1) <;> omega) | skip
    have he : errX 24 w rd rs n = 1 := by rw [hE, hA]; rfl
    exact givesE (strX_bad he (by decide)) he.symm
  · have hA : ((decide (w = 4) || decide (w = 8)) && ((false || decide (w = 8)) && (regX rd && (regX rs && decide (n = 0))))) = true := by
      simp [cms] at h1 ⊢
      first | done | omega | (split at h1 <;> omega) | ((repeat' split at h1) <;> omega) | skip
    have he : errX 24 w rd rs n = 0 := by rw [hE, hA]; rfl
    refine gives_cond (fun _ => ?_) (fun h3 => ?_)
    case refine_2 => exfalso; revert h3; cases cm .eql w 8 <;> simp [allB]
    have hrd : small rd := by simp [regX] at hA; simp only [small]; omega
    have hrs : small rs := by simp [regX] at hA; simp only [small]; omega
    have hw : w = 4 ∨ w = 8 := by simp at hA; omega
    refine givesE ?_ he.symm
    rw [strX_ok he, strOf_S]
    exact congrArg S (Eq.trans (b := [rexA w rd rs, 15, 191, modA 192 rd rs]) (by kernel_rfl) (Eq.trans (b := [rexI w rd rs, 15, 191, modI 192 rd rs]) (by rw [rexA_eq hw hrd hrs, modA_eq (.inl rfl) hrd hrs]) (by kernel_rfl)))

end Go.X
end

section
set_option linter.unusedVariables false
open Go Go.Ev Go.Proofs
namespace Go.X

theorem t7_25 (w : Int) (rd : Int) (rs : Int) (n : Int) : (T7 25 w rd rs n).bare =
    (bif (bif cm .neq w 4 then bif cm .neq w 8 then true else bif cm .neq w 8 then true else !bif bif cm .geq rd 0 then cm .lss rd 16 else false then bif bif cm .geq rs 0 then cm .lss rs 16 else false then cm .eql n 0 else false else false else bif cm .neq w 8 then true else !bif bif cm .geq rd 0 then cm .lss rd 16 else false then bif bif cm .geq rs 0 then cm .lss rs 16 else false then cm .eql n 0 else false else false) then
 .ret (.tup [.str ⟨#[]⟩, .int true .i64 1]) []
 else
 bif (bif cm .eql w 8 then allB [decide (0 ≤ 3), decide (0 ≤ 2), decide (0 ≤ 3)] else allB [decide (0 ≤ 3), decide (0 ≤ 2), decide (0 ≤ 3)]) then
 .ret (.tup [(.str (strOf (cat (1 + (ByteArray.mk #[99]).size + 1) (cat (1 + (ByteArray.mk #[99]).size) (cat 1 (nth [bif cm .eql w 8 then ar .or .u8 (ar .or .u8 (ar .or .u8 64 8) (ar .shl .u8 (conv .u8 (ar .shr .i64 rd 3)) 2)) (conv .u8 (ar .shr .i64 rs 3)) else ar .or .u8 (ar .or .u8 64 (ar .shl .u8 (conv .u8 (ar .shr .i64 rd 3)) 2)) (conv .u8 (ar .shr .i64 rs 3))] 0) (chr (ByteArray.mk #[99]))) (nth [ar .or .u8 (ar .or .u8 192 (ar .shl .u8 (conv .u8 (ar .and .i64 rd 7)) 3)) (conv .u8 (ar .and .i64 rs 7))] 0)) (bat n)) (1 + (ByteArray.mk #[99]).size + 1 + Int.toNat 0))), .int true .i64 0]) []
 else .bad) := by kernel_rfl

theorem t7_26 (w : Int) (rd : Int) (rs : Int) (n : Int) : (T7 26 w rd rs n).bare =
    (bif (bif cm .neq w 4 then bif cm .neq w 8 then true else bif cm .neq w 8 then true else !bif bif cm .geq rd 0 then cm .lss rd 16 else false then bif bif cm .geq rs 0 then cm .lss rs 16 else false then cm .neq (ar .and .i64 rs 7) 4 else false else false else bif cm .neq w 8 then true else !bif bif cm .geq rd 0 then cm .lss rd 16 else false then bif bif cm .geq rs 0 then cm .lss rs 16 else false then cm .neq (ar .and .i64 rs 7) 4 else false else false) then
 .ret (.tup [.str ⟨#[]⟩, .int true .i64 1]) []
 else
 bif (bif !bif cm .geq n (-2147483648) then cm .leq n 2147483647 else false then cm .neq 2 7 else false) then
 .ret (.tup [.str ⟨#[]⟩, .int true .i64 10]) []
 else
 bif (bif cm .eql w 8 then allB [decide (0 ≤ 3), decide (0 ≤ 2), decide (0 ≤ 3)] else allB [decide (0 ≤ 3), decide (0 ≤ 2), decide (0 ≤ 3)]) then
 .ret (.tup [(.str (strOf (cat (1 + (ByteArray.mk #[139]).size + 1) (cat (1 + (ByteArray.mk #[139]).size) (cat 1 (nth [bif cm .eql w 8 then ar .or .u8 (ar .or .u8 (ar .or .u8 64 8) (ar .shl .u8 (conv .u8 (ar .shr .i64 rd 3)) 2)) (conv .u8 (ar .shr .i64 rs 3)) else ar .or .u8 (ar .or .u8 64 (ar .shl .u8 (conv .u8 (ar .shr .i64 rd 3)) 2)) (conv .u8 (ar .shr .i64 rs 3))] 0) (chr (ByteArray.mk #[139]))) (nth [ar .or .u8 (ar .or .u8 128 (ar .shl .u8 (conv .u8 (ar .and .i64 rd 7)) 3)) (conv .u8 (ar .and .i64 rs 7))] 0)) (bat n)) (1 + (ByteArray.mk #[139]).size + 1 + Int.toNat 4))), .int true .i64 0]) []
 else .bad) := by kernel_rfl

theorem t7_27 (w : Int) (rd : Int) (rs : Int) (n : Int) : (T7 27 w rd rs n).bare =
    (bif (bif cm .neq w 4 then bif cm .neq w 8 then true else bif cm .neq w 4 then true else !bif bif cm .geq rd 0 then cm .lss rd 16 else false then bif bif cm .geq rs 0 then cm .lss rs 16 else false then cm .neq (ar .and .i64 rs 7) 4 else false else false else bif cm .neq w 4 then true else !bif bif cm .geq rd 0 then cm .lss rd 16 else false then bif bif cm .geq rs 0 then cm .lss rs 16 else false then cm .neq (ar .and .i64 rs 7) 4 else false else false) then
 .ret (.tup [.str ⟨#[]⟩, .int true .i64 1]) []
 else
 bif (bif !bif cm .geq n (-2147483648) then cm .leq n 2147483647 else false then cm .neq 2 7 else false) then
 .ret (.tup [.str ⟨#[]⟩, .int true .i64 10]) []
 else
 bif (bif cm .eql w 8 then allB [decide (0 ≤ 3), decide (0 ≤ 2), decide (0 ≤ 3)] else allB [decide (0 ≤ 3), decide (0 ≤ 2), decide (0 ≤ 3)]) then
 .ret (.tup [(.str (strOf (cat (1 + (ByteArray.mk #[139]).size + 1) (cat (1 + (ByteArray.mk #[139]).size) (cat 1 (nth [bif cm .eql w 8 then ar .or .u8 (ar .or .u8 (ar .or .u8 64 8) (ar .shl .u8 (conv .u8 (ar .shr .i64 rd 3)) 2)) (conv .u8 (ar .shr .i64 rs 3)) else ar .or .u8 (ar .or .u8 64 (ar .shl .u8 (conv .u8 (ar .shr .i64 rd 3)) 2)) (conv .u8 (ar .shr .i64 rs 3))] 0) (chr (ByteArray.mk #[139]))) (nth [ar .or .u8 (ar .or .u8 128 (ar .shl .u8 (conv .u8 (ar .and .i64 rd 7)) 3)) (conv .u8 (ar .and .i64 rs 7))] 0)) (bat n)) (1 + (ByteArray.mk #[139]).size + 1 + Int.toNat 4))), .int true .i64 0]) []
 else .bad) := by kernel_rfl

theorem t7_28 (w : Int) (rd : Int) (rs : Int) (n : Int) : (T7 28 w rd rs n).bare =
    (bif (bif cm .neq w 4 then bif cm .neq w 8 then true else bif cm .neq w 8 then true else !bif bif cm .geq rd 0 then cm .lss rd 16 else false then bif bif cm .geq rs 0 then cm .lss rs 16 else false then cm .neq (ar .and .i64 rs 7) 4 else false else false else bif cm .neq w 8 then true else !bif bif cm .geq rd 0 then cm .lss rd 16 else false then bif bif cm .geq rs 0 then cm .lss rs 16 else false then cm .neq (ar .and .i64 rs 7) 4 else false else false) then
 .ret (.tup [.str ⟨#[]⟩, .int true .i64 1]) []
 else
 bif (bif !bif cm .geq n (-2147483648) then cm .leq n 2147483647 else false then cm .neq 2 7 else false) then
 .ret (.tup [.str ⟨#[]⟩, .int true .i64 10]) []
 else
 bif (bif cm .eql w 8 then allB [decide (0 ≤ 3), decide (0 ≤ 2), decide (0 ≤ 3)] else allB [decide (0 ≤ 3), decide (0 ≤ 2), decide (0 ≤ 3)]) then
 .ret (.tup [(.str (strOf (cat (1 + (ByteArray.mk #[99]).size + 1) (cat (1 + (ByteArray.mk #[99]).size) (cat 1 (nth [bif cm .eql w 8 then ar .or .u8 (ar .or .u8 (ar .or .u8 64 8) (ar .shl .u8 (conv .u8 (ar .shr .i64 rd 3)) 2)) (conv .u8 (ar .shr .i64 rs 3)) else ar .or .u8 (ar .or .u8 64 (ar .shl .u8 (conv .u8 (ar .shr .i64 rd 3)) 2)) (conv .u8 (ar .shr .i64 rs 3))] 0) (chr (ByteArray.mk #[99]))) (nth [ar .or .u8 (ar .or .u8 128 (ar .shl .u8 (conv .u8 (ar .and .i64 rd 7)) 3)) (conv .u8 (ar .and .i64 rs 7))] 0)) (bat n)) (1 + (ByteArray.mk #[99]).size + 1 + Int.toNat 4))), .int true .i64 0]) []
 else .bad) := by kernel_rfl

theorem t7_29 (w : Int) (rd : Int) (rs : Int) (n : Int) : (T7 29 w rd rs n).bare =
    (bif (bif cm .neq w 4 then bif cm .neq w 8 then true else bif cm .neq w 8 then true else !bif bif cm .geq rd 0 then cm .lss rd 16 else false then bif bif cm .geq rs 0 then cm .lss rs 16 else false then cm .neq (ar .and .i64 rs 7) 4 else false else false else bif cm .neq w 8 then true else !bif bif cm .geq rd 0 then cm .lss rd 16 else false then bif bif cm .geq rs 0 then cm .lss rs 16 else false then cm .neq (ar .and .i64 rs 7) 4 else false else false) then
 .ret (.tup [.str ⟨#[]⟩, .int true .i64 1]) []
 else
 bif (bif !bif cm .geq n (-2147483648) then cm .leq n 2147483647 else false then cm .neq 2 7 else false) then
 .ret (.tup [.str ⟨#[]⟩, .int true .i64 10]) []
 else
 bif (bif cm .eql w 8 then allB [decide (0 ≤ 3), decide (0 ≤ 2), decide (0 ≤ 3)] else allB [decide (0 ≤ 3), decide (0 ≤ 2), decide (0 ≤ 3)]) then
 .ret (.tup [(.str (strOf (cat (1 + (ByteArray.mk #[15, 191]).size + 1) (cat (1 + (ByteArray.mk #[15, 191]).size) (cat 1 (nth [bif cm .eql w 8 then ar .or .u8 (ar .or .u8 (ar .or .u8 64 8) (ar .shl .u8 (conv .u8 (ar .shr .i64 rd 3)) 2)) (conv .u8 (ar .shr .i64 rs 3)) else ar .or .u8 (ar .or .u8 64 (ar .shl .u8 (conv .u8 (ar .shr .i64 rd 3)) 2)) (conv .u8 (ar .shr .i64 rs 3))] 0) (chr (ByteArray.mk #[15, 191]))) (nth [ar .or .u8 (ar .or .u8 128 (ar .shl .u8 (conv .u8 (ar .and .i64 rd 7)) 3)) (conv .u8 (ar .and .i64 rs 7))] 0)) (bat n)) (1 + (ByteArray.mk #[15, 191]).size + 1 + Int.toNat 4))), .int true .i64 0]) []
 else .bad) := by kernel_rfl

theorem t7_30 (w : Int) (rd : Int) (rs : Int) (n : Int) : (T7 30 w rd rs n).bare =
    (bif (bif cm .neq w 4 then bif cm .neq w 8 then true else bif cm .neq w 8 then true else !bif bif cm .geq rd 0 then cm .lss rd 16 else false then bif bif cm .geq rs 0 then cm .lss rs 16 else false then cm .neq (ar .and .i64 rs 7) 4 else false else false else bif cm .neq w 8 then true else !bif bif cm .geq rd 0 then cm .lss rd 16 else false then bif bif cm .geq rs 0 then cm .lss rs 16 else false then cm .neq (ar .and .i64 rs 7) 4 else false else false) then
 .ret (.tup [.str ⟨#[]⟩, .int true .i64 1]) []
 else
 bif (bif !bif cm .geq n (-2147483648) then cm .leq n 2147483647 else false then cm .neq 2 7 else false) then
 .ret (.tup [.str ⟨#[]⟩, .int true .i64 10]) []
 else
 bif (bif cm .eql w 8 then allB [decide (0 ≤ 3), decide (0 ≤ 2), decide (0 ≤ 3)] else allB [decide (0 ≤ 3), decide (0 ≤ 2), decide (0 ≤ 3)]) then
 .ret (.tup [(.str (strOf (cat (1 + (ByteArray.mk #[15, 190]).size + 1) (cat (1 + (ByteArray.mk #[15, 190]).size) (cat 1 (nth [bif cm .eql w 8 then ar .or .u8 (ar .or .u8 (ar .or .u8 64 8) (ar .shl .u8 (conv .u8 (ar .shr .i64 rd 3)) 2)) (conv .u8 (ar .shr .i64 rs 3)) else ar .or .u8 (ar .or .u8 64 (ar .shl .u8 (conv .u8 (ar .shr .i64 rd 3)) 2)) (conv .u8 (ar .shr .i64 rs 3))] 0) (chr (ByteArray.mk #[15, 190]))) (nth [ar .or .u8 (ar .or .u8 128 (ar .shl .u8 (conv .u8 (ar .and .i64 rd 7)) 3)) (conv .u8 (ar .and .i64 rs 7))] 0)) (bat n)) (1 + (ByteArray.mk #[15, 190]).size + 1 + Int.toNat 4))), .int true .i64 0]) []
 else .bad) := by kernel_rfl

theorem t7_31 (w : Int) (rd : Int) (rs : Int) (n : Int) : (T7 31 w rd rs n).bare =
    (bif (bif cm .neq w 4 then bif cm .neq w 8 then true else bif cm .neq w 8 then true else !bif bif cm .geq rd 0 then cm .lss rd 16 else false then bif bif cm .geq rs 0 then cm .lss rs 16 else false then cm .neq (ar .and .i64 rs 7) 4 else false else false else bif cm .neq w 8 then true else !bif bif cm .geq rd 0 then cm .lss rd 16 else false then bif bif cm .geq rs 0 then cm .lss rs 16 else false then cm .neq (ar .and .i64 rs 7) 4 else false else false) then
 .ret (.tup [.str ⟨#[]⟩, .int true .i64 1]) []
 else
 bif (bif !bif cm .geq n (-2147483648) then cm .leq n 2147483647 else false then cm .neq 2 7 else false) then
 .ret (.tup [.str ⟨#[]⟩, .int true .i64 10]) []
 else
 bif (bif cm .eql w 8 then allB [decide (0 ≤ 3), decide (0 ≤ 2), decide (0 ≤ 3)] else allB [decide (0 ≤ 3), decide (0 ≤ 2), decide (0 ≤ 3)]) then
 .ret (.tup [(.str (strOf (cat (1 + (ByteArray.mk #[15, 183]).size + 1) (cat (1 + (ByteArray.mk #[15, 183]).size) (cat 1 (nth [bif cm .eql w 8 then ar .or .u8 (ar .or .u8 (ar .or .u8 64 8) (ar .shl .u8 (conv .u8 (ar .shr .i64 rd 3)) 2)) (conv .u8 (ar .shr .i64 rs 3)) else ar .or .u8 (ar .or .u8 64 (ar .shl .u8 (conv .u8 (ar .shr .i64 rd 3)) 2)) (conv .u8 (ar .shr .i64 rs 3))] 0) (chr (ByteArray.mk #[15, 183]))) (nth [ar .or .u8 (ar .or .u8 128 (ar .shl .u8 (conv .u8 (ar .and .i64 rd 7)) 3)) (conv .u8 (ar .and .i64 rs 7))] 0)) (bat n)) (1 + (ByteArray.mk #[15, 183]).size + 1 + Int.toNat 4))), .int true .i64 0]) []
 else .bad) := by kernel_rfl

theorem t7_32 (w : Int) (rd : Int) (rs : Int) (n : Int) : (T7 32 w rd rs n).bare =
    (bif (bif cm .neq w 4 then bif cm .neq w 8 then true else bif cm .neq w 8 then true else !bif bif cm .geq rd 0 then cm .lss rd 16 else false then bif bif cm .geq rs 0 then cm .lss rs 16 else false then cm .neq (ar .and .i64 rs 7) 4 else false else false else bif cm .neq w 8 then true else !bif bif cm .geq rd 0 then cm .lss rd 16 else false then bif bif cm .geq rs 0 then cm .lss rs 16 else false then cm .neq (ar .and .i64 rs 7) 4 else false else false) then
 .ret (.tup [.str ⟨#[]⟩, .int true .i64 1]) []
 else
 bif (bif !bif cm .geq n (-2147483648) then cm .leq n 2147483647 else false then cm .neq 2 7 else false) then
 .ret (.tup [.str ⟨#[]⟩, .int true .i64 10]) []
 else
 bif (bif cm .eql w 8 then allB [decide (0 ≤ 3), decide (0 ≤ 2), decide (0 ≤ 3)] else allB [decide (0 ≤ 3), decide (0 ≤ 2), decide (0 ≤ 3)]) then
 .ret (.tup [(.str (strOf (cat (1 + (ByteArray.mk #[15, 182]).size + 1) (cat (1 + (ByteArray.mk #[15, 182]).size) (cat 1 (nth [bif cm .eql w 8 then ar .or .u8 (ar .or .u8 (ar .or .u8 64 8) (ar .shl .u8 (conv .u8 (ar .shr .i64 rd 3)) 2)) (conv .u8 (ar .shr .i64 rs 3)) else ar .or .u8 (ar .or .u8 64 (ar .shl .u8 (conv .u8 (ar .shr .i64 rd 3)) 2)) (conv .u8 (ar .shr .i64 rs 3))] 0) (chr (ByteArray.mk #[15, 182]))) (nth [ar .or .u8 (ar .or .u8 128 (ar .shl .u8 (conv .u8 (ar .and .i64 rd 7)) 3)) (conv .u8 (ar .and .i64 rs 7))] 0)) (bat n)) (1 + (ByteArray.mk #[15, 182]).size + 1 + Int.toNat 4))), .int true .i64 0]) []
 else .bad) := by kernel_rfl

theorem t7_33 (w : Int) (rd : Int) (rs : Int) (n : Int) : (T7 33 w rd rs n).bare =
    (bif (bif cm .neq w 4 then bif cm .neq w 8 then true else bif cm .neq w 8 then true else !bif bif cm .geq rd 0 then cm .lss rd 16 else false then bif bif cm .geq rs 0 then cm .lss rs 16 else false then cm .neq (ar .and .i64 rs 7) 4 else false else false else bif cm .neq w 8 then true else !bif bif cm .geq rd 0 then cm .lss rd 16 else false then bif bif cm .geq rs 0 then cm .lss rs 16 else false then cm .neq (ar .and .i64 rs 7) 4 else false else false) then
 .ret (.tup [.str ⟨#[]⟩, .int true .i64 1]) []
 else
 bif (bif !bif cm .geq n (-2147483648) then cm .leq n 2147483647 else false then cm .neq 2 7 else false) then
 .ret (.tup [.str ⟨#[]⟩, .int true .i64 10]) []
 else
 bif (bif cm .eql w 8 then allB [decide (0 ≤ 3), decide (0 ≤ 2), decide (0 ≤ 3)] else allB [decide (0 ≤ 3), decide (0 ≤ 2), decide (0 ≤ 3)]) then
 .ret (.tup [(.str (strOf (cat (1 + (ByteArray.mk #[137]).size + 1) (cat (1 + (ByteArray.mk #[137]).size) (cat 1 (nth [bif cm .eql w 8 then ar .or .u8 (ar .or .u8 (ar .or .u8 64 8) (ar .shl .u8 (conv .u8 (ar .shr .i64 rd 3)) 2)) (conv .u8 (ar .shr .i64 rs 3)) else ar .or .u8 (ar .or .u8 64 (ar .shl .u8 (conv .u8 (ar .shr .i64 rd 3)) 2)) (conv .u8 (ar .shr .i64 rs 3))] 0) (chr (ByteArray.mk #[137]))) (nth [ar .or .u8 (ar .or .u8 128 (ar .shl .u8 (conv .u8 (ar .and .i64 rd 7)) 3)) (conv .u8 (ar .and .i64 rs 7))] 0)) (bat n)) (1 + (ByteArray.mk #[137]).size + 1 + Int.toNat 4))), .int true .i64 0]) []
 else .bad) := by kernel_rfl

theorem t7_34 (w : Int) (rd : Int) (rs : Int) (n : Int) : (T7 34 w rd rs n).bare =
    (bif (bif cm .neq w 4 then bif cm .neq w 8 then true else bif cm .neq w 4 then true else !bif bif cm .geq rd 0 then cm .lss rd 16 else false then bif bif cm .geq rs 0 then cm .lss rs 16 else false then cm .neq (ar .and .i64 rs 7) 4 else false else false else bif cm .neq w 4 then true else !bif bif cm .geq rd 0 then cm .lss rd 16 else false then bif bif cm .geq rs 0 then cm .lss rs 16 else false then cm .neq (ar .and .i64 rs 7) 4 else false else false) then
 .ret (.tup [.str ⟨#[]⟩, .int true .i64 1]) []
 else
 bif (bif !bif cm .geq n (-2147483648) then cm .leq n 2147483647 else false then cm .neq 2 7 else false) then
 .ret (.tup [.str ⟨#[]⟩, .int true .i64 10]) []
 else
 bif (bif cm .eql w 8 then allB [decide (0 ≤ 3), decide (0 ≤ 2), decide (0 ≤ 3)] else allB [decide (0 ≤ 3), decide (0 ≤ 2), decide (0 ≤ 3)]) then
 .ret (.tup [(.str (strOf (cat (1 + (ByteArray.mk #[137]).size + 1) (cat (1 + (ByteArray.mk #[137]).size) (cat 1 (nth [bif cm .eql w 8 then ar .or .u8 (ar .or .u8 (ar .or .u8 64 8) (ar .shl .u8 (conv .u8 (ar .shr .i64 rd 3)) 2)) (conv .u8 (ar .shr .i64 rs 3)) else ar .or .u8 (ar .or .u8 64 (ar .shl .u8 (conv .u8 (ar .shr .i64 rd 3)) 2)) (conv .u8 (ar .shr .i64 rs 3))] 0) (chr (ByteArray.mk #[137]))) (nth [ar .or .u8 (ar .or .u8 128 (ar .shl .u8 (conv .u8 (ar .and .i64 rd 7)) 3)) (conv .u8 (ar .and .i64 rs 7))] 0)) (bat n)) (1 + (ByteArray.mk #[137]).size + 1 + Int.toNat 4))), .int true .i64 0]) []
 else .bad) := by kernel_rfl

theorem t7_35 (w : Int) (rd : Int) (rs : Int) (n : Int) : (T7 35 w rd rs n).bare =
    (bif (bif cm .neq w 4 then bif cm .neq w 8 then true else bif cm .neq w 4 then true else !bif bif cm .geq rd 0 then cm .lss rd 16 else false then bif bif cm .geq rs 0 then cm .lss rs 16 else false then cm .neq (ar .and .i64 rs 7) 4 else false else false else bif cm .neq w 4 then true else !bif bif cm .geq rd 0 then cm .lss rd 16 else false then bif bif cm .geq rs 0 then cm .lss rs 16 else false then cm .neq (ar .and .i64 rs 7) 4 else false else false) then
 .ret (.tup [.str ⟨#[]⟩, .int true .i64 1]) []
 else
 bif (bif !bif cm .geq n (-2147483648) then cm .leq n 2147483647 else false then cm .neq 2 7 else false) then
 .ret (.tup [.str ⟨#[]⟩, .int true .i64 10]) []
 else
 bif (bif cm .eql w 8 then allB [decide (0 ≤ 3), decide (0 ≤ 2), decide (0 ≤ 3)] else allB [decide (0 ≤ 3), decide (0 ≤ 2), decide (0 ≤ 3)]) then
 .ret (.tup [(.str (strOf (cat (1 + 1 + (ByteArray.mk #[137]).size + 1) (cat (1 + 1 + (ByteArray.mk #[137]).size) (cat (1 + 1) (cat 1 (nth [102] 0) (nth [bif cm .eql w 8 then ar .or .u8 (ar .or .u8 (ar .or .u8 64 8) (ar .shl .u8 (conv .u8 (ar .shr .i64 rd 3)) 2)) (conv .u8 (ar .shr .i64 rs 3)) else ar .or .u8 (ar .or .u8 64 (ar .shl .u8 (conv .u8 (ar .shr .i64 rd 3)) 2)) (conv .u8 (ar .shr .i64 rs 3))] 0)) (chr (ByteArray.mk #[137]))) (nth [ar .or .u8 (ar .or .u8 128 (ar .shl .u8 (conv .u8 (ar .and .i64 rd 7)) 3)) (conv .u8 (ar .and .i64 rs 7))] 0)) (bat n)) (1 + 1 + (ByteArray.mk #[137]).size + 1 + Int.toNat 4))), .int true .i64 0]) []
 else .bad) := by kernel_rfl

theorem t7_36 (w : Int) (rd : Int) (rs : Int) (n : Int) : (T7 36 w rd rs n).bare =
    (bif (bif cm .neq w 4 then bif cm .neq w 8 then true else bif cm .neq w 4 then true else !bif bif cm .geq rd 0 then cm .lss rd 16 else false then bif bif cm .geq rs 0 then cm .lss rs 16 else false then cm .neq (ar .and .i64 rs 7) 4 else false else false else bif cm .neq w 4 then true else !bif bif cm .geq rd 0 then cm .lss rd 16 else false then bif bif cm .geq rs 0 then cm .lss rs 16 else false then cm .neq (ar .and .i64 rs 7) 4 else false else false) then
 .ret (.tup [.str ⟨#[]⟩, .int true .i64 1]) []
 else
 bif (bif !bif cm .geq n (-2147483648) then cm .leq n 2147483647 else false then cm .neq 2 7 else false) then
 .ret (.tup [.str ⟨#[]⟩, .int true .i64 10]) []
 else
 bif (bif cm .eql w 8 then allB [decide (0 ≤ 3), decide (0 ≤ 2), decide (0 ≤ 3)] else allB [decide (0 ≤ 3), decide (0 ≤ 2), decide (0 ≤ 3)]) then
 .ret (.tup [(.str (strOf (cat (1 + (ByteArray.mk #[136]).size + 1) (cat (1 + (ByteArray.mk #[136]).size) (cat 1 (nth [bif cm .eql w 8 then ar .or .u8 (ar .or .u8 (ar .or .u8 64 8) (ar .shl .u8 (conv .u8 (ar .shr .i64 rd 3)) 2)) (conv .u8 (ar .shr .i64 rs 3)) else ar .or .u8 (ar .or .u8 64 (ar .shl .u8 (conv .u8 (ar .shr .i64 rd 3)) 2)) (conv .u8 (ar .shr .i64 rs 3))] 0) (chr (ByteArray.mk #[136]))) (nth [ar .or .u8 (ar .or .u8 128 (ar .shl .u8 (conv .u8 (ar .and .i64 rd 7)) 3)) (conv .u8 (ar .and .i64 rs 7))] 0)) (bat n)) (1 + (ByteArray.mk #[136]).size + 1 + Int.toNat 4))), .int true .i64 0]) []
 else .bad) := by kernel_rfl

end Go.X
end

section
set_option linter.unusedVariables false
open Go Go.Ev Go.Proofs
namespace Go.X

attribute [local irreducible] evalF Lf.gives in
theorem enc7_25 (w rd rs n : Int) : (T7 25 w rd rs n).leaf.gives (.tup [.str (strX 25 w rd rs n), .int false .i64 (errX 25 w rd rs n)]) := by
  have hE : errX 25 w rd rs n = (bif (decide (w = 4) || decide (w = 8)) && ((false || decide (w = 8)) && (regX rd && (regX rs && decide (n = 0)))) then (bif ((true) || false) then 0 else 10) else 1) := by kernel_rfl
  refine gives_tree (t7_25 w rd rs n) ?_
  refine gives_cond (fun h1 => ?_) (fun h1 => ?_)
  · have hA : ((decide (w = 4) || decide (w = 8)) && ((false || decide (w = 8)) && (regX rd && (regX rs && decide (n = 0))))) = false := by
      simp [cms] at h1 ⊢
      first | done | omega | (split at h1 <;> omega) | ((repeat' split at h1) <;> omega) | skip
    have he : errX 25 w rd rs n = 1 := by rw [hE, hA]; rfl
    exact givesE (strX_bad he (by decide)) he.symm
  · have hA : ((decide (w = 4) || decide (w = 8)) && ((false || decide (w = 8)) && (regX rd && (regX rs && decide (n = 0))))) = true := by
      simp [cms] at h1 ⊢
      first | done | omega | (split at h1 <;> omega) | ((repeat' split at h1) <;> omega) | skip
    have he : errX 25 w rd rs n = 0 := by rw [hE, hA]; rfl
    refine gives_cond (fun _ => ?_) (fun h3 => ?_)
    case refine_2 => exfalso; revert h3; cases cm .eql w 8 <;> simp [allB]
    have hrd : small rd := by simp [regX] at hA; simp only [small]; omega
    have hrs : small rs := by simp [regX] at hA; simp only [small]; omega
    have hw : w = 4 ∨ w = 8 := by simp at hA; omega
    refine givesE ?_ he.symm
    rw [strX_ok he, strOf_S]
    exact congrArg S (Eq.trans (b := [rexA w rd rs, 99, modA 192 rd rs]) (by kernel_rfl) (Eq.trans (b := [rexI w rd rs, 99, modI 192 rd rs]) (by rw [rexA_eq hw hrd hrs, modA_eq (.inl rfl) hrd hrs]) (by kernel_rfl)))

attribute [local irreducible] evalF Lf.gives in
theorem enc7_26 (w rd rs n : Int) : (T7 26 w rd rs n).leaf.gives (.tup [.str (strX 26 w rd rs n), .int false .i64 (errX 26 w rd rs n)]) := by
  have hE : errX 26 w rd rs n = (bif (decide (w = 4) || decide (w = 8)) && ((false || decide (w = 8)) && (regX rd && (regX rs && !decide (rs % 8 = 4)))) then (bif ((decide (-2147483648 ≤ n) && decide (n ≤ 2147483647)) || false) then 0 else 10) else 1) := by kernel_rfl
  refine gives_tree (t7_26 w rd rs n) ?_
  refine gives_cond (fun h1 => ?_) (fun h1 => ?_)
  · have hA : ((decide (w = 4) || decide (w = 8)) && ((false || decide (w = 8)) && (regX rd && (regX rs && !decide (rs % 8 = 4))))) = false := by
      simp [cms] at h1 ⊢
      first | done | omega | (split at h1 <;> omega) | ((repeat' split at h1) <;> omega) | skip
    have he : errX 26 w rd rs n = 1 := by rw [hE, hA]; rfl
    exact givesE (strX_bad he (by decide)) he.symm
  · have hA : ((decide (w = 4) || decide (w = 8)) && ((false || decide (w = 8)) && (regX rd && (regX rs && !decide (rs % 8 = 4))))) = true := by
      simp [cms] at h1 ⊢
      first | done | omega | (split at h1 <;> omega) | ((repeat' split at h1) <;> omega) | skip
    refine gives_cond (fun h2 => ?_) (fun h2 => ?_)
    · have hF : ((decide (-2147483648 ≤ n) && decide (n ≤ 2147483647)) || false) = false := by
        simp [cms] at h2 ⊢
        first | done | omega | skip
      have he : errX 26 w rd rs n = 10 := by rw [hE, hA, hF]; rfl
      exact givesE (strX_bad he (by decide)) he.symm
    · have hF : ((decide (-2147483648 ≤ n) && decide (n ≤ 2147483647)) || false) = true := by
        simp [cms] at h2 ⊢
        first | done | omega | skip
      have he : errX 26 w rd rs n = 0 := by rw [hE, hA, hF]; rfl
      refine gives_cond (fun _ => ?_) (fun h3 => ?_)
      case refine_2 => exfalso; revert h3; cases cm .eql w 8 <;> simp [allB]
      have hrd : small rd := by simp [regX] at hA; simp only [small]; omega
      have hrs : small rs := by simp [regX] at hA; simp only [small]; omega
      have hw : w = 4 ∨ w = 8 := by simp at hA; omega
      refine givesE ?_ he.symm
      rw [strX_ok he, strOf_S]
      exact congrArg S (Eq.trans (b := [rexA w rd rs, 139, modA 128 rd rs, bat n 0, bat n 1, bat n 2, bat n 3]) (by kernel_rfl) (Eq.trans (b := [rexI w rd rs, 139, modI 128 rd rs, bat n 0, bat n 1, bat n 2, bat n 3]) (by rw [rexA_eq hw hrd hrs, modA_eq (.inr rfl) hrd hrs]) (by kernel_rfl)))

attribute [local irreducible] evalF Lf.gives in
theorem enc7_27 (w rd rs n : Int) : (T7 27 w rd rs n).leaf.gives (.tup [.str (strX 27 w rd rs n), .int false .i64 (errX 27 w rd rs n)]) := by
  have hE : errX 27 w rd rs n = (bif (decide (w = 4) || decide (w = 8)) && ((false || decide (w = 4)) && (regX rd && (regX rs && !decide (rs % 8 = 4)))) then (bif ((decide (-2147483648 ≤ n) && decide (n ≤ 2147483647)) || false) then 0 else 10) else 1) := by kernel_rfl
  refine gives_tree (t7_27 w rd rs n) ?_
  refine gives_cond (fun h1 => ?_) (fun h1 => ?_)
  · have hA : ((decide (w = 4) || decide (w = 8)) && ((false || decide (w = 4)) && (regX rd && (regX rs && !decide (rs % 8 = 4))))) = false := by
      simp [cms] at h1 ⊢
      first | done | omega | (split at h1 <;> omega) | ((repeat' split at h1) <;> omega) | skip
    have he : errX 27 w rd rs n = 1 := by rw [hE, hA]; rfl
    exact givesE (strX_bad he (by decide)) he.symm
  · have hA : ((decide (w = 4) || decide (w = 8)) && ((false || decide (w = 4)) && (regX rd && (regX rs && !decide (rs % 8 = 4))))) = true := by
      simp [cms] at h1 ⊢
      first | done | omega | (split at h1 <;> omega) | ((repeat' split at h1) <;> omega) | skip
    refine gives_cond (fun h2 => ?_) (fun h2 => ?_)
    · have hF : ((decide (-2147483648 ≤ n) && decide (n ≤ 2147483647)) || false) = false := by
        simp [cms] at h2 ⊢
        first | done | omega | skip
      have he : errX 27 w rd rs n = 10 := by rw [hE, hA, hF]; rfl
      exact givesE (strX_bad he (by decide)) he.symm
    · have hF : ((decide (-2147483648 ≤ n) && decide (n ≤ 2147483647)) || false) = true := by
        simp [cms] at h2 ⊢
        first | done | omega | skip
      have he : errX 27 w rd rs n = 0 := by rw [hE, hA, hF]; rfl
      refine gives_cond (fun _ => ?_) (fun h3 => ?_)
      case refine_2 => exfalso; revert h3; cases cm .eql w 8 <;> simp [allB]
      have hrd : small rd := by simp [regX] at hA; simp only [small]; omega
      have hrs : small rs := by simp [regX] at hA; simp only [small]; omega
      have hw : w = 4 ∨ w = 8 := by simp at hA; omega
      refine givesE ?_ he.symm
      rw [strX_ok he, strOf_S]
      exact congrArg S (Eq.trans (b := [rexA w rd rs, 139, modA 128 rd rs, bat n 0, bat n 1, bat n 2, bat n 3]) (by kernel_rfl) (Eq.trans (b := [rexI w rd rs, 139, modI 128 rd rs, bat n 0, bat n 1, bat n 2, bat n 3]) (by rw [rexA_eq hw hrd hrs, modA_eq (.inr rfl) hrd hrs]) (by kernel_rfl)))

attribute [local irreducible] evalF Lf.gives in
theorem enc7_28 (w rd rs n : Int) : (T7 28 w rd rs n).leaf.gives (.tup [.str (strX 28 w rd rs n), .int false .i64 (errX 28 w rd rs n)]) := by
  have hE : errX 28 w rd rs n = (bif (decide (w = 4) || decide (w = 8)) && ((false || decide (w = 8)) && (regX rd && (regX rs && !decide (rs % 8 = 4)))) then (bif ((decide (-2147483648 ≤ n) && decide (n ≤ 2147483647)) || false) then 0 else 10) else 1) := by kernel_rfl
  refine gives_tree (t7_28 w rd rs n) ?_
  refine gives_cond (fun h1 => ?_) (fun h1 => ?_)
  · have hA : ((decide (w = 4) || decide (w = 8)) && ((false || decide (w = 8)) && (regX rd && (regX rs && !decide (rs % 8 = 4))))) = false := by
      simp [cms] at h1 ⊢
      first | done | omega | (split at h1 <;> omega) | ((repeat' split at h1) <;> omega) | skip
    have he : errX 28 w rd rs n = 1 := by rw [hE, hA]; rfl
    exact givesE (strX_bad he (by decide)) he.symm
  · have hA : ((decide (w = 4) || decide (w = 8)) && ((false || decide (w = 8)) && (regX rd && (regX rs && !decide (rs % 8 = 4))))) = true := by
      simp [cms] at h1 ⊢
      first | done | omega | (split at h1 <;> omega) | ((repeat' split at h1) <;> omega) | skip
    refine gives_cond (fun h2 => ?_) (fun h2 => ?_)
    · have hF : ((decide (-2147483648 ≤ n) && decide (n ≤ 2147483647)) || false) = false := by
        simp [cms] at h2 ⊢
        first | done | omega | skip
      have he : errX 28 w rd rs n = 10 := by rw [hE, hA, hF]; rfl
      exact givesE (strX_bad he (by decide)) he.symm
    · have hF : ((decide (-2147483648 ≤ n) && decide (n ≤ 2147483647)) || false) = true := by
        simp [cms] at h2 ⊢
        first | done | omega | skip
      have he : errX 28 w rd rs n = 0 := by rw [hE, hA, hF]; rfl
      refine gives_cond (fun _ => ?_) (fun h3 => ?_)
      case refine_2 => exfalso; revert h3; cases cm .eql w 8 <;> simp [allB]
      have hrd : small rd := by simp [regX] at hA; simp only [small]; omega
      have hrs : small rs := by simp [regX] at hA; simp only [small]; omega
      have hw : w = 4 ∨ w = 8 := by simp at hA; omega
      refine givesE ?_ he.symm
      rw [strX_ok he, strOf_S]
      exact congrArg S (Eq.trans (b := [rexA w rd rs, 99, modA 128 rd rs, bat n 0, bat n 1, bat n 2, bat n 3]) (by kernel_rfl) (Eq.trans (b := [rexI w rd rs, 99, modI 128 rd rs, bat n 0, bat n 1, bat n 2, bat n 3]) (by rw [rexA_eq hw hrd hrs, modA_eq (.inr rfl) hrd hrs]) (by kernel_rfl)))

attribute [local irreducible] evalF Lf.gives in
theorem enc7_29 (w rd rs n : Int) : (T7 29 w rd rs n).leaf.gives (.tup [.str (strX 29 w rd rs n), .int false .i64 (errX 29 w rd rs n)]) := by
  have hE : errX 29 w rd rs n = (bif (decide (w = 4) || decide (w = 8)) && ((false || decide (w = 8)) && (regX rd && (regX rs && !decide (rs % 8 = 4)))) then (bif ((decide (-2147483648 ≤ n) && decide (n ≤ 2147483647)) || false) then 0 else 10) else 1) := by kernel_rfl
  refine gives_tree (t7_29 w rd rs n) ?_
  refine gives_cond (fun h1 => ?_) (fun h1 => ?_)
  · have hA : ((decide (w = 4) || decide (w = 8)) && ((false || decide (w = 8)) && (regX rd && (regX rs && !decide (rs % 8 = 4))))) = false := by
      simp [cms] at h1 ⊢
      first | done | omega | (split at h1 <;> omega) | ((repeat' split at h1) <;> omega) | skip
    have he : errX 29 w rd rs n = 1 := by rw [hE, hA]; rfl
    exact givesE (strX_bad he (by decide)) he.symm
  · have hA : ((decide (w = 4) || decide (w = 8)) && ((false || decide (w = 8)) && (regX rd && (regX rs && !decide (rs % 8 = 4))))) = true := by
      simp [cms] at h1 ⊢
      first | done | omega | (split at h1 <;> omega) | ((repeat' split at h1) <;> omega) | skip
    refine gives_cond (fun h2 => ?_) (fun h2 => ?_)
    · have hF : ((decide (-2147483648 ≤ n) && decide (n ≤ 2147483647)) || false) = false := by
        simp [cms] at h2 ⊢
        first | done | omega | skip
      have he : errX 29 w rd rs n = 10 := by rw [hE, hA, hF]; rfl
      exact givesE (strX_bad he (by decide)) he.symm
    · have hF : ((decide (-2147483648 ≤ n) && decide (n ≤ 2147483647)) || false) = true := by
        simp [cms] at h2 ⊢
        first | done | omega | skip
      have he : errX 29 w rd rs n = 0 := by rw [hE, hA, hF]; rfl
      refine gives_cond (fun _ => ?_) (fun h3 => ?_)
      case refine_2 => exfalso; revert h3; cases cm .eql w 8 <;> simp [allB]
      have hrd : small rd := by simp [regX] at hA; simp only [small]; omega
      have hrs : small rs := by simp [regX] at hA; simp only [small]; omega
      have hw : w = 4 ∨ w = 8 := by simp at hA; omega
      refine givesE ?_ he.symm
      rw [strX_ok he, strOf_S]
      exact congrArg S (Eq.trans (b := [rexA w rd rs, 15, 191, modA 128 rd rs, bat n 0, bat n 1, bat n 2, bat n 3]) (by kernel_rfl) (Eq.trans (b := [rexI w rd rs, 15, 191, modI 128 rd rs, bat n 0, bat n 1, bat n 2, bat n 3]) (by rw [rexA_eq hw hrd hrs, modA_eq (.inr rfl) hrd hrs]) (by kernel_rfl)))

attribute [local irreducible] evalF Lf.gives in
theorem enc7_30 (w rd rs n : Int) : (T7 30 w rd rs n).leaf.gives (.tup [.str (strX 30 w rd rs n), .int false .i64 (errX 30 w rd rs n)]) := by
  have hE : errX 30 w rd rs n = (bif (decide (w = 4) || decide (w = 8)) && ((false || decide (w = 8)) && (regX rd && (regX rs && !decide (rs % 8 = 4)))) then (bif ((decide (-2147483648 ≤ n) && decide (n ≤ 2147483647)) || false) then 0 else 10) else 1) := by kernel_rfl
  refine gives_tree (t7_30 w rd rs n) ?_
  refine gives_cond (fun h1 => ?_) (fun h1 => ?_)
  · have hA : ((decide (w = 4) || decide (w = 8)) && ((false || decide (w = 8)) && (regX rd && (regX rs && !decide (rs % 8 = 4))))) = false := by
      simp [cms] at h1 ⊢
      first | done | omega | (split at h1 <;> omega) | ((repeat' split at h1) <;> omega) | skip
    have he : errX 30 w rd rs n = 1 := by rw [hE, hA]; rfl
    exact givesE (strX_bad he (by decide)) he.symm
  · have hA : ((decide (w = 4) || decide (w = 8)) && ((false || decide (w = 8)) && (regX rd && (regX rs && !decide (rs % 8 = 4))))) = true := by
      simp [cms] at h1 ⊢
      first | done | omega | (split at h1 <;> omega) | ((repeat' split at h1) <;> omega) | skip
    refine gives_cond (fun h2 => ?_) (fun h2 => ?_)
    · have hF : ((decide (-2147483648 ≤ n) && decide (n ≤ 2147483647)) || false) = false := by
        simp [cms] at h2 ⊢
        first | done | omega | skip
      have he : errX 30 w rd rs n = 10 := by rw [hE, hA, hF]; rfl
      exact givesE (strX_bad he (by decide)) he.symm
    · have hF : ((decide (-2147483648 ≤ n) && decide (n ≤ 2147483647)) || false) = true := by
        simp [cms] at h2 ⊢
        first | done | omega | skip
      have he : errX 30 w rd rs n = 0 := by rw [hE, hA, hF]; rfl
      refine gives_cond (fun _ => ?_) (fun h3 => ?_)
      case refine_2 => exfalso; revert h3; cases cm .eql w 8 <;> simp [allB]
      have hrd : small rd := by simp [regX] at hA; simp only [small]; omega
      have hrs : small rs := by simp [regX] at hA; simp only [small]; omega
      have hw : w = 4 ∨ w = 8 := by simp at hA; omega
      refine givesE ?_ he.symm
      rw [strX_ok he, strOf_S]
      exact congrArg S (Eq.trans (b := [rexA w rd rs, 15, 190, modA 128 rd rs, bat n 0, bat n 1, bat n 2, bat n 3]) (by kernel_rfl) (Eq.trans (b := [rexI w rd rs, 15, 190, modI 128 rd rs, bat n 0, bat n 1, bat n 2, bat n 3]) (by rw [rexA_eq hw hrd hrs, modA_eq (.inr rfl) hrd hrs]) (by kernel_rfl)))

attribute [local irreducible] evalF Lf.gives in
theorem enc7_31 (w rd rs n : Int) : (T7 31 w rd rs n).leaf.gives (.tup [.str (strX 31 w rd rs n), .int false .i64 (errX 31 w rd rs n)]) := by
  have hE : errX 31 w rd rs n = (bif (decide (w = 4) || decide (w = 8)) && ((false || decide (w = 8)) && (regX rd && (regX rs && !decide (rs % 8 = 4)))) then (bif ((decide (-2147483648 ≤ n) && decide (n ≤ 2147483647)) || false) then 0 else 10) else 1) := by kernel_rfl
  refine gives_tree (t7_31 w rd rs n) ?_
  refine gives_cond (fun h1 => ?_) (fun h1 => ?_)
  · have hA : ((decide (w = 4) || decide (w = 8)) && ((false || decide (w = 8)) && (regX rd && (regX rs && !decide (rs % 8 = 4))))) = false := by
      simp [cms] at h1 ⊢
      first | done | omega | (split at h1 <;> omega) | ((repeat' split at h1) <;> omega) | skip
    have he : errX 31 w rd rs n = 1 := by rw [hE, hA]; rfl
    exact givesE (strX_bad he (by decide)) he.symm
  · have hA : ((decide (w = 4) || decide (w = 8)) && ((false || decide (w = 8)) && (regX rd && (regX rs && !decide (rs % 8 = 4))))) = true := by
      simp [cms] at h1 ⊢
      first | done | omega | (split at h1 <;> omega) | ((repeat' split at h1) <;> omega) | skip
    refine gives_cond (fun h2 => ?_) (fun h2 => ?_)
    · have hF : ((decide (-2147483648 ≤ n) && decide (n ≤ 2147483647)) || false) = false := by
        simp [cms] at h2 ⊢
        first | done | omega | skip
      have he : errX 31 w rd rs n = 10 := by rw [hE, hA, hF]; rfl
      exact givesE (strX_bad he (by decide)) he.symm
    · have hF : ((decide (-2147483648 ≤ n) && decide (n ≤ 2147483647)) || false) = true := by
        simp [cms] at h2 ⊢
        first | done | omega | skip
      have he : errX 31 w rd rs n = 0 := by rw [hE, hA, hF]; rfl
      refine gives_cond (fun _ => ?_) (fun h3 => ?_)
      case refine_2 => exfalso; revert h3; cases cm .eql w 8 <;> simp [allB]
      have hrd : small rd := by simp [regX] at hA; simp only [small]; omega
      have hrs : small rs := by simp [regX] at hA; simp only [small]; omega
      have hw : w = 4 ∨ w = 8 := by simp at hA; omega
      refine givesE ?_ he.symm
      rw [strX_ok he, strOf_S]
      exact congrArg S (Eq.trans (b := [rexA w rd rs, 15, 183, modA 128 rd rs, bat n 0, bat n 1, bat n 2, bat n 3]) (by kernel_rfl) (Eq.trans (b := [rexI w rd rs, 15, 183, modI 128 rd rs, bat n 0, bat n 1, bat n 2, bat n 3]) (by rw [rexA_eq hw hrd hrs, modA_eq (.inr rfl) hrd hrs]) (by kernel_rfl)))

attribute [local irreducible] evalF Lf.gives in
theorem enc7_32 (w rd rs n : Int) : (T7 32 w rd rs n).leaf.gives (.tup [.str (strX 32 w rd rs n), .int false .i64 (errX 32 w rd rs n)]) := by
  have hE : errX 32 w rd rs n = (bif (decide (w = 4) || decide (w = 8)) && ((false || decide (w = 8)) && (regX rd && (regX rs && !decide (rs % 8 = 4)))) then (bif ((decide (-2147483648 ≤ n) && decide (n ≤ 2147483647)) || false) then 0 else 10) else 1) := by kernel_rfl
  refine gives_tree (t7_32 w rd rs n) ?_
  refine gives_cond (fun h1 => ?_) (fun h1 => ?_)
  · have hA : ((decide (w = 4) || decide (w = 8)) && ((false || decide (w = 8)) && (regX rd && (regX rs && !decide (rs % 8 = 4))))) = false := by
      simp [cms] at h1 ⊢
      first | done | omega | (split at h1 <;> omega) | ((repeat' split at h1) <;> omega) | skip
    have he : errX 32 w rd rs n = 1 := by rw [hE, hA]; rfl
    exact givesE (strX_bad he (by decide)) he.symm
  · have hA : ((decide (w = 4) || decide (w = 8)) && ((false || decide (w = 8)) && (regX rd && (regX rs && !decide (rs % 8 = 4))))) = true := by
      simp [cms] at h1 ⊢
      first | done | omega | (split at h1 <;> omega) | ((repeat' split at h1) <;> omega) | skip
    refine gives_cond (fun h2 => ?_) (fun h2 => ?_)
    · have hF : ((decide (-2147483648 ≤ n) && decide (n ≤ 2147483647)) || false) = false := by
        simp [cms] at h2 ⊢
        first | done | omega | skip
      have he : errX 32 w rd rs n = 10 := by rw [hE, hA, hF]; rfl
      exact givesE (strX_bad he (by decide)) he.symm
    · have hF : ((decide (-2147483648 ≤ n) && decide (n ≤ 2147483647)) || false) = true := by
        simp [cms] at h2 ⊢
        first | done | omega | skip
      have he : errX 32 w rd rs n = 0 := by rw [hE, hA, hF]; rfl
      refine gives_cond (fun _ => ?_) (fun h3 => ?_)
      case refine_2 => exfalso; revert h3; cases cm .eql w 8 <;> simp [allB]
      have hrd : small rd := by simp [regX] at hA; simp only [small]; omega
      have hrs : small rs := by simp [regX] at hA; simp only [small]; omega
      have hw : w = 4 ∨ w = 8 := by simp at hA; omega
      refine givesE ?_ he.symm
      rw [strX_ok he, strOf_S]
      exact congrArg S (Eq.trans (b := [rexA w rd rs, 15, 182, modA 128 rd rs, bat n 0, bat n 1, bat n 2, bat n 3]) (by kernel_rfl) (Eq.trans (b := [rexI w rd rs, 15, 182, modI 128 rd rs, bat n 0, bat n 1, bat n 2, bat n 3]) (by rw [rexA_eq hw hrd hrs, modA_eq (.inr rfl) hrd hrs]) (by kernel_rfl)))

attribute [local irreducible] evalF Lf.gives in
theorem enc7_33 (w rd rs n : Int) : (T7 33 w rd rs n).leaf.gives (.tup [.str (strX 33 w rd rs n), .int false .i64 (errX 33 w rd rs n)]) := by
  have hE : errX 33 w rd rs n = (bif (decide (w = 4) || decide (w = 8)) && ((false || decide (w = 8)) && (regX rd && (regX rs && !decide (rs % 8 = 4)))) then (bif ((decide (-2147483648 ≤ n) && decide (n ≤ 2147483647)) || false) then 0 else 10) else 1) := by kernel_rfl
  refine gives_tree (t7_33 w rd rs n) ?_
  refine gives_cond (fun h1 => ?_) (fun h1 => ?_)
  · have hA : ((decide (w = 4) || decide (w = 8)) && ((false || decide (w = 8)) && (regX rd && (regX rs && !decide (rs % 8 = 4))))) = false := by
      simp [cms] at h1 ⊢
      first | done | omega | (split at h1 <;> omega) | ((repeat' split at h1) <;> omega) | skip
    have he : errX 33 w rd rs n = 1 := by rw [hE, hA]; rfl
    exact givesE (strX_bad he (by decide)) he.symm
  · have hA : ((decide (w = 4) || decide (w = 8)) && ((false || decide (w = 8)) && (regX rd && (regX rs && !decide (rs % 8 = 4))))) = true := by
      simp [cms] at h1 ⊢
      first | done | omega | (split at h1 <;> omega) | ((repeat' split at h1) <;> omega) | skip
    refine gives_cond (fun h2 => ?_) (fun h2 => ?_)
    · have hF : ((decide (-2147483648 ≤ n) && decide (n ≤ 2147483647)) || false) = false := by
        simp [cms] at h2 ⊢
        first | done | omega | skip
      have he : errX 33 w rd rs n = 10 := by rw [hE, hA, hF]; rfl
      exact givesE (strX_bad he (by decide)) he.symm
    · have hF : ((decide (-2147483648 ≤ n) && decide (n ≤ 2147483647)) || false) = true := by
        simp [cms] at h2 ⊢
        first | done | omega | skip
      have he : errX 33 w rd rs n = 0 := by rw [hE, hA, hF]; rfl
      refine gives_cond (fun _ => ?_) (fun h3 => ?_)
      case refine_2 => exfalso; revert h3; cases cm .eql w 8 <;> simp [allB]
      have hrd : small rd := by simp [regX] at hA; simp only [small]; omega
      have hrs : small rs := by simp [regX] at hA; simp only [small]; omega
      have hw : w = 4 ∨ w = 8 := by simp at hA; omega
      refine givesE ?_ he.symm
      rw [strX_ok he, strOf_S]
      exact congrArg S (Eq.trans (b := [rexA w rd rs, 137, modA 128 rd rs, bat n 0, bat n 1, bat n 2, bat n 3]) (by kernel_rfl) (Eq.trans (b := [rexI w rd rs, 137, modI 128 rd rs, bat n 0, bat n 1, bat n 2, bat n 3]) (by rw [rexA_eq hw hrd hrs, modA_eq (.inr rfl) hrd hrs]) (by kernel_rfl)))

attribute [local irreducible] evalF Lf.gives in
theorem enc7_34 (w rd rs n : Int) : (T7 34 w rd rs n).leaf.gives (.tup [.str (strX 34 w rd rs n), .int false .i64 (errX 34 w rd rs n)]) := by
  have hE : errX 34 w rd rs n = (bif (decide (w = 4) || decide (w = 8)) && ((false || decide (w = 4)) && (regX rd && (regX rs && !decide (rs % 8 = 4)))) then (bif ((decide (-2147483648 ≤ n) && decide (n ≤ 2147483647)) || false) then 0 else 10) else 1) := by kernel_rfl
  refine gives_tree (t7_34 w rd rs n) ?_
  refine gives_cond (fun h1 => ?_) (fun h1 => ?_)
  · have hA : ((decide (w = 4) || decide (w = 8)) && ((false || decide (w = 4)) && (regX rd && (regX rs && !decide (rs % 8 = 4))))) = false := by
      simp [cms] at h1 ⊢
      first | done | omega | (split at h1 <;> omega) | ((repeat' split at h1) <;> omega) | skip
    have he : errX 34 w rd rs n = 1 := by rw [hE, hA]; rfl
    exact givesE (strX_bad he (by decide)) he.symm
  · have hA : ((decide (w = 4) || decide (w = 8)) && ((false || decide (w = 4)) && (regX rd && (regX rs && !decide (rs % 8 = 4))))) = true := by
      simp [cms] at h1 ⊢
      first | done | omega | (split at h1 <;> omega) | ((repeat' split at h1) <;> omega) | skip
    refine gives_cond (fun h2 => ?_) (fun h2 => ?_)
    · have hF : ((decide (-2147483648 ≤ n) && decide (n ≤ 2147483647)) || false) = false := by
        simp [cms] at h2 ⊢
        first | done | omega | skip
      have he : errX 34 w rd rs n = 10 := by rw [hE, hA, hF]; rfl
      exact givesE (strX_bad he (by decide)) he.symm
    · have hF : ((decide (-2147483648 ≤ n) && decide (n ≤ 2147483647)) || false) = true := by
        simp [cms] at h2 ⊢
        first | done | omega | skip
      have he : errX 34 w rd rs n = 0 := by rw [hE, hA, hF]; rfl
      refine gives_cond (fun _ => ?_) (fun h3 => ?_)
      case refine_2 => exfalso; revert h3; cases cm .eql w 8 <;> simp [allB]
      have hrd : small rd := by simp [regX] at hA; simp only [small]; omega
      have hrs : small rs := by simp [regX] at hA; simp only [small]; omega
      have hw : w = 4 ∨ w = 8 := by simp at hA; omega
      refine givesE ?_ he.symm
      rw [strX_ok he, strOf_S]
      exact congrArg S (Eq.trans (b := [rexA w rd rs, 137, modA 128 rd rs, bat n 0, bat n 1, bat n 2, bat n 3]) (by kernel_rfl) (Eq.trans (b := [rexI w rd rs, 137, modI 128 rd rs, bat n 0, bat n 1, bat n 2, bat n 3]) (by rw [rexA_eq hw hrd hrs, modA_eq (.inr rfl) hrd hrs]) (by kernel_rfl)))

attribute [local irreducible] evalF Lf.gives in
theorem enc7_35 (w rd rs n : Int) : (T7 35 w rd rs n).leaf.gives (.tup [.str (strX 35 w rd rs n), .int false .i64 (errX 35 w rd rs n)]) := by
  have hE : errX 35 w rd rs n = (bif (decide (w = 4) || decide (w = 8)) && ((false || decide (w = 4)) && (regX rd && (regX rs && !decide (rs % 8 = 4)))) then (bif ((decide (-2147483648 ≤ n) && decide (n ≤ 2147483647)) || false) then 0 else 10) else 1) := by kernel_rfl
  refine gives_tree (t7_35 w rd rs n) ?_
  refine gives_cond (fun h1 => ?_) (fun h1 => ?_)
  · have hA : ((decide (w = 4) || decide (w = 8)) && ((false || decide (w = 4)) && (regX rd && (regX rs && !decide (rs % 8 = 4))))) = false := by
      simp [cms] at h1 ⊢
      first | done | omega | (split at h1 <;> omega) | ((repeat' split at h1) <;> omega) | skip
    have he : errX 35 w rd rs n = 1 := by rw [hE, hA]; rfl
    exact givesE (strX_bad he (by decide)) he.symm
  · have hA : ((decide (w = 4) || decide (w = 8)) && ((false || decide (w = 4)) && (regX rd && (regX rs && !decide (rs % 8 = 4))))) = true := by
      simp [cms] at h1 ⊢
      first | done | omega | (split at h1 <;> omega) | ((repeat' split at h1) <;> omega) | skip
    refine gives_cond (fun h2 => ?_) (fun h2 => ?_)
    · have hF : ((decide (-2147483648 ≤ n) && decide (n ≤ 2147483647)) || false) = false := by
        simp [cms] at h2 ⊢
        first | done | omega | skip
      have he : errX 35 w rd rs n = 10 := by rw [hE, hA, hF]; rfl
      exact givesE (strX_bad he (by decide)) he.symm
    · have hF : ((decide (-2147483648 ≤ n) && decide (n ≤ 2147483647)) || false) = true := by
        simp [cms] at h2 ⊢
        first | done | omega | skip
      have he : errX 35 w rd rs n = 0 := by rw [hE, hA, hF]; rfl
      refine gives_cond (fun _ => ?_) (fun h3 => ?_)
      case refine_2 => exfalso; revert h3; cases cm .eql w 8 <;> simp [allB]
      have hrd : small rd := by simp [regX] at hA; simp only [small]; omega
      have hrs : small rs := by simp [regX] at hA; simp only [small]; omega
      have hw : w = 4 ∨ w = 8 := by simp at hA; omega
      refine givesE ?_ he.symm
      rw [strX_ok he, strOf_S]
      exact congrArg S (Eq.trans (b := [102, rexA w rd rs, 137, modA 128 rd rs, bat n 0, bat n 1, bat n 2, bat n 3]) (by kernel_rfl) (Eq.trans (b := [102, rexI w rd rs, 137, modI 128 rd rs, bat n 0, bat n 1, bat n 2, bat n 3]) (by rw [rexA_eq hw hrd hrs, modA_eq (.inr rfl) hrd hrs]) (by kernel_rfl)))

attribute [local irreducible] evalF Lf.gives in
theorem enc7_36 (w rd rs n : Int) : (T7 36 w rd rs n).leaf.gives (.tup [.str (strX 36 w rd rs n), .int false .i64 (errX 36 w rd rs n)]) := by
  have hE : errX 36 w rd rs n = (bif (decide (w = 4) || decide (w = 8)) && ((false || decide (w = 4)) && (regX rd && (regX rs && !decide (rs % 8 = 4)))) then (bif ((decide (-2147483648 ≤ n) && decide (n ≤ 2147483647)) || false) then 0 else 10) else 1) := by kernel_rfl
  refine gives_tree (t7_36 w rd rs n) ?_
  refine gives_cond (fun h1 => ?_) (fun h1 => ?_)
  · have hA : ((decide (w = 4) || decide (w = 8)) && ((false || decide (w = 4)) && (regX rd && (regX rs && !decide (rs % 8 = 4))))) = false := by
      simp [cms] at h1 ⊢
      first | done | omega | (split at h1 <;> omega) | ((repeat' split at h1) <;> omega) | skip
    have he : errX 36 w rd rs n = 1 := by rw [hE, hA]; rfl
    exact givesE (strX_bad he (by decide)) he.symm
  · have hA : ((decide (w = 4) || decide (w = 8)) && ((false || decide (w = 4)) && (regX rd && (regX rs && !decide (rs % 8 = 4))))) = true := by
      simp [cms] at h1 ⊢
      first | done | omega | (split at h1 <;> omega) | ((repeat' split at h1) <;> omega) | skip
    refine gives_cond (fun h2 => ?_) (fun h2 => ?_)
    · have hF : ((decide (-2147483648 ≤ n) && decide (n ≤ 2147483647)) || false) = false := by
        simp [cms] at h2 ⊢
        first | done | omega | skip
      have he : errX 36 w rd rs n = 10 := by rw [hE, hA, hF]; rfl
      exact givesE (strX_bad he (by decide)) he.symm
    · have hF : ((decide (-2147483648 ≤ n) && decide (n ≤ 2147483647)) || false) = true := by
        simp [cms] at h2 ⊢
        first | done | omega | skip
      have he : errX 36 w rd rs n = 0 := by rw [hE, hA, hF]; rfl
      refine gives_cond (fun _ => ?_) (fun h3 => ?_)
      case refine_2 => exfalso; revert h3; cases cm .eql w 8 <;> simp [allB]
      have hrd : small rd := by simp [regX] at hA; simp only [small]; omega
      have hrs : small rs := by simp [regX] at hA; simp only [small]; omega
      have hw : w = 4 ∨ w = 8 := by simp at hA; omega
      refine givesE ?_ he.symm
      rw [strX_ok he, strOf_S]
      exact congrArg S (Eq.trans (b := [rexA w rd rs, 136, modA 128 rd rs, bat n 0, bat n 1, bat n 2, bat n 3]) (by kernel_rfl) (Eq.trans (b := [rexI w rd rs, 136, modI 128 rd rs, bat n 0, bat n 1, bat n 2, bat n 3]) (by rw [rexA_eq hw hrd hrs, modA_eq (.inr rfl) hrd hrs]) (by kernel_rfl)))

end Go.X
end

section
set_option linter.unusedVariables false
open Go Go.Ev Go.Proofs
namespace Go.X

theorem t7_37 (w : Int) (rd : Int) (rs : Int) (n : Int) : (T7 37 w rd rs n).bare =
    (bif (bif cm .neq w 4 then bif cm .neq w 8 then true else bif cm .neq w 8 then true else !bif bif cm .geq rd 0 then cm .lss rd 16 else false then bif bif cm .geq rs 0 then cm .lss rs 16 else false then cm .neq (ar .and .i64 rs 7) 4 else false else false else bif cm .neq w 8 then true else !bif bif cm .geq rd 0 then cm .lss rd 16 else false then bif bif cm .geq rs 0 then cm .lss rs 16 else false then cm .neq (ar .and .i64 rs 7) 4 else false else false) then
 .ret (.tup [.str ⟨#[]⟩, .int true .i64 1]) []
 else
 bif (bif !bif cm .geq n (-2147483648) then cm .leq n 2147483647 else false then cm .neq 2 7 else false) then
 .ret (.tup [.str ⟨#[]⟩, .int true .i64 10]) []
 else
 bif (bif cm .eql w 8 then allB [decide (0 ≤ 3), decide (0 ≤ 2), decide (0 ≤ 3)] else allB [decide (0 ≤ 3), decide (0 ≤ 2), decide (0 ≤ 3)]) then
 .ret (.tup [(.str (strOf (cat (1 + (ByteArray.mk #[141]).size + 1) (cat (1 + (ByteArray.mk #[141]).size) (cat 1 (nth [bif cm .eql w 8 then ar .or .u8 (ar .or .u8 (ar .or .u8 64 8) (ar .shl .u8 (conv .u8 (ar .shr .i64 rd 3)) 2)) (conv .u8 (ar .shr .i64 rs 3)) else ar .or .u8 (ar .or .u8 64 (ar .shl .u8 (conv .u8 (ar .shr .i64 rd 3)) 2)) (conv .u8 (ar .shr .i64 rs 3))] 0) (chr (ByteArray.mk #[141]))) (nth [ar .or .u8 (ar .or .u8 128 (ar .shl .u8 (conv .u8 (ar .and .i64 rd 7)) 3)) (conv .u8 (ar .and .i64 rs 7))] 0)) (bat n)) (1 + (ByteArray.mk #[141]).size + 1 + Int.toNat 4))), .int true .i64 0]) []
 else .bad) := by kernel_rfl

theorem t7_38 (w : Int) (rd : Int) (rs : Int) (n : Int) : (T7 38 w rd rs n).bare =
    (bif (bif cm .neq w 4 then bif cm .neq w 8 then true else bif cm .neq w 4 then true else !bif bif cm .geq rd 0 then cm .lss rd 16 else false then bif cm .eql rs 0 then cm .eql n 0 else false else false else bif cm .neq w 4 then true else !bif bif cm .geq rd 0 then cm .lss rd 16 else false then bif cm .eql rs 0 then cm .eql n 0 else false else false) then
 .ret (.tup [.str ⟨#[]⟩, .int true .i64 1]) []
 else
 bif (bif cm .eql w 8 then allB [decide (0 ≤ 3), decide (0 ≤ 2), decide (0 ≤ 3)] else allB [decide (0 ≤ 3), decide (0 ≤ 2), decide (0 ≤ 3)]) then
 .ret (.tup [(.str (strOf (cat (1 + (ByteArray.mk #[80]).size) (cat 1 (nth [bif cm .eql w 8 then ar .or .u8 (ar .or .u8 (ar .or .u8 64 8) (ar .shl .u8 (conv .u8 (ar .shr .i64 0 3)) 2)) (conv .u8 (ar .shr .i64 rd 3)) else ar .or .u8 (ar .or .u8 64 (ar .shl .u8 (conv .u8 (ar .shr .i64 0 3)) 2)) (conv .u8 (ar .shr .i64 rd 3))] 0) (upd (chr (ByteArray.mk #[80])) (ar .sub .i64 (↑(ByteArray.mk #[80]).size) 1).toNat (ar .add .u8 (chr (ByteArray.mk #[80]) (ar .sub .i64 (↑(ByteArray.mk #[80]).size) 1).toNat) (conv .u8 (ar .and .i64 rd 7))))) (bat n)) (1 + (ByteArray.mk #[80]).size + Int.toNat 0))), .int true .i64 0]) []
 else .bad) := by kernel_rfl

theorem t7_39 (w : Int) (rd : Int) (rs : Int) (n : Int) : (T7 39 w rd rs n).bare =
    (bif (bif cm .neq w 4 then bif cm .neq w 8 then true else bif cm .neq w 4 then true else !bif bif cm .geq rd 0 then cm .lss rd 16 else false then bif cm .eql rs 0 then cm .eql n 0 else false else false else bif cm .neq w 4 then true else !bif bif cm .geq rd 0 then cm .lss rd 16 else false then bif cm .eql rs 0 then cm .eql n 0 else false else false) then
 .ret (.tup [.str ⟨#[]⟩, .int true .i64 1]) []
 else
 bif (bif cm .eql w 8 then allB [decide (0 ≤ 3), decide (0 ≤ 2), decide (0 ≤ 3)] else allB [decide (0 ≤ 3), decide (0 ≤ 2), decide (0 ≤ 3)]) then
 .ret (.tup [(.str (strOf (cat (1 + (ByteArray.mk #[88]).size) (cat 1 (nth [bif cm .eql w 8 then ar .or .u8 (ar .or .u8 (ar .or .u8 64 8) (ar .shl .u8 (conv .u8 (ar .shr .i64 0 3)) 2)) (conv .u8 (ar .shr .i64 rd 3)) else ar .or .u8 (ar .or .u8 64 (ar .shl .u8 (conv .u8 (ar .shr .i64 0 3)) 2)) (conv .u8 (ar .shr .i64 rd 3))] 0) (upd (chr (ByteArray.mk #[88])) (ar .sub .i64 (↑(ByteArray.mk #[88]).size) 1).toNat (ar .add .u8 (chr (ByteArray.mk #[88]) (ar .sub .i64 (↑(ByteArray.mk #[88]).size) 1).toNat) (conv .u8 (ar .and .i64 rd 7))))) (bat n)) (1 + (ByteArray.mk #[88]).size + Int.toNat 0))), .int true .i64 0]) []
 else .bad) := by kernel_rfl

theorem t7_40 (w : Int) (rd : Int) (rs : Int) (n : Int) : (T7 40 w rd rs n).bare =
    (bif (bif cm .neq w 4 then bif cm .neq w 8 then true else bif cm .neq w 4 then true else !bif cm .eql rd 0 then cm .eql rs 0 else false else bif cm .neq w 4 then true else !bif cm .eql rd 0 then cm .eql rs 0 else false) then
 .ret (.tup [.str ⟨#[]⟩, .int true .i64 1]) []
 else
 bif (bif !bif cm .geq n (-2147483648) then cm .leq n 2147483647 else false then cm .neq 8 7 else false) then
 .ret (.tup [.str ⟨#[]⟩, .int true .i64 10]) []
 else
 .ret (.tup [.str (strOf (cat (ByteArray.mk #[232]).size (chr (ByteArray.mk #[232])) (bat n)) ((ByteArray.mk #[232]).size + Int.toNat 4)), .int true .i64 0]) []) := by kernel_rfl

theorem t7_41 (w : Int) (rd : Int) (rs : Int) (n : Int) : (T7 41 w rd rs n).bare =
    (bif (bif cm .neq w 4 then bif cm .neq w 8 then true else bif cm .neq w 4 then true else !bif cm .eql rd 0 then bif cm .eql rs 0 then cm .eql n 0 else false else false else bif cm .neq w 4 then true else !bif cm .eql rd 0 then bif cm .eql rs 0 then cm .eql n 0 else false else false) then
 .ret (.tup [.str ⟨#[]⟩, .int true .i64 1]) []
 else
 .ret (.tup [.str (strOf (cat (ByteArray.mk #[195]).size (chr (ByteArray.mk #[195])) (bat n)) ((ByteArray.mk #[195]).size + Int.toNat 0)), .int true .i64 0]) []) := by kernel_rfl

theorem t7_42 (w : Int) (rd : Int) (rs : Int) (n : Int) : (T7 42 w rd rs n).bare =
    (bif (bif cm .neq w 4 then bif cm .neq w 8 then true else bif cm .neq w 4 then true else !bif cm .eql rd 0 then cm .eql rs 0 else false else bif cm .neq w 4 then true else !bif cm .eql rd 0 then cm .eql rs 0 else false) then
 .ret (.tup [.str ⟨#[]⟩, .int true .i64 1]) []
 else
 bif (bif !bif cm .geq n (-2147483648) then cm .leq n 2147483647 else false then cm .neq 8 7 else false) then
 .ret (.tup [.str ⟨#[]⟩, .int true .i64 10]) []
 else
 .ret (.tup [.str (strOf (cat (ByteArray.mk #[233]).size (chr (ByteArray.mk #[233])) (bat n)) ((ByteArray.mk #[233]).size + Int.toNat 4)), .int true .i64 0]) []) := by kernel_rfl

theorem t7_43 (w : Int) (rd : Int) (rs : Int) (n : Int) : (T7 43 w rd rs n).bare =
    (bif (bif cm .neq w 4 then bif cm .neq w 8 then true else bif cm .neq w 4 then true else !bif cm .eql rd 0 then cm .eql rs 0 else false else bif cm .neq w 4 then true else !bif cm .eql rd 0 then cm .eql rs 0 else false) then
 .ret (.tup [.str ⟨#[]⟩, .int true .i64 1]) []
 else
 bif (bif !bif cm .geq n (-128) then cm .leq n 127 else false then cm .neq 9 7 else false) then
 .ret (.tup [.str ⟨#[]⟩, .int true .i64 10]) []
 else
 .ret (.tup [.str (strOf (cat (ByteArray.mk #[235]).size (chr (ByteArray.mk #[235])) (bat n)) ((ByteArray.mk #[235]).size + Int.toNat 1)), .int true .i64 0]) []) := by kernel_rfl

theorem t7_44 (w : Int) (rd : Int) (rs : Int) (n : Int) : (T7 44 w rd rs n).bare =
    (bif (bif cm .neq w 4 then bif cm .neq w 8 then true else bif cm .neq w 4 then true else !bif bif cm .geq rd 2 then bif cm .leq rd 7 then true else bif cm .geq rd 12 then cm .leq rd 15 else false else bif cm .geq rd 12 then cm .leq rd 15 else false then cm .eql rs 0 else false else bif cm .neq w 4 then true else !bif bif cm .geq rd 2 then bif cm .leq rd 7 then true else bif cm .geq rd 12 then cm .leq rd 15 else false else bif cm .geq rd 12 then cm .leq rd 15 else false then cm .eql rs 0 else false) then
 .ret (.tup [.str ⟨#[]⟩, .int true .i64 1]) []
 else
 bif (bif !bif cm .geq n (-2147483648) then cm .leq n 2147483647 else false then cm .neq 10 7 else false) then
 .ret (.tup [.str ⟨#[]⟩, .int true .i64 10]) []
 else
 .ret (.tup [(.str (strOf (cat (ByteArray.mk #[15, 128]).size (upd (chr (ByteArray.mk #[15, 128])) (ar .sub .i64 (↑(ByteArray.mk #[15, 128]).size) 1).toNat (ar .add .u8 (chr (ByteArray.mk #[15, 128]) (ar .sub .i64 (↑(ByteArray.mk #[15, 128]).size) 1).toNat) (conv .u8 rd))) (bat n)) ((ByteArray.mk #[15, 128]).size + Int.toNat 4))), .int true .i64 0]) []) := by kernel_rfl

theorem t7_45 (w : Int) (rd : Int) (rs : Int) (n : Int) : (T7 45 w rd rs n).bare =
    (bif (bif cm .neq w 4 then bif cm .neq w 8 then true else bif cm .neq w 4 then true else !bif bif cm .geq rd 2 then bif cm .leq rd 7 then true else bif cm .geq rd 12 then cm .leq rd 15 else false else bif cm .geq rd 12 then cm .leq rd 15 else false then cm .eql rs 0 else false else bif cm .neq w 4 then true else !bif bif cm .geq rd 2 then bif cm .leq rd 7 then true else bif cm .geq rd 12 then cm .leq rd 15 else false else bif cm .geq rd 12 then cm .leq rd 15 else false then cm .eql rs 0 else false) then
 .ret (.tup [.str ⟨#[]⟩, .int true .i64 1]) []
 else
 bif (bif !bif cm .geq n (-128) then cm .leq n 127 else false then cm .neq 11 7 else false) then
 .ret (.tup [.str ⟨#[]⟩, .int true .i64 10]) []
 else
 .ret (.tup [(.str (strOf (cat (ByteArray.mk #[112]).size (upd (chr (ByteArray.mk #[112])) (ar .sub .i64 (↑(ByteArray.mk #[112]).size) 1).toNat (ar .add .u8 (chr (ByteArray.mk #[112]) (ar .sub .i64 (↑(ByteArray.mk #[112]).size) 1).toNat) (conv .u8 rd))) (bat n)) ((ByteArray.mk #[112]).size + Int.toNat 1))), .int true .i64 0]) []) := by kernel_rfl

theorem t7_46 (w : Int) (rd : Int) (rs : Int) (n : Int) : (T7 46 w rd rs n).bare =
    (bif (bif cm .neq w 4 then bif cm .neq w 8 then true else bif cm .neq w 4 then true else !bif cm .eql rd 0 then bif cm .eql rs 0 then cm .eql n 0 else false else false else bif cm .neq w 4 then true else !bif cm .eql rd 0 then bif cm .eql rs 0 then cm .eql n 0 else false else false) then
 .ret (.tup [.str ⟨#[]⟩, .int true .i64 1]) []
 else
 .ret (.tup [.str (strOf (cat (ByteArray.mk #[15, 5]).size (chr (ByteArray.mk #[15, 5])) (bat n)) ((ByteArray.mk #[15, 5]).size + Int.toNat 0)), .int true .i64 0]) []) := by kernel_rfl

end Go.X
end

section
set_option linter.unusedVariables false
open Go Go.Ev Go.Proofs
namespace Go.X

attribute [local irreducible] evalF Lf.gives in
theorem enc7_37 (w rd rs n : Int) : (T7 37 w rd rs n).leaf.gives (.tup [.str (strX 37 w rd rs n), .int false .i64 (errX 37 w rd rs n)]) := by
  have hE : errX 37 w rd rs n = (bif (decide (w = 4) || decide (w = 8)) && ((false || decide (w = 8)) && (regX rd && (regX rs && !decide (rs % 8 = 4)))) then (bif ((decide (-2147483648 ≤ n) && decide (n ≤ 2147483647)) || false) then 0 else 10) else 1) := by kernel_rfl
  refine gives_tree (t7_37 w rd rs n) ?_
  refine gives_cond (fun h1 => ?_) (fun h1 => ?_)
  · have hA : ((decide (w = 4) || decide (w = 8)) && ((false || decide (w = 8)) && (regX rd && (regX rs && !decide (rs % 8 = 4))))) = false := by
      simp [cms] at h1 ⊢
      first | done | omega | (split at h1 <;> omega) | ((repeat' split at h1) <;> omega) | skip
    have he : errX 37 w rd rs n = 1 := by rw [hE, hA]; rfl
    exact givesE (strX_bad he (by decide)) he.symm
  · have hA : ((decide (w = 4) || decide (w = 8)) && ((false || decide (w = 8)) && (regX rd && (regX rs && !decide (rs % 8 = 4))))) = true := by
      simp [cms] at h1 ⊢
      first | done | omega | (split at h1 <;> omega) | ((repeat' split at h1) <;> omega) | skip
    refine gives_cond (fun h2 => ?_) (fun h2 => ?_)
    · have hF : ((decide (-2147483648 ≤ n) && decide (n ≤ 2147483647)) || false) = false := by
        simp [cms] at h2 ⊢
        first | done | omega | skip
      have he : errX 37 w rd rs n = 10 := by rw [hE, hA, hF]; rfl
      exact givesE (strX_bad he (by decide)) he.symm
    · have hF : ((decide (-2147483648 ≤ n) && decide (n ≤ 2147483647)) || false) = true := by
        simp [cms] at h2 ⊢
        first | done | omega | skip
      have he : errX 37 w rd rs n = 0 := by rw [hE, hA, hF]; rfl
      refine gives_cond (fun _ => ?_) (fun h3 => ?_)
      case refine_2 => exfalso; revert h3; cases cm .eql w 8 <;> simp [allB]
      have hrd : small rd := by simp [regX] at hA; simp only [small]; omega
      have hrs : small rs := by simp [regX] at hA; simp only [small]; omega
      have hw : w = 4 ∨ w = 8 := by simp at hA; omega
      refine givesE ?_ he.symm
      rw [strX_ok he, strOf_S]
      exact congrArg S (Eq.trans (b := [rexA w rd rs, 141, modA 128 rd rs, bat n 0, bat n 1, bat n 2, bat n 3]) (by kernel_rfl) (Eq.trans (b := [rexI w rd rs, 141, modI 128 rd rs, bat n 0, bat n 1, bat n 2, bat n 3]) (by rw [rexA_eq hw hrd hrs, modA_eq (.inr rfl) hrd hrs]) (by kernel_rfl)))

attribute [local irreducible] evalF Lf.gives in
theorem enc7_38 (w rd rs n : Int) : (T7 38 w rd rs n).leaf.gives (.tup [.str (strX 38 w rd rs n), .int false .i64 (errX 38 w rd rs n)]) := by
  have hE : errX 38 w rd rs n = (bif (decide (w = 4) || decide (w = 8)) && ((false || decide (w = 4)) && (regX rd && (decide (rs = 0) && decide (n = 0)))) then (bif ((true) || false) then 0 else 10) else 1) := by kernel_rfl
  refine gives_tree (t7_38 w rd rs n) ?_
  refine gives_cond (fun h1 => ?_) (fun h1 => ?_)
  · have hA : ((decide (w = 4) || decide (w = 8)) && ((false || decide (w = 4)) && (regX rd && (decide (rs = 0) && decide (n = 0))))) = false := by
      simp [cms] at h1 ⊢
      first | done | omega | (split at h1 <;> omega) | ((repeat' split at h1) <;> omega) | skip
    have he : errX 38 w rd rs n = 1 := by rw [hE, hA]; rfl
    exact givesE (strX_bad he (by decide)) he.symm
  · have hA : ((decide (w = 4) || decide (w = 8)) && ((false || decide (w = 4)) && (regX rd && (decide (rs = 0) && decide (n = 0))))) = true := by
      simp [cms] at h1 ⊢
      first | done | omega | (split at h1 <;> omega) | ((repeat' split at h1) <;> omega) | skip
    have he : errX 38 w rd rs n = 0 := by rw [hE, hA]; rfl
    refine gives_cond (fun _ => ?_) (fun h3 => ?_)
    case refine_2 => exfalso; revert h3; cases cm .eql w 8 <;> simp [allB]
    have hrd : small rd := by simp [regX] at hA; simp only [small]; omega
    have hw : w = 4 ∨ w = 8 := by simp at hA; omega
    refine givesE ?_ he.symm
    rw [strX_ok he, strOf_S]
    exact congrArg S (Eq.trans (b := [rexA w 0 rd, ar .add .u8 80 (conv .u8 (ar .and .i64 rd 7))]) (by kernel_rfl) (Eq.trans (b := [rexI w 0 rd, 80 + rd % 8]) (by rw [rexA_eq hw (by decide : small 0) hrd, addReg (by decide) hrd]) (by kernel_rfl)))

attribute [local irreducible] evalF Lf.gives in
theorem enc7_39 (w rd rs n : Int) : (T7 39 w rd rs n).leaf.gives (.tup [.str (strX 39 w rd rs n), .int false .i64 (errX 39 w rd rs n)]) := by
  have hE : errX 39 w rd rs n = (bif (decide (w = 4) || decide (w = 8)) && ((false || decide (w = 4)) && (regX rd && (decide (rs = 0) && decide (n = 0)))) then (bif ((true) || false) then 0 else 10) else 1) := by kernel_rfl
  refine gives_tree (t7_39 w rd rs n) ?_
  refine gives_cond (fun h1 => ?_) (fun h1 => ?_)
  · have hA : ((decide (w = 4) || decide (w = 8)) && ((false || decide (w = 4)) && (regX rd && (decide (rs = 0) && decide (n = 0))))) = false := by
      simp [cms] at h1 ⊢
      first | done | omega | (split at h1 <;> omega) | ((repeat' split at h1) <;> omega) | skip
    have he : errX 39 w rd rs n = 1 := by rw [hE, hA]; rfl
    exact givesE (strX_bad he (by decide)) he.symm
  · have hA : ((decide (w = 4) || decide (w = 8)) && ((false || decide (w = 4)) && (regX rd && (decide (rs = 0) && decide (n = 0))))) = true := by
      simp [cms] at h1 ⊢
      first | done | omega | (split at h1 <;> omega) | ((repeat' split at h1) <;> omega) | skip
    have he : errX 39 w rd rs n = 0 := by rw [hE, hA]; rfl
    refine gives_cond (fun _ => ?_) (fun h3 => ?_)
    case refine_2 => exfalso; revert h3; cases cm .eql w 8 <;> simp [allB]
    have hrd : small rd := by simp [regX] at hA; simp only [small]; omega
    have hw : w = 4 ∨ w = 8 := by simp at hA; omega
    refine givesE ?_ he.symm
    rw [strX_ok he, strOf_S]
    exact congrArg S (Eq.trans (b := [rexA w 0 rd, ar .add .u8 88 (conv .u8 (ar .and .i64 rd 7))]) (by kernel_rfl) (Eq.trans (b := [rexI w 0 rd, 88 + rd % 8]) (by rw [rexA_eq hw (by decide : small 0) hrd, addReg (by decide) hrd]) (by kernel_rfl)))

attribute [local irreducible] evalF Lf.gives in
theorem enc7_40 (w rd rs n : Int) : (T7 40 w rd rs n).leaf.gives (.tup [.str (strX 40 w rd rs n), .int false .i64 (errX 40 w rd rs n)]) := by
  have hE : errX 40 w rd rs n = (bif (decide (w = 4) || decide (w = 8)) && ((false || decide (w = 4)) && (decide (rd = 0) && decide (rs = 0))) then (bif ((decide (-2147483648 ≤ n) && decide (n ≤ 2147483647)) || false) then 0 else 10) else 1) := by kernel_rfl
  refine gives_tree (t7_40 w rd rs n) ?_
  refine gives_cond (fun h1 => ?_) (fun h1 => ?_)
  · have hA : ((decide (w = 4) || decide (w = 8)) && ((false || decide (w = 4)) && (decide (rd = 0) && decide (rs = 0)))) = false := by
      simp [cms] at h1 ⊢
      first | done | omega | (split at h1 <;> omega) | ((repeat' split at h1) <;> omega) | skip
    have he : errX 40 w rd rs n = 1 := by rw [hE, hA]; rfl
    exact givesE (strX_bad he (by decide)) he.symm
  · have hA : ((decide (w = 4) || decide (w = 8)) && ((false || decide (w = 4)) && (decide (rd = 0) && decide (rs = 0)))) = true := by
      simp [cms] at h1 ⊢
      first | done | omega | (split at h1 <;> omega) | ((repeat' split at h1) <;> omega) | skip
    refine gives_cond (fun h2 => ?_) (fun h2 => ?_)
    · have hF : ((decide (-2147483648 ≤ n) && decide (n ≤ 2147483647)) || false) = false := by
        simp [cms] at h2 ⊢
        first | done | omega | skip
      have he : errX 40 w rd rs n = 10 := by rw [hE, hA, hF]; rfl
      exact givesE (strX_bad he (by decide)) he.symm
    · have hF : ((decide (-2147483648 ≤ n) && decide (n ≤ 2147483647)) || false) = true := by
        simp [cms] at h2 ⊢
        first | done | omega | skip
      have he : errX 40 w rd rs n = 0 := by rw [hE, hA, hF]; rfl
      refine givesE ?_ he.symm
      rw [strX_ok he, strOf_S]
      exact congrArg S (Eq.trans (b := [232, bat n 0, bat n 1, bat n 2, bat n 3]) (by kernel_rfl) (Eq.trans (b := [232, bat n 0, bat n 1, bat n 2, bat n 3]) (by rfl) (by kernel_rfl)))

attribute [local irreducible] evalF Lf.gives in
theorem enc7_41 (w rd rs n : Int) : (T7 41 w rd rs n).leaf.gives (.tup [.str (strX 41 w rd rs n), .int false .i64 (errX 41 w rd rs n)]) := by
  have hE : errX 41 w rd rs n = (bif (decide (w = 4) || decide (w = 8)) && ((false || decide (w = 4)) && (decide (rd = 0) && (decide (rs = 0) && decide (n = 0)))) then (bif ((true) || false) then 0 else 10) else 1) := by kernel_rfl
  refine gives_tree (t7_41 w rd rs n) ?_
  refine gives_cond (fun h1 => ?_) (fun h1 => ?_)
  · have hA : ((decide (w = 4) || decide (w = 8)) && ((false || decide (w = 4)) && (decide (rd = 0) && (decide (rs = 0) && decide (n = 0))))) = false := by
      simp [cms] at h1 ⊢
      first | done | omega | (split at h1 <;> omega) | ((repeat' split at h1) <;> omega) | skip
    have he : errX 41 w rd rs n = 1 := by rw [hE, hA]; rfl
    exact givesE (strX_bad he (by decide)) he.symm
  · have hA : ((decide (w = 4) || decide (w = 8)) && ((false || decide (w = 4)) && (decide (rd = 0) && (decide (rs = 0) && decide (n = 0))))) = true := by
      simp [cms] at h1 ⊢
      first | done | omega | (split at h1 <;> omega) | ((repeat' split at h1) <;> omega) | skip
    have he : errX 41 w rd rs n = 0 := by rw [hE, hA]; rfl
    refine givesE ?_ he.symm
    rw [strX_ok he, strOf_S]
    exact congrArg S (Eq.trans (b := [195]) (by kernel_rfl) (Eq.trans (b := [195]) (by rfl) (by kernel_rfl)))

attribute [local irreducible] evalF Lf.gives in
theorem enc7_42 (w rd rs n : Int) : (T7 42 w rd rs n).leaf.gives (.tup [.str (strX 42 w rd rs n), .int false .i64 (errX 42 w rd rs n)]) := by
  have hE : errX 42 w rd rs n = (bif (decide (w = 4) || decide (w = 8)) && ((false || decide (w = 4)) && (decide (rd = 0) && decide (rs = 0))) then (bif ((decide (-2147483648 ≤ n) && decide (n ≤ 2147483647)) || false) then 0 else 10) else 1) := by kernel_rfl
  refine gives_tree (t7_42 w rd rs n) ?_
  refine gives_cond (fun h1 => ?_) (fun h1 => ?_)
  · have hA : ((decide (w = 4) || decide (w = 8)) && ((false || decide (w = 4)) && (decide (rd = 0) && decide (rs = 0)))) = false := by
      simp [cms] at h1 ⊢
      first | done | omega | (split at h1 <;> omega) | ((repeat' split at h1) <;> omega) | skip
    have he : errX 42 w rd rs n = 1 := by rw [hE, hA]; rfl
    exact givesE (strX_bad he (by decide)) he.symm
  · have hA : ((decide (w = 4) || decide (w = 8)) && ((false || decide (w = 4)) && (decide (rd = 0) && decide (rs = 0)))) = true := by
      simp [cms] at h1 ⊢
      first | done | omega | (split at h1 <;> omega) | ((repeat' split at h1) <;> omega) | skip
    refine gives_cond (fun h2 => ?_) (fun h2 => ?_)
    · have hF : ((decide (-2147483648 ≤ n) && decide (n ≤ 2147483647)) || false) = false := by
        simp [cms] at h2 ⊢
        first | done | omega | skip
      have he : errX 42 w rd rs n = 10 := by rw [hE, hA, hF]; rfl
      exact givesE (strX_bad he (by decide)) he.symm
    · have hF : ((decide (-2147483648 ≤ n) && decide (n ≤ 2147483647)) || false) = true := by
        simp [cms] at h2 ⊢
        first | done | omega | skip
      have he : errX 42 w rd rs n = 0 := by rw [hE, hA, hF]; rfl
      refine givesE ?_ he.symm
      rw [strX_ok he, strOf_S]
      exact congrArg S (Eq.trans (b := [233, bat n 0, bat n 1, bat n 2, bat n 3]) (by kernel_rfl) (Eq.trans (b := [233, bat n 0, bat n 1, bat n 2, bat n 3]) (by rfl) (by kernel_rfl)))

attribute [local irreducible] evalF Lf.gives in
theorem enc7_43 (w rd rs n : Int) : (T7 43 w rd rs n).leaf.gives (.tup [.str (strX 43 w rd rs n), .int false .i64 (errX 43 w rd rs n)]) := by
  have hE : errX 43 w rd rs n = (bif (decide (w = 4) || decide (w = 8)) && ((false || decide (w = 4)) && (decide (rd = 0) && decide (rs = 0))) then (bif ((decide (-128 ≤ n) && decide (n ≤ 127)) || false) then 0 else 10) else 1) := by kernel_rfl
  refine gives_tree (t7_43 w rd rs n) ?_
  refine gives_cond (fun h1 => ?_) (fun h1 => ?_)
  · have hA : ((decide (w = 4) || decide (w = 8)) && ((false || decide (w = 4)) && (decide (rd = 0) && decide (rs = 0)))) = false := by
      simp [cms] at h1 ⊢
      first | done | omega | (split at h1 <;> omega) | ((repeat' split at h1) <;> omega) | skip
    have he : errX 43 w rd rs n = 1 := by rw [hE, hA]; rfl
    exact givesE (strX_bad he (by decide)) he.symm
  · have hA : ((decide (w = 4) || decide (w = 8)) && ((false || decide (w = 4)) && (decide (rd = 0) && decide (rs = 0)))) = true := by
      simp [cms] at h1 ⊢
      first | done | omega | (split at h1 <;> omega) | ((repeat' split at h1) <;> omega) | skip
    refine gives_cond (fun h2 => ?_) (fun h2 => ?_)
    · have hF : ((decide (-128 ≤ n) && decide (n ≤ 127)) || false) = false := by
        simp [cms] at h2 ⊢
        first | done | omega | skip
      have he : errX 43 w rd rs n = 10 := by rw [hE, hA, hF]; rfl
      exact givesE (strX_bad he (by decide)) he.symm
    · have hF : ((decide (-128 ≤ n) && decide (n ≤ 127)) || false) = true := by
        simp [cms] at h2 ⊢
        first | done | omega | skip
      have he : errX 43 w rd rs n = 0 := by rw [hE, hA, hF]; rfl
      refine givesE ?_ he.symm
      rw [strX_ok he, strOf_S]
      exact congrArg S (Eq.trans (b := [235, bat n 0]) (by kernel_rfl) (Eq.trans (b := [235, bat n 0]) (by rfl) (by kernel_rfl)))

attribute [local irreducible] evalF Lf.gives in
theorem enc7_44 (w rd rs n : Int) : (T7 44 w rd rs n).leaf.gives (.tup [.str (strX 44 w rd rs n), .int false .i64 (errX 44 w rd rs n)]) := by
  have hE : errX 44 w rd rs n = (bif (decide (w = 4) || decide (w = 8)) && ((false || decide (w = 4)) && (condX rd && decide (rs = 0))) then (bif ((decide (-2147483648 ≤ n) && decide (n ≤ 2147483647)) || false) then 0 else 10) else 1) := by kernel_rfl
  refine gives_tree (t7_44 w rd rs n) ?_
  refine gives_cond (fun h1 => ?_) (fun h1 => ?_)
  · have hA : ((decide (w = 4) || decide (w = 8)) && ((false || decide (w = 4)) && (condX rd && decide (rs = 0)))) = false := by
      simp [cms] at h1 ⊢
      first | done | omega | (split at h1 <;> omega) | ((repeat' split at h1) <;> omega) | skip
    have he : errX 44 w rd rs n = 1 := by rw [hE, hA]; rfl
    exact givesE (strX_bad he (by decide)) he.symm
  · have hA : ((decide (w = 4) || decide (w = 8)) && ((false || decide (w = 4)) && (condX rd && decide (rs = 0)))) = true := by
      simp [cms] at h1 ⊢
      first | done | omega | (split at h1 <;> omega) | ((repeat' split at h1) <;> omega) | skip
    refine gives_cond (fun h2 => ?_) (fun h2 => ?_)
    · have hF : ((decide (-2147483648 ≤ n) && decide (n ≤ 2147483647)) || false) = false := by
        simp [cms] at h2 ⊢
        first | done | omega | skip
      have he : errX 44 w rd rs n = 10 := by rw [hE, hA, hF]; rfl
      exact givesE (strX_bad he (by decide)) he.symm
    · have hF : ((decide (-2147483648 ≤ n) && decide (n ≤ 2147483647)) || false) = true := by
        simp [cms] at h2 ⊢
        first | done | omega | skip
      have he : errX 44 w rd rs n = 0 := by rw [hE, hA, hF]; rfl
      have hcd : small rd := by simp [regX, condX] at hA; simp only [small]; omega
      refine givesE ?_ he.symm
      rw [strX_ok he, strOf_S]
      exact congrArg S (Eq.trans (b := [15, ar .add .u8 128 (conv .u8 rd), bat n 0, bat n 1, bat n 2, bat n 3]) (by kernel_rfl) (Eq.trans (b := [15, 128 + rd, bat n 0, bat n 1, bat n 2, bat n 3]) (by rw [addCond (by decide) hcd]) (by kernel_rfl)))

attribute [local irreducible] evalF Lf.gives in
theorem enc7_45 (w rd rs n : Int) : (T7 45 w rd rs n).leaf.gives (.tup [.str (strX 45 w rd rs n), .int false .i64 (errX 45 w rd rs n)]) := by
  have hE : errX 45 w rd rs n = (bif (decide (w = 4) || decide (w = 8)) && ((false || decide (w = 4)) && (condX rd && decide (rs = 0))) then (bif ((decide (-128 ≤ n) && decide (n ≤ 127)) || false) then 0 else 10) else 1) := by kernel_rfl
  refine gives_tree (t7_45 w rd rs n) ?_
  refine gives_cond (fun h1 => ?_) (fun h1 => ?_)
  · have hA : ((decide (w = 4) || decide (w = 8)) && ((false || decide (w = 4)) && (condX rd && decide (rs = 0)))) = false := by
      simp [cms] at h1 ⊢
      first | done | omega | (split at h1 <;> omega) | ((repeat' split at h1) <;> omega) | skip
    have he : errX 45 w rd rs n = 1 := by rw [hE, hA]; rfl
    exact givesE (strX_bad he (by decide)) he.symm
  · have hA : ((decide (w = 4) || decide (w = 8)) && ((false || decide (w = 4)) && (condX rd && decide (rs = 0)))) = true := by
      simp [cms] at h1 ⊢
      first | done | omega | (split at h1 <;> omega) | ((repeat' split at h1) <;> omega) | skip
    refine gives_cond (fun h2 => ?_) (fun h2 => ?_)
    · have hF : ((decide (-128 ≤ n) && decide (n ≤ 127)) || false) = false := by
        simp [cms] at h2 ⊢
        first | done | omega | skip
      have he : errX 45 w rd rs n = 10 := by rw [hE, hA, hF]; rfl
      exact givesE (strX_bad he (by decide)) he.symm
    · have hF : ((decide (-128 ≤ n) && decide (n ≤ 127)) || false) = true := by
        simp [cms] at h2 ⊢
        first | done | omega | skip
      have he : errX 45 w rd rs n = 0 := by rw [hE, hA, hF]; rfl
      have hcd : small rd := by simp [regX, condX] at hA; simp only [small]; omega
      refine givesE ?_ he.symm
      rw [strX_ok he, strOf_S]
      exact congrArg S (Eq.trans (b := [ar .add .u8 112 (conv .u8 rd), bat n 0]) (by kernel_rfl) (Eq.trans (b := [112 + rd, bat n 0]) (by rw [addCond (by decide) hcd]) (by kernel_rfl)))

attribute [local irreducible] evalF Lf.gives in
theorem enc7_46 (w rd rs n : Int) : (T7 46 w rd rs n).leaf.gives (.tup [.str (strX 46 w rd rs n), .int false .i64 (errX 46 w rd rs n)]) := by
  have hE : errX 46 w rd rs n = (bif (decide (w = 4) || decide (w = 8)) && ((false || decide (w = 4)) && (decide (rd = 0) && (decide (rs = 0) && decide (n = 0)))) then (bif ((true) || false) then 0 else 10) else 1) := by kernel_rfl
  refine gives_tree (t7_46 w rd rs n) ?_
  refine gives_cond (fun h1 => ?_) (fun h1 => ?_)
  · have hA : ((decide (w = 4) || decide (w = 8)) && ((false || decide (w = 4)) && (decide (rd = 0) && (decide (rs = 0) && decide (n = 0))))) = false := by
      simp [cms] at h1 ⊢
      first | done | omega | (split at h1 <;> omega) | ((repeat' split at h1) <;> omega) | skip
    have he : errX 46 w rd rs n = 1 := by rw [hE, hA]; rfl
    exact givesE (strX_bad he (by decide)) he.symm
  · have hA : ((decide (w = 4) || decide (w = 8)) && ((false || decide (w = 4)) && (decide (rd = 0) && (decide (rs = 0) && decide (n = 0))))) = true := by
      simp [cms] at h1 ⊢
      first | done | omega | (split at h1 <;> omega) | ((repeat' split at h1) <;> omega) | skip
    have he : errX 46 w rd rs n = 0 := by rw [hE, hA]; rfl
    refine givesE ?_ he.symm
    rw [strX_ok he, strOf_S]
    exact congrArg S (Eq.trans (b := [15, 5]) (by kernel_rfl) (Eq.trans (b := [15, 5]) (by rfl) (by kernel_rfl)))

end Go.X
end

section
set_option linter.unusedVariables false
open Go Go.Ev Go.Proofs
namespace Go.X

def enc7P (k : Int) : Prop := ∀ (w rd rs n : Int), (evalF E7 Try.prog 50 [SV.agg [SV.int true IntKind.i64 k, SV.int false IntKind.i64 w, SV.int false IntKind.i64 rd, SV.int false IntKind.i64 rs, SV.int false IntKind.i64 n]] [] 1024).leaf.gives (.tup [.str (strX k w rd rs n), .int false .i64 (errX k w rd rs n)])
attribute [local irreducible] evalF Lf.gives strX errX in
theorem enc7_all (k : Int) (h1 : 1 ≤ k) (h2 : k ≤ 46) : enc7P k := by
  have : k = 1 ∨ k = 2 ∨ k = 3 ∨ k = 4 ∨ k = 5 ∨ k = 6 ∨ k = 7 ∨ k = 8 ∨ k = 9 ∨ k = 10 ∨ k = 11 ∨ k = 12 ∨ k = 13 ∨ k = 14 ∨ k = 15 ∨ k = 16 ∨ k = 17 ∨ k = 18 ∨ k = 19 ∨ k = 20 ∨ k = 21 ∨ k = 22 ∨ k = 23 ∨ k = 24 ∨ k = 25 ∨ k = 26 ∨ k = 27 ∨ k = 28 ∨ k = 29 ∨ k = 30 ∨ k = 31 ∨ k = 32 ∨ k = 33 ∨ k = 34 ∨ k = 35 ∨ k = 36 ∨ k = 37 ∨ k = 38 ∨ k = 39 ∨ k = 40 ∨ k = 41 ∨ k = 42 ∨ k = 43 ∨ k = 44 ∨ k = 45 ∨ k = 46 := by omega
  rcases this with rfl | rfl | rfl | rfl | rfl | rfl | rfl | rfl | rfl | rfl | rfl | rfl | rfl | rfl | rfl | rfl | rfl | rfl | rfl | rfl | rfl | rfl | rfl | rfl | rfl | rfl | rfl | rfl | rfl | rfl | rfl | rfl | rfl | rfl | rfl | rfl | rfl | rfl | rfl | rfl | rfl | rfl | rfl | rfl | rfl | rfl
  · exact enc7_1
  · exact enc7_2
  · exact enc7_3
  · exact enc7_4
  · exact enc7_5
  · exact enc7_6
  · exact enc7_7
  · exact enc7_8
  · exact enc7_9
  · exact enc7_10
  · exact enc7_11
  · exact enc7_12
  · exact enc7_13
  · exact enc7_14
  · exact enc7_15
  · exact enc7_16
  · exact enc7_17
  · exact enc7_18
  · exact enc7_19
  · exact enc7_20
  · exact enc7_21
  · exact enc7_22
  · exact enc7_23
  · exact enc7_24
  · exact enc7_25
  · exact enc7_26
  · exact enc7_27
  · exact enc7_28
  · exact enc7_29
  · exact enc7_30
  · exact enc7_31
  · exact enc7_32
  · exact enc7_33
  · exact enc7_34
  · exact enc7_35
  · exact enc7_36
  · exact enc7_37
  · exact enc7_38
  · exact enc7_39
  · exact enc7_40
  · exact enc7_41
  · exact enc7_42
  · exact enc7_43
  · exact enc7_44
  · exact enc7_45
  · exact enc7_46

theorem t7_0 (op : Int) (w : Int) (rd : Int) (rs : Int) (n : Int) : ((evalF E7 Try.prog 50 [.agg [.int false .i64 op, .int false .i64 w, .int false .i64 rd, .int false .i64 rs, .int false .i64 n]] [] 1024).cutL).bare =
    (bif (bif cm .lss op 1 then true else cm .gtr op 46) then
      .ret (.tup [.str ⟨#[]⟩, .int true .i64 1]) []
    else
      .bad) := by kernel_rfl

attribute [local irreducible] evalF Lf.gives in
theorem enc7_0 (op w rd rs n : Int) (h : op < 1 ∨ 46 < op) : (evalF E7 Try.prog 50 [.agg [.int false .i64 op, .int false .i64 w, .int false .i64 rd, .int false .i64 rs, .int false .i64 n]] [] 1024).leaf.gives (.tup [.str (strX op w rd rs n), .int false .i64 (errX op w rd rs n)]) := by
  have he : errX op w rd rs n = 1 := by
    have : (decide (op < 1) || decide (46 < op)) = true := by simpa using h
    unfold errX
    rw [this]
    rfl
  refine gives_cutL (gives_tree (t7_0 op w rd rs n) ?_)
  refine gives_cond (fun h1 => ?_) (fun h1 => ?_)
  · exact givesE (strX_bad he (by decide)) he.symm
  · exfalso
    simp [cm_lss', cm_gtr'] at h1
    omega

attribute [local irreducible] evalF Lf.gives strX errX in
theorem spec7 : SpecOk Try.prog 50 (specOf g7) := spec_okA false e7_calls mixed fn7 b7 n7 loops7 g7 fun a0 H0 r hg hn => by
  unfold g7 at hg
  split at hg
  · rename_i op w rd rs n
    simp only [Option.some.injEq] at hg
    subst hg
    by_cases h : op < 1 ∨ 46 < op
    · exact ⟨_, id, fun _ => rfl, gives_giv (enc7_0 op w rd rs n h)⟩
    · refine ⟨[.agg [.int true .i64 op, .int false .i64 w, .int false .i64 rd, .int false .i64 rs, .int false .i64 n]], id, fun σ => ?_, gives_giv (enc7_all op (by omega) (by omega) w rd rs n)⟩
      simp only [denL, den]
  · cases hg

end Go.X
end
