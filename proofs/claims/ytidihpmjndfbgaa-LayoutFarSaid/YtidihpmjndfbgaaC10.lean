/-
  x86: the reference's Encode says that, op by op.
-/
import Derived.Test.YtidihpmjndfbgaaC9
import Derived.Test.YtidihpmjndfbgaaC8
import Derived.Test.YtidihpmjndfbgaaC7
set_option linter.unusedSimpArgs false
set_option linter.unusedVariables false
section
set_option linter.unusedVariables false
open Go Go.Ev Go.Proofs
namespace Go.X

theorem u8_25 (w rd rs n : Int) : (T8 25 w rd rs n).bare = (bif (bif (cm .neq w 4) then (bif (cm .neq w 8) then true else (bif (cm .neq 8 w) then true else (bif (!(bif (cm .geq rd 0) then (cm .leq rd 15) else false)) then true else (bif (!(bif (cm .geq rs 0) then (cm .leq rs 15) else false)) then true else (cm .neq n 0))))) else (bif (cm .neq 8 w) then true else (bif (!(bif (cm .geq rd 0) then (cm .leq rd 15) else false)) then true else (bif (!(bif (cm .geq rs 0) then (cm .leq rs 15) else false)) then true else (cm .neq n 0))))) then .ret (.tup [.str ⟨#[]⟩, .int true .i64 1]) [] else .ret (.tup [(.str (strOf (nth [rexI w rd rs] 0) 1 ++ (ByteArray.mk #[99]) ++ strOf (nth [conv .u8 (ar .add .i64 (ar .add .i64 192 (ar .mul .i64 8 (ar .rem .i64 rd 8))) (ar .rem .i64 rs 8))] 0) 1)), .int true .i64 0]) []) :=
  (t8 25 w rd rs n).trans (by kernel_rfl)
attribute [local irreducible] evalF Lf.gives in
theorem ref8_25 (w rd rs n : Int) : (T8 25 w rd rs n).leaf.gives (.tup [.str (strX 25 w rd rs n), .int false .i64 (errX 25 w rd rs n)]) := by
  have hE : errX 25 w rd rs n = (bif (decide (w = 4) || decide (w = 8)) && ((false || decide (w = 8)) && (regX rd && (regX rs && decide (n = 0)))) then (bif ((true) || false) then 0 else 10) else 1) := by kernel_rfl
  refine gives_tree (u8_25 w rd rs n) ?_
  refine gives_cond (fun h1 => ?_) (fun h1 => ?_)
  · have hA : ((decide (w = 4) || decide (w = 8)) && ((false || decide (w = 8)) && (regX rd && (regX rs && decide (n = 0))))) = false := by
      simp [cms] at h1 ⊢
      first | done | omega | ((repeat' split at h1) <;> omega) | ((repeat' split at h1) <;> (repeat' split at h1) <;> omega) | skip
    have he : errX 25 w rd rs n = 1 := by rw [hE, hA]; rfl
    exact givesE (strX_bad he (by decide)) he.symm
  have hA : ((decide (w = 4) || decide (w = 8)) && ((false || decide (w = 8)) && (regX rd && (regX rs && decide (n = 0))))) = true := by
    simp [cms] at h1 ⊢
    first | done | omega | ((repeat' split at h1) <;> omega) | ((repeat' split at h1) <;> (repeat' split at h1) <;> omega) | skip
  have he : errX 25 w rd rs n = 0 := by rw [hE, hA]; rfl
  have hrd : small rd := by simp [regX] at hA; simp only [small]; omega
  have hrs : small rs := by simp [regX] at hA; simp only [small]; omega
  have hw : w = 4 ∨ w = 8 := by simp at hA; omega
  refine givesE ?_ he.symm
  rw [strX_ok he]
  refine Eq.trans (b := S [rexI w rd rs] ++ S [99] ++ S [modR 192 rd rs]) (by kernel_rfl) ?_
  simp only [S_append]
  exact congrArg S (Eq.trans (b := [rexI w rd rs, 99, modR 192 rd rs]) (by rfl) (Eq.trans (b := [rexI w rd rs, 99, modI 192 rd rs]) (by rw [modR_eq (.inl rfl) hrd hrs]) (by kernel_rfl)))

theorem u8_26 (w rd rs n : Int) : (T8 26 w rd rs n).bare = (bif (bif (cm .neq w 4) then (bif (cm .neq w 8) then true else (bif (cm .neq 8 w) then true else (bif (!(bif (cm .geq rd 0) then (cm .leq rd 15) else false)) then true else (bif (!(bif (cm .geq rs 0) then (cm .leq rs 15) else false)) then true else false)))) else (bif (cm .neq 8 w) then true else (bif (!(bif (cm .geq rd 0) then (cm .leq rd 15) else false)) then true else (bif (!(bif (cm .geq rs 0) then (cm .leq rs 15) else false)) then true else false)))) then .ret (.tup [.str ⟨#[]⟩, .int true .i64 1]) [] else (bif (bif (cm .eql (ar .rem .i64 rs 8) 4) then true else false) then .ret (.tup [.str ⟨#[]⟩, .int true .i64 1]) [] else (bif (bif (cm .lss n (-2147483648)) then true else (bif (cm .geq n 2147483648) then true else false)) then .ret (.tup [.str ⟨#[]⟩, .int true .i64 10]) [] else .ret (.tup [(.str (strOf (nth [rexI w rd rs] 0) 1 ++ (ByteArray.mk #[139]) ++ strOf (nth [conv .u8 (ar .add .i64 (ar .add .i64 128 (ar .mul .i64 8 (ar .rem .i64 rd 8))) (ar .rem .i64 rs 8))] 0) 1 ++ strOf (batR n) (Int.toNat 4))), .int true .i64 0]) []))) :=
  (t8 26 w rd rs n).trans (by kernel_rfl)
attribute [local irreducible] evalF Lf.gives in
theorem ref8_26 (w rd rs n : Int) : (T8 26 w rd rs n).leaf.gives (.tup [.str (strX 26 w rd rs n), .int false .i64 (errX 26 w rd rs n)]) := by
  have hE : errX 26 w rd rs n = (bif (decide (w = 4) || decide (w = 8)) && ((false || decide (w = 8)) && (regX rd && (regX rs && !decide (rs % 8 = 4)))) then (bif ((decide (-2147483648 ≤ n) && decide (n ≤ 2147483647)) || false) then 0 else 10) else 1) := by kernel_rfl
  refine gives_tree (u8_26 w rd rs n) ?_
  refine gives_cond (fun h1 => ?_) (fun h1 => ?_)
  · have hA : ((decide (w = 4) || decide (w = 8)) && ((false || decide (w = 8)) && (regX rd && (regX rs && !decide (rs % 8 = 4))))) = false := by
      simp [cms] at h1 ⊢
      first | done | omega | ((repeat' split at h1) <;> omega) | ((repeat' split at h1) <;> (repeat' split at h1) <;> omega) | skip
    have he : errX 26 w rd rs n = 1 := by rw [hE, hA]; rfl
    exact givesE (strX_bad he (by decide)) he.symm
  refine gives_cond (fun h2 => ?_) (fun h2 => ?_)
  all_goals rw [rem8 (show 0 ≤ rs by simp [cms] at h1; first | omega | ((repeat' split at h1) <;> omega))] at h2
  · have hA : ((decide (w = 4) || decide (w = 8)) && ((false || decide (w = 8)) && (regX rd && (regX rs && !decide (rs % 8 = 4))))) = false := by
      simp [cms] at h1 h2 ⊢
      first | done | omega | ((repeat' split at h1) <;> omega) | ((repeat' split at h1) <;> (repeat' split at h2) <;> omega) | skip
    have he : errX 26 w rd rs n = 1 := by rw [hE, hA]; rfl
    exact givesE (strX_bad he (by decide)) he.symm
  have hA : ((decide (w = 4) || decide (w = 8)) && ((false || decide (w = 8)) && (regX rd && (regX rs && !decide (rs % 8 = 4))))) = true := by
    simp [cms] at h1 h2 ⊢
    first | done | omega | ((repeat' split at h1) <;> omega) | ((repeat' split at h1) <;> (repeat' split at h2) <;> omega) | skip
  refine gives_cond (fun h9 => ?_) (fun h9 => ?_)
  · have hF : ((decide (-2147483648 ≤ n) && decide (n ≤ 2147483647)) || false) = false := by
      simp [cms] at h9 ⊢
      first | done | omega | ((repeat' split at h9) <;> omega) | skip
    have he : errX 26 w rd rs n = 10 := by rw [hE, hA, hF]; rfl
    exact givesE (strX_bad he (by decide)) he.symm
  have hF : ((decide (-2147483648 ≤ n) && decide (n ≤ 2147483647)) || false) = true := by
    simp [cms] at h9 ⊢
    first | done | omega | ((repeat' split at h9) <;> omega) | skip
  have he : errX 26 w rd rs n = 0 := by rw [hE, hA, hF]; rfl
  have hrd : small rd := by simp [regX] at hA; simp only [small]; omega
  have hrs : small rs := by simp [regX] at hA; simp only [small]; omega
  have hw : w = 4 ∨ w = 8 := by simp at hA; omega
  refine givesE ?_ he.symm
  rw [strX_ok he]
  refine Eq.trans (b := S [rexI w rd rs] ++ S [139] ++ S [modR 128 rd rs] ++ S [batR n 0, batR n 1, batR n 2, batR n 3]) (by kernel_rfl) ?_
  simp only [S_append]
  exact congrArg S (Eq.trans (b := [rexI w rd rs, 139, modR 128 rd rs, batR n 0, batR n 1, batR n 2, batR n 3]) (by rfl) (Eq.trans (b := [rexI w rd rs, 139, modI 128 rd rs, bat n 0, bat n 1, bat n 2, bat n 3]) (by rw [modR_eq (.inr rfl) hrd hrs, batR_eq n (by decide : 0 < 8), batR_eq n (by decide : 1 < 8), batR_eq n (by decide : 2 < 8), batR_eq n (by decide : 3 < 8)]) (by kernel_rfl)))

theorem u8_27 (w rd rs n : Int) : (T8 27 w rd rs n).bare = (bif (bif (cm .neq w 4) then (bif (cm .neq w 8) then true else (bif (cm .neq 4 w) then true else (bif (!(bif (cm .geq rd 0) then (cm .leq rd 15) else false)) then true else (bif (!(bif (cm .geq rs 0) then (cm .leq rs 15) else false)) then true else false)))) else (bif (cm .neq 4 w) then true else (bif (!(bif (cm .geq rd 0) then (cm .leq rd 15) else false)) then true else (bif (!(bif (cm .geq rs 0) then (cm .leq rs 15) else false)) then true else false)))) then .ret (.tup [.str ⟨#[]⟩, .int true .i64 1]) [] else (bif (bif (cm .eql (ar .rem .i64 rs 8) 4) then true else false) then .ret (.tup [.str ⟨#[]⟩, .int true .i64 1]) [] else (bif (bif (cm .lss n (-2147483648)) then true else (bif (cm .geq n 2147483648) then true else false)) then .ret (.tup [.str ⟨#[]⟩, .int true .i64 10]) [] else .ret (.tup [(.str (strOf (nth [rexI w rd rs] 0) 1 ++ (ByteArray.mk #[139]) ++ strOf (nth [conv .u8 (ar .add .i64 (ar .add .i64 128 (ar .mul .i64 8 (ar .rem .i64 rd 8))) (ar .rem .i64 rs 8))] 0) 1 ++ strOf (batR n) (Int.toNat 4))), .int true .i64 0]) []))) :=
  (t8 27 w rd rs n).trans (by kernel_rfl)
attribute [local irreducible] evalF Lf.gives in
theorem ref8_27 (w rd rs n : Int) : (T8 27 w rd rs n).leaf.gives (.tup [.str (strX 27 w rd rs n), .int false .i64 (errX 27 w rd rs n)]) := by
  have hE : errX 27 w rd rs n = (bif (decide (w = 4) || decide (w = 8)) && ((false || decide (w = 4)) && (regX rd && (regX rs && !decide (rs % 8 = 4)))) then (bif ((decide (-2147483648 ≤ n) && decide (n ≤ 2147483647)) || false) then 0 else 10) else 1) := by kernel_rfl
  refine gives_tree (u8_27 w rd rs n) ?_
  refine gives_cond (fun h1 => ?_) (fun h1 => ?_)
  · have hA : ((decide (w = 4) || decide (w = 8)) && ((false || decide (w = 4)) && (regX rd && (regX rs && !decide (rs % 8 = 4))))) = false := by
      simp [cms] at h1 ⊢
      first | done | omega | ((repeat' split at h1) <;> omega) | ((repeat' split at h1) <;> (repeat' split at h1) <;> omega) | skip
    have he : errX 27 w rd rs n = 1 := by rw [hE, hA]; rfl
    exact givesE (strX_bad he (by decide)) he.symm
  refine gives_cond (fun h2 => ?_) (fun h2 => ?_)
  all_goals rw [rem8 (show 0 ≤ rs by simp [cms] at h1; first | omega | ((repeat' split at h1) <;> omega))] at h2
  · have hA : ((decide (w = 4) || decide (w = 8)) && ((false || decide (w = 4)) && (regX rd && (regX rs && !decide (rs % 8 = 4))))) = false := by
      simp [cms] at h1 h2 ⊢
      first | done | omega | ((repeat' split at h1) <;> omega) | ((repeat' split at h1) <;> (repeat' split at h2) <;> omega) | skip
    have he : errX 27 w rd rs n = 1 := by rw [hE, hA]; rfl
    exact givesE (strX_bad he (by decide)) he.symm
  have hA : ((decide (w = 4) || decide (w = 8)) && ((false || decide (w = 4)) && (regX rd && (regX rs && !decide (rs % 8 = 4))))) = true := by
    simp [cms] at h1 h2 ⊢
    first | done | omega | ((repeat' split at h1) <;> omega) | ((repeat' split at h1) <;> (repeat' split at h2) <;> omega) | skip
  refine gives_cond (fun h9 => ?_) (fun h9 => ?_)
  · have hF : ((decide (-2147483648 ≤ n) && decide (n ≤ 2147483647)) || false) = false := by
      simp [cms] at h9 ⊢
      first | done | omega | ((repeat' split at h9) <;> omega) | skip
    have he : errX 27 w rd rs n = 10 := by rw [hE, hA, hF]; rfl
    exact givesE (strX_bad he (by decide)) he.symm
  have hF : ((decide (-2147483648 ≤ n) && decide (n ≤ 2147483647)) || false) = true := by
    simp [cms] at h9 ⊢
    first | done | omega | ((repeat' split at h9) <;> omega) | skip
  have he : errX 27 w rd rs n = 0 := by rw [hE, hA, hF]; rfl
  have hrd : small rd := by simp [regX] at hA; simp only [small]; omega
  have hrs : small rs := by simp [regX] at hA; simp only [small]; omega
  have hw : w = 4 ∨ w = 8 := by simp at hA; omega
  refine givesE ?_ he.symm
  rw [strX_ok he]
  refine Eq.trans (b := S [rexI w rd rs] ++ S [139] ++ S [modR 128 rd rs] ++ S [batR n 0, batR n 1, batR n 2, batR n 3]) (by kernel_rfl) ?_
  simp only [S_append]
  exact congrArg S (Eq.trans (b := [rexI w rd rs, 139, modR 128 rd rs, batR n 0, batR n 1, batR n 2, batR n 3]) (by rfl) (Eq.trans (b := [rexI w rd rs, 139, modI 128 rd rs, bat n 0, bat n 1, bat n 2, bat n 3]) (by rw [modR_eq (.inr rfl) hrd hrs, batR_eq n (by decide : 0 < 8), batR_eq n (by decide : 1 < 8), batR_eq n (by decide : 2 < 8), batR_eq n (by decide : 3 < 8)]) (by kernel_rfl)))

theorem u8_28 (w rd rs n : Int) : (T8 28 w rd rs n).bare = (bif (bif (cm .neq w 4) then (bif (cm .neq w 8) then true else (bif (cm .neq 8 w) then true else (bif (!(bif (cm .geq rd 0) then (cm .leq rd 15) else false)) then true else (bif (!(bif (cm .geq rs 0) then (cm .leq rs 15) else false)) then true else false)))) else (bif (cm .neq 8 w) then true else (bif (!(bif (cm .geq rd 0) then (cm .leq rd 15) else false)) then true else (bif (!(bif (cm .geq rs 0) then (cm .leq rs 15) else false)) then true else false)))) then .ret (.tup [.str ⟨#[]⟩, .int true .i64 1]) [] else (bif (bif (cm .eql (ar .rem .i64 rs 8) 4) then true else false) then .ret (.tup [.str ⟨#[]⟩, .int true .i64 1]) [] else (bif (bif (cm .lss n (-2147483648)) then true else (bif (cm .geq n 2147483648) then true else false)) then .ret (.tup [.str ⟨#[]⟩, .int true .i64 10]) [] else .ret (.tup [(.str (strOf (nth [rexI w rd rs] 0) 1 ++ (ByteArray.mk #[99]) ++ strOf (nth [conv .u8 (ar .add .i64 (ar .add .i64 128 (ar .mul .i64 8 (ar .rem .i64 rd 8))) (ar .rem .i64 rs 8))] 0) 1 ++ strOf (batR n) (Int.toNat 4))), .int true .i64 0]) []))) :=
  (t8 28 w rd rs n).trans (by kernel_rfl)
attribute [local irreducible] evalF Lf.gives in
theorem ref8_28 (w rd rs n : Int) : (T8 28 w rd rs n).leaf.gives (.tup [.str (strX 28 w rd rs n), .int false .i64 (errX 28 w rd rs n)]) := by
  have hE : errX 28 w rd rs n = (bif (decide (w = 4) || decide (w = 8)) && ((false || decide (w = 8)) && (regX rd && (regX rs && !decide (rs % 8 = 4)))) then (bif ((decide (-2147483648 ≤ n) && decide (n ≤ 2147483647)) || false) then 0 else 10) else 1) := by kernel_rfl
  refine gives_tree (u8_28 w rd rs n) ?_
  refine gives_cond (fun h1 => ?_) (fun h1 => ?_)
  · have hA : ((decide (w = 4) || decide (w = 8)) && ((false || decide (w = 8)) && (regX rd && (regX rs && !decide (rs % 8 = 4))))) = false := by
      simp [cms] at h1 ⊢
      first | done | omega | ((repeat' split at h1) <;> omega) | ((repeat' split at h1) <;> (repeat' split at h1) <;> omega) | skip
    have he : errX 28 w rd rs n = 1 := by rw [hE, hA]; rfl
    exact givesE (strX_bad he (by decide)) he.symm
  refine gives_cond (fun h2 => ?_) (fun h2 => ?_)
  all_goals rw [rem8 (show 0 ≤ rs by simp [cms] at h1; first | omega | ((repeat' split at h1) <;> omega))] at h2
  · have hA : ((decide (w = 4) || decide (w = 8)) && ((false || decide (w = 8)) && (regX rd && (regX rs && !decide (rs % 8 = 4))))) = false := by
      simp [cms] at h1 h2 ⊢
      first | done | omega | ((repeat' split at h1) <;> omega) | ((repeat' split at h1) <;> (repeat' split at h2) <;> omega) | skip
    have he : errX 28 w rd rs n = 1 := by rw [hE, hA]; rfl
    exact givesE (strX_bad he (by decide)) he.symm
  have hA : ((decide (w = 4) || decide (w = 8)) && ((false || decide (w = 8)) && (regX rd && (regX rs && !decide (rs % 8 = 4))))) = true := by
    simp [cms] at h1 h2 ⊢
    first | done | omega | ((repeat' split at h1) <;> omega) | ((repeat' split at h1) <;> (repeat' split at h2) <;> omega) | skip
  refine gives_cond (fun h9 => ?_) (fun h9 => ?_)
  · have hF : ((decide (-2147483648 ≤ n) && decide (n ≤ 2147483647)) || false) = false := by
      simp [cms] at h9 ⊢
      first | done | omega | ((repeat' split at h9) <;> omega) | skip
    have he : errX 28 w rd rs n = 10 := by rw [hE, hA, hF]; rfl
    exact givesE (strX_bad he (by decide)) he.symm
  have hF : ((decide (-2147483648 ≤ n) && decide (n ≤ 2147483647)) || false) = true := by
    simp [cms] at h9 ⊢
    first | done | omega | ((repeat' split at h9) <;> omega) | skip
  have he : errX 28 w rd rs n = 0 := by rw [hE, hA, hF]; rfl
  have hrd : small rd := by simp [regX] at hA; simp only [small]; omega
  have hrs : small rs := by simp [regX] at hA; simp only [small]; omega
  have hw : w = 4 ∨ w = 8 := by simp at hA; omega
  refine givesE ?_ he.symm
  rw [strX_ok he]
  refine Eq.trans (b := S [rexI w rd rs] ++ S [99] ++ S [modR 128 rd rs] ++ S [batR n 0, batR n 1, batR n 2, batR n 3]) (by kernel_rfl) ?_
  simp only [S_append]
  exact congrArg S (Eq.trans (b := [rexI w rd rs, 99, modR 128 rd rs, batR n 0, batR n 1, batR n 2, batR n 3]) (by rfl) (Eq.trans (b := [rexI w rd rs, 99, modI 128 rd rs, bat n 0, bat n 1, bat n 2, bat n 3]) (by rw [modR_eq (.inr rfl) hrd hrs, batR_eq n (by decide : 0 < 8), batR_eq n (by decide : 1 < 8), batR_eq n (by decide : 2 < 8), batR_eq n (by decide : 3 < 8)]) (by kernel_rfl)))

theorem u8_29 (w rd rs n : Int) : (T8 29 w rd rs n).bare = (bif (bif (cm .neq w 4) then (bif (cm .neq w 8) then true else (bif (cm .neq 8 w) then true else (bif (!(bif (cm .geq rd 0) then (cm .leq rd 15) else false)) then true else (bif (!(bif (cm .geq rs 0) then (cm .leq rs 15) else false)) then true else false)))) else (bif (cm .neq 8 w) then true else (bif (!(bif (cm .geq rd 0) then (cm .leq rd 15) else false)) then true else (bif (!(bif (cm .geq rs 0) then (cm .leq rs 15) else false)) then true else false)))) then .ret (.tup [.str ⟨#[]⟩, .int true .i64 1]) [] else (bif (bif (cm .eql (ar .rem .i64 rs 8) 4) then true else false) then .ret (.tup [.str ⟨#[]⟩, .int true .i64 1]) [] else (bif (bif (cm .lss n (-2147483648)) then true else (bif (cm .geq n 2147483648) then true else false)) then .ret (.tup [.str ⟨#[]⟩, .int true .i64 10]) [] else .ret (.tup [(.str (strOf (nth [rexI w rd rs] 0) 1 ++ (ByteArray.mk #[15, 191]) ++ strOf (nth [conv .u8 (ar .add .i64 (ar .add .i64 128 (ar .mul .i64 8 (ar .rem .i64 rd 8))) (ar .rem .i64 rs 8))] 0) 1 ++ strOf (batR n) (Int.toNat 4))), .int true .i64 0]) []))) :=
  (t8 29 w rd rs n).trans (by kernel_rfl)
attribute [local irreducible] evalF Lf.gives in
theorem ref8_29 (w rd rs n : Int) : (T8 29 w rd rs n).leaf.gives (.tup [.str (strX 29 w rd rs n), .int false .i64 (errX 29 w rd rs n)]) := by
  have hE : errX 29 w rd rs n = (bif (decide (w = 4) || decide (w = 8)) && ((false || decide (w = 8)) && (regX rd && (regX rs && !decide (rs % 8 = 4)))) then (bif ((decide (-2147483648 ≤ n) && decide (n ≤ 2147483647)) || false) then 0 else 10) else 1) := by kernel_rfl
  refine gives_tree (u8_29 w rd rs n) ?_
  refine gives_cond (fun h1 => ?_) (fun h1 => ?_)
  · have hA : ((decide (w = 4) || decide (w = 8)) && ((false || decide (w = 8)) && (regX rd && (regX rs && !decide (rs % 8 = 4))))) = false := by
      simp [cms] at h1 ⊢
      first | done | omega | ((repeat' split at h1) <;> omega) | ((repeat' split at h1) <;> (repeat' split at h1) <;> omega) | skip
    have he : errX 29 w rd rs n = 1 := by rw [hE, hA]; rfl
    exact givesE (strX_bad he (by decide)) he.symm
  refine gives_cond (fun h2 => ?_) (fun h2 => ?_)
  all_goals rw [rem8 (show 0 ≤ rs by simp [cms] at h1; first | omega | ((repeat' split at h1) <;> omega))] at h2
  · have hA : ((decide (w = 4) || decide (w = 8)) && ((false || decide (w = 8)) && (regX rd && (regX rs && !decide (rs % 8 = 4))))) = false := by
      simp [cms] at h1 h2 ⊢
      first | done | omega | ((repeat' split at h1) <;> omega) | ((repeat' split at h1) <;> (repeat' split at h2) <;> omega) | skip
    have he : errX 29 w rd rs n = 1 := by rw [hE, hA]; rfl
    exact givesE (strX_bad he (by decide)) he.symm
  have hA : ((decide (w = 4) || decide (w = 8)) && ((false || decide (w = 8)) && (regX rd && (regX rs && !decide (rs % 8 = 4))))) = true := by
    simp [cms] at h1 h2 ⊢
    first | done | omega | ((repeat' split at h1) <;> omega) | ((repeat' split at h1) <;> (repeat' split at h2) <;> omega) | skip
  refine gives_cond (fun h9 => ?_) (fun h9 => ?_)
  · have hF : ((decide (-2147483648 ≤ n) && decide (n ≤ 2147483647)) || false) = false := by
      simp [cms] at h9 ⊢
      first | done | omega | ((repeat' split at h9) <;> omega) | skip
    have he : errX 29 w rd rs n = 10 := by rw [hE, hA, hF]; rfl
    exact givesE (strX_bad he (by decide)) he.symm
  have hF : ((decide (-2147483648 ≤ n) && decide (n ≤ 2147483647)) || false) = true := by
    simp [cms] at h9 ⊢
    first | done | omega | ((repeat' split at h9) <;> omega) | skip
  have he : errX 29 w rd rs n = 0 := by rw [hE, hA, hF]; rfl
  have hrd : small rd := by simp [regX] at hA; simp only [small]; omega
  have hrs : small rs := by simp [regX] at hA; simp only [small]; omega
  have hw : w = 4 ∨ w = 8 := by simp at hA; omega
  refine givesE ?_ he.symm
  rw [strX_ok he]
  refine Eq.trans (b := S [rexI w rd rs] ++ S [15, 191] ++ S [modR 128 rd rs] ++ S [batR n 0, batR n 1, batR n 2, batR n 3]) (by kernel_rfl) ?_
  simp only [S_append]
  exact congrArg S (Eq.trans (b := [rexI w rd rs, 15, 191, modR 128 rd rs, batR n 0, batR n 1, batR n 2, batR n 3]) (by rfl) (Eq.trans (b := [rexI w rd rs, 15, 191, modI 128 rd rs, bat n 0, bat n 1, bat n 2, bat n 3]) (by rw [modR_eq (.inr rfl) hrd hrs, batR_eq n (by decide : 0 < 8), batR_eq n (by decide : 1 < 8), batR_eq n (by decide : 2 < 8), batR_eq n (by decide : 3 < 8)]) (by kernel_rfl)))

theorem u8_30 (w rd rs n : Int) : (T8 30 w rd rs n).bare = (bif (bif (cm .neq w 4) then (bif (cm .neq w 8) then true else (bif (cm .neq 8 w) then true else (bif (!(bif (cm .geq rd 0) then (cm .leq rd 15) else false)) then true else (bif (!(bif (cm .geq rs 0) then (cm .leq rs 15) else false)) then true else false)))) else (bif (cm .neq 8 w) then true else (bif (!(bif (cm .geq rd 0) then (cm .leq rd 15) else false)) then true else (bif (!(bif (cm .geq rs 0) then (cm .leq rs 15) else false)) then true else false)))) then .ret (.tup [.str ⟨#[]⟩, .int true .i64 1]) [] else (bif (bif (cm .eql (ar .rem .i64 rs 8) 4) then true else false) then .ret (.tup [.str ⟨#[]⟩, .int true .i64 1]) [] else (bif (bif (cm .lss n (-2147483648)) then true else (bif (cm .geq n 2147483648) then true else false)) then .ret (.tup [.str ⟨#[]⟩, .int true .i64 10]) [] else .ret (.tup [(.str (strOf (nth [rexI w rd rs] 0) 1 ++ (ByteArray.mk #[15, 190]) ++ strOf (nth [conv .u8 (ar .add .i64 (ar .add .i64 128 (ar .mul .i64 8 (ar .rem .i64 rd 8))) (ar .rem .i64 rs 8))] 0) 1 ++ strOf (batR n) (Int.toNat 4))), .int true .i64 0]) []))) :=
  (t8 30 w rd rs n).trans (by kernel_rfl)
attribute [local irreducible] evalF Lf.gives in
theorem ref8_30 (w rd rs n : Int) : (T8 30 w rd rs n).leaf.gives (.tup [.str (strX 30 w rd rs n), .int false .i64 (errX 30 w rd rs n)]) := by
  have hE : errX 30 w rd rs n = (bif (decide (w = 4) || decide (w = 8)) && ((false || decide (w = 8)) && (regX rd && (regX rs && !decide (rs % 8 = 4)))) then (bif ((decide (-2147483648 ≤ n) && decide (n ≤ 2147483647)) || false) then 0 else 10) else 1) := by kernel_rfl
  refine gives_tree (u8_30 w rd rs n) ?_
  refine gives_cond (fun h1 => ?_) (fun h1 => ?_)
  · have hA : ((decide (w = 4) || decide (w = 8)) && ((false || decide (w = 8)) && (regX rd && (regX rs && !decide (rs % 8 = 4))))) = false := by
      simp [cms] at h1 ⊢
      first | done | omega | ((repeat' split at h1) <;> omega) | ((repeat' split at h1) <;> (repeat' split at h1) <;> omega) | skip
    have he : errX 30 w rd rs n = 1 := by rw [hE, hA]; rfl
    exact givesE (strX_bad he (by decide)) he.symm
  refine gives_cond (fun h2 => ?_) (fun h2 => ?_)
  all_goals rw [rem8 (show 0 ≤ rs by simp [cms] at h1; first | omega | ((repeat' split at h1) <;> omega))] at h2
  · have hA : ((decide (w = 4) || decide (w = 8)) && ((false || decide (w = 8)) && (regX rd && (regX rs && !decide (rs % 8 = 4))))) = false := by
      simp [cms] at h1 h2 ⊢
      first | done | omega | ((repeat' split at h1) <;> omega) | ((repeat' split at h1) <;> (repeat' split at h2) <;> omega) | skip
    have he : errX 30 w rd rs n = 1 := by rw [hE, hA]; rfl
    exact givesE (strX_bad he (by decide)) he.symm
  have hA : ((decide (w = 4) || decide (w = 8)) && ((false || decide (w = 8)) && (regX rd && (regX rs && !decide (rs % 8 = 4))))) = true := by
    simp [cms] at h1 h2 ⊢
    first | done | omega | ((repeat' split at h1) <;> omega) | ((repeat' split at h1) <;> (repeat' split at h2) <;> omega) | skip
  refine gives_cond (fun h9 => ?_) (fun h9 => ?_)
  · have hF : ((decide (-2147483648 ≤ n) && decide (n ≤ 2147483647)) || false) = false := by
      simp [cms] at h9 ⊢
      first | done | omega | ((repeat' split at h9) <;> omega) | skip
    have he : errX 30 w rd rs n = 10 := by rw [hE, hA, hF]; rfl
    exact givesE (strX_bad he (by decide)) he.symm
  have hF : ((decide (-2147483648 ≤ n) && decide (n ≤ 2147483647)) || false) = true := by
    simp [cms] at h9 ⊢
    first | done | omega | ((repeat' split at h9) <;> omega) | skip
  have he : errX 30 w rd rs n = 0 := by rw [hE, hA, hF]; rfl
  have hrd : small rd := by simp [regX] at hA; simp only [small]; omega
  have hrs : small rs := by simp [regX] at hA; simp only [small]; omega
  have hw : w = 4 ∨ w = 8 := by simp at hA; omega
  refine givesE ?_ he.symm
  rw [strX_ok he]
  refine Eq.trans (b := S [rexI w rd rs] ++ S [15, 190] ++ S [modR 128 rd rs] ++ S [batR n 0, batR n 1, batR n 2, batR n 3]) (by kernel_rfl) ?_
  simp only [S_append]
  exact congrArg S (Eq.trans (b := [rexI w rd rs, 15, 190, modR 128 rd rs, batR n 0, batR n 1, batR n 2, batR n 3]) (by rfl) (Eq.trans (b := [rexI w rd rs, 15, 190, modI 128 rd rs, bat n 0, bat n 1, bat n 2, bat n 3]) (by rw [modR_eq (.inr rfl) hrd hrs, batR_eq n (by decide : 0 < 8), batR_eq n (by decide : 1 < 8), batR_eq n (by decide : 2 < 8), batR_eq n (by decide : 3 < 8)]) (by kernel_rfl)))

theorem u8_31 (w rd rs n : Int) : (T8 31 w rd rs n).bare = (bif (bif (cm .neq w 4) then (bif (cm .neq w 8) then true else (bif (cm .neq 8 w) then true else (bif (!(bif (cm .geq rd 0) then (cm .leq rd 15) else false)) then true else (bif (!(bif (cm .geq rs 0) then (cm .leq rs 15) else false)) then true else false)))) else (bif (cm .neq 8 w) then true else (bif (!(bif (cm .geq rd 0) then (cm .leq rd 15) else false)) then true else (bif (!(bif (cm .geq rs 0) then (cm .leq rs 15) else false)) then true else false)))) then .ret (.tup [.str ⟨#[]⟩, .int true .i64 1]) [] else (bif (bif (cm .eql (ar .rem .i64 rs 8) 4) then true else false) then .ret (.tup [.str ⟨#[]⟩, .int true .i64 1]) [] else (bif (bif (cm .lss n (-2147483648)) then true else (bif (cm .geq n 2147483648) then true else false)) then .ret (.tup [.str ⟨#[]⟩, .int true .i64 10]) [] else .ret (.tup [(.str (strOf (nth [rexI w rd rs] 0) 1 ++ (ByteArray.mk #[15, 183]) ++ strOf (nth [conv .u8 (ar .add .i64 (ar .add .i64 128 (ar .mul .i64 8 (ar .rem .i64 rd 8))) (ar .rem .i64 rs 8))] 0) 1 ++ strOf (batR n) (Int.toNat 4))), .int true .i64 0]) []))) :=
  (t8 31 w rd rs n).trans (by kernel_rfl)
attribute [local irreducible] evalF Lf.gives in
theorem ref8_31 (w rd rs n : Int) : (T8 31 w rd rs n).leaf.gives (.tup [.str (strX 31 w rd rs n), .int false .i64 (errX 31 w rd rs n)]) := by
  have hE : errX 31 w rd rs n = (bif (decide (w = 4) || decide (w = 8)) && ((false || decide (w = 8)) && (regX rd && (regX rs && !decide (rs % 8 = 4)))) then (bif ((decide (-2147483648 ≤ n) && decide (n ≤ 2147483647)) || false) then 0 else 10) else 1) := by kernel_rfl
  refine gives_tree (u8_31 w rd rs n) ?_
  refine gives_cond (fun h1 => ?_) (fun h1 => ?_)
  · have hA : ((decide (w = 4) || decide (w = 8)) && ((false || decide (w = 8)) && (regX rd && (regX rs && !decide (rs % 8 = 4))))) = false := by
      simp [cms] at h1 ⊢
      first | done | omega | ((repeat' split at h1) <;> omega) | ((repeat' split at h1) <;> (repeat' split at h1) <;> omega) | skip
    have he : errX 31 w rd rs n = 1 := by rw [hE, hA]; rfl
    exact givesE (strX_bad he (by decide)) he.symm
  refine gives_cond (fun h2 => ?_) (fun h2 => ?_)
  all_goals rw [rem8 (show 0 ≤ rs by simp [cms] at h1; first | omega | ((repeat' split at h1) <;> omega))] at h2
  · have hA : ((decide (w = 4) || decide (w = 8)) && ((false || decide (w = 8)) && (regX rd && (regX rs && !decide (rs % 8 = 4))))) = false := by
      simp [cms] at h1 h2 ⊢
      first | done | omega | ((repeat' split at h1) <;> omega) | ((repeat' split at h1) <;> (repeat' split at h2) <;> omega) | skip
    have he : errX 31 w rd rs n = 1 := by rw [hE, hA]; rfl
    exact givesE (strX_bad he (by decide)) he.symm
  have hA : ((decide (w = 4) || decide (w = 8)) && ((false || decide (w = 8)) && (regX rd && (regX rs && !decide (rs % 8 = 4))))) = true := by
    simp [cms] at h1 h2 ⊢
    first | done | omega | ((repeat' split at h1) <;> omega) | ((repeat' split at h1) <;> (repeat' split at h2) <;> omega) | skip
  refine gives_cond (fun h9 => ?_) (fun h9 => ?_)
  · have hF : ((decide (-2147483648 ≤ n) && decide (n ≤ 2147483647)) || false) = false := by
      simp [cms] at h9 ⊢
      first | done | omega | ((repeat' split at h9) <;> omega) | skip
    have he : errX 31 w rd rs n = 10 := by rw [hE, hA, hF]; rfl
    exact givesE (strX_bad he (by decide)) he.symm
  have hF : ((decide (-2147483648 ≤ n) && decide (n ≤ 2147483647)) || false) = true := by
    simp [cms] at h9 ⊢
    first | done | omega | ((repeat' split at h9) <;> omega) | skip
  have he : errX 31 w rd rs n = 0 := by rw [hE, hA, hF]; rfl
  have hrd : small rd := by simp [regX] at hA; simp only [small]; omega
  have hrs : small rs := by simp [regX] at hA; simp only [small]; omega
  have hw : w = 4 ∨ w = 8 := by simp at hA; omega
  refine givesE ?_ he.symm
  rw [strX_ok he]
  refine Eq.trans (b := S [rexI w rd rs] ++ S [15, 183] ++ S [modR 128 rd rs] ++ S [batR n 0, batR n 1, batR n 2, batR n 3]) (by kernel_rfl) ?_
  simp only [S_append]
  exact congrArg S (Eq.trans (b := [rexI w rd rs, 15, 183, modR 128 rd rs, batR n 0, batR n 1, batR n 2, batR n 3]) (by rfl) (Eq.trans (b := [rexI w rd rs, 15, 183, modI 128 rd rs, bat n 0, bat n 1, bat n 2, bat n 3]) (by rw [modR_eq (.inr rfl) hrd hrs, batR_eq n (by decide : 0 < 8), batR_eq n (by decide : 1 < 8), batR_eq n (by decide : 2 < 8), batR_eq n (by decide : 3 < 8)]) (by kernel_rfl)))

theorem u8_32 (w rd rs n : Int) : (T8 32 w rd rs n).bare = (bif (bif (cm .neq w 4) then (bif (cm .neq w 8) then true else (bif (cm .neq 8 w) then true else (bif (!(bif (cm .geq rd 0) then (cm .leq rd 15) else false)) then true else (bif (!(bif (cm .geq rs 0) then (cm .leq rs 15) else false)) then true else false)))) else (bif (cm .neq 8 w) then true else (bif (!(bif (cm .geq rd 0) then (cm .leq rd 15) else false)) then true else (bif (!(bif (cm .geq rs 0) then (cm .leq rs 15) else false)) then true else false)))) then .ret (.tup [.str ⟨#[]⟩, .int true .i64 1]) [] else (bif (bif (cm .eql (ar .rem .i64 rs 8) 4) then true else false) then .ret (.tup [.str ⟨#[]⟩, .int true .i64 1]) [] else (bif (bif (cm .lss n (-2147483648)) then true else (bif (cm .geq n 2147483648) then true else false)) then .ret (.tup [.str ⟨#[]⟩, .int true .i64 10]) [] else .ret (.tup [(.str (strOf (nth [rexI w rd rs] 0) 1 ++ (ByteArray.mk #[15, 182]) ++ strOf (nth [conv .u8 (ar .add .i64 (ar .add .i64 128 (ar .mul .i64 8 (ar .rem .i64 rd 8))) (ar .rem .i64 rs 8))] 0) 1 ++ strOf (batR n) (Int.toNat 4))), .int true .i64 0]) []))) :=
  (t8 32 w rd rs n).trans (by kernel_rfl)
attribute [local irreducible] evalF Lf.gives in
theorem ref8_32 (w rd rs n : Int) : (T8 32 w rd rs n).leaf.gives (.tup [.str (strX 32 w rd rs n), .int false .i64 (errX 32 w rd rs n)]) := by
  have hE : errX 32 w rd rs n = (bif (decide (w = 4) || decide (w = 8)) && ((false || decide (w = 8)) && (regX rd && (regX rs && !decide (rs % 8 = 4)))) then (bif ((decide (-2147483648 ≤ n) && decide (n ≤ 2147483647)) || false) then 0 else 10) else 1) := by kernel_rfl
  refine gives_tree (u8_32 w rd rs n) ?_
  refine gives_cond (fun h1 => ?_) (fun h1 => ?_)
  · have hA : ((decide (w = 4) || decide (w = 8)) && ((false || decide (w = 8)) && (regX rd && (regX rs && !decide (rs % 8 = 4))))) = false := by
      simp [cms] at h1 ⊢
      first | done | omega | ((repeat' split at h1) <;> omega) | ((repeat' split at h1) <;> (repeat' split at h1) <;> omega) | skip
    have he : errX 32 w rd rs n = 1 := by rw [hE, hA]; rfl
    exact givesE (strX_bad he (by decide)) he.symm
  refine gives_cond (fun h2 => ?_) (fun h2 => ?_)
  all_goals rw [rem8 (show 0 ≤ rs by simp [cms] at h1; first | omega | ((repeat' split at h1) <;> omega))] at h2
  · have hA : ((decide (w = 4) || decide (w = 8)) && ((false || decide (w = 8)) && (regX rd && (regX rs && !decide (rs % 8 = 4))))) = false := by
      simp [cms] at h1 h2 ⊢
      first | done | omega | ((repeat' split at h1) <;> omega) | ((repeat' split at h1) <;> (repeat' split at h2) <;> omega) | skip
    have he : errX 32 w rd rs n = 1 := by rw [hE, hA]; rfl
    exact givesE (strX_bad he (by decide)) he.symm
  have hA : ((decide (w = 4) || decide (w = 8)) && ((false || decide (w = 8)) && (regX rd && (regX rs && !decide (rs % 8 = 4))))) = true := by
    simp [cms] at h1 h2 ⊢
    first | done | omega | ((repeat' split at h1) <;> omega) | ((repeat' split at h1) <;> (repeat' split at h2) <;> omega) | skip
  refine gives_cond (fun h9 => ?_) (fun h9 => ?_)
  · have hF : ((decide (-2147483648 ≤ n) && decide (n ≤ 2147483647)) || false) = false := by
      simp [cms] at h9 ⊢
      first | done | omega | ((repeat' split at h9) <;> omega) | skip
    have he : errX 32 w rd rs n = 10 := by rw [hE, hA, hF]; rfl
    exact givesE (strX_bad he (by decide)) he.symm
  have hF : ((decide (-2147483648 ≤ n) && decide (n ≤ 2147483647)) || false) = true := by
    simp [cms] at h9 ⊢
    first | done | omega | ((repeat' split at h9) <;> omega) | skip
  have he : errX 32 w rd rs n = 0 := by rw [hE, hA, hF]; rfl
  have hrd : small rd := by simp [regX] at hA; simp only [small]; omega
  have hrs : small rs := by simp [regX] at hA; simp only [small]; omega
  have hw : w = 4 ∨ w = 8 := by simp at hA; omega
  refine givesE ?_ he.symm
  rw [strX_ok he]
  refine Eq.trans (b := S [rexI w rd rs] ++ S [15, 182] ++ S [modR 128 rd rs] ++ S [batR n 0, batR n 1, batR n 2, batR n 3]) (by kernel_rfl) ?_
  simp only [S_append]
  exact congrArg S (Eq.trans (b := [rexI w rd rs, 15, 182, modR 128 rd rs, batR n 0, batR n 1, batR n 2, batR n 3]) (by rfl) (Eq.trans (b := [rexI w rd rs, 15, 182, modI 128 rd rs, bat n 0, bat n 1, bat n 2, bat n 3]) (by rw [modR_eq (.inr rfl) hrd hrs, batR_eq n (by decide : 0 < 8), batR_eq n (by decide : 1 < 8), batR_eq n (by decide : 2 < 8), batR_eq n (by decide : 3 < 8)]) (by kernel_rfl)))

theorem u8_33 (w rd rs n : Int) : (T8 33 w rd rs n).bare = (bif (bif (cm .neq w 4) then (bif (cm .neq w 8) then true else (bif (cm .neq 8 w) then true else (bif (!(bif (cm .geq rd 0) then (cm .leq rd 15) else false)) then true else (bif (!(bif (cm .geq rs 0) then (cm .leq rs 15) else false)) then true else false)))) else (bif (cm .neq 8 w) then true else (bif (!(bif (cm .geq rd 0) then (cm .leq rd 15) else false)) then true else (bif (!(bif (cm .geq rs 0) then (cm .leq rs 15) else false)) then true else false)))) then .ret (.tup [.str ⟨#[]⟩, .int true .i64 1]) [] else (bif (bif (cm .eql (ar .rem .i64 rs 8) 4) then true else false) then .ret (.tup [.str ⟨#[]⟩, .int true .i64 1]) [] else (bif (bif (cm .lss n (-2147483648)) then true else (bif (cm .geq n 2147483648) then true else false)) then .ret (.tup [.str ⟨#[]⟩, .int true .i64 10]) [] else .ret (.tup [(.str (strOf (nth [rexI w rd rs] 0) 1 ++ (ByteArray.mk #[137]) ++ strOf (nth [conv .u8 (ar .add .i64 (ar .add .i64 128 (ar .mul .i64 8 (ar .rem .i64 rd 8))) (ar .rem .i64 rs 8))] 0) 1 ++ strOf (batR n) (Int.toNat 4))), .int true .i64 0]) []))) :=
  (t8 33 w rd rs n).trans (by kernel_rfl)
attribute [local irreducible] evalF Lf.gives in
theorem ref8_33 (w rd rs n : Int) : (T8 33 w rd rs n).leaf.gives (.tup [.str (strX 33 w rd rs n), .int false .i64 (errX 33 w rd rs n)]) := by
  have hE : errX 33 w rd rs n = (bif (decide (w = 4) || decide (w = 8)) && ((false || decide (w = 8)) && (regX rd && (regX rs && !decide (rs % 8 = 4)))) then (bif ((decide (-2147483648 ≤ n) && decide (n ≤ 2147483647)) || false) then 0 else 10) else 1) := by kernel_rfl
  refine gives_tree (u8_33 w rd rs n) ?_
  refine gives_cond (fun h1 => ?_) (fun h1 => ?_)
  · have hA : ((decide (w = 4) || decide (w = 8)) && ((false || decide (w = 8)) && (regX rd && (regX rs && !decide (rs % 8 = 4))))) = false := by
      simp [cms] at h1 ⊢
      first | done | omega | ((repeat' split at h1) <;> omega) | ((repeat' split at h1) <;> (repeat' split at h1) <;> omega) | skip
    have he : errX 33 w rd rs n = 1 := by rw [hE, hA]; rfl
    exact givesE (strX_bad he (by decide)) he.symm
  refine gives_cond (fun h2 => ?_) (fun h2 => ?_)
  all_goals rw [rem8 (show 0 ≤ rs by simp [cms] at h1; first | omega | ((repeat' split at h1) <;> omega))] at h2
  · have hA : ((decide (w = 4) || decide (w = 8)) && ((false || decide (w = 8)) && (regX rd && (regX rs && !decide (rs % 8 = 4))))) = false := by
      simp [cms] at h1 h2 ⊢
      first | done | omega | ((repeat' split at h1) <;> omega) | ((repeat' split at h1) <;> (repeat' split at h2) <;> omega) | skip
    have he : errX 33 w rd rs n = 1 := by rw [hE, hA]; rfl
    exact givesE (strX_bad he (by decide)) he.symm
  have hA : ((decide (w = 4) || decide (w = 8)) && ((false || decide (w = 8)) && (regX rd && (regX rs && !decide (rs % 8 = 4))))) = true := by
    simp [cms] at h1 h2 ⊢
    first | done | omega | ((repeat' split at h1) <;> omega) | ((repeat' split at h1) <;> (repeat' split at h2) <;> omega) | skip
  refine gives_cond (fun h9 => ?_) (fun h9 => ?_)
  · have hF : ((decide (-2147483648 ≤ n) && decide (n ≤ 2147483647)) || false) = false := by
      simp [cms] at h9 ⊢
      first | done | omega | ((repeat' split at h9) <;> omega) | skip
    have he : errX 33 w rd rs n = 10 := by rw [hE, hA, hF]; rfl
    exact givesE (strX_bad he (by decide)) he.symm
  have hF : ((decide (-2147483648 ≤ n) && decide (n ≤ 2147483647)) || false) = true := by
    simp [cms] at h9 ⊢
    first | done | omega | ((repeat' split at h9) <;> omega) | skip
  have he : errX 33 w rd rs n = 0 := by rw [hE, hA, hF]; rfl
  have hrd : small rd := by simp [regX] at hA; simp only [small]; omega
  have hrs : small rs := by simp [regX] at hA; simp only [small]; omega
  have hw : w = 4 ∨ w = 8 := by simp at hA; omega
  refine givesE ?_ he.symm
  rw [strX_ok he]
  refine Eq.trans (b := S [rexI w rd rs] ++ S [137] ++ S [modR 128 rd rs] ++ S [batR n 0, batR n 1, batR n 2, batR n 3]) (by kernel_rfl) ?_
  simp only [S_append]
  exact congrArg S (Eq.trans (b := [rexI w rd rs, 137, modR 128 rd rs, batR n 0, batR n 1, batR n 2, batR n 3]) (by rfl) (Eq.trans (b := [rexI w rd rs, 137, modI 128 rd rs, bat n 0, bat n 1, bat n 2, bat n 3]) (by rw [modR_eq (.inr rfl) hrd hrs, batR_eq n (by decide : 0 < 8), batR_eq n (by decide : 1 < 8), batR_eq n (by decide : 2 < 8), batR_eq n (by decide : 3 < 8)]) (by kernel_rfl)))

theorem u8_34 (w rd rs n : Int) : (T8 34 w rd rs n).bare = (bif (bif (cm .neq w 4) then (bif (cm .neq w 8) then true else (bif (cm .neq 4 w) then true else (bif (!(bif (cm .geq rd 0) then (cm .leq rd 15) else false)) then true else (bif (!(bif (cm .geq rs 0) then (cm .leq rs 15) else false)) then true else false)))) else (bif (cm .neq 4 w) then true else (bif (!(bif (cm .geq rd 0) then (cm .leq rd 15) else false)) then true else (bif (!(bif (cm .geq rs 0) then (cm .leq rs 15) else false)) then true else false)))) then .ret (.tup [.str ⟨#[]⟩, .int true .i64 1]) [] else (bif (bif (cm .eql (ar .rem .i64 rs 8) 4) then true else false) then .ret (.tup [.str ⟨#[]⟩, .int true .i64 1]) [] else (bif (bif (cm .lss n (-2147483648)) then true else (bif (cm .geq n 2147483648) then true else false)) then .ret (.tup [.str ⟨#[]⟩, .int true .i64 10]) [] else .ret (.tup [(.str (strOf (nth [rexI w rd rs] 0) 1 ++ (ByteArray.mk #[137]) ++ strOf (nth [conv .u8 (ar .add .i64 (ar .add .i64 128 (ar .mul .i64 8 (ar .rem .i64 rd 8))) (ar .rem .i64 rs 8))] 0) 1 ++ strOf (batR n) (Int.toNat 4))), .int true .i64 0]) []))) :=
  (t8 34 w rd rs n).trans (by kernel_rfl)
attribute [local irreducible] evalF Lf.gives in
theorem ref8_34 (w rd rs n : Int) : (T8 34 w rd rs n).leaf.gives (.tup [.str (strX 34 w rd rs n), .int false .i64 (errX 34 w rd rs n)]) := by
  have hE : errX 34 w rd rs n = (bif (decide (w = 4) || decide (w = 8)) && ((false || decide (w = 4)) && (regX rd && (regX rs && !decide (rs % 8 = 4)))) then (bif ((decide (-2147483648 ≤ n) && decide (n ≤ 2147483647)) || false) then 0 else 10) else 1) := by kernel_rfl
  refine gives_tree (u8_34 w rd rs n) ?_
  refine gives_cond (fun h1 => ?_) (fun h1 => ?_)
  · have hA : ((decide (w = 4) || decide (w = 8)) && ((false || decide (w = 4)) && (regX rd && (regX rs && !decide (rs % 8 = 4))))) = false := by
      simp [cms] at h1 ⊢
      first | done | omega | ((repeat' split at h1) <;> omega) | ((repeat' split at h1) <;> (repeat' split at h1) <;> omega) | skip
    have he : errX 34 w rd rs n = 1 := by rw [hE, hA]; rfl
    exact givesE (strX_bad he (by decide)) he.symm
  refine gives_cond (fun h2 => ?_) (fun h2 => ?_)
  all_goals rw [rem8 (show 0 ≤ rs by simp [cms] at h1; first | omega | ((repeat' split at h1) <;> omega))] at h2
  · have hA : ((decide (w = 4) || decide (w = 8)) && ((false || decide (w = 4)) && (regX rd && (regX rs && !decide (rs % 8 = 4))))) = false := by
      simp [cms] at h1 h2 ⊢
      first | done | omega | ((repeat' split at h1) <;> omega) | ((repeat' split at h1) <;> (repeat' split at h2) <;> omega) | skip
    have he : errX 34 w rd rs n = 1 := by rw [hE, hA]; rfl
    exact givesE (strX_bad he (by decide)) he.symm
  have hA : ((decide (w = 4) || decide (w = 8)) && ((false || decide (w = 4)) && (regX rd && (regX rs && !decide (rs % 8 = 4))))) = true := by
    simp [cms] at h1 h2 ⊢
    first | done | omega | ((repeat' split at h1) <;> omega) | ((repeat' split at h1) <;> (repeat' split at h2) <;> omega) | skip
  refine gives_cond (fun h9 => ?_) (fun h9 => ?_)
  · have hF : ((decide (-2147483648 ≤ n) && decide (n ≤ 2147483647)) || false) = false := by
      simp [cms] at h9 ⊢
      first | done | omega | ((repeat' split at h9) <;> omega) | skip
    have he : errX 34 w rd rs n = 10 := by rw [hE, hA, hF]; rfl
    exact givesE (strX_bad he (by decide)) he.symm
  have hF : ((decide (-2147483648 ≤ n) && decide (n ≤ 2147483647)) || false) = true := by
    simp [cms] at h9 ⊢
    first | done | omega | ((repeat' split at h9) <;> omega) | skip
  have he : errX 34 w rd rs n = 0 := by rw [hE, hA, hF]; rfl
  have hrd : small rd := by simp [regX] at hA; simp only [small]; omega
  have hrs : small rs := by simp [regX] at hA; simp only [small]; omega
  have hw : w = 4 ∨ w = 8 := by simp at hA; omega
  refine givesE ?_ he.symm
  rw [strX_ok he]
  refine Eq.trans (b := S [rexI w rd rs] ++ S [137] ++ S [modR 128 rd rs] ++ S [batR n 0, batR n 1, batR n 2, batR n 3]) (by kernel_rfl) ?_
  simp only [S_append]
  exact congrArg S (Eq.trans (b := [rexI w rd rs, 137, modR 128 rd rs, batR n 0, batR n 1, batR n 2, batR n 3]) (by rfl) (Eq.trans (b := [rexI w rd rs, 137, modI 128 rd rs, bat n 0, bat n 1, bat n 2, bat n 3]) (by rw [modR_eq (.inr rfl) hrd hrs, batR_eq n (by decide : 0 < 8), batR_eq n (by decide : 1 < 8), batR_eq n (by decide : 2 < 8), batR_eq n (by decide : 3 < 8)]) (by kernel_rfl)))

theorem u8_35 (w rd rs n : Int) : (T8 35 w rd rs n).bare = (bif (bif (cm .neq w 4) then (bif (cm .neq w 8) then true else (bif (cm .neq 4 w) then true else (bif (!(bif (cm .geq rd 0) then (cm .leq rd 15) else false)) then true else (bif (!(bif (cm .geq rs 0) then (cm .leq rs 15) else false)) then true else false)))) else (bif (cm .neq 4 w) then true else (bif (!(bif (cm .geq rd 0) then (cm .leq rd 15) else false)) then true else (bif (!(bif (cm .geq rs 0) then (cm .leq rs 15) else false)) then true else false)))) then .ret (.tup [.str ⟨#[]⟩, .int true .i64 1]) [] else (bif (bif (cm .eql (ar .rem .i64 rs 8) 4) then true else false) then .ret (.tup [.str ⟨#[]⟩, .int true .i64 1]) [] else (bif (bif (cm .lss n (-2147483648)) then true else (bif (cm .geq n 2147483648) then true else false)) then .ret (.tup [.str ⟨#[]⟩, .int true .i64 10]) [] else .ret (.tup [(.str ((ByteArray.mk #[102]) ++ (strOf (nth [rexI w rd rs] 0) 1 ++ (ByteArray.mk #[137]) ++ strOf (nth [conv .u8 (ar .add .i64 (ar .add .i64 128 (ar .mul .i64 8 (ar .rem .i64 rd 8))) (ar .rem .i64 rs 8))] 0) 1 ++ strOf (batR n) (Int.toNat 4)))), .int true .i64 0]) []))) :=
  (t8 35 w rd rs n).trans (by kernel_rfl)
attribute [local irreducible] evalF Lf.gives in
theorem ref8_35 (w rd rs n : Int) : (T8 35 w rd rs n).leaf.gives (.tup [.str (strX 35 w rd rs n), .int false .i64 (errX 35 w rd rs n)]) := by
  have hE : errX 35 w rd rs n = (bif (decide (w = 4) || decide (w = 8)) && ((false || decide (w = 4)) && (regX rd && (regX rs && !decide (rs % 8 = 4)))) then (bif ((decide (-2147483648 ≤ n) && decide (n ≤ 2147483647)) || false) then 0 else 10) else 1) := by kernel_rfl
  refine gives_tree (u8_35 w rd rs n) ?_
  refine gives_cond (fun h1 => ?_) (fun h1 => ?_)
  · have hA : ((decide (w = 4) || decide (w = 8)) && ((false || decide (w = 4)) && (regX rd && (regX rs && !decide (rs % 8 = 4))))) = false := by
      simp [cms] at h1 ⊢
      first | done | omega | ((repeat' split at h1) <;> omega) | ((repeat' split at h1) <;> (repeat' split at h1) <;> omega) | skip
    have he : errX 35 w rd rs n = 1 := by rw [hE, hA]; rfl
    exact givesE (strX_bad he (by decide)) he.symm
  refine gives_cond (fun h2 => ?_) (fun h2 => ?_)
  all_goals rw [rem8 (show 0 ≤ rs by simp [cms] at h1; first | omega | ((repeat' split at h1) <;> omega))] at h2
  · have hA : ((decide (w = 4) || decide (w = 8)) && ((false || decide (w = 4)) && (regX rd && (regX rs && !decide (rs % 8 = 4))))) = false := by
      simp [cms] at h1 h2 ⊢
      first | done | omega | ((repeat' split at h1) <;> omega) | ((repeat' split at h1) <;> (repeat' split at h2) <;> omega) | skip
    have he : errX 35 w rd rs n = 1 := by rw [hE, hA]; rfl
    exact givesE (strX_bad he (by decide)) he.symm
  have hA : ((decide (w = 4) || decide (w = 8)) && ((false || decide (w = 4)) && (regX rd && (regX rs && !decide (rs % 8 = 4))))) = true := by
    simp [cms] at h1 h2 ⊢
    first | done | omega | ((repeat' split at h1) <;> omega) | ((repeat' split at h1) <;> (repeat' split at h2) <;> omega) | skip
  refine gives_cond (fun h9 => ?_) (fun h9 => ?_)
  · have hF : ((decide (-2147483648 ≤ n) && decide (n ≤ 2147483647)) || false) = false := by
      simp [cms] at h9 ⊢
      first | done | omega | ((repeat' split at h9) <;> omega) | skip
    have he : errX 35 w rd rs n = 10 := by rw [hE, hA, hF]; rfl
    exact givesE (strX_bad he (by decide)) he.symm
  have hF : ((decide (-2147483648 ≤ n) && decide (n ≤ 2147483647)) || false) = true := by
    simp [cms] at h9 ⊢
    first | done | omega | ((repeat' split at h9) <;> omega) | skip
  have he : errX 35 w rd rs n = 0 := by rw [hE, hA, hF]; rfl
  have hrd : small rd := by simp [regX] at hA; simp only [small]; omega
  have hrs : small rs := by simp [regX] at hA; simp only [small]; omega
  have hw : w = 4 ∨ w = 8 := by simp at hA; omega
  refine givesE ?_ he.symm
  rw [strX_ok he]
  refine Eq.trans (b := S [102] ++ (S [rexI w rd rs] ++ S [137] ++ S [modR 128 rd rs] ++ S [batR n 0, batR n 1, batR n 2, batR n 3])) (by kernel_rfl) ?_
  simp only [S_append]
  exact congrArg S (Eq.trans (b := [102, rexI w rd rs, 137, modR 128 rd rs, batR n 0, batR n 1, batR n 2, batR n 3]) (by rfl) (Eq.trans (b := [102, rexI w rd rs, 137, modI 128 rd rs, bat n 0, bat n 1, bat n 2, bat n 3]) (by rw [modR_eq (.inr rfl) hrd hrs, batR_eq n (by decide : 0 < 8), batR_eq n (by decide : 1 < 8), batR_eq n (by decide : 2 < 8), batR_eq n (by decide : 3 < 8)]) (by kernel_rfl)))

theorem u8_36 (w rd rs n : Int) : (T8 36 w rd rs n).bare = (bif (bif (cm .neq w 4) then (bif (cm .neq w 8) then true else (bif (cm .neq 4 w) then true else (bif (!(bif (cm .geq rd 0) then (cm .leq rd 15) else false)) then true else (bif (!(bif (cm .geq rs 0) then (cm .leq rs 15) else false)) then true else false)))) else (bif (cm .neq 4 w) then true else (bif (!(bif (cm .geq rd 0) then (cm .leq rd 15) else false)) then true else (bif (!(bif (cm .geq rs 0) then (cm .leq rs 15) else false)) then true else false)))) then .ret (.tup [.str ⟨#[]⟩, .int true .i64 1]) [] else (bif (bif (cm .eql (ar .rem .i64 rs 8) 4) then true else false) then .ret (.tup [.str ⟨#[]⟩, .int true .i64 1]) [] else (bif (bif (cm .lss n (-2147483648)) then true else (bif (cm .geq n 2147483648) then true else false)) then .ret (.tup [.str ⟨#[]⟩, .int true .i64 10]) [] else .ret (.tup [(.str (strOf (nth [rexI w rd rs] 0) 1 ++ (ByteArray.mk #[136]) ++ strOf (nth [conv .u8 (ar .add .i64 (ar .add .i64 128 (ar .mul .i64 8 (ar .rem .i64 rd 8))) (ar .rem .i64 rs 8))] 0) 1 ++ strOf (batR n) (Int.toNat 4))), .int true .i64 0]) []))) :=
  (t8 36 w rd rs n).trans (by kernel_rfl)
attribute [local irreducible] evalF Lf.gives in
theorem ref8_36 (w rd rs n : Int) : (T8 36 w rd rs n).leaf.gives (.tup [.str (strX 36 w rd rs n), .int false .i64 (errX 36 w rd rs n)]) := by
  have hE : errX 36 w rd rs n = (bif (decide (w = 4) || decide (w = 8)) && ((false || decide (w = 4)) && (regX rd && (regX rs && !decide (rs % 8 = 4)))) then (bif ((decide (-2147483648 ≤ n) && decide (n ≤ 2147483647)) || false) then 0 else 10) else 1) := by kernel_rfl
  refine gives_tree (u8_36 w rd rs n) ?_
  refine gives_cond (fun h1 => ?_) (fun h1 => ?_)
  · have hA : ((decide (w = 4) || decide (w = 8)) && ((false || decide (w = 4)) && (regX rd && (regX rs && !decide (rs % 8 = 4))))) = false := by
      simp [cms] at h1 ⊢
      first | done | omega | ((repeat' split at h1) <;> omega) | ((repeat' split at h1) <;> (repeat' split at h1) <;> omega) | skip
    have he : errX 36 w rd rs n = 1 := by rw [hE, hA]; rfl
    exact givesE (strX_bad he (by decide)) he.symm
  refine gives_cond (fun h2 => ?_) (fun h2 => ?_)
  all_goals rw [rem8 (show 0 ≤ rs by simp [cms] at h1; first | omega | ((repeat' split at h1) <;> omega))] at h2
  · have hA : ((decide (w = 4) || decide (w = 8)) && ((false || decide (w = 4)) && (regX rd && (regX rs && !decide (rs % 8 = 4))))) = false := by
      simp [cms] at h1 h2 ⊢
      first | done | omega | ((repeat' split at h1) <;> omega) | ((repeat' split at h1) <;> (repeat' split at h2) <;> omega) | skip
    have he : errX 36 w rd rs n = 1 := by rw [hE, hA]; rfl
    exact givesE (strX_bad he (by decide)) he.symm
  have hA : ((decide (w = 4) || decide (w = 8)) && ((false || decide (w = 4)) && (regX rd && (regX rs && !decide (rs % 8 = 4))))) = true := by
    simp [cms] at h1 h2 ⊢
    first | done | omega | ((repeat' split at h1) <;> omega) | ((repeat' split at h1) <;> (repeat' split at h2) <;> omega) | skip
  refine gives_cond (fun h9 => ?_) (fun h9 => ?_)
  · have hF : ((decide (-2147483648 ≤ n) && decide (n ≤ 2147483647)) || false) = false := by
      simp [cms] at h9 ⊢
      first | done | omega | ((repeat' split at h9) <;> omega) | skip
    have he : errX 36 w rd rs n = 10 := by rw [hE, hA, hF]; rfl
    exact givesE (strX_bad he (by decide)) he.symm
  have hF : ((decide (-2147483648 ≤ n) && decide (n ≤ 2147483647)) || false) = true := by
    simp [cms] at h9 ⊢
    first | done | omega | ((repeat' split at h9) <;> omega) | skip
  have he : errX 36 w rd rs n = 0 := by rw [hE, hA, hF]; rfl
  have hrd : small rd := by simp [regX] at hA; simp only [small]; omega
  have hrs : small rs := by simp [regX] at hA; simp only [small]; omega
  have hw : w = 4 ∨ w = 8 := by simp at hA; omega
  refine givesE ?_ he.symm
  rw [strX_ok he]
  refine Eq.trans (b := S [rexI w rd rs] ++ S [136] ++ S [modR 128 rd rs] ++ S [batR n 0, batR n 1, batR n 2, batR n 3]) (by kernel_rfl) ?_
  simp only [S_append]
  exact congrArg S (Eq.trans (b := [rexI w rd rs, 136, modR 128 rd rs, batR n 0, batR n 1, batR n 2, batR n 3]) (by rfl) (Eq.trans (b := [rexI w rd rs, 136, modI 128 rd rs, bat n 0, bat n 1, bat n 2, bat n 3]) (by rw [modR_eq (.inr rfl) hrd hrs, batR_eq n (by decide : 0 < 8), batR_eq n (by decide : 1 < 8), batR_eq n (by decide : 2 < 8), batR_eq n (by decide : 3 < 8)]) (by kernel_rfl)))

end Go.X
end

section
set_option linter.unusedVariables false
open Go Go.Ev Go.Proofs
namespace Go.X

theorem u8_37 (w rd rs n : Int) : (T8 37 w rd rs n).bare = (bif (bif (cm .neq w 4) then (bif (cm .neq w 8) then true else (bif (cm .neq 8 w) then true else (bif (!(bif (cm .geq rd 0) then (cm .leq rd 15) else false)) then true else (bif (!(bif (cm .geq rs 0) then (cm .leq rs 15) else false)) then true else false)))) else (bif (cm .neq 8 w) then true else (bif (!(bif (cm .geq rd 0) then (cm .leq rd 15) else false)) then true else (bif (!(bif (cm .geq rs 0) then (cm .leq rs 15) else false)) then true else false)))) then .ret (.tup [.str ⟨#[]⟩, .int true .i64 1]) [] else (bif (bif (cm .eql (ar .rem .i64 rs 8) 4) then true else false) then .ret (.tup [.str ⟨#[]⟩, .int true .i64 1]) [] else (bif (bif (cm .lss n (-2147483648)) then true else (bif (cm .geq n 2147483648) then true else false)) then .ret (.tup [.str ⟨#[]⟩, .int true .i64 10]) [] else .ret (.tup [(.str (strOf (nth [rexI w rd rs] 0) 1 ++ (ByteArray.mk #[141]) ++ strOf (nth [conv .u8 (ar .add .i64 (ar .add .i64 128 (ar .mul .i64 8 (ar .rem .i64 rd 8))) (ar .rem .i64 rs 8))] 0) 1 ++ strOf (batR n) (Int.toNat 4))), .int true .i64 0]) []))) :=
  (t8 37 w rd rs n).trans (by kernel_rfl)
attribute [local irreducible] evalF Lf.gives in
theorem ref8_37 (w rd rs n : Int) : (T8 37 w rd rs n).leaf.gives (.tup [.str (strX 37 w rd rs n), .int false .i64 (errX 37 w rd rs n)]) := by
  have hE : errX 37 w rd rs n = (bif (decide (w = 4) || decide (w = 8)) && ((false || decide (w = 8)) && (regX rd && (regX rs && !decide (rs % 8 = 4)))) then (bif ((decide (-2147483648 ≤ n) && decide (n ≤ 2147483647)) || false) then 0 else 10) else 1) := by kernel_rfl
  refine gives_tree (u8_37 w rd rs n) ?_
  refine gives_cond (fun h1 => ?_) (fun h1 => ?_)
  · have hA : ((decide (w = 4) || decide (w = 8)) && ((false || decide (w = 8)) && (regX rd && (regX rs && !decide (rs % 8 = 4))))) = false := by
      simp [cms] at h1 ⊢
      first | done | omega | ((repeat' split at h1) <;> omega) | ((repeat' split at h1) <;> (repeat' split at h1) <;> omega) | skip
    have he : errX 37 w rd rs n = 1 := by rw [hE, hA]; rfl
    exact givesE (strX_bad he (by decide)) he.symm
  refine gives_cond (fun h2 => ?_) (fun h2 => ?_)
  all_goals rw [rem8 (show 0 ≤ rs by simp [cms] at h1; first | omega | ((repeat' split at h1) <;> omega))] at h2
  · have hA : ((decide (w = 4) || decide (w = 8)) && ((false || decide (w = 8)) && (regX rd && (regX rs && !decide (rs % 8 = 4))))) = false := by
      simp [cms] at h1 h2 ⊢
      first | done | omega | ((repeat' split at h1) <;> omega) | ((repeat' split at h1) <;> (repeat' split at h2) <;> omega) | skip
    have he : errX 37 w rd rs n = 1 := by rw [hE, hA]; rfl
    exact givesE (strX_bad he (by decide)) he.symm
  have hA : ((decide (w = 4) || decide (w = 8)) && ((false || decide (w = 8)) && (regX rd && (regX rs && !decide (rs % 8 = 4))))) = true := by
    simp [cms] at h1 h2 ⊢
    first | done | omega | ((repeat' split at h1) <;> omega) | ((repeat' split at h1) <;> (repeat' split at h2) <;> omega) | skip
  refine gives_cond (fun h9 => ?_) (fun h9 => ?_)
  · have hF : ((decide (-2147483648 ≤ n) && decide (n ≤ 2147483647)) || false) = false := by
      simp [cms] at h9 ⊢
      first | done | omega | ((repeat' split at h9) <;> omega) | skip
    have he : errX 37 w rd rs n = 10 := by rw [hE, hA, hF]; rfl
    exact givesE (strX_bad he (by decide)) he.symm
  have hF : ((decide (-2147483648 ≤ n) && decide (n ≤ 2147483647)) || false) = true := by
    simp [cms] at h9 ⊢
    first | done | omega | ((repeat' split at h9) <;> omega) | skip
  have he : errX 37 w rd rs n = 0 := by rw [hE, hA, hF]; rfl
  have hrd : small rd := by simp [regX] at hA; simp only [small]; omega
  have hrs : small rs := by simp [regX] at hA; simp only [small]; omega
  have hw : w = 4 ∨ w = 8 := by simp at hA; omega
  refine givesE ?_ he.symm
  rw [strX_ok he]
  refine Eq.trans (b := S [rexI w rd rs] ++ S [141] ++ S [modR 128 rd rs] ++ S [batR n 0, batR n 1, batR n 2, batR n 3]) (by kernel_rfl) ?_
  simp only [S_append]
  exact congrArg S (Eq.trans (b := [rexI w rd rs, 141, modR 128 rd rs, batR n 0, batR n 1, batR n 2, batR n 3]) (by rfl) (Eq.trans (b := [rexI w rd rs, 141, modI 128 rd rs, bat n 0, bat n 1, bat n 2, bat n 3]) (by rw [modR_eq (.inr rfl) hrd hrs, batR_eq n (by decide : 0 < 8), batR_eq n (by decide : 1 < 8), batR_eq n (by decide : 2 < 8), batR_eq n (by decide : 3 < 8)]) (by kernel_rfl)))

theorem u8_38 (w rd rs n : Int) : (T8 38 w rd rs n).bare = (bif (bif (cm .neq w 4) then (bif (cm .neq w 8) then true else (bif (cm .neq 4 w) then true else (bif (!(bif (cm .geq rd 0) then (cm .leq rd 15) else false)) then true else (bif (!(bif (cm .geq rs 0) then (cm .leq rs 15) else false)) then true else (bif (cm .neq rs 0) then true else (cm .neq n 0)))))) else (bif (cm .neq 4 w) then true else (bif (!(bif (cm .geq rd 0) then (cm .leq rd 15) else false)) then true else (bif (!(bif (cm .geq rs 0) then (cm .leq rs 15) else false)) then true else (bif (cm .neq rs 0) then true else (cm .neq n 0)))))) then .ret (.tup [.str ⟨#[]⟩, .int true .i64 1]) [] else .ret (.tup [.str (strOf (nth [rexI w 0 rd] 0) 1 ++ strOf (nth [ar .add .u8 (chr (ByteArray.mk #[80]) (Int.toNat 0)) (conv .u8 (ar .rem .i64 rd 8))] 0) 1 ++ strOf (batR n) (Int.toNat 0)), .int true .i64 0]) []) :=
  (t8 38 w rd rs n).trans (by kernel_rfl)
attribute [local irreducible] evalF Lf.gives in
theorem ref8_38 (w rd rs n : Int) : (T8 38 w rd rs n).leaf.gives (.tup [.str (strX 38 w rd rs n), .int false .i64 (errX 38 w rd rs n)]) := by
  have hE : errX 38 w rd rs n = (bif (decide (w = 4) || decide (w = 8)) && ((false || decide (w = 4)) && (regX rd && (decide (rs = 0) && decide (n = 0)))) then (bif ((true) || false) then 0 else 10) else 1) := by kernel_rfl
  refine gives_tree (u8_38 w rd rs n) ?_
  refine gives_cond (fun h1 => ?_) (fun h1 => ?_)
  · have hA : ((decide (w = 4) || decide (w = 8)) && ((false || decide (w = 4)) && (regX rd && (decide (rs = 0) && decide (n = 0))))) = false := by
      simp [cms] at h1 ⊢
      first | done | omega | ((repeat' split at h1) <;> omega) | ((repeat' split at h1) <;> (repeat' split at h1) <;> omega) | skip
    have he : errX 38 w rd rs n = 1 := by rw [hE, hA]; rfl
    exact givesE (strX_bad he (by decide)) he.symm
  have hA : ((decide (w = 4) || decide (w = 8)) && ((false || decide (w = 4)) && (regX rd && (decide (rs = 0) && decide (n = 0))))) = true := by
    simp [cms] at h1 ⊢
    first | done | omega | ((repeat' split at h1) <;> omega) | ((repeat' split at h1) <;> (repeat' split at h1) <;> omega) | skip
  have he : errX 38 w rd rs n = 0 := by rw [hE, hA]; rfl
  have hrd : small rd := by simp [regX] at hA; simp only [small]; omega
  have hw : w = 4 ∨ w = 8 := by simp at hA; omega
  refine givesE ?_ he.symm
  rw [strX_ok he]
  refine Eq.trans (b := S [rexI w 0 rd] ++ S [ar .add .u8 80 (conv .u8 (ar .rem .i64 rd 8))] ++ S []) (by kernel_rfl) ?_
  simp only [S_append]
  exact congrArg S (Eq.trans (b := [rexI w 0 rd, ar .add .u8 80 (conv .u8 (ar .rem .i64 rd 8))]) (by rfl) (Eq.trans (b := [rexI w 0 rd, 80 + rd % 8]) (by rw [addReg8 (by decide) hrd]) (by kernel_rfl)))

theorem u8_39 (w rd rs n : Int) : (T8 39 w rd rs n).bare = (bif (bif (cm .neq w 4) then (bif (cm .neq w 8) then true else (bif (cm .neq 4 w) then true else (bif (!(bif (cm .geq rd 0) then (cm .leq rd 15) else false)) then true else (bif (!(bif (cm .geq rs 0) then (cm .leq rs 15) else false)) then true else (bif (cm .neq rs 0) then true else (cm .neq n 0)))))) else (bif (cm .neq 4 w) then true else (bif (!(bif (cm .geq rd 0) then (cm .leq rd 15) else false)) then true else (bif (!(bif (cm .geq rs 0) then (cm .leq rs 15) else false)) then true else (bif (cm .neq rs 0) then true else (cm .neq n 0)))))) then .ret (.tup [.str ⟨#[]⟩, .int true .i64 1]) [] else .ret (.tup [.str (strOf (nth [rexI w 0 rd] 0) 1 ++ strOf (nth [ar .add .u8 (chr (ByteArray.mk #[88]) (Int.toNat 0)) (conv .u8 (ar .rem .i64 rd 8))] 0) 1 ++ strOf (batR n) (Int.toNat 0)), .int true .i64 0]) []) :=
  (t8 39 w rd rs n).trans (by kernel_rfl)
attribute [local irreducible] evalF Lf.gives in
theorem ref8_39 (w rd rs n : Int) : (T8 39 w rd rs n).leaf.gives (.tup [.str (strX 39 w rd rs n), .int false .i64 (errX 39 w rd rs n)]) := by
  have hE : errX 39 w rd rs n = (bif (decide (w = 4) || decide (w = 8)) && ((false || decide (w = 4)) && (regX rd && (decide (rs = 0) && decide (n = 0)))) then (bif ((true) || false) then 0 else 10) else 1) := by kernel_rfl
  refine gives_tree (u8_39 w rd rs n) ?_
  refine gives_cond (fun h1 => ?_) (fun h1 => ?_)
  · have hA : ((decide (w = 4) || decide (w = 8)) && ((false || decide (w = 4)) && (regX rd && (decide (rs = 0) && decide (n = 0))))) = false := by
      simp [cms] at h1 ⊢
      first | done | omega | ((repeat' split at h1) <;> omega) | ((repeat' split at h1) <;> (repeat' split at h1) <;> omega) | skip
    have he : errX 39 w rd rs n = 1 := by rw [hE, hA]; rfl
    exact givesE (strX_bad he (by decide)) he.symm
  have hA : ((decide (w = 4) || decide (w = 8)) && ((false || decide (w = 4)) && (regX rd && (decide (rs = 0) && decide (n = 0))))) = true := by
    simp [cms] at h1 ⊢
    first | done | omega | ((repeat' split at h1) <;> omega) | ((repeat' split at h1) <;> (repeat' split at h1) <;> omega) | skip
  have he : errX 39 w rd rs n = 0 := by rw [hE, hA]; rfl
  have hrd : small rd := by simp [regX] at hA; simp only [small]; omega
  have hw : w = 4 ∨ w = 8 := by simp at hA; omega
  refine givesE ?_ he.symm
  rw [strX_ok he]
  refine Eq.trans (b := S [rexI w 0 rd] ++ S [ar .add .u8 88 (conv .u8 (ar .rem .i64 rd 8))] ++ S []) (by kernel_rfl) ?_
  simp only [S_append]
  exact congrArg S (Eq.trans (b := [rexI w 0 rd, ar .add .u8 88 (conv .u8 (ar .rem .i64 rd 8))]) (by rfl) (Eq.trans (b := [rexI w 0 rd, 88 + rd % 8]) (by rw [addReg8 (by decide) hrd]) (by kernel_rfl)))

theorem u8_40 (w rd rs n : Int) : (T8 40 w rd rs n).bare = (bif (bif (cm .neq w 4) then (bif (cm .neq w 8) then true else (bif (cm .neq 4 w) then true else (bif (!(bif (cm .geq rd 0) then (cm .leq rd 15) else false)) then true else (bif (!(bif (cm .geq rs 0) then (cm .leq rs 15) else false)) then true else (bif (cm .neq rd 0) then true else (bif (cm .neq rs 0) then true else false)))))) else (bif (cm .neq 4 w) then true else (bif (!(bif (cm .geq rd 0) then (cm .leq rd 15) else false)) then true else (bif (!(bif (cm .geq rs 0) then (cm .leq rs 15) else false)) then true else (bif (cm .neq rd 0) then true else (bif (cm .neq rs 0) then true else false)))))) then .ret (.tup [.str ⟨#[]⟩, .int true .i64 1]) [] else (bif (bif (cm .lss n (-2147483648)) then true else (bif (cm .geq n 2147483648) then true else false)) then .ret (.tup [.str ⟨#[]⟩, .int true .i64 10]) [] else .ret (.tup [.str ((ByteArray.mk #[232]) ++ strOf (batR n) (Int.toNat 4)), .int true .i64 0]) [])) :=
  (t8 40 w rd rs n).trans (by kernel_rfl)
attribute [local irreducible] evalF Lf.gives in
theorem ref8_40 (w rd rs n : Int) : (T8 40 w rd rs n).leaf.gives (.tup [.str (strX 40 w rd rs n), .int false .i64 (errX 40 w rd rs n)]) := by
  have hE : errX 40 w rd rs n = (bif (decide (w = 4) || decide (w = 8)) && ((false || decide (w = 4)) && (decide (rd = 0) && decide (rs = 0))) then (bif ((decide (-2147483648 ≤ n) && decide (n ≤ 2147483647)) || false) then 0 else 10) else 1) := by kernel_rfl
  refine gives_tree (u8_40 w rd rs n) ?_
  refine gives_cond (fun h1 => ?_) (fun h1 => ?_)
  · have hA : ((decide (w = 4) || decide (w = 8)) && ((false || decide (w = 4)) && (decide (rd = 0) && decide (rs = 0)))) = false := by
      simp [cms] at h1 ⊢
      first | done | omega | ((repeat' split at h1) <;> omega) | ((repeat' split at h1) <;> (repeat' split at h1) <;> omega) | skip
    have he : errX 40 w rd rs n = 1 := by rw [hE, hA]; rfl
    exact givesE (strX_bad he (by decide)) he.symm
  have hA : ((decide (w = 4) || decide (w = 8)) && ((false || decide (w = 4)) && (decide (rd = 0) && decide (rs = 0)))) = true := by
    simp [cms] at h1 ⊢
    first | done | omega | ((repeat' split at h1) <;> omega) | ((repeat' split at h1) <;> (repeat' split at h1) <;> omega) | skip
  refine gives_cond (fun h9 => ?_) (fun h9 => ?_)
  · have hF : ((decide (-2147483648 ≤ n) && decide (n ≤ 2147483647)) || false) = false := by
      simp [cms] at h9 ⊢
      first | done | omega | ((repeat' split at h9) <;> omega) | skip
    have he : errX 40 w rd rs n = 10 := by rw [hE, hA, hF]; rfl
    exact givesE (strX_bad he (by decide)) he.symm
  have hF : ((decide (-2147483648 ≤ n) && decide (n ≤ 2147483647)) || false) = true := by
    simp [cms] at h9 ⊢
    first | done | omega | ((repeat' split at h9) <;> omega) | skip
  have he : errX 40 w rd rs n = 0 := by rw [hE, hA, hF]; rfl
  refine givesE ?_ he.symm
  rw [strX_ok he]
  refine Eq.trans (b := S [232] ++ S [batR n 0, batR n 1, batR n 2, batR n 3]) (by kernel_rfl) ?_
  simp only [S_append]
  exact congrArg S (Eq.trans (b := [232, batR n 0, batR n 1, batR n 2, batR n 3]) (by rfl) (Eq.trans (b := [232, bat n 0, bat n 1, bat n 2, bat n 3]) (by rw [batR_eq n (by decide : 0 < 8), batR_eq n (by decide : 1 < 8), batR_eq n (by decide : 2 < 8), batR_eq n (by decide : 3 < 8)]) (by kernel_rfl)))

theorem u8_41 (w rd rs n : Int) : (T8 41 w rd rs n).bare = (bif (bif (cm .neq w 4) then (bif (cm .neq w 8) then true else (bif (cm .neq 4 w) then true else (bif (!(bif (cm .geq rd 0) then (cm .leq rd 15) else false)) then true else (bif (!(bif (cm .geq rs 0) then (cm .leq rs 15) else false)) then true else (bif (cm .neq rd 0) then true else (bif (cm .neq rs 0) then true else (cm .neq n 0))))))) else (bif (cm .neq 4 w) then true else (bif (!(bif (cm .geq rd 0) then (cm .leq rd 15) else false)) then true else (bif (!(bif (cm .geq rs 0) then (cm .leq rs 15) else false)) then true else (bif (cm .neq rd 0) then true else (bif (cm .neq rs 0) then true else (cm .neq n 0))))))) then .ret (.tup [.str ⟨#[]⟩, .int true .i64 1]) [] else .ret (.tup [.str ((ByteArray.mk #[195]) ++ strOf (batR n) (Int.toNat 0)), .int true .i64 0]) []) :=
  (t8 41 w rd rs n).trans (by kernel_rfl)
attribute [local irreducible] evalF Lf.gives in
theorem ref8_41 (w rd rs n : Int) : (T8 41 w rd rs n).leaf.gives (.tup [.str (strX 41 w rd rs n), .int false .i64 (errX 41 w rd rs n)]) := by
  have hE : errX 41 w rd rs n = (bif (decide (w = 4) || decide (w = 8)) && ((false || decide (w = 4)) && (decide (rd = 0) && (decide (rs = 0) && decide (n = 0)))) then (bif ((true) || false) then 0 else 10) else 1) := by kernel_rfl
  refine gives_tree (u8_41 w rd rs n) ?_
  refine gives_cond (fun h1 => ?_) (fun h1 => ?_)
  · have hA : ((decide (w = 4) || decide (w = 8)) && ((false || decide (w = 4)) && (decide (rd = 0) && (decide (rs = 0) && decide (n = 0))))) = false := by
      simp [cms] at h1 ⊢
      first | done | omega | ((repeat' split at h1) <;> omega) | ((repeat' split at h1) <;> (repeat' split at h1) <;> omega) | skip
    have he : errX 41 w rd rs n = 1 := by rw [hE, hA]; rfl
    exact givesE (strX_bad he (by decide)) he.symm
  have hA : ((decide (w = 4) || decide (w = 8)) && ((false || decide (w = 4)) && (decide (rd = 0) && (decide (rs = 0) && decide (n = 0))))) = true := by
    simp [cms] at h1 ⊢
    first | done | omega | ((repeat' split at h1) <;> omega) | ((repeat' split at h1) <;> (repeat' split at h1) <;> omega) | skip
  have he : errX 41 w rd rs n = 0 := by rw [hE, hA]; rfl
  refine givesE ?_ he.symm
  rw [strX_ok he]
  refine Eq.trans (b := S [195] ++ S []) (by kernel_rfl) ?_
  simp only [S_append]
  exact congrArg S (Eq.trans (b := [195]) (by rfl) (Eq.trans (b := [195]) (by rfl) (by kernel_rfl)))

theorem u8_42 (w rd rs n : Int) : (T8 42 w rd rs n).bare = (bif (bif (cm .neq w 4) then (bif (cm .neq w 8) then true else (bif (cm .neq 4 w) then true else (bif (!(bif (cm .geq rd 0) then (cm .leq rd 15) else false)) then true else (bif (!(bif (cm .geq rs 0) then (cm .leq rs 15) else false)) then true else (bif (cm .neq rd 0) then true else (bif (cm .neq rs 0) then true else false)))))) else (bif (cm .neq 4 w) then true else (bif (!(bif (cm .geq rd 0) then (cm .leq rd 15) else false)) then true else (bif (!(bif (cm .geq rs 0) then (cm .leq rs 15) else false)) then true else (bif (cm .neq rd 0) then true else (bif (cm .neq rs 0) then true else false)))))) then .ret (.tup [.str ⟨#[]⟩, .int true .i64 1]) [] else (bif (bif (cm .lss n (-2147483648)) then true else (bif (cm .geq n 2147483648) then true else false)) then .ret (.tup [.str ⟨#[]⟩, .int true .i64 10]) [] else .ret (.tup [.str ((ByteArray.mk #[233]) ++ strOf (batR n) (Int.toNat 4)), .int true .i64 0]) [])) :=
  (t8 42 w rd rs n).trans (by kernel_rfl)
attribute [local irreducible] evalF Lf.gives in
theorem ref8_42 (w rd rs n : Int) : (T8 42 w rd rs n).leaf.gives (.tup [.str (strX 42 w rd rs n), .int false .i64 (errX 42 w rd rs n)]) := by
  have hE : errX 42 w rd rs n = (bif (decide (w = 4) || decide (w = 8)) && ((false || decide (w = 4)) && (decide (rd = 0) && decide (rs = 0))) then (bif ((decide (-2147483648 ≤ n) && decide (n ≤ 2147483647)) || false) then 0 else 10) else 1) := by kernel_rfl
  refine gives_tree (u8_42 w rd rs n) ?_
  refine gives_cond (fun h1 => ?_) (fun h1 => ?_)
  · have hA : ((decide (w = 4) || decide (w = 8)) && ((false || decide (w = 4)) && (decide (rd = 0) && decide (rs = 0)))) = false := by
      simp [cms] at h1 ⊢
      first | done | omega | ((repeat' split at h1) <;> omega) | ((repeat' split at h1) <;> (repeat' split at h1) <;> omega) | skip
    have he : errX 42 w rd rs n = 1 := by rw [hE, hA]; rfl
    exact givesE (strX_bad he (by decide)) he.symm
  have hA : ((decide (w = 4) || decide (w = 8)) && ((false || decide (w = 4)) && (decide (rd = 0) && decide (rs = 0)))) = true := by
    simp [cms] at h1 ⊢
    first | done | omega | ((repeat' split at h1) <;> omega) | ((repeat' split at h1) <;> (repeat' split at h1) <;> omega) | skip
  refine gives_cond (fun h9 => ?_) (fun h9 => ?_)
  · have hF : ((decide (-2147483648 ≤ n) && decide (n ≤ 2147483647)) || false) = false := by
      simp [cms] at h9 ⊢
      first | done | omega | ((repeat' split at h9) <;> omega) | skip
    have he : errX 42 w rd rs n = 10 := by rw [hE, hA, hF]; rfl
    exact givesE (strX_bad he (by decide)) he.symm
  have hF : ((decide (-2147483648 ≤ n) && decide (n ≤ 2147483647)) || false) = true := by
    simp [cms] at h9 ⊢
    first | done | omega | ((repeat' split at h9) <;> omega) | skip
  have he : errX 42 w rd rs n = 0 := by rw [hE, hA, hF]; rfl
  refine givesE ?_ he.symm
  rw [strX_ok he]
  refine Eq.trans (b := S [233] ++ S [batR n 0, batR n 1, batR n 2, batR n 3]) (by kernel_rfl) ?_
  simp only [S_append]
  exact congrArg S (Eq.trans (b := [233, batR n 0, batR n 1, batR n 2, batR n 3]) (by rfl) (Eq.trans (b := [233, bat n 0, bat n 1, bat n 2, bat n 3]) (by rw [batR_eq n (by decide : 0 < 8), batR_eq n (by decide : 1 < 8), batR_eq n (by decide : 2 < 8), batR_eq n (by decide : 3 < 8)]) (by kernel_rfl)))

theorem u8_43 (w rd rs n : Int) : (T8 43 w rd rs n).bare = (bif (bif (cm .neq w 4) then (bif (cm .neq w 8) then true else (bif (cm .neq 4 w) then true else (bif (!(bif (cm .geq rd 0) then (cm .leq rd 15) else false)) then true else (bif (!(bif (cm .geq rs 0) then (cm .leq rs 15) else false)) then true else (bif (cm .neq rd 0) then true else (bif (cm .neq rs 0) then true else false)))))) else (bif (cm .neq 4 w) then true else (bif (!(bif (cm .geq rd 0) then (cm .leq rd 15) else false)) then true else (bif (!(bif (cm .geq rs 0) then (cm .leq rs 15) else false)) then true else (bif (cm .neq rd 0) then true else (bif (cm .neq rs 0) then true else false)))))) then .ret (.tup [.str ⟨#[]⟩, .int true .i64 1]) [] else (bif (bif (cm .lss n (-128)) then true else (cm .gtr n 127)) then .ret (.tup [.str ⟨#[]⟩, .int true .i64 10]) [] else .ret (.tup [.str ((ByteArray.mk #[235]) ++ strOf (batR n) (Int.toNat 1)), .int true .i64 0]) [])) :=
  (t8 43 w rd rs n).trans (by kernel_rfl)
attribute [local irreducible] evalF Lf.gives in
theorem ref8_43 (w rd rs n : Int) : (T8 43 w rd rs n).leaf.gives (.tup [.str (strX 43 w rd rs n), .int false .i64 (errX 43 w rd rs n)]) := by
  have hE : errX 43 w rd rs n = (bif (decide (w = 4) || decide (w = 8)) && ((false || decide (w = 4)) && (decide (rd = 0) && decide (rs = 0))) then (bif ((decide (-128 ≤ n) && decide (n ≤ 127)) || false) then 0 else 10) else 1) := by kernel_rfl
  refine gives_tree (u8_43 w rd rs n) ?_
  refine gives_cond (fun h1 => ?_) (fun h1 => ?_)
  · have hA : ((decide (w = 4) || decide (w = 8)) && ((false || decide (w = 4)) && (decide (rd = 0) && decide (rs = 0)))) = false := by
      simp [cms] at h1 ⊢
      first | done | omega | ((repeat' split at h1) <;> omega) | ((repeat' split at h1) <;> (repeat' split at h1) <;> omega) | skip
    have he : errX 43 w rd rs n = 1 := by rw [hE, hA]; rfl
    exact givesE (strX_bad he (by decide)) he.symm
  have hA : ((decide (w = 4) || decide (w = 8)) && ((false || decide (w = 4)) && (decide (rd = 0) && decide (rs = 0)))) = true := by
    simp [cms] at h1 ⊢
    first | done | omega | ((repeat' split at h1) <;> omega) | ((repeat' split at h1) <;> (repeat' split at h1) <;> omega) | skip
  refine gives_cond (fun h9 => ?_) (fun h9 => ?_)
  · have hF : ((decide (-128 ≤ n) && decide (n ≤ 127)) || false) = false := by
      simp [cms] at h9 ⊢
      first | done | omega | ((repeat' split at h9) <;> omega) | skip
    have he : errX 43 w rd rs n = 10 := by rw [hE, hA, hF]; rfl
    exact givesE (strX_bad he (by decide)) he.symm
  have hF : ((decide (-128 ≤ n) && decide (n ≤ 127)) || false) = true := by
    simp [cms] at h9 ⊢
    first | done | omega | ((repeat' split at h9) <;> omega) | skip
  have he : errX 43 w rd rs n = 0 := by rw [hE, hA, hF]; rfl
  refine givesE ?_ he.symm
  rw [strX_ok he]
  refine Eq.trans (b := S [235] ++ S [batR n 0]) (by kernel_rfl) ?_
  simp only [S_append]
  exact congrArg S (Eq.trans (b := [235, batR n 0]) (by rfl) (Eq.trans (b := [235, bat n 0]) (by rw [batR_eq n (by decide : 0 < 8)]) (by kernel_rfl)))

theorem u8_44 (w rd rs n : Int) : (T8 44 w rd rs n).bare = (bif (bif (cm .neq w 4) then (bif (cm .neq w 8) then true else (bif (cm .neq 4 w) then true else (bif (!(bif (cm .geq rd 0) then (cm .leq rd 15) else false)) then true else (bif (!(bif (cm .geq rs 0) then (cm .leq rs 15) else false)) then true else (bif (cm .neq rs 0) then true else false))))) else (bif (cm .neq 4 w) then true else (bif (!(bif (cm .geq rd 0) then (cm .leq rd 15) else false)) then true else (bif (!(bif (cm .geq rs 0) then (cm .leq rs 15) else false)) then true else (bif (cm .neq rs 0) then true else false))))) then .ret (.tup [.str ⟨#[]⟩, .int true .i64 1]) [] else (bif (bif (!(bif (cm .geq rd 2) then (bif (cm .leq rd 7) then true else (bif (cm .geq rd 12) then (cm .leq rd 15) else false)) else (bif (cm .geq rd 12) then (cm .leq rd 15) else false))) then true else false) then .ret (.tup [.str ⟨#[]⟩, .int true .i64 1]) [] else (bif (bif (cm .lss n (-2147483648)) then true else (bif (cm .geq n 2147483648) then true else false)) then .ret (.tup [.str ⟨#[]⟩, .int true .i64 10]) [] else .ret (.tup [(.str ((ByteArray.mk #[15, 128]).extract 0 (ar .sub .i64 (↑(ByteArray.mk #[15, 128]).size) 1).toNat ++ strOf (nth [ar .add .u8 (chr (ByteArray.mk #[15, 128]) (ar .sub .i64 (↑(ByteArray.mk #[15, 128]).size) 1).toNat) (conv .u8 rd)] 0) 1 ++ strOf (batR n) (Int.toNat 4))), .int true .i64 0]) []))) :=
  (t8 44 w rd rs n).trans (by kernel_rfl)
attribute [local irreducible] evalF Lf.gives in
theorem ref8_44 (w rd rs n : Int) : (T8 44 w rd rs n).leaf.gives (.tup [.str (strX 44 w rd rs n), .int false .i64 (errX 44 w rd rs n)]) := by
  have hE : errX 44 w rd rs n = (bif (decide (w = 4) || decide (w = 8)) && ((false || decide (w = 4)) && (condX rd && decide (rs = 0))) then (bif ((decide (-2147483648 ≤ n) && decide (n ≤ 2147483647)) || false) then 0 else 10) else 1) := by kernel_rfl
  refine gives_tree (u8_44 w rd rs n) ?_
  refine gives_cond (fun h1 => ?_) (fun h1 => ?_)
  · have hA : ((decide (w = 4) || decide (w = 8)) && ((false || decide (w = 4)) && (condX rd && decide (rs = 0)))) = false := by
      simp [cms] at h1 ⊢
      first | done | omega | ((repeat' split at h1) <;> omega) | ((repeat' split at h1) <;> (repeat' split at h1) <;> omega) | skip
    have he : errX 44 w rd rs n = 1 := by rw [hE, hA]; rfl
    exact givesE (strX_bad he (by decide)) he.symm
  refine gives_cond (fun h2 => ?_) (fun h2 => ?_)
  · have hA : ((decide (w = 4) || decide (w = 8)) && ((false || decide (w = 4)) && (condX rd && decide (rs = 0)))) = false := by
      simp [cms] at h1 h2 ⊢
      first | done | omega | ((repeat' split at h1) <;> omega) | ((repeat' split at h1) <;> (repeat' split at h2) <;> omega) | skip
    have he : errX 44 w rd rs n = 1 := by rw [hE, hA]; rfl
    exact givesE (strX_bad he (by decide)) he.symm
  have hA : ((decide (w = 4) || decide (w = 8)) && ((false || decide (w = 4)) && (condX rd && decide (rs = 0)))) = true := by
    simp [cms] at h1 h2 ⊢
    first | done | omega | ((repeat' split at h1) <;> omega) | ((repeat' split at h1) <;> (repeat' split at h2) <;> omega) | skip
  refine gives_cond (fun h9 => ?_) (fun h9 => ?_)
  · have hF : ((decide (-2147483648 ≤ n) && decide (n ≤ 2147483647)) || false) = false := by
      simp [cms] at h9 ⊢
      first | done | omega | ((repeat' split at h9) <;> omega) | skip
    have he : errX 44 w rd rs n = 10 := by rw [hE, hA, hF]; rfl
    exact givesE (strX_bad he (by decide)) he.symm
  have hF : ((decide (-2147483648 ≤ n) && decide (n ≤ 2147483647)) || false) = true := by
    simp [cms] at h9 ⊢
    first | done | omega | ((repeat' split at h9) <;> omega) | skip
  have he : errX 44 w rd rs n = 0 := by rw [hE, hA, hF]; rfl
  have hcd : small rd := by simp [regX, condX] at hA; simp only [small]; omega
  refine givesE ?_ he.symm
  rw [strX_ok he]
  refine Eq.trans (b := S [15] ++ S [ar .add .u8 128 (conv .u8 rd)] ++ S [batR n 0, batR n 1, batR n 2, batR n 3]) (by kernel_rfl) ?_
  simp only [S_append]
  exact congrArg S (Eq.trans (b := [15, ar .add .u8 128 (conv .u8 rd), batR n 0, batR n 1, batR n 2, batR n 3]) (by rfl) (Eq.trans (b := [15, 128 + rd, bat n 0, bat n 1, bat n 2, bat n 3]) (by rw [addCond (by decide) hcd, batR_eq n (by decide : 0 < 8), batR_eq n (by decide : 1 < 8), batR_eq n (by decide : 2 < 8), batR_eq n (by decide : 3 < 8)]) (by kernel_rfl)))

theorem u8_45 (w rd rs n : Int) : (T8 45 w rd rs n).bare = (bif (bif (cm .neq w 4) then (bif (cm .neq w 8) then true else (bif (cm .neq 4 w) then true else (bif (!(bif (cm .geq rd 0) then (cm .leq rd 15) else false)) then true else (bif (!(bif (cm .geq rs 0) then (cm .leq rs 15) else false)) then true else (bif (cm .neq rs 0) then true else false))))) else (bif (cm .neq 4 w) then true else (bif (!(bif (cm .geq rd 0) then (cm .leq rd 15) else false)) then true else (bif (!(bif (cm .geq rs 0) then (cm .leq rs 15) else false)) then true else (bif (cm .neq rs 0) then true else false))))) then .ret (.tup [.str ⟨#[]⟩, .int true .i64 1]) [] else (bif (bif (!(bif (cm .geq rd 2) then (bif (cm .leq rd 7) then true else (bif (cm .geq rd 12) then (cm .leq rd 15) else false)) else (bif (cm .geq rd 12) then (cm .leq rd 15) else false))) then true else false) then .ret (.tup [.str ⟨#[]⟩, .int true .i64 1]) [] else (bif (bif (cm .lss n (-128)) then true else (cm .gtr n 127)) then .ret (.tup [.str ⟨#[]⟩, .int true .i64 10]) [] else .ret (.tup [(.str ((ByteArray.mk #[112]).extract 0 (ar .sub .i64 (↑(ByteArray.mk #[112]).size) 1).toNat ++ strOf (nth [ar .add .u8 (chr (ByteArray.mk #[112]) (ar .sub .i64 (↑(ByteArray.mk #[112]).size) 1).toNat) (conv .u8 rd)] 0) 1 ++ strOf (batR n) (Int.toNat 1))), .int true .i64 0]) []))) :=
  (t8 45 w rd rs n).trans (by kernel_rfl)
attribute [local irreducible] evalF Lf.gives in
theorem ref8_45 (w rd rs n : Int) : (T8 45 w rd rs n).leaf.gives (.tup [.str (strX 45 w rd rs n), .int false .i64 (errX 45 w rd rs n)]) := by
  have hE : errX 45 w rd rs n = (bif (decide (w = 4) || decide (w = 8)) && ((false || decide (w = 4)) && (condX rd && decide (rs = 0))) then (bif ((decide (-128 ≤ n) && decide (n ≤ 127)) || false) then 0 else 10) else 1) := by kernel_rfl
  refine gives_tree (u8_45 w rd rs n) ?_
  refine gives_cond (fun h1 => ?_) (fun h1 => ?_)
  · have hA : ((decide (w = 4) || decide (w = 8)) && ((false || decide (w = 4)) && (condX rd && decide (rs = 0)))) = false := by
      simp [cms] at h1 ⊢
      first | done | omega | ((repeat' split at h1) <;> omega) | ((repeat' split at h1) <;> (repeat' split at h1) <;> omega) | skip
    have he : errX 45 w rd rs n = 1 := by rw [hE, hA]; rfl
    exact givesE (strX_bad he (by decide)) he.symm
  refine gives_cond (fun h2 => ?_) (fun h2 => ?_)
  · have hA : ((decide (w = 4) || decide (w = 8)) && ((false || decide (w = 4)) && (condX rd && decide (rs = 0)))) = false := by
      simp [cms] at h1 h2 ⊢
      first | done | omega | ((repeat' split at h1) <;> omega) | ((repeat' split at h1) <;> (repeat' split at h2) <;> omega) | skip
    have he : errX 45 w rd rs n = 1 := by rw [hE, hA]; rfl
    exact givesE (strX_bad he (by decide)) he.symm
  have hA : ((decide (w = 4) || decide (w = 8)) && ((false || decide (w = 4)) && (condX rd && decide (rs = 0)))) = true := by
    simp [cms] at h1 h2 ⊢
    first | done | omega | ((repeat' split at h1) <;> omega) | ((repeat' split at h1) <;> (repeat' split at h2) <;> omega) | skip
  refine gives_cond (fun h9 => ?_) (fun h9 => ?_)
  · have hF : ((decide (-128 ≤ n) && decide (n ≤ 127)) || false) = false := by
      simp [cms] at h9 ⊢
      first | done | omega | ((repeat' split at h9) <;> omega) | skip
    have he : errX 45 w rd rs n = 10 := by rw [hE, hA, hF]; rfl
    exact givesE (strX_bad he (by decide)) he.symm
  have hF : ((decide (-128 ≤ n) && decide (n ≤ 127)) || false) = true := by
    simp [cms] at h9 ⊢
    first | done | omega | ((repeat' split at h9) <;> omega) | skip
  have he : errX 45 w rd rs n = 0 := by rw [hE, hA, hF]; rfl
  have hcd : small rd := by simp [regX, condX] at hA; simp only [small]; omega
  refine givesE ?_ he.symm
  rw [strX_ok he]
  refine Eq.trans (b := S [] ++ S [ar .add .u8 112 (conv .u8 rd)] ++ S [batR n 0]) (by kernel_rfl) ?_
  simp only [S_append]
  exact congrArg S (Eq.trans (b := [ar .add .u8 112 (conv .u8 rd), batR n 0]) (by rfl) (Eq.trans (b := [112 + rd, bat n 0]) (by rw [addCond (by decide) hcd, batR_eq n (by decide : 0 < 8)]) (by kernel_rfl)))

theorem u8_46 (w rd rs n : Int) : (T8 46 w rd rs n).bare = (bif (bif (cm .neq w 4) then (bif (cm .neq w 8) then true else (bif (cm .neq 4 w) then true else (bif (!(bif (cm .geq rd 0) then (cm .leq rd 15) else false)) then true else (bif (!(bif (cm .geq rs 0) then (cm .leq rs 15) else false)) then true else (bif (cm .neq rd 0) then true else (bif (cm .neq rs 0) then true else (cm .neq n 0))))))) else (bif (cm .neq 4 w) then true else (bif (!(bif (cm .geq rd 0) then (cm .leq rd 15) else false)) then true else (bif (!(bif (cm .geq rs 0) then (cm .leq rs 15) else false)) then true else (bif (cm .neq rd 0) then true else (bif (cm .neq rs 0) then true else (cm .neq n 0))))))) then .ret (.tup [.str ⟨#[]⟩, .int true .i64 1]) [] else .ret (.tup [.str ((ByteArray.mk #[15, 5]) ++ strOf (batR n) (Int.toNat 0)), .int true .i64 0]) []) :=
  (t8 46 w rd rs n).trans (by kernel_rfl)
attribute [local irreducible] evalF Lf.gives in
theorem ref8_46 (w rd rs n : Int) : (T8 46 w rd rs n).leaf.gives (.tup [.str (strX 46 w rd rs n), .int false .i64 (errX 46 w rd rs n)]) := by
  have hE : errX 46 w rd rs n = (bif (decide (w = 4) || decide (w = 8)) && ((false || decide (w = 4)) && (decide (rd = 0) && (decide (rs = 0) && decide (n = 0)))) then (bif ((true) || false) then 0 else 10) else 1) := by kernel_rfl
  refine gives_tree (u8_46 w rd rs n) ?_
  refine gives_cond (fun h1 => ?_) (fun h1 => ?_)
  · have hA : ((decide (w = 4) || decide (w = 8)) && ((false || decide (w = 4)) && (decide (rd = 0) && (decide (rs = 0) && decide (n = 0))))) = false := by
      simp [cms] at h1 ⊢
      first | done | omega | ((repeat' split at h1) <;> omega) | ((repeat' split at h1) <;> (repeat' split at h1) <;> omega) | skip
    have he : errX 46 w rd rs n = 1 := by rw [hE, hA]; rfl
    exact givesE (strX_bad he (by decide)) he.symm
  have hA : ((decide (w = 4) || decide (w = 8)) && ((false || decide (w = 4)) && (decide (rd = 0) && (decide (rs = 0) && decide (n = 0))))) = true := by
    simp [cms] at h1 ⊢
    first | done | omega | ((repeat' split at h1) <;> omega) | ((repeat' split at h1) <;> (repeat' split at h1) <;> omega) | skip
  have he : errX 46 w rd rs n = 0 := by rw [hE, hA]; rfl
  refine givesE ?_ he.symm
  rw [strX_ok he]
  refine Eq.trans (b := S [15, 5] ++ S []) (by kernel_rfl) ?_
  simp only [S_append]
  exact congrArg S (Eq.trans (b := [15, 5]) (by rfl) (Eq.trans (b := [15, 5]) (by rfl) (by kernel_rfl)))

end Go.X
end

section
set_option linter.unusedVariables false
open Go Go.Ev Go.Proofs
namespace Go.X

def ref8P (k : Int) : Prop := ∀ (w rd rs n : Int), (evalF E8s Try.prog 37 [SV.agg [SV.int false IntKind.i64 k, SV.int false IntKind.i64 w, SV.int false IntKind.i64 rd, SV.int false IntKind.i64 rs, SV.int false IntKind.i64 n]] [] 1024).leaf.gives (.tup [.str (strX k w rd rs n), .int false .i64 (errX k w rd rs n)])
attribute [local irreducible] evalF Lf.gives strX errX in
theorem ref8_all (k : Int) (h1 : 1 ≤ k) (h2 : k ≤ 46) : ref8P k := by
  have : k = 1 ∨ k = 2 ∨ k = 3 ∨ k = 4 ∨ k = 5 ∨ k = 6 ∨ k = 7 ∨ k = 8 ∨ k = 9 ∨ k = 10 ∨ k = 11 ∨ k = 12 ∨ k = 13 ∨ k = 14 ∨ k = 15 ∨ k = 16 ∨ k = 17 ∨ k = 18 ∨ k = 19 ∨ k = 20 ∨ k = 21 ∨ k = 22 ∨ k = 23 ∨ k = 24 ∨ k = 25 ∨ k = 26 ∨ k = 27 ∨ k = 28 ∨ k = 29 ∨ k = 30 ∨ k = 31 ∨ k = 32 ∨ k = 33 ∨ k = 34 ∨ k = 35 ∨ k = 36 ∨ k = 37 ∨ k = 38 ∨ k = 39 ∨ k = 40 ∨ k = 41 ∨ k = 42 ∨ k = 43 ∨ k = 44 ∨ k = 45 ∨ k = 46 := by omega
  rcases this with rfl | rfl | rfl | rfl | rfl | rfl | rfl | rfl | rfl | rfl | rfl | rfl | rfl | rfl | rfl | rfl | rfl | rfl | rfl | rfl | rfl | rfl | rfl | rfl | rfl | rfl | rfl | rfl | rfl | rfl | rfl | rfl | rfl | rfl | rfl | rfl | rfl | rfl | rfl | rfl | rfl | rfl | rfl | rfl | rfl | rfl
  · exact ref8_1
  · exact ref8_2
  · exact ref8_3
  · exact ref8_4
  · exact ref8_5
  · exact ref8_6
  · exact ref8_7
  · exact ref8_8
  · exact ref8_9
  · exact ref8_10
  · exact ref8_11
  · exact ref8_12
  · exact ref8_13
  · exact ref8_14
  · exact ref8_15
  · exact ref8_16
  · exact ref8_17
  · exact ref8_18
  · exact ref8_19
  · exact ref8_20
  · exact ref8_21
  · exact ref8_22
  · exact ref8_23
  · exact ref8_24
  · exact ref8_25
  · exact ref8_26
  · exact ref8_27
  · exact ref8_28
  · exact ref8_29
  · exact ref8_30
  · exact ref8_31
  · exact ref8_32
  · exact ref8_33
  · exact ref8_34
  · exact ref8_35
  · exact ref8_36
  · exact ref8_37
  · exact ref8_38
  · exact ref8_39
  · exact ref8_40
  · exact ref8_41
  · exact ref8_42
  · exact ref8_43
  · exact ref8_44
  · exact ref8_45
  · exact ref8_46

attribute [local irreducible] evalF Lf.gives in
theorem ref8_0 (op w rd rs n : Int) (h : op < 1 ∨ 46 < op) : (T8 op w rd rs n).leaf.gives (.tup [.str (strX op w rd rs n), .int false .i64 (errX op w rd rs n)]) := by
  have he : errX op w rd rs n = 1 := by
    have : (decide (op < 1) || decide (46 < op)) = true := by simpa using h
    unfold errX
    rw [this]
    rfl
  refine gives_tree (t8 op w rd rs n) ?_
  refine gives_cond (fun h1 => ?_) (fun h1 => ?_)
  · exact givesE (strX_bad he (by decide)) he.symm
  · exfalso
    simp [cm_geq', cm_leq'] at h1
    first | omega | ((repeat' split at h1) <;> omega)

attribute [local irreducible] evalF Lf.gives strX errX in
theorem spec8 : SpecOk Try.prog 37 (specOf g7) := spec_okA false e8s_calls mixed fn8 b8 n8 (loops_noLoop e8s_loop _ _) g7 fun a0 H0 r hg hn => by
  unfold g7 at hg
  split at hg
  · rename_i op w rd rs n
    simp only [Option.some.injEq] at hg
    subst hg
    by_cases h : op < 1 ∨ 46 < op
    · exact ⟨_, id, fun _ => rfl, gives_giv (ref8_0 op w rd rs n h)⟩
    · exact ⟨_, id, fun _ => rfl, gives_giv (ref8_all op (by omega) (by omega) w rd rs n)⟩
  · cases hg

end Go.X
end

section
set_option linter.unusedVariables false
open Go Go.Ev Go.Proofs
namespace Go.La

/-- an instruction's four bytes -/
def wd4 (op rd r1 r2 n : Int) : ByteArray := strOf (nth [conv .u8 (Rv.wordL op rd r1 r2 n), conv .u8 (ar .shr .u32 (Rv.wordL op rd r1 r2 n) 8), conv .u8 (ar .shr .u32 (Rv.wordL op rd r1 r2 n) 16), conv .u8 (ar .shr .u32 (Rv.wordL op rd r1 r2 n) 24)] 0) 4
def g48 : List SV → Heap → Option R
  | [.agg [.int false .i64 op, .int false .i64 rd, .int false .i64 r1, .int false .i64 r2, .int false .i64 n]], [] => some ⟨[], .str (wd4 op rd r1 r2 n), []⟩
  | _, _ => none
noncomputable def EW0 : Env := envOf [(60, Rv.sEnc), (44, Rv.sEnc)] noLoop
theorem ew0_calls : CallsOk EW0 Try.prog := (SpecsOk.cons Rv.ok6 (SpecsOk.cons Rv.ok7 SpecsOk.nil)).calls noLoop
theorem ew0_loop : EW0.loop = noLoop := rfl
theorem t48 (op rd r1 r2 n : Int) : (evalF EW0 Try.prog 48 [.agg [.int false .i64 op, .int false .i64 rd, .int false .i64 r1, .int false .i64 r2, .int false .i64 n]] [] 1024).bare = .ret (.str (wd4 op rd r1 r2 n)) [] := by kernel_rfl
theorem t36 (op rd r1 r2 n : Int) : (evalF EW0 Try.prog 36 [.agg [.int false .i64 op, .int false .i64 rd, .int false .i64 r1, .int false .i64 r2, .int false .i64 n]] [] 1024).bare = .ret (.str (wd4 op rd r1 r2 n)) [] := by kernel_rfl
theorem fn48 : Try.prog.funcs[48]? = some Try.f48 := by kernel_rfl
theorem b48 : Try.f48.body = some (bodyOf Try.f48) := by kernel_rfl
theorem n48 : (Try.f48.name == "runtime.NumGoroutine") = false := by kernel_rfl
theorem fn36 : Try.prog.funcs[36]? = some Try.f36 := by kernel_rfl
theorem b36 : Try.f36.body = some (bodyOf Try.f36) := by kernel_rfl
theorem n36 : (Try.f36.name == "runtime.NumGoroutine") = false := by kernel_rfl
attribute [local irreducible] evalF Lf.gives in
theorem spec48 : SpecOk Try.prog 48 (specOf g48) := spec_okA false ew0_calls mixed fn48 b48 n48 (loops_noLoop ew0_loop _ _) g48 fun a0 H0 r hg hn => by
  unfold g48 at hg
  split at hg
  · rename_i op rd r1 r2 n
    simp only [Option.some.injEq] at hg
    subst hg
    exact ⟨_, id, fun _ => rfl, gives_giv (gives_tree (t48 op rd r1 r2 n) (gives_ret fun σ σ' => rfl))⟩
  · cases hg
attribute [local irreducible] evalF Lf.gives in
theorem spec36 : SpecOk Try.prog 36 (specOf g48) := spec_okA false ew0_calls mixed fn36 b36 n36 (loops_noLoop ew0_loop _ _) g48 fun a0 H0 r hg hn => by
  unfold g48 at hg
  split at hg
  · rename_i op rd r1 r2 n
    simp only [Option.some.injEq] at hg
    subst hg
    exact ⟨_, id, fun _ => rfl, gives_giv (gives_tree (t36 op rd r1 r2 n) (gives_ret fun σ σ' => rfl))⟩
  · cases hg

noncomputable def EW : Env := inlF Try.prog (envOf [(48, specOf g48), (36, specOf g48), (50, specOf X.g7), (37, specOf X.g7), (47, specOf g47), (32, specOf g32)] noLoop) [49, 26] [] [] 2
theorem named49 : named Try.prog [49, 26] = true := by kernel_rfl
theorem ew_calls : CallsOk EW Try.prog := (inlF_calls ((SpecsOk.cons spec48 (SpecsOk.cons spec36 (SpecsOk.cons X.spec7 (SpecsOk.cons X.spec8 (SpecsOk.cons spec47 (SpecsOk.cons spec32 SpecsOk.nil)))))).calls noLoop) mixed named49 rfl rfl 2).1
theorem ew_loop : EW.loop = noLoop := rfl
--LEAVES

theorem t34 (y : Y) (i : Int) : (evalF EW Try.prog 34 [SV.ptr 0 0 0, SV.int false .i64 i] (hY y) 1024).bare =
    (bif (decide (0 ≤ i)) then
      bif (decide (i < (y.n : Int))) then
        bif (Nat.blt (i.toNat) (y.n)) then
          bif (Nat.blt (i.toNat) (y.n)) then
            bif (inB y.n i) then
              bif (labB y.n y.lb) then
                bif (Nat.beq (y.n) (y.n)) then
                  bif (Nat.beq (y.n) (y.n)) then
                    bif (Nat.beq (y.n) (y.n)) then
                      bif (Nat.beq (y.n + 1) (y.n + 1)) then
                        bif (Nat.beq (y.n + 1) (y.n + 1)) then
                          bif (cm .eql (y.kd i.toNat) 5) then
                            .ret (.str (wd4 3 1 0 0 (wyZ y i.toNat))) []
                          else
                            bif (cm .eql (y.kd i.toNat) 3) then
                              .ret (.str (wd4 3 0 0 0 (wyZ y i.toNat))) []
                            else
                              bif (decide (0 ≤ i)) then
                                bif (decide (i < (y.n : Int))) then
                                  bif (Nat.blt (i.toNat) (y.n)) then
                                    bif (Nat.blt (i.toNat) (y.n)) then
                                      bif (y.lg i.toNat) then
                                        .ret (.str (wd4 (ar .add .i64 (ar .xor .i64 (ar .sub .i64 (y.op i.toNat) 5) 1) 5) 0 (y.r1 i.toNat) (y.r2 i.toNat) 8 ++ wd4 3 0 0 0 (ar .sub .i64 (wyZ y i.toNat) 4))) []
                                      else
                                        .ret (.str (wd4 (y.op i.toNat) 0 (y.r1 i.toNat) (y.r2 i.toNat) (wyZ y i.toNat))) []
                                    else .bad
                                  else .bad
                                else .bad
                              else .bad
                        else .bad
                      else .bad
                    else .bad
                  else .bad
                else .bad
              else .bad
            else .bad
          else .bad
        else .bad
      else .bad
    else .bad) := by kernel_rfl

theorem t35 (y : Y) (i : Int) : (evalF EW Try.prog 35 [SV.ptr 0 0 0, SV.int false .i64 i] (hY y) 1024).bare =
    (bif (decide (0 ≤ i)) then
      bif (decide (i < (y.n : Int))) then
        bif (Nat.blt (i.toNat) (y.n)) then
          bif (Nat.blt (i.toNat) (y.n)) then
            bif (inB y.n i) then
              bif (labB y.n y.lb) then
                bif (Nat.beq (y.n) (y.n)) then
                  bif (Nat.beq (y.n) (y.n)) then
                    bif (Nat.beq (y.n) (y.n)) then
                      bif (Nat.beq (y.n + 1) (y.n + 1)) then
                        bif (Nat.beq (y.n + 1) (y.n + 1)) then
                          bif (inB y.n i) then
                            bif (Nat.beq (y.n) (y.n)) then
                              bif (Nat.beq (y.n) (y.n)) then
                                bif (Nat.beq (y.n) (y.n)) then
                                  bif (Nat.beq (y.n + 1) (y.n + 1)) then
                                    bif (Nat.beq (y.n + 1) (y.n + 1)) then
                                      bif (cm .eql (y.kd i.toNat) 5) then
                                        .ret (.str (X.strX 40 4 0 0 (ar .sub .i64 (wyZ y i.toNat) (↑(szN y.t (y.kd i.toNat) (y.bs i.toNat).size (y.lg i.toNat)) : Int)))) []
                                      else
                                        bif (bif cm .eql (y.kd i.toNat) 3 then allB [decide (0 ≤ i), decide (i < (y.n : Int)), i.toNat.blt y.n, i.toNat.blt y.n] else true) then
                                          bif (bif cm .eql (y.kd i.toNat) 3 then y.lg i.toNat else false) then
                                            .ret (.str (X.strX 42 4 0 0 (ar .sub .i64 (wyZ y i.toNat) (↑(szN y.t (y.kd i.toNat) (y.bs i.toNat).size (y.lg i.toNat)) : Int)))) []
                                          else
                                            bif (cm .eql (y.kd i.toNat) 3) then
                                              .ret (.str (X.strX 43 4 0 0 (ar .sub .i64 (wyZ y i.toNat) (↑(szN y.t (y.kd i.toNat) (y.bs i.toNat).size (y.lg i.toNat)) : Int)))) []
                                            else
                                              bif (decide (0 ≤ i)) then
                                                bif (decide (i < (y.n : Int))) then
                                                  bif (Nat.blt (i.toNat) (y.n)) then
                                                    bif (Nat.blt (i.toNat) (y.n)) then
                                                      bif (y.lg i.toNat) then
                                                        .ret (.str (X.strX 44 4 (y.op i.toNat) 0 (ar .sub .i64 (wyZ y i.toNat) (↑(szN y.t (y.kd i.toNat) (y.bs i.toNat).size (y.lg i.toNat)) : Int)))) []
                                                      else
                                                        .ret (.str (X.strX 45 4 (y.op i.toNat) 0 (ar .sub .i64 (wyZ y i.toNat) (↑(szN y.t (y.kd i.toNat) (y.bs i.toNat).size (y.lg i.toNat)) : Int)))) []
                                                    else .bad
                                                  else .bad
                                                else .bad
                                              else .bad
                                        else .bad
                                    else .bad
                                  else .bad
                                else .bad
                              else .bad
                            else .bad
                          else .bad
                        else .bad
                      else .bad
                    else .bad
                  else .bad
                else .bad
              else .bad
            else .bad
          else .bad
        else .bad
      else .bad
    else .bad) := by kernel_rfl

theorem t28 (t : Int) (kd : Int) (n : Int) (op : Int) (r1 : Int) (r2 : Int) (to : Int) (s : ByteArray) (l : Bool) : (evalF EW Try.prog 28 [SV.int false .i64 t, SV.agg [SV.int false .i64 kd, SV.str s, SV.int false .i64 n, SV.int false .i64 op, SV.int false .i64 r1, SV.int false .i64 r2], SV.bool false l, SV.int false .i64 to] [] 1024).bare =
    (bif (cm .eql t 1) then
      bif (cm .eql kd 5) then
        .ret (.str (wd4 3 1 0 0 to)) []
      else
        bif (cm .eql kd 3) then
          .ret (.str (wd4 3 0 0 0 to)) []
        else
          bif (!l) then
            .ret (.str (wd4 op 0 r1 r2 to)) []
          else
            .ret (.str (wd4 (ar .add .i64 5 (ar .xor .i64 (ar .sub .i64 op 5) 1)) 0 r1 r2 8 ++ wd4 3 0 0 0 (ar .sub .i64 to 4))) []
    else
      bif (bif cm .eql kd 3 then l else false) then
        .ret (.str (X.strX 42 4 0 0 (ar .sub .i64 to (bif cm .eql kd 1 then (↑s.size : Int) else bif cm .eql kd 2 then 0 else bif cm .eql t 1 then bif bif cm .eql kd 4 then l else false then 8 else 4 else bif bif cm .eql kd 5 then true else bif cm .eql kd 3 then l else false then 5 else bif l then 6 else 2)))) []
      else
        bif (cm .eql kd 3) then
          .ret (.str (X.strX 43 4 0 0 (ar .sub .i64 to (bif cm .eql kd 1 then (↑s.size : Int) else bif cm .eql kd 2 then 0 else bif cm .eql t 1 then bif bif cm .eql kd 4 then l else false then 8 else 4 else bif bif cm .eql kd 5 then true else bif cm .eql kd 3 then l else false then 5 else bif l then 6 else 2)))) []
        else
          bif (bif cm .eql kd 4 then l else false) then
            .ret (.str (X.strX 44 4 op 0 (ar .sub .i64 to (bif cm .eql kd 1 then (↑s.size : Int) else bif cm .eql kd 2 then 0 else bif cm .eql t 1 then bif bif cm .eql kd 4 then l else false then 8 else 4 else bif bif cm .eql kd 5 then true else bif cm .eql kd 3 then l else false then 5 else bif l then 6 else 2)))) []
          else
            bif (cm .eql kd 4) then
              .ret (.str (X.strX 45 4 op 0 (ar .sub .i64 to (bif cm .eql kd 1 then (↑s.size : Int) else bif cm .eql kd 2 then 0 else bif cm .eql t 1 then bif bif cm .eql kd 4 then l else false then 8 else 4 else bif bif cm .eql kd 5 then true else bif cm .eql kd 3 then l else false then 5 else bif l then 6 else 2)))) []
            else
              .ret (.str (X.strX 40 4 0 0 (ar .sub .i64 to (bif cm .eql kd 1 then (↑s.size : Int) else bif cm .eql kd 2 then 0 else bif cm .eql t 1 then bif bif cm .eql kd 4 then l else false then 8 else 4 else bif bif cm .eql kd 5 then true else bif cm .eql kd 3 then l else false then 5 else bif l then 6 else 2)))) []) := by kernel_rfl

end Go.La
end

section
set_option linter.unusedVariables false
open Go Go.Ev Go.Proofs
namespace Go.La

/-- the branch that goes where another one does not -/
def oppI (op : Int) : Int := ar .add .i64 (ar .xor .i64 (ar .sub .i64 op 5) 1) 5
/-- the bytes of a way -/
def byK (t kd op r1 r2 : Int) (lg : Bool) (m : Nat) (w : Int) : ByteArray :=
  bif decide (t = 1) then
    (bif decide (kd = 5) then wd4 3 1 0 0 w else bif decide (kd = 3) then wd4 3 0 0 0 w else bif lg then wd4 (oppI op) 0 r1 r2 8 ++ wd4 3 0 0 0 (ar .sub .i64 w 4) else wd4 op 0 r1 r2 w)
  else
    (bif decide (kd = 5) then X.strX 40 4 0 0 (ar .sub .i64 w (szN t kd m lg : Nat)) else bif decide (kd = 3) && lg then X.strX 42 4 0 0 (ar .sub .i64 w (szN t kd m lg : Nat)) else bif decide (kd = 3) then X.strX 43 4 0 0 (ar .sub .i64 w (szN t kd m lg : Nat))
      else bif lg then X.strX 44 4 op 0 (ar .sub .i64 w (szN t kd m lg : Nat)) else X.strX 45 4 op 0 (ar .sub .i64 w (szN t kd m lg : Nat)))
def byY (y : Y) (i : Nat) : ByteArray := byK y.t (y.kd i) (y.op i) (y.r1 i) (y.r2 i) (y.lg i) (y.bs i).size (wyZ y i)
/-- an item's bytes -/
def byI (y : Y) (i : Nat) : ByteArray := bif decide (y.kd i = 1) then y.bs i else bif decide (y.kd i = 2) then .empty else byY y i

noncomputable def g34 (b : Bool) : List SV → Heap → Option R
  | [.ptr k r c, .int false .i64 i], H => match unY H with
    | some (nn, y) => match Nat.beq k 0 && (Nat.beq r 0 && Nat.beq c 0) with
      | true => some ⟨clsB (decide (y.t = 1) = b) :: inB y.n i :: labB y.n y.lb :: nn, .str (byY y i.toNat), []⟩
      | false => none
    | none => none
  | _, _ => none
theorem fn34 : Try.prog.funcs[34]? = some Try.f34 := by kernel_rfl
theorem b34 : Try.f34.body = some (bodyOf Try.f34) := by kernel_rfl
theorem n34 : (Try.f34.name == "runtime.NumGoroutine") = false := by kernel_rfl
theorem fn35 : Try.prog.funcs[35]? = some Try.f35 := by kernel_rfl
theorem b35 : Try.f35.body = some (bodyOf Try.f35) := by kernel_rfl
theorem n35 : (Try.f35.name == "runtime.NumGoroutine") = false := by kernel_rfl
theorem fn28 : Try.prog.funcs[28]? = some Try.f28 := by kernel_rfl
theorem b28 : Try.f28.body = some (bodyOf Try.f28) := by kernel_rfl
theorem n28 : (Try.f28.name == "runtime.NumGoroutine") = false := by kernel_rfl

attribute [local irreducible] evalF Lf.gives wd4 X.strX in
theorem spec34 : SpecOk Try.prog 34 (specOf (g34 true)) := spec_okA false ew_calls mixed fn34 b34 n34 (loops_noLoop ew_loop _ _) (g34 true) fun a0 H0 r hg hn => by
  unfold g34 at hg
  split at hg
  · rename_i k r c i
    split at hg
    · rename_i nn y hy
      split at hg
      · rename_i hk
        simp only [Bool.and_eq_true, Nat.beq_eq] at hk
        obtain ⟨rfl, rfl, rfl⟩ := hk
        simp only [Option.some.injEq] at hg
        subst hg
        simp only [allB, Bool.and_eq_true, clsB_iff] at hn
        obtain ⟨ht, hi, hlb, hnn⟩ := hn
        have hi' := inB_iff.1 hi
        obtain ⟨h0, h1⟩ := hi'
        refine ⟨_, id, fun _ => rfl, ?_⟩
        show GivesD _ (evalF EW Try.prog 34 _ (roH [] H0) base).leaf
        rw [unY_all hy hnn]
        refine gives_giv (gives_tree (t34 y i) ?_)
        have hl : i.toNat < y.n := by omega
        simp only [decide_eq_true h0, decide_eq_true h1, blt_t hl, cond_true, cm_eql', hi, hlb, beq_t, byY, byK, ht]
        refine gives_cond (fun c => ?_) (fun c => ?_)
        · rw [c]; exact gives_ret fun σ σ' => rfl
        rw [c]
        refine gives_cond (fun c => ?_) (fun c => ?_)
        · rw [c]; exact gives_ret fun σ σ' => rfl
        rw [c]
        refine gives_cond (fun c => ?_) (fun c => ?_)
        · rw [c]; exact gives_ret fun σ σ' => rfl
        · rw [c]; exact gives_ret fun σ σ' => rfl
      · cases hg
    · cases hg
  · cases hg

attribute [local irreducible] evalF Lf.gives wd4 X.strX in
theorem spec35 : SpecOk Try.prog 35 (specOf (g34 false)) := spec_okA false ew_calls mixed fn35 b35 n35 (loops_noLoop ew_loop _ _) (g34 false) fun a0 H0 r hg hn => by
  unfold g34 at hg
  split at hg
  · rename_i k r c i
    split at hg
    · rename_i nn y hy
      split at hg
      · rename_i hk
        simp only [Bool.and_eq_true, Nat.beq_eq] at hk
        obtain ⟨rfl, rfl, rfl⟩ := hk
        simp only [Option.some.injEq] at hg
        subst hg
        simp only [allB, Bool.and_eq_true, clsB_iff] at hn
        obtain ⟨ht, hi, hlb, hnn⟩ := hn
        have hi' := inB_iff.1 hi
        obtain ⟨h0, h1⟩ := hi'
        refine ⟨_, id, fun _ => rfl, ?_⟩
        show GivesD _ (evalF EW Try.prog 35 _ (roH [] H0) base).leaf
        rw [unY_all hy hnn]
        refine gives_giv (gives_tree (t35 y i) ?_)
        have hl : i.toNat < y.n := by omega
        simp only [decide_eq_true h0, decide_eq_true h1, blt_t hl, cond_true, cm_eql', hi, hlb, beq_t, byY, byK, ht, cond_false, allB, Bool.and_true]
        refine gives_cond (fun c => ?_) (fun c => ?_)
        · rw [c]; exact gives_ret fun σ σ' => rfl
        rw [c]
        cases c3 : decide (y.kd i.toNat = 3) <;> cases cl : y.lg i.toNat <;> exact gives_ret fun σ σ' => rfl
      · cases hg
    · cases hg
  · cases hg

/-- the page's -/
noncomputable def g28 : List SV → Heap → Option R
  | [.int false .i64 t, .agg [.int false .i64 kd, .str s, .int false .i64 n, .int false .i64 op, .int false .i64 r1, .int false .i64 r2], .bool false l, .int false .i64 to], [] => some ⟨[clsB (kd = 3 ∨ kd = 4 ∨ kd = 5)], .str (byK t kd op r1 r2 l s.size to), []⟩
  | _, _ => none
theorem opp_comm (op : Int) : ar .add .i64 5 (ar .xor .i64 (ar .sub .i64 op 5) 1) = oppI op := by
  simp only [oppI, ar, Int.add_comm]
attribute [local irreducible] evalF Lf.gives wd4 X.strX in
theorem spec28 : SpecOk Try.prog 28 (specOf g28) := spec_okA false ew_calls mixed fn28 b28 n28 (loops_noLoop ew_loop _ _) g28 fun a0 H0 r hg hn => by
  unfold g28 at hg
  split at hg
  · rename_i t kd s n op r1 r2 l to
    simp only [Option.some.injEq] at hg
    subst hg
    simp only [allB, Bool.and_true, clsB_iff] at hn
    refine ⟨_, id, fun _ => rfl, gives_giv (gives_tree (t28 t kd n op r1 r2 to s l) ?_)⟩
    simp only [cm_eql', opp_comm, byK, szN]
    rcases hn with rfl | rfl | rfl <;> cases ht : decide (t = 1) <;> cases l <;> exact gives_ret fun σ σ' => rfl
  · cases hg

end Go.La
end

section
set_option linter.unusedVariables false
open Go Go.Ev Go.Proofs
namespace Go.La

noncomputable def EB : Env := envOf [(34, specOf (g34 true)), (35, specOf (g34 false))] noLoop
theorem eb_calls : CallsOk EB Try.prog := (SpecsOk.cons spec34 (SpecsOk.cons spec35 SpecsOk.nil)).calls noLoop
theorem eb_loop : EB.loop = noLoop := rfl
--LEAVES

theorem t23 (y : Y) (i : Int) : (evalF EB Try.prog 23 [SV.ptr 0 0 0, SV.int false .i64 i] (hY y) 1024).bare =
    (bif (decide (0 ≤ i)) then
      bif (decide (i < (y.n : Int))) then
        bif (Nat.blt (i.toNat) (y.n)) then
          bif (Nat.blt (i.toNat) (y.n)) then
            bif (cm .eql (y.kd i.toNat) 1) then
              bif (decide (0 ≤ i)) then
                bif (decide (i < (y.n : Int))) then
                  bif (Nat.blt (i.toNat) (y.n)) then
                    bif (Nat.blt (i.toNat) (y.n)) then
                      .ret (.str (y.bs i.toNat)) []
                    else .bad
                  else .bad
                else .bad
              else .bad
            else
              bif (cm .eql (y.kd i.toNat) 2) then
                .ret (.str ((ByteArray.mk #[]))) []
              else
                bif (cm .eql y.t 1) then
                  bif (clsB (decide (y.t = 1) = true)) then
                    bif (inB y.n i) then
                      bif (labB y.n y.lb) then
                        bif (Nat.beq (y.n) (y.n)) then
                          bif (Nat.beq (y.n) (y.n)) then
                            bif (Nat.beq (y.n) (y.n)) then
                              bif (Nat.beq (y.n + 1) (y.n + 1)) then
                                bif (Nat.beq (y.n + 1) (y.n + 1)) then
                                  .ret (.str (byY y i.toNat)) []
                                else .bad
                              else .bad
                            else .bad
                          else .bad
                        else .bad
                      else .bad
                    else .bad
                  else .bad
                else
                  bif (clsB (decide (y.t = 1) = false)) then
                    bif (inB y.n i) then
                      bif (labB y.n y.lb) then
                        bif (Nat.beq (y.n) (y.n)) then
                          bif (Nat.beq (y.n) (y.n)) then
                            bif (Nat.beq (y.n) (y.n)) then
                              bif (Nat.beq (y.n + 1) (y.n + 1)) then
                                bif (Nat.beq (y.n + 1) (y.n + 1)) then
                                  .ret (.str (byY y i.toNat)) []
                                else .bad
                              else .bad
                            else .bad
                          else .bad
                        else .bad
                      else .bad
                    else .bad
                  else .bad
          else .bad
        else .bad
      else .bad
    else .bad) := by kernel_rfl

noncomputable def g23 : List SV → Heap → Option R
  | [.ptr k r c, .int false .i64 i], H => match unY H with
    | some (nn, y) => match Nat.beq k 0 && (Nat.beq r 0 && Nat.beq c 0) with
      | true => some ⟨inB y.n i :: labB y.n y.lb :: nn, .str (byI y i.toNat), []⟩
      | false => none
    | none => none
  | _, _ => none
theorem fn23 : Try.prog.funcs[23]? = some Try.f23 := by kernel_rfl
theorem b23 : Try.f23.body = some (bodyOf Try.f23) := by kernel_rfl
theorem n23 : (Try.f23.name == "runtime.NumGoroutine") = false := by kernel_rfl
attribute [local irreducible] evalF Lf.gives byY in
theorem spec23 : SpecOk Try.prog 23 (specOf g23) := spec_okA false eb_calls mixed fn23 b23 n23 (loops_noLoop eb_loop _ _) g23 fun a0 H0 r hg hn => by
  unfold g23 at hg
  split at hg
  · rename_i k r c i
    split at hg
    · rename_i nn y hy
      split at hg
      · rename_i hk
        simp only [Bool.and_eq_true, Nat.beq_eq] at hk
        obtain ⟨rfl, rfl, rfl⟩ := hk
        simp only [Option.some.injEq] at hg
        subst hg
        simp only [allB, Bool.and_eq_true] at hn
        obtain ⟨hi, hlb, hnn⟩ := hn
        have hi' := inB_iff.1 hi
        obtain ⟨h0, h1⟩ := hi'
        refine ⟨_, id, fun _ => rfl, ?_⟩
        show GivesD _ (evalF EB Try.prog 23 _ (roH [] H0) base).leaf
        rw [unY_all hy hnn]
        refine gives_giv (gives_tree (t23 y i) ?_)
        have hl : i.toNat < y.n := by omega
        simp only [decide_eq_true h0, decide_eq_true h1, blt_t hl, cond_true, cm_eql', hi, hlb, beq_t, byI]
        refine gives_cond (fun c => ?_) (fun c => ?_)
        · rw [c]; exact gives_ret fun σ σ' => rfl
        rw [c]
        refine gives_cond (fun c => ?_) (fun c => ?_)
        · rw [c]; exact gives_ret fun σ σ' => rfl
        rw [c]
        cases ht : decide (y.t = 1)
        · have e : clsB True = true := clsB_iff.2 trivial
          simp only [e, cond_true, cond_false]
          exact gives_ret fun σ σ' => rfl
        · have e : clsB True = true := clsB_iff.2 trivial
          simp only [e, cond_true, cond_false]
          exact gives_ret fun σ σ' => rfl
      · cases hg
    · cases hg
  · cases hg

end Go.La
end

section
set_option linter.unusedVariables false
open Go Go.Ev Go.Proofs
namespace Go.La

/-- what is being laid, its places found -/
def y0 (x : It) (t : Int) (lg : Nat → Bool) : Y := ⟨x, t, domK x x.n, lbK x x.n, lg, fun _ => 0⟩
def yOf (x : It) (t : Int) (lg : Nat → Bool) : Y := ⟨x, t, domK x x.n, lbK x x.n, lg, fun r => (posN (y0 x t lg) r : Int)⟩
/-- what is long in the end -/
def finL (x : It) (t : Int) : Nat → (Nat → Bool) → Nat → Bool
  | 0, lg => lg
  | f + 1, lg => bif anyG (yOf x t lg) then finL x t f (growF (yOf x t lg)) else lg
def lastL (x : It) (t : Int) : Nat → Bool := finL x t x.n fun _ => false
def yL (x : It) (t : Int) : Y := yOf x t (lastL x t)
def hF (y : Y) : Heap := [(0, .tab y.n y.cols false), (1104, .map ⟨.i64, y.dom, [⟨.i64, y.lb⟩], false⟩ true), (1312, .tab y.n [.bools y.lg] true), (1376, .tab (y.n + 1) [.ints .i64 y.pos] true), (1408, .cells [.int false .i64 y.t, .sl 0 y.n, .mp 1104, .sl 1312 y.n, .sl 1376 (y.n + 1)])]
noncomputable def fB (lg : Nat → Bool) : Bool := clsB (lg = fun _ => false)
noncomputable def E9c : Env := envOf [(20, specOf g20T), (21, specOf g21), (22, specOf g22), (23, specOf g23)] noLoop
theorem e9c_calls : CallsOk E9c Try.prog := (SpecsOk.cons spec20T (SpecsOk.cons spec21 (SpecsOk.cons spec22 (SpecsOk.cons spec23 SpecsOk.nil)))).calls noLoop
theorem e9c_loop : E9c.loop = noLoop := rfl

def v9a (n : Nat) : List SV := [.sl 0 n, .ptr 1408 0 0]
def lk9a : Lp := ⟨69, [1, 9], 1472, fun _ _ => none⟩
noncomputable def get9a : List SV → Heap → Option Tr
  | [.sl ka na, .ptr k r c], [(j0, .tab n1 [.ints .i64 kd, .strs bs, .ints .i64 N, .ints .i64 op, .ints .i64 r1, .ints .i64 r2] _), (j1, .map ⟨.i64, dom, [⟨.i64, lb⟩], false⟩ true), (j2, .tab n3 [.bools lg] true), (j3, .tab n4 [.ints .i64 pos] true), (j4, .cells [.int _ .i64 t, .sl k1 m1, .mp k2, .sl k3 m3, .sl k4 m4])] =>
    some (Tr.needs [Nat.beq ka 0, Nat.beq na n1, Nat.beq k 1408, Nat.beq r 0, Nat.beq c 0, Nat.beq j0 0, Nat.beq j1 1104, Nat.beq j2 1312, Nat.beq j3 1376, Nat.beq j4 1408, Nat.beq k1 0, Nat.beq k2 1104, Nat.beq k3 1312, Nat.beq k4 1376,
      Nat.beq m1 n1, Nat.beq m3 n1, Nat.beq n3 n1, Nat.beq m4 (n1 + 1), Nat.beq n4 (n1 + 1), okB t ⟨n1, kd, bs, N, op, r1, r2⟩, clsB (dom = domK ⟨n1, kd, bs, N, op, r1, r2⟩ n1), clsB (lb = lbK ⟨n1, kd, bs, N, op, r1, r2⟩ n1), fB lg,
      clsB (pos = fun r => (posN (y0 ⟨n1, kd, bs, N, op, r1, r2⟩ t fun _ => false) r : Int))] (exitT lk9a 0 [.sl 0 n1, .ptr 1408 0 0] (hF (yL ⟨n1, kd, bs, N, op, r1, r2⟩ t))))
  | _, _ => none
noncomputable def lp9a : Lp := { lk9a with get := get9a }
theorem r9a (y : Y) : (evalB E9c Try.prog Try.f9.results.toList (loopOf Try.f9 0) 1 lp9a (v9a y.n) (hF y)).view [1, 9] =
    (bif (fewB y.toIt) then
      bif (labB y.n y.lb) then
        bif (Nat.beq y.n y.n) then
          bif (Nat.beq y.n y.n) then
            bif (Nat.beq y.n y.n) then
              bif (Nat.beq (y.n + 1) (y.n + 1)) then
                bif (Nat.beq (y.n + 1) (y.n + 1)) then
                  bif (anyG y) then
                    bif (fewB y.toIt) then
                      bif (Nat.beq y.n y.n) then
                        bif (Nat.beq y.n y.n) then
                          bif (Nat.beq y.n y.n) then
                            bif (Nat.beq (y.n + 1) (y.n + 1)) then
                              bif (Nat.beq (y.n + 1) (y.n + 1)) then
                                .norm 69 [.sl 0 y.n, .ptr 1408 0 0] (hF { y with lg := growF y, pos := fun r => (posN { y with lg := growF y } r : Int) })
                              else .bad
                            else .bad
                          else .bad
                        else .bad
                      else .bad
                    else .bad
                  else
                    .exit 0 69 [.sl 0 y.n, .ptr 1408 0 0] (hF { y with lg := growF y })
                else .bad
              else .bad
            else .bad
          else .bad
        else .bad
      else .bad
    else .bad) := by kernel_rfl

/-- the bytes of the first items -/
def catB (y : Y) : Nat → ByteArray
  | 0 => .empty
  | j + 1 => catB y j ++ byI y j
def hFb (y : Y) (m : Nat) (g : Nat → Int) : Heap := [(0, .tab y.n y.cols false), (1104, .map ⟨.i64, y.dom, [⟨.i64, y.lb⟩], false⟩ true), (1312, .tab y.n [.bools y.lg] true), (1376, .tab (y.n + 1) [.ints .i64 y.pos] true), (1408, .cells [.int false .i64 y.t, .sl 0 y.n, .mp 1104, .sl 1312 y.n, .sl 1376 (y.n + 1)]), (1800, .tab m [.ints .u8 g] true)]
noncomputable def smY (y : Y) : Bool := clsB (y.n ≤ 32000 ∧ ∀ i, i < y.n → (byI y i).size ≤ 64)
def v9b (y : Y) (m : Nat) (i : Int) : List SV := [.sl 0 y.n, .ptr 1408 0 0, .sl 1800 m, .sl 0 y.n, .int false .i64 y.n, .int false .i64 i]
def lk9b : Lp := ⟨69, [1, 9, 10, 47, 48, 49], 1900, fun _ _ => none⟩
noncomputable def get9b : List SV → Heap → Option Tr
  | [.sl ka na, .ptr k r c, .val (.slice none 0 0), .sl kb nb, .int _ .i64 n, .int _ .i64 i], [(j0, .tab n1 [.ints .i64 kd, .strs bs, .ints .i64 N, .ints .i64 op, .ints .i64 r1, .ints .i64 r2] _), (j1, .map ⟨.i64, dom, [⟨.i64, lb⟩], false⟩ true), (j2, .tab n3 [.bools lg] true), (j3, .tab n4 [.ints .i64 pos] true), (j4, .cells [.int _ .i64 t, .sl k1 m1, .mp k2, .sl k3 m3, .sl k4 m4])] =>
    some (Tr.needs [Nat.beq ka 0, Nat.beq na n1, Nat.beq k 1408, Nat.beq r 0, Nat.beq c 0, Nat.beq kb 0, Nat.beq nb n1, decide (n = n1), decide (i = 0), Nat.beq j0 0, Nat.beq j1 1104, Nat.beq j2 1312, Nat.beq j3 1376, Nat.beq j4 1408, Nat.beq k1 0, Nat.beq k2 1104, Nat.beq k3 1312, Nat.beq k4 1376,
      Nat.beq m1 n1, Nat.beq m3 n1, Nat.beq n3 n1, Nat.beq m4 (n1 + 1), Nat.beq n4 (n1 + 1), labB n1 lb, smY ⟨⟨n1, kd, bs, N, op, r1, r2⟩, t, dom, lb, lg, pos⟩] (exitT lk9b 2 [.sl 0 n1, .ptr 1408 0 0, .sl 1800 (catB ⟨⟨n1, kd, bs, N, op, r1, r2⟩, t, dom, lb, lg, pos⟩ n1).size, .any, .any, .any]
        (hFb ⟨⟨n1, kd, bs, N, op, r1, r2⟩, t, dom, lb, lg, pos⟩ (catB ⟨⟨n1, kd, bs, N, op, r1, r2⟩, t, dom, lb, lg, pos⟩ n1).size (chr (catB ⟨⟨n1, kd, bs, N, op, r1, r2⟩, t, dom, lb, lg, pos⟩ n1)))))
  | _, _ => none
noncomputable def lp9b : Lp := { lk9b with get := get9b }
noncomputable def E9 : Env := ⟨E9c.call, loopEnv [(0, lp9a), (1, lp9b)]⟩
--LEAVES

theorem r9b (y : Y) (m : Nat) (g : Nat → Int) (i : Int) : (evalB E9c Try.prog Try.f9.results.toList (loopOf Try.f9 1) 2 lp9b (v9b y m i) (hFb y m g)).view [1, 9, 10, 47, 48, 49] =
    (bif (cm .lss i (y.n : Int)) then
      bif (inB y.n i) then
        bif (labB y.n y.lb) then
          bif (Nat.beq (y.n) (y.n)) then
            bif (Nat.beq (y.n) (y.n)) then
              bif (Nat.beq (y.n) (y.n)) then
                bif (Nat.beq (y.n + 1) (y.n + 1)) then
                  bif (Nat.beq (y.n + 1) (y.n + 1)) then
                    bif (Nat.ble (m) (m)) then
                      bif (Nat.ble ((m + (byI y i.toNat).size) * 1) (1099511627776)) then
                        .norm 69 [(.sl 0 (y.n)), (.ptr 1408 0 0), (.sl 2012 (m + (byI y i.toNat).size)), (.sl 0 (y.n)), (.int false .i64 ((y.n : Int))), (.int false .i64 (ar .add .i64 i 1))] [(0, .tab (y.n) [.ints .i64 (y.kd), .strs (y.bs), .ints .i64 (y.N), .ints .i64 (y.op), .ints .i64 (y.r1), .ints .i64 (y.r2)] false), (1104, (Blk.map { kk := .i64, dom := y.dom, vs := [{ k := .i64, g := y.lb }], agg := false } true)), (1312, .tab (y.n) [.bools (y.lg)] true), (1376, .tab (y.n + 1) [.ints .i64 (y.pos)] true), (1408, .cells [(.int false .i64 (y.t)), (.sl 0 (y.n)), (.mp 1104), (.sl 1312 (y.n)), (.sl 1376 (y.n + 1))]), (1800, .dead), (2012, .tab (m + (byI y i.toNat).size) [.ints .u8 (cat m g (chr (byI y i.toNat)))] true)]
                      else .bad
                    else .bad
                  else .bad
                else .bad
              else .bad
            else .bad
          else .bad
        else .bad
      else .bad
    else
      .exit 2 69 [(.sl 0 (y.n)), (.ptr 1408 0 0), (.sl 1800 (m)), (.sl 0 (y.n)), (.int false .i64 ((y.n : Int))), (.int false .i64 (i))] [(0, .tab (y.n) [.ints .i64 (y.kd), .strs (y.bs), .ints .i64 (y.N), .ints .i64 (y.op), .ints .i64 (y.r1), .ints .i64 (y.r2)] false), (1104, (Blk.map { kk := .i64, dom := y.dom, vs := [{ k := .i64, g := y.lb }], agg := false } true)), (1312, .tab (y.n) [.bools (y.lg)] true), (1376, .tab (y.n + 1) [.ints .i64 (y.pos)] true), (1408, .cells [(.int false .i64 (y.t)), (.sl 0 (y.n)), (.mp 1104), (.sl 1312 (y.n)), (.sl 1376 (y.n + 1))]), (1800, .tab (m) [.ints .u8 (g)] true)]) := by kernel_rfl

theorem t9 (x : It) (t : Int) : (evalF E9 Try.prog 9 [SV.int false .i64 t, SV.sl 0 x.n] (hI x) 1024).leaf =
    (bif (Nat.beq (x.n) (x.n)) then
      bif (okB t x) then
        bif (decide (0 ≤ (↑x.n : Int))) then
          bif (decide ((↑x.n : Int) ≤ (↑x.n : Int))) then
            bif (Nat.ble ((↑x.n : Int).toNat * 1) (140737488355328)) then
              bif (Nat.ble ((↑x.n : Int).toNat) (140737488355328)) then
                bif (decide (0 ≤ ar .add .i64 (↑x.n : Int) 1)) then
                  bif (decide (ar .add .i64 (↑x.n : Int) 1 ≤ ar .add .i64 (↑x.n : Int) 1)) then
                    bif (Nat.ble ((ar .add .i64 (↑x.n : Int) 1).toNat * 8) (140737488355328)) then
                      bif (Nat.ble ((ar .add .i64 (↑x.n : Int) 1).toNat) (140737488355328)) then
                        bif (fewB x) then
                          bif (Nat.beq (x.n) (x.n)) then
                            bif (Nat.beq ((↑x.n : Int).toNat) (x.n)) then
                              bif (Nat.beq ((↑x.n : Int).toNat) (x.n)) then
                                bif (Nat.beq ((ar .add .i64 (↑x.n : Int) 1).toNat) (x.n + 1)) then
                                  bif (Nat.beq ((ar .add .i64 (↑x.n : Int) 1).toNat) (x.n + 1)) then
                                    bif (Nat.beq (x.n) (x.n)) then
                                      bif (Nat.beq (x.n) (x.n)) then
                                        bif (Nat.beq ((↑x.n : Int).toNat) (x.n)) then
                                          bif (Nat.beq ((↑x.n : Int).toNat) (x.n)) then
                                            bif (Nat.beq ((ar .add .i64 (↑x.n : Int) 1).toNat) (x.n + 1)) then
                                              bif (Nat.beq (x.n + 1) (x.n + 1)) then
                                                bif (okB t x) then
                                                  bif (clsB (domK x x.n = domK x x.n)) then
                                                    bif (clsB (lbK x x.n = lbK x x.n)) then
                                                      bif (fB fun x => false) then
                                                        bif (clsB ((fun r => (↑(posN { n := x.n, kd := x.kd, bs := x.bs, N := x.N, op := x.op, r1 := x.r1, r2 := x.r2, t := t, dom := domK x x.n, lb := lbK x x.n, lg := fun x => false, pos := fun x => 0 } r) : Int)) = fun r => (↑(posN (y0 x t fun x => false) r) : Int))) then
                                                          bif (decide (0 ≤ (↑x.n : Int))) then
                                                            bif (decide ((↑x.n : Int) < (↑((yL x t).n + 1) : Int))) then
                                                              bif (Nat.blt ((↑x.n : Int).toNat) ((yL x t).n + 1)) then
                                                                bif (Nat.blt ((↑x.n : Int).toNat) ((yL x t).n + 1)) then
                                                                  bif (cm .gtr ((yL x t).pos (↑x.n : Int).toNat) 258048) then
                                                                    .ret (.tup [(.str ((ByteArray.mk #[]))), (.val (Value.slice none 0 0)), (.int true .i64 10)]) [(0, .tab ((yL x t).n) [.ints .i64 ((yL x t).kd), .strs ((yL x t).bs), .ints .i64 ((yL x t).N), .ints .i64 ((yL x t).op), .ints .i64 ((yL x t).r1), .ints .i64 ((yL x t).r2)] false), (1104, (Blk.map { kk := .i64, dom := (yL x t).dom, vs := [{ k := .i64, g := (yL x t).lb }], agg := false } true)), (1312, .tab ((yL x t).n) [.bools ((yL x t).lg)] true), (1376, .tab ((yL x t).n + 1) [.ints .i64 ((yL x t).pos)] true), (1408, .cells [(.int false .i64 ((yL x t).t)), (.sl 0 ((yL x t).n)), (.mp 1104), (.sl 1312 ((yL x t).n)), (.sl 1376 ((yL x t).n + 1))])]
                                                                  else
                                                                    bif (Nat.beq (x.n) ((yL x t).n)) then
                                                                      bif (Nat.beq (x.n) ((yL x t).n)) then
                                                                        bif (decide ((↑x.n : Int) = (↑(yL x t).n : Int))) then
                                                                          bif (Nat.beq ((yL x t).n) ((yL x t).n)) then
                                                                            bif (Nat.beq ((yL x t).n) ((yL x t).n)) then
                                                                              bif (Nat.beq ((yL x t).n) ((yL x t).n)) then
                                                                                bif (Nat.beq ((yL x t).n + 1) ((yL x t).n + 1)) then
                                                                                  bif (Nat.beq ((yL x t).n + 1) ((yL x t).n + 1)) then
                                                                                    bif (labB (yL x t).n (yL x t).lb) then
                                                                                      bif (smY (yL x t)) then
                                                                                        bif (Nat.ble ((catB (yL x t) (yL x t).n).size) ((catB (yL x t) (yL x t).n).size)) then
                                                                                          bif (decide (0 ≤ (↑(yL x t).n : Int))) then
                                                                                            bif (decide ((↑(yL x t).n : Int) ≤ (↑(yL x t).n : Int))) then
                                                                                              bif (Nat.ble ((↑(yL x t).n : Int).toNat) ((yL x t).n + 1)) then
                                                                                                bif (Nat.ble (0) ((↑(yL x t).n : Int).toNat)) then
                                                                                                  bif (Nat.ble ((↑(yL x t).n : Int).toNat) ((yL x t).n + 1)) then
                                                                                                    .ret (.tup [(.str (strOf (chr (catB (yL x t) (yL x t).n)) (catB (yL x t) (yL x t).n).size)), (.sl 2060 ((↑(yL x t).n : Int).toNat - 0)), (.int true .i64 0)]) [(0, .tab ((yL x t).n) [.ints .i64 ((yL x t).kd), .strs ((yL x t).bs), .ints .i64 ((yL x t).N), .ints .i64 ((yL x t).op), .ints .i64 ((yL x t).r1), .ints .i64 ((yL x t).r2)] false), (1104, (Blk.map { kk := .i64, dom := (yL x t).dom, vs := [{ k := .i64, g := (yL x t).lb }], agg := false } true)), (1312, .tab ((yL x t).n) [.bools ((yL x t).lg)] true), (1376, .tab ((yL x t).n + 1) [.ints .i64 ((yL x t).pos)] false), (1408, .cells [(.int false .i64 ((yL x t).t)), (.sl 0 ((yL x t).n)), (.mp 1104), (.sl 1312 ((yL x t).n)), (.sl 1376 ((yL x t).n + 1))]), (1800, .tab ((catB (yL x t) (yL x t).n).size) [.ints .u8 (chr (catB (yL x t) (yL x t).n))] true), (2060, .tab ((↑(yL x t).n : Int).toNat - 0) [.ints .i64 (from_ 0 (yL x t).pos)] false)]
                                                                                                  else .bad
                                                                                                else .bad
                                                                                              else .bad
                                                                                            else .bad
                                                                                          else .bad
                                                                                        else .bad
                                                                                      else .bad
                                                                                    else .bad
                                                                                  else .bad
                                                                                else .bad
                                                                              else .bad
                                                                            else .bad
                                                                          else .bad
                                                                        else .bad
                                                                      else .bad
                                                                    else .bad
                                                                else .bad
                                                              else .bad
                                                            else .bad
                                                          else .bad
                                                        else .bad
                                                      else .bad
                                                    else .bad
                                                  else .bad
                                                else .bad
                                              else .bad
                                            else .bad
                                          else .bad
                                        else .bad
                                      else .bad
                                    else .bad
                                  else .bad
                                else .bad
                              else .bad
                            else .bad
                          else .bad
                        else .bad
                      else .bad
                    else .bad
                  else .bad
                else .bad
              else .bad
            else .bad
          else .bad
        else .bad
      else .bad
    else .bad) := by kernel_rfl

end Go.La
end

section
set_option linter.unusedVariables false
open Go Go.Ev Go.Proofs
namespace Go.La

theorem e9_calls : CallsOk E9 Try.prog := fun f args H nm r h hn => e9c_calls f args H nm r h hn

/-- how many are short yet -/
def cntF (lg : Nat → Bool) : Nat → Nat
  | 0 => 0
  | i + 1 => cntF lg i + (bif lg i then 0 else 1)
theorem cntF_le {lg lg' : Nat → Bool} : ∀ n, (∀ i, i < n → lg i = true → lg' i = true) → cntF lg' n ≤ cntF lg n
  | 0, _ => Nat.le_refl _
  | n + 1, h => by
    have := cntF_le n fun i hi => h i (by omega)
    have h' := h n (by omega)
    simp only [cntF]
    cases hl : lg n
    · cases lg' n <;> simp <;> omega
    · rw [h' hl]; simpa using this
theorem cntF_lt {lg lg' : Nat → Bool} : ∀ n, (∀ i, i < n → lg i = true → lg' i = true) → (∃ i, i < n ∧ lg i = false ∧ lg' i = true) → cntF lg' n < cntF lg n
  | 0, _, ⟨i, hi, _⟩ => by omega
  | n + 1, h, ⟨i, hi, h1, h2⟩ => by
    by_cases e : i = n
    · subst e
      have := cntF_le i fun j hj => h j (by omega)
      simp only [cntF, h1, h2, cond_true, cond_false]; omega
    · have := cntF_lt n (fun j hj => h j (by omega)) ⟨i, by omega, h1, h2⟩
      have h' := h n (by omega)
      simp only [cntF]
      cases hl : lg n
      · cases lg' n <;> simp <;> omega
      · rw [h' hl]; simpa using this
theorem cntF_n (n : Nat) (lg : Nat → Bool) : cntF lg n ≤ n := by
  induction n with
  | zero => exact Nat.le_refl _
  | succ n ih => simp only [cntF]; cases lg n <;> simp <;> omega

theorem posN_congr {y y' : Y} (h : ∀ i, szY y i = szY y' i) : ∀ i, posN y i = posN y' i
  | 0 => rfl
  | i + 1 => by simp only [posN, posN_congr h i, h i]

theorem toList_loop (bs : ByteArray) (n : Nat) : ∀ i r, bs.size - i = n → ByteArray.toList.loop bs i r = r.reverse ++ bs.data.toList.drop i := by
  induction n with
  | zero =>
    intro i r h
    rw [ByteArray.toList.loop, if_neg (by omega)]
    rw [List.drop_eq_nil_of_le (by simp; have : bs.data.size = bs.size := rfl; omega), List.append_nil]
  | succ n ih =>
    intro i r h
    rw [ByteArray.toList.loop, if_pos (by omega), ih (i + 1) _ (by omega)]
    have hi : i < bs.data.toList.length := by simp; have : bs.data.size = bs.size := rfl; omega
    rw [List.drop_eq_getElem_cons hi]
    have e : bs.get! i = bs.data.toList[i] := by
      have hs : i < bs.data.size := by simpa using hi
      rw [Array.getElem_toList]
      exact getElem!_pos bs.data i hs
    rw [e]
    simp

theorem toList_data (s : ByteArray) : s.toList = s.data.toList := by
  unfold ByteArray.toList
  rw [toList_loop s s.size 0 [] (by omega)]
  simp

theorem seq_iff (s t : ByteArray) : seq s t = true ↔ s = t := by
  unfold seq
  rw [toList_data, toList_data, beq_iff_eq]
  constructor
  · intro h
    exact ByteArray.ext (Array.toList_inj.1 h)
  · rintro rfl
    rfl
theorem anyG_iff {y : Y} : anyG y = true ↔ ∃ i, i < y.n ∧ mayB y i = true := by
  unfold anyG moreN
  rw [Nat.blt_eq]
  constructor
  · intro h
    have hm := List.getElem_mem h
    exact ⟨_, moreL_mem.1 hm⟩
  · rintro ⟨i, h1, h2⟩
    exact List.length_pos_of_mem (moreL_mem.2 ⟨h1, h2⟩)

theorem one_size {t kd : Int} {s : ByteArray} {n op r1 r2 : Int} (h : oneB t kd s n op r1 r2 = true) : s.size ≤ 64 := by
  unfold oneB at h
  have hz : seq s ⟨#[]⟩ = true → s.size ≤ 64 := fun e => by
    rw [(seq_iff _ _).1 e]; decide
  by_cases h1 : kd = 1
  · rw [decide_eq_true h1, cond_true] at h
    simp only [Bool.and_eq_true, decide_eq_true_eq] at h
    exact h.2.2.2.2.1
  · rw [decide_eq_false h1, cond_false] at h
    cases h2 : (decide (kd = 2) || (decide (kd = 3) || decide (kd = 5))) with
    | true =>
      rw [h2, cond_true] at h
      simp only [Bool.and_eq_true] at h
      exact hz h.2.2.2
    | false =>
      rw [h2, cond_false] at h
      by_cases h4 : kd = 4
      · rw [decide_eq_true h4, cond_true] at h
        simp only [Bool.and_eq_true] at h
        exact hz h.1
      · rw [decide_eq_false h4, cond_false] at h; cases h
theorem val_one {t : Int} {x : It} {n : Nat} (h : valK t x n = true) {i : Nat} (hi : i < n) : oneB t (x.kd i) (x.bs i) (x.N i) (x.op i) (x.r1 i) (x.r2 i) = true := by
  have := valK_le (show i + 1 ≤ n from hi) h
  simp only [valK, Bool.and_eq_true] at this
  exact this.2.1
theorem ok_few {t : Int} {x : It} (h : okP t x) : fewB x = true := fewB_iff.2 ⟨h.1, fun i hi => one_size (val_one h.2.2.1 hi)⟩
theorem lbK_range (x : It) (c : Int) : ∀ j, 0 ≤ lbK x j c ∧ lbK x j c < (j : Int) + 1
  | 0 => by simp [lbK]
  | j + 1 => by
    have := lbK_range x c j
    simp only [lbK]
    cases decide (x.kd j = 2)
    · simp only [cond_false]; omega
    · simp only [cond_true, updI]
      cases c == x.N j
      · simp only [cond_false]; omega
      · simp only [cond_true]; omega
theorem ok_lab (x : It) : labB x.n (lbK x x.n) = true := labB_iff.2 fun c => lbK_range x c x.n

/-! the loop -/
structure X9a where
  x : It
  t : Int
  lg : Nat → Bool
  f : Nat
def ok9a (s : X9a) : Prop := okP s.t s.x ∧ cntF s.lg s.x.n ≤ s.f ∧ finL s.x s.t s.f s.lg = lastL s.x s.t
def vs9a (s : X9a) : List SV := v9a s.x.n
def hp9a (s : X9a) : Heap := hF (yOf s.x s.t s.lg)
def out9a (s : X9a) : Vw := .exit 0 69 [.sl 0 s.x.n, .ptr 1408 0 0] (hF (yL s.x s.t))

theorem hF_wk (x : It) (t : Int) (dom : Int → Bool) (lb : Int → Int) {lg lg' : Nat → Bool} {pos pos' : Nat → Int} {f : Bool} {l : Bool} (h1 : ∀ i, i < x.n → lg i = lg' i) (h2 : ∀ i, i < x.n + 1 → pos i = pos' i) :
    wkH (rmap []) [(0, .tab x.n x.cols f), (1104, .map ⟨.i64, dom, [⟨.i64, lb⟩], false⟩ true), (1312, .tab x.n [.bools lg] true), (1376, .tab (x.n + 1) [.ints .i64 pos] true), (1408, .cells [.int l .i64 t, .sl 0 x.n, .mp 1104, .sl 1312 x.n, .sl 1376 (x.n + 1)])] (hF ⟨x, t, dom, lb, lg', pos'⟩) := by
  simp [hF, wkH, wkB, wkCs, wkC, simL, sim, rmap, rlook, Ev.look, It.cols, wkM_refl]
  exact ⟨h1, h2⟩

theorem entry9a (l : List SV) (H : Heap) (T : Tr) (h : lp9a.get l H = some T) (hb : T.leaf ≠ .bad) : ∃ x r, ok9a x ∧ WkV r lp9a.nm l H (vs9a x) (hp9a x) ∧ T.leaf = toLf lp9a (out9a x) := by
  replace h : get9a l H = some T := h
  unfold get9a at h
  split at h
  · rename_i ka na k r c j0 n1 kd bs N op r1 r2 _ j1 dom lb j2 n3 lg j3 n4 pos j4 _ t k1 m1 k2 k3 m3 k4 m4
    simp only [Option.some.injEq] at h
    subst h
    obtain ⟨hn, he⟩ := needs_ne hb
    rw [he]
    simp only [allB, Bool.and_eq_true, Bool.and_true, Nat.beq_eq, okB, fB, clsB_iff] at hn
    obtain ⟨rfl, rfl, rfl, rfl, rfl, rfl, rfl, rfl, rfl, rfl, rfl, rfl, rfl, rfl, rfl, rfl, rfl, rfl, rfl, hok, rfl, rfl, rfl, rfl⟩ := hn
    refine ⟨⟨⟨n3, kd, bs, N, op, r1, r2⟩, t, fun _ => false, n3⟩, [], ⟨hok, cntF_n _ _, rfl⟩, ?_, ?_⟩
    · exact ⟨rfl, ⟨⟨rfl, rfl⟩, ⟨rfl, rfl, rfl⟩, trivial⟩, hF_wk ⟨n3, kd, bs, N, op, r1, r2⟩ t _ _ (fun _ _ => rfl) (fun _ _ => rfl), rfl, rfl⟩
    · simp only [exitT_leaf, out9a]
      rfl
  · cases h

attribute [local irreducible] evalB Tr.view in
theorem round9a (s : X9a) (hx : ok9a s) : Round lp9a ok9a (fun s => s.f) vs9a hp9a out9a s ((evalB E9c Try.prog Try.f9.results.toList (loopOf Try.f9 0) (0 + 1) lp9a (vs9a s) (hp9a s)).view lp9a.ks) := by
  obtain ⟨x, t, lg, f⟩ := s
  obtain ⟨h0, h1, h2⟩ := hx
  simp only at h0 h1 h2
  have hr := r9a (yOf x t lg)
  rw [show evalB E9c Try.prog Try.f9.results.toList (loopOf Try.f9 0) (0 + 1) lp9a (vs9a ⟨x, t, lg, f⟩) (hp9a ⟨x, t, lg, f⟩) = evalB E9c Try.prog Try.f9.results.toList (loopOf Try.f9 0) 1 lp9a (v9a (yOf x t lg).n) (hF (yOf x t lg)) from rfl, show lp9a.ks = [1, 9] from rfl, hr]
  have e1 : fewB (yOf x t lg).toIt = true := ok_few h0
  have e2 : labB (yOf x t lg).n (yOf x t lg).lb = true := ok_lab x
  simp only [e1, e2, beq_t, cond_true]
  cases ha : anyG (yOf x t lg) with
  | true =>
    simp only [cond_true]
    have hlt : cntF (growF (yOf x t lg)) x.n < cntF lg x.n := by
      obtain ⟨i, hi, hm⟩ := anyG_iff.1 ha
      have hm' : (!(yOf x t lg).lg i && !shB (yOf x t lg).t ((yOf x t lg).kd i) (wyZ (yOf x t lg) i)) = true := hm
      refine cntF_lt x.n (fun i _ h => ?_) ⟨i, hi, ?_, ?_⟩
      · show ((yOf x t lg).lg i || _) = true
        rw [show (yOf x t lg).lg i = true from h]; rfl
      · have := (Bool.and_eq_true _ _ ▸ hm' : _ ∧ _).1
        exact Bool.not_eq_true' _ ▸ this
      · show (_ || mayB _ i) = true
        rw [hm, Bool.or_true]
    cases f with
    | zero => omega
    | succ f =>
      have hf : finL x t f (growF (yOf x t lg)) = lastL x t := by
        rw [← h2]; simp only [finL, ha, cond_true]
      refine ⟨rfl, ⟨x, t, growF (yOf x t lg), f⟩, [], ⟨h0, by simp only; omega, hf⟩, Nat.lt_succ_self f, rfl, rfl, ?_, ?_, rfl, rfl⟩
      · exact ⟨⟨rfl, rfl⟩, ⟨rfl, rfl, rfl⟩, trivial⟩
      · exact hF_wk x t _ _ (fun _ _ => rfl) (fun i _ => congrArg Int.ofNat (posN_congr (y := { yOf x t lg with lg := growF (yOf x t lg) }) (y' := y0 x t (growF (yOf x t lg))) (fun _ => rfl) i))
  | false =>
    simp only [cond_false]
    have hl : lg = lastL x t := by
      rw [← h2]
      cases f with
      | zero => rfl
      | succ f => simp only [finL, ha, cond_false]
    refine ⟨rfl, [.sl 0 x.n, .ptr 1408 0 0], _, [], rfl, rfl, ?_, ?_, rfl, rfl⟩
    · exact ⟨⟨rfl, rfl⟩, ⟨rfl, rfl, rfl⟩, trivial⟩
    · rw [yL, ← hl]
      refine hF_wk x t _ _ (fun i hi => ?_) (fun _ _ => rfl)
      show (lg i || mayB (yOf x t lg) i) = lg i
      have : mayB (yOf x t lg) i = false := by
        rw [Bool.eq_false_iff]
        intro hm
        have : anyG (yOf x t lg) = true := anyG_iff.2 ⟨i, hi, hm⟩
        rw [ha] at this; cases this
      rw [this, Bool.or_false]

attribute [local irreducible] evalB Tr.view in
theorem loop9a : LoopOk E9 Try.prog Try.f9 0 (loopOf Try.f9 0) :=
  loop_okE mixed (fun S => rfl) (by decide) ok9a (fun s => s.f) vs9a hp9a out9a entry9a fun x hx => ⟨E9c, e9c_calls, loops_noLoop e9c_loop _ _, round9a x hx⟩

end Go.La
end

section
set_option linter.unusedVariables false
open Go Go.Ev Go.Proofs
namespace Go.La

theorem grow_cnt {x : It} {t : Int} {lg : Nat → Bool} (ha : anyG (yOf x t lg) = true) : cntF (growF (yOf x t lg)) x.n < cntF lg x.n := by
  obtain ⟨i, hi, hm⟩ := anyG_iff.1 ha
  have hm' : (!(yOf x t lg).lg i && !shB (yOf x t lg).t ((yOf x t lg).kd i) (wyZ (yOf x t lg) i)) = true := hm
  refine cntF_lt x.n (fun i _ h => ?_) ⟨i, hi, ?_, ?_⟩
  · show ((yOf x t lg).lg i || _) = true
    rw [show (yOf x t lg).lg i = true from h]; rfl
  · have := (Bool.and_eq_true _ _ ▸ hm' : _ ∧ _).1
    exact Bool.not_eq_true' _ ▸ this
  · show (_ || mayB _ i) = true
    rw [hm, Bool.or_true]
theorem cntF_zero {lg : Nat → Bool} : ∀ n, cntF lg n = 0 → ∀ i, i < n → lg i = true
  | 0, _, i, hi => by omega
  | n + 1, h, i, hi => by
    simp only [cntF] at h
    by_cases e : i = n
    · subst e
      cases hl : lg i
      · rw [hl, cond_false] at h; omega
      · rfl
    · exact cntF_zero n (by omega) i (by omega)
theorem finL_fix (x : It) (t : Int) : ∀ (f : Nat) (lg : Nat → Bool), cntF lg x.n ≤ f → anyG (yOf x t (finL x t f lg)) = false
  | 0, lg, h => by
    rw [Bool.eq_false_iff]
    intro ha
    have := grow_cnt ha
    simp only [finL] at this
    omega
  | f + 1, lg, h => by
    cases ha : anyG (yOf x t lg) with
    | true =>
      simp only [finL, ha, cond_true]
      exact finL_fix x t f _ (by have := grow_cnt ha; omega)
    | false => simp only [finL, ha, cond_false]
theorem yL_fix (x : It) (t : Int) : anyG (yL x t) = false := finL_fix x t x.n _ (cntF_n _ _)
theorem yL_short {x : It} {t : Int} {i : Nat} (hi : i < x.n) (hl : (yL x t).lg i = false) : shB t (x.kd i) (wyZ (yL x t) i) = true := by
  have h : mayB (yL x t) i = false := by
    rw [Bool.eq_false_iff]
    intro hm
    have : anyG (yL x t) = true := anyG_iff.2 ⟨i, hi, hm⟩
    rw [yL_fix] at this; cases this
  unfold mayB at h
  rw [hl, Bool.not_false, Bool.true_and] at h
  exact Bool.not_eq_false' _ ▸ h

/-- places are small -/
theorem pos_range {x : It} {t : Int} {lg : Nat → Bool} (h : okP t x) {r : Nat} (hr : r ≤ x.n) : 0 ≤ (yOf x t lg).pos r ∧ (yOf x t lg).pos r ≤ 2048000 := by
  have hf := fewB_iff.1 (ok_few h)
  have := posN_le (y := y0 x t lg) hf.2 r hr
  have hn := hf.1
  show (0 : Int) ≤ (posN (y0 x t lg) r : Nat) ∧ ((posN (y0 x t lg) r : Nat) : Int) ≤ 2048000
  omega
/-- how far a way is -/
theorem way_eq {x : It} {t : Int} {lg : Nat → Bool} (h : okP t x) {i : Nat} (hi : i < x.n) : wyZ (yOf x t lg) i = (yOf x t lg).pos (lbK x x.n (x.N i)).toNat - (yOf x t lg).pos i ∧ -2048000 ≤ wyZ (yOf x t lg) i ∧ wyZ (yOf x t lg) i ≤ 2048000 := by
  have h1 := lbK_range x (x.N i) x.n
  have h2 := pos_range (lg := lg) h (show (lbK x x.n (x.N i)).toNat ≤ x.n by omega)
  have h3 := pos_range (lg := lg) h (show i ≤ x.n by omega)
  have e : wyZ (yOf x t lg) i = (yOf x t lg).pos (lbK x x.n (x.N i)).toNat - (yOf x t lg).pos i := by
    show ar .sub .i64 ((yOf x t lg).pos (lbK x x.n (x.N i)).toNat) ((yOf x t lg).pos i) = _
    simp only [ar, IntKind.wrap_i64]; omega
  rw [e]
  omega

theorem S_size (l : List Int) : (X.S l).size = l.length := by simp [X.S, ByteArray.size]
theorem strOf_size (g : Nat → Int) (m : Nat) : (strOf g m).size = m := by simp [strOf, ByteArray.size]
theorem wd4_size (op rd r1 r2 n : Int) : (wd4 op rd r1 r2 n).size = 4 := strOf_size _ 4
theorem e40 (n : Int) : X.errX 40 4 0 0 n = (bif decide (-2147483648 ≤ n) && decide (n ≤ 2147483647) then 0 else 10) := by
  have : X.errX 40 4 0 0 n = (bif (decide (-2147483648 ≤ n) && decide (n ≤ 2147483647)) || false then 0 else 10) := by kernel_rfl
  rw [this, Bool.or_false]
theorem e42 (n : Int) : X.errX 42 4 0 0 n = (bif decide (-2147483648 ≤ n) && decide (n ≤ 2147483647) then 0 else 10) := by
  have : X.errX 42 4 0 0 n = (bif (decide (-2147483648 ≤ n) && decide (n ≤ 2147483647)) || false then 0 else 10) := by kernel_rfl
  rw [this, Bool.or_false]
theorem e43 (n : Int) : X.errX 43 4 0 0 n = (bif decide (-128 ≤ n) && decide (n ≤ 127) then 0 else 10) := by
  have : X.errX 43 4 0 0 n = (bif (decide (-128 ≤ n) && decide (n ≤ 127)) || false then 0 else 10) := by kernel_rfl
  rw [this, Bool.or_false]
theorem e44 (c n : Int) : X.errX 44 4 c 0 n = (bif X.condX c then (bif decide (-2147483648 ≤ n) && decide (n ≤ 2147483647) then 0 else 10) else 1) := by
  have : X.errX 44 4 c 0 n = (bif X.condX c && true then (bif (decide (-2147483648 ≤ n) && decide (n ≤ 2147483647)) || false then 0 else 10) else 1) := by kernel_rfl
  rw [this, Bool.and_true, Bool.or_false]
theorem e45 (c n : Int) : X.errX 45 4 c 0 n = (bif X.condX c then (bif decide (-128 ≤ n) && decide (n ≤ 127) then 0 else 10) else 1) := by
  have : X.errX 45 4 c 0 n = (bif X.condX c && true then (bif (decide (-128 ≤ n) && decide (n ≤ 127)) || false then 0 else 10) else 1) := by kernel_rfl
  rw [this, Bool.and_true, Bool.or_false]
theorem z40 (n : Int) : (X.encL 40 4 0 0 n).length = 5 := by kernel_rfl
theorem z42 (n : Int) : (X.encL 42 4 0 0 n).length = 5 := by kernel_rfl
theorem z43 (n : Int) : (X.encL 43 4 0 0 n).length = 2 := by kernel_rfl
theorem z44 (c n : Int) : (X.encL 44 4 c 0 n).length = 6 := by kernel_rfl
theorem z45 (c n : Int) : (X.encL 45 4 c 0 n).length = 2 := by kernel_rfl
theorem str_size {op w rd rs n : Int} {k : Nat} (he : X.errX op w rd rs n = 0) (hz : (X.encL op w rd rs n).length = k) : (X.strX op w rd rs n).size = k := by
  rw [X.strX_ok he, S_size, hz]

theorem by_size {x : It} {t : Int} (h : okP t x) {i : Nat} (hi : i < x.n) : (byI (yL x t) i).size = szY (yL x t) i := by
  have hw := way_eq (lg := lastL x t) h hi
  have ho := val_one h.2.2.1 hi
  have hsh := yL_short (t := t) hi
  show (byI (yL x t) i).size = szN t (x.kd i) (x.bs i).size ((yL x t).lg i)
  have hb : byI (yL x t) i = bif decide (x.kd i = 1) then x.bs i else bif decide (x.kd i = 2) then .empty else byK t (x.kd i) (x.op i) (x.r1 i) (x.r2 i) ((yL x t).lg i) (x.bs i).size (wyZ (yL x t) i) := rfl
  rw [hb]
  change _ ∧ -2048000 ≤ wyZ (yL x t) i ∧ wyZ (yL x t) i ≤ 2048000 at hw
  obtain ⟨_, hw1, hw2⟩ := hw
  revert hsh
  generalize wyZ (yL x t) i = w at *
  generalize (yL x t).lg i = lg at *
  intro hsh
  unfold oneB at ho
  by_cases h1 : x.kd i = 1
  · simp only [decide_eq_true h1, cond_true, szN]
  by_cases h2 : x.kd i = 2
  · simp only [h2, szN]; rfl
  rw [decide_eq_false h1, cond_false] at ho ⊢
  rw [decide_eq_false h2, cond_false]
  have hk : x.kd i = 3 ∨ x.kd i = 4 ∨ x.kd i = 5 := by
    by_cases h3 : x.kd i = 3
    · exact .inl h3
    by_cases h5 : x.kd i = 5
    · exact .inr (.inr h5)
    by_cases h4 : x.kd i = 4
    · exact .inr (.inl h4)
    simp [h2, h3, h4, h5] at ho
  have sub : ∀ k : Nat, k ≤ 64 → ar .sub .i64 w (k : Int) = w - k := fun k hk => by
    simp only [ar, IntKind.wrap_i64]; omega
  rcases h.2.1 with rfl | rfl
  · rcases hk with e | e | e <;> rw [e] <;> cases lg <;> simp [byK, szN, wd4_size]
  · rcases hk with e | e | e <;> rw [e]
    · cases lg
      · have hs := hsh rfl
        rw [e] at hs
        have hs : (decide (-128 ≤ ar .sub .i64 w 2) && decide (ar .sub .i64 w 2 < 128)) = true := hs
        simp only [Bool.and_eq_true, decide_eq_true_eq] at hs
        show (X.strX 43 4 0 0 (ar .sub .i64 w 2)).size = 2
        refine str_size ?_ (z43 _)
        rw [e43, decide_eq_true hs.1, decide_eq_true (show ar .sub .i64 w 2 ≤ 127 by omega)]
        rfl
      · show (X.strX 42 4 0 0 (ar .sub .i64 w (szN 2 3 (x.bs i).size true : Nat))).size = 5
        rw [show szN 2 3 (x.bs i).size true = 5 from rfl, sub 5 (by omega)]
        refine str_size ?_ (z42 _)
        rw [e42, decide_eq_true (show -2147483648 ≤ w - ((5 : Nat) : Int) by omega), decide_eq_true (show w - ((5 : Nat) : Int) ≤ 2147483647 by omega)]
        rfl
    · have hc : X.condX (x.op i) = true := by
        rw [e] at ho
        simp only [condB] at ho
        simp at ho
        simp only [X.condX]
        simp
        omega
      cases lg
      · have hs := hsh rfl
        rw [e] at hs
        have hs : (decide (-128 ≤ ar .sub .i64 w 2) && decide (ar .sub .i64 w 2 < 128)) = true := hs
        simp only [Bool.and_eq_true, decide_eq_true_eq] at hs
        show (X.strX 45 4 (x.op i) 0 (ar .sub .i64 w 2)).size = 2
        refine str_size ?_ (z45 _ _)
        rw [e45, hc, decide_eq_true hs.1, decide_eq_true (show ar .sub .i64 w 2 ≤ 127 by omega)]
        rfl
      · show (X.strX 44 4 (x.op i) 0 (ar .sub .i64 w (szN 2 4 (x.bs i).size true : Nat))).size = 6
        rw [show szN 2 4 (x.bs i).size true = 6 from rfl, sub 6 (by omega)]
        refine str_size ?_ (z44 _ _)
        rw [e44, hc, decide_eq_true (show -2147483648 ≤ w - ((6 : Nat) : Int) by omega), decide_eq_true (show w - ((6 : Nat) : Int) ≤ 2147483647 by omega)]
        rfl
    · have hz : szN 2 5 (x.bs i).size lg = 5 := by cases lg <;> rfl
      rw [hz]
      show (X.strX 40 4 0 0 (ar .sub .i64 w (szN 2 5 (x.bs i).size lg : Nat))).size = 5
      rw [hz]
      refine str_size ?_ (z40 _)
      rw [sub 5 (by omega), e40, decide_eq_true (show -2147483648 ≤ w - ((5 : Nat) : Int) by omega), decide_eq_true (show w - ((5 : Nat) : Int) ≤ 2147483647 by omega)]
      rfl

end Go.La
end
