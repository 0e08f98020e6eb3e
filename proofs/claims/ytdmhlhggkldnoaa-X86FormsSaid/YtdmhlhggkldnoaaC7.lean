/-
  x86: the reference's Encode says that, op by op.
-/
import Derived.Test.YtdmhlhggkldnoaaC6
set_option linter.unusedSimpArgs false
set_option linter.unusedVariables false
section
set_option linter.unusedVariables false
open Go Go.Ev Go.Proofs
namespace Go.X

theorem u8_25 (w rd rs n : Int) : (T8 25 w rd rs n).bare = (bif (bif (cm .neq w 4) then (bif (cm .neq w 8) then true else (bif (cm .neq 8 w) then true else (bif (!(bif (cm .geq rd 0) then (cm .leq rd 15) else false)) then true else (bif (!(bif (cm .geq rs 0) then (cm .leq rs 15) else false)) then true else (cm .neq n 0))))) else (bif (cm .neq 8 w) then true else (bif (!(bif (cm .geq rd 0) then (cm .leq rd 15) else false)) then true else (bif (!(bif (cm .geq rs 0) then (cm .leq rs 15) else false)) then true else (cm .neq n 0))))) then .ret (.tup [.str ⟨#[]⟩, .int true .i64 1]) [] else .ret (.tup [(.str (strOf (nth [rexI w rd rs] 0) 1 ++ (ByteArray.mk #[99]) ++ strOf (nth [conv .u8 (ar .add .i64 (ar .add .i64 192 (ar .mul .i64 8 (ar .rem .i64 rd 8))) (ar .rem .i64 rs 8))] 0) 1)), .int true .i64 0]) []) :=
  (t8 25 w rd rs n).trans (by kernel_rfl)
attribute [local irreducible] evalF Lf.gives in
theorem ref8_25 (w rd rs n : Int) : (T8 25 w rd rs n).leaf.gives (.tup [.str (strX 25 w rd rs n), .int false .i64 (errX 25 w rd rs n)]) := by
  have hE : errX 25 w rd rs n = (bif (decide (w = 4) || decide (w = 8)) && ((false || decide (w = 8)) && (regX rd && (regX rs && decide (n = 0)))) then (bif ((true) || false) then 0 else 10) else 1) := by kernel_rfl
  refine gives_tree (u8_25 w rd rs n) ?_
  refine gives_cond (fun h1 => ?_) (fun h1 => ?_)
  · have hA : ((decide (w = 4) || decide (w = 8)) && ((false || decide (w = 8)) && (regX rd && (regX rs && decide (n = 0))))) = false := by
      simp [cms] at h1 ⊢
      first | done | omega | ((repeat' split at h1) <;> omega) | ((repeat' split at h1) <;> (repeat' split at h1) <;> omega) | skip
    have he : errX 25 w rd rs n = 1 := by rw [hE, hA]; rfl
    exact givesE (strX_bad he (by decide)) he.symm
  have hA : ((decide (w = 4) || decide (w = 8)) && ((false || decide (w = 8)) && (regX rd && (regX rs && decide (n = 0))))) = true := by
    simp [cms] at h1 ⊢
    first | done | omega | ((repeat' split at h1) <;> omega) | ((repeat' split at h1) <;> (repeat' split at h1) <;> omega) | skip
  have he : errX 25 w rd rs n = 0 := by rw [hE, hA]; rfl
  have hrd : small rd := by simp [regX] at hA; simp only [small]; omega
  have hrs : small rs := by simp [regX] at hA; simp only [small]; omega
  have hw : w = 4 ∨ w = 8 := by simp at hA; omega
  refine givesE ?_ he.symm
  rw [strX_ok he]
  refine Eq.trans (b := S [rexI w rd rs] ++ S [99] ++ S [modR 192 rd rs]) (by kernel_rfl) ?_
  simp only [S_append]
  exact congrArg S (Eq.trans (b := [rexI w rd rs, 99, modR 192 rd rs]) (by rfl) (Eq.trans (b := [rexI w rd rs, 99, modI 192 rd rs]) (by rw [modR_eq (.inl rfl) hrd hrs]) (by kernel_rfl)))

theorem u8_26 (w rd rs n : Int) : (T8 26 w rd rs n).bare = (bif (bif (cm .neq w 4) then (bif (cm .neq w 8) then true else (bif (cm .neq 8 w) then true else (bif (!(bif (cm .geq rd 0) then (cm .leq rd 15) else false)) then true else (bif (!(bif (cm .geq rs 0) then (cm .leq rs 15) else false)) then true else false)))) else (bif (cm .neq 8 w) then true else (bif (!(bif (cm .geq rd 0) then (cm .leq rd 15) else false)) then true else (bif (!(bif (cm .geq rs 0) then (cm .leq rs 15) else false)) then true else false)))) then .ret (.tup [.str ⟨#[]⟩, .int true .i64 1]) [] else (bif (bif (cm .eql (ar .rem .i64 rs 8) 4) then true else false) then .ret (.tup [.str ⟨#[]⟩, .int true .i64 1]) [] else (bif (bif (cm .lss n (-2147483648)) then true else (bif (cm .geq n 2147483648) then true else false)) then .ret (.tup [.str ⟨#[]⟩, .int true .i64 10]) [] else .ret (.tup [(.str (strOf (nth [rexI w rd rs] 0) 1 ++ (ByteArray.mk #[139]) ++ strOf (nth [conv .u8 (ar .add .i64 (ar .add .i64 128 (ar .mul .i64 8 (ar .rem .i64 rd 8))) (ar .rem .i64 rs 8))] 0) 1 ++ strOf (batR n) (Int.toNat 4))), .int true .i64 0]) []))) :=
  (t8 26 w rd rs n).trans (by kernel_rfl)
attribute [local irreducible] evalF Lf.gives in
theorem ref8_26 (w rd rs n : Int) : (T8 26 w rd rs n).leaf.gives (.tup [.str (strX 26 w rd rs n), .int false .i64 (errX 26 w rd rs n)]) := by
  have hE : errX 26 w rd rs n = (bif (decide (w = 4) || decide (w = 8)) && ((false || decide (w = 8)) && (regX rd && (regX rs && !decide (rs % 8 = 4)))) then (bif ((decide (-2147483648 ≤ n) && decide (n ≤ 2147483647)) || false) then 0 else 10) else 1) := by kernel_rfl
  refine gives_tree (u8_26 w rd rs n) ?_
  refine gives_cond (fun h1 => ?_) (fun h1 => ?_)
  · have hA : ((decide (w = 4) || decide (w = 8)) && ((false || decide (w = 8)) && (regX rd && (regX rs && !decide (rs % 8 = 4))))) = false := by
      simp [cms] at h1 ⊢
      first | done | omega | ((repeat' split at h1) <;> omega) | ((repeat' split at h1) <;> (repeat' split at h1) <;> omega) | skip
    have he : errX 26 w rd rs n = 1 := by rw [hE, hA]; rfl
    exact givesE (strX_bad he (by decide)) he.symm
  refine gives_cond (fun h2 => ?_) (fun h2 => ?_)
  all_goals rw [rem8 (show 0 ≤ rs by simp [cms] at h1; first | omega | ((repeat' split at h1) <;> omega))] at h2
  · have hA : ((decide (w = 4) || decide (w = 8)) && ((false || decide (w = 8)) && (regX rd && (regX rs && !decide (rs % 8 = 4))))) = false := by
      simp [cms] at h1 h2 ⊢
      first | done | omega | ((repeat' split at h1) <;> omega) | ((repeat' split at h1) <;> (repeat' split at h2) <;> omega) | skip
    have he : errX 26 w rd rs n = 1 := by rw [hE, hA]; rfl
    exact givesE (strX_bad he (by decide)) he.symm
  have hA : ((decide (w = 4) || decide (w = 8)) && ((false || decide (w = 8)) && (regX rd && (regX rs && !decide (rs % 8 = 4))))) = true := by
    simp [cms] at h1 h2 ⊢
    first | done | omega | ((repeat' split at h1) <;> omega) | ((repeat' split at h1) <;> (repeat' split at h2) <;> omega) | skip
  refine gives_cond (fun h9 => ?_) (fun h9 => ?_)
  · have hF : ((decide (-2147483648 ≤ n) && decide (n ≤ 2147483647)) || false) = false := by
      simp [cms] at h9 ⊢
      first | done | omega | ((repeat' split at h9) <;> omega) | skip
    have he : errX 26 w rd rs n = 10 := by rw [hE, hA, hF]; rfl
    exact givesE (strX_bad he (by decide)) he.symm
  have hF : ((decide (-2147483648 ≤ n) && decide (n ≤ 2147483647)) || false) = true := by
    simp [cms] at h9 ⊢
    first | done | omega | ((repeat' split at h9) <;> omega) | skip
  have he : errX 26 w rd rs n = 0 := by rw [hE, hA, hF]; rfl
  have hrd : small rd := by simp [regX] at hA; simp only [small]; omega
  have hrs : small rs := by simp [regX] at hA; simp only [small]; omega
  have hw : w = 4 ∨ w = 8 := by simp at hA; omega
  refine givesE ?_ he.symm
  rw [strX_ok he]
  refine Eq.trans (b := S [rexI w rd rs] ++ S [139] ++ S [modR 128 rd rs] ++ S [batR n 0, batR n 1, batR n 2, batR n 3]) (by kernel_rfl) ?_
  simp only [S_append]
  exact congrArg S (Eq.trans (b := [rexI w rd rs, 139, modR 128 rd rs, batR n 0, batR n 1, batR n 2, batR n 3]) (by rfl) (Eq.trans (b := [rexI w rd rs, 139, modI 128 rd rs, bat n 0, bat n 1, bat n 2, bat n 3]) (by rw [modR_eq (.inr rfl) hrd hrs, batR_eq n (by decide : 0 < 8), batR_eq n (by decide : 1 < 8), batR_eq n (by decide : 2 < 8), batR_eq n (by decide : 3 < 8)]) (by kernel_rfl)))

theorem u8_27 (w rd rs n : Int) : (T8 27 w rd rs n).bare = (bif (bif (cm .neq w 4) then (bif (cm .neq w 8) then true else (bif (cm .neq 4 w) then true else (bif (!(bif (cm .geq rd 0) then (cm .leq rd 15) else false)) then true else (bif (!(bif (cm .geq rs 0) then (cm .leq rs 15) else false)) then true else false)))) else (bif (cm .neq 4 w) then true else (bif (!(bif (cm .geq rd 0) then (cm .leq rd 15) else false)) then true else (bif (!(bif (cm .geq rs 0) then (cm .leq rs 15) else false)) then true else false)))) then .ret (.tup [.str ⟨#[]⟩, .int true .i64 1]) [] else (bif (bif (cm .eql (ar .rem .i64 rs 8) 4) then true else false) then .ret (.tup [.str ⟨#[]⟩, .int true .i64 1]) [] else (bif (bif (cm .lss n (-2147483648)) then true else (bif (cm .geq n 2147483648) then true else false)) then .ret (.tup [.str ⟨#[]⟩, .int true .i64 10]) [] else .ret (.tup [(.str (strOf (nth [rexI w rd rs] 0) 1 ++ (ByteArray.mk #[139]) ++ strOf (nth [conv .u8 (ar .add .i64 (ar .add .i64 128 (ar .mul .i64 8 (ar .rem .i64 rd 8))) (ar .rem .i64 rs 8))] 0) 1 ++ strOf (batR n) (Int.toNat 4))), .int true .i64 0]) []))) :=
  (t8 27 w rd rs n).trans (by kernel_rfl)
attribute [local irreducible] evalF Lf.gives in
theorem ref8_27 (w rd rs n : Int) : (T8 27 w rd rs n).leaf.gives (.tup [.str (strX 27 w rd rs n), .int false .i64 (errX 27 w rd rs n)]) := by
  have hE : errX 27 w rd rs n = (bif (decide (w = 4) || decide (w = 8)) && ((false || decide (w = 4)) && (regX rd && (regX rs && !decide (rs % 8 = 4)))) then (bif ((decide (-2147483648 ≤ n) && decide (n ≤ 2147483647)) || false) then 0 else 10) else 1) := by kernel_rfl
  refine gives_tree (u8_27 w rd rs n) ?_
  refine gives_cond (fun h1 => ?_) (fun h1 => ?_)
  · have hA : ((decide (w = 4) || decide (w = 8)) && ((false || decide (w = 4)) && (regX rd && (regX rs && !decide (rs % 8 = 4))))) = false := by
      simp [cms] at h1 ⊢
      first | done | omega | ((repeat' split at h1) <;> omega) | ((repeat' split at h1) <;> (repeat' split at h1) <;> omega) | skip
    have he : errX 27 w rd rs n = 1 := by rw [hE, hA]; rfl
    exact givesE (strX_bad he (by decide)) he.symm
  refine gives_cond (fun h2 => ?_) (fun h2 => ?_)
  all_goals rw [rem8 (show 0 ≤ rs by simp [cms] at h1; first | omega | ((repeat' split at h1) <;> omega))] at h2
  · have hA : ((decide (w = 4) || decide (w = 8)) && ((false || decide (w = 4)) && (regX rd && (regX rs && !decide (rs % 8 = 4))))) = false := by
      simp [cms] at h1 h2 ⊢
      first | done | omega | ((repeat' split at h1) <;> omega) | ((repeat' split at h1) <;> (repeat' split at h2) <;> omega) | skip
    have he : errX 27 w rd rs n = 1 := by rw [hE, hA]; rfl
    exact givesE (strX_bad he (by decide)) he.symm
  have hA : ((decide (w = 4) || decide (w = 8)) && ((false || decide (w = 4)) && (regX rd && (regX rs && !decide (rs % 8 = 4))))) = true := by
    simp [cms] at h1 h2 ⊢
    first | done | omega | ((repeat' split at h1) <;> omega) | ((repeat' split at h1) <;> (repeat' split at h2) <;> omega) | skip
  refine gives_cond (fun h9 => ?_) (fun h9 => ?_)
  · have hF : ((decide (-2147483648 ≤ n) && decide (n ≤ 2147483647)) || false) = false := by
      simp [cms] at h9 ⊢
      first | done | omega | ((repeat' split at h9) <;> omega) | skip
    have he : errX 27 w rd rs n = 10 := by rw [hE, hA, hF]; rfl
    exact givesE (strX_bad he (by decide)) he.symm
  have hF : ((decide (-2147483648 ≤ n) && decide (n ≤ 2147483647)) || false) = true := by
    simp [cms] at h9 ⊢
    first | done | omega | ((repeat' split at h9) <;> omega) | skip
  have he : errX 27 w rd rs n = 0 := by rw [hE, hA, hF]; rfl
  have hrd : small rd := by simp [regX] at hA; simp only [small]; omega
  have hrs : small rs := by simp [regX] at hA; simp only [small]; omega
  have hw : w = 4 ∨ w = 8 := by simp at hA; omega
  refine givesE ?_ he.symm
  rw [strX_ok he]
  refine Eq.trans (b := S [rexI w rd rs] ++ S [139] ++ S [modR 128 rd rs] ++ S [batR n 0, batR n 1, batR n 2, batR n 3]) (by kernel_rfl) ?_
  simp only [S_append]
  exact congrArg S (Eq.trans (b := [rexI w rd rs, 139, modR 128 rd rs, batR n 0, batR n 1, batR n 2, batR n 3]) (by rfl) (Eq.trans (b := [rexI w rd rs, 139, modI 128 rd rs, bat n 0, bat n 1, bat n 2, bat n 3]) (by rw [modR_eq (.inr rfl) hrd hrs, batR_eq n (by decide : 0 < 8), batR_eq n (by decide : 1 < 8), batR_eq n (by decide : 2 < 8), batR_eq n (by decide : 3 < 8)]) (by kernel_rfl)))

theorem u8_28 (w rd rs n : Int) : (T8 28 w rd rs n).bare = (bif (bif (cm .neq w 4) then (bif (cm .neq w 8) then true else (bif (cm .neq 8 w) then true else (bif (!(bif (cm .geq rd 0) then (cm .leq rd 15) else false)) then true else (bif (!(bif (cm .geq rs 0) then (cm .leq rs 15) else false)) then true else false)))) else (bif (cm .neq 8 w) then true else (bif (!(bif (cm .geq rd 0) then (cm .leq rd 15) else false)) then true else (bif (!(bif (cm .geq rs 0) then (cm .leq rs 15) else false)) then true else false)))) then .ret (.tup [.str ⟨#[]⟩, .int true .i64 1]) [] else (bif (bif (cm .eql (ar .rem .i64 rs 8) 4) then true else false) then .ret (.tup [.str ⟨#[]⟩, .int true .i64 1]) [] else (bif (bif (cm .lss n (-2147483648)) then true else (bif (cm .geq n 2147483648) then true else false)) then .ret (.tup [.str ⟨#[]⟩, .int true .i64 10]) [] else .ret (.tup [(.str (strOf (nth [rexI w rd rs] 0) 1 ++ (ByteArray.mk #[99]) ++ strOf (nth [conv .u8 (ar .add .i64 (ar .add .i64 128 (ar .mul .i64 8 (ar .rem .i64 rd 8))) (ar .rem .i64 rs 8))] 0) 1 ++ strOf (batR n) (Int.toNat 4))), .int true .i64 0]) []))) :=
  (t8 28 w rd rs n).trans (by kernel_rfl)
attribute [local irreducible] evalF Lf.gives in
theorem ref8_28 (w rd rs n : Int) : (T8 28 w rd rs n).leaf.gives (.tup [.str (strX 28 w rd rs n), .int false .i64 (errX 28 w rd rs n)]) := by
  have hE : errX 28 w rd rs n = (bif (decide (w = 4) || decide (w = 8)) && ((false || decide (w = 8)) && (regX rd && (regX rs && !decide (rs % 8 = 4)))) then (bif ((decide (-2147483648 ≤ n) && decide (n ≤ 2147483647)) || false) then 0 else 10) else 1) := by kernel_rfl
  refine gives_tree (u8_28 w rd rs n) ?_
  refine gives_cond (fun h1 => ?_) (fun h1 => ?_)
  · have hA : ((decide (w = 4) || decide (w = 8)) && ((false || decide (w = 8)) && (regX rd && (regX rs && !decide (rs % 8 = 4))))) = false := by
      simp [cms] at h1 ⊢
      first | done | omega | ((repeat' split at h1) <;> omega) | ((repeat' split at h1) <;> (repeat' split at h1) <;> omega) | skip
    have he : errX 28 w rd rs n = 1 := by rw [hE, hA]; rfl
    exact givesE (strX_bad he (by decide)) he.symm
  refine gives_cond (fun h2 => ?_) (fun h2 => ?_)
  all_goals rw [rem8 (show 0 ≤ rs by simp [cms] at h1; first | omega | ((repeat' split at h1) <;> omega))] at h2
  · have hA : ((decide (w = 4) || decide (w = 8)) && ((false || decide (w = 8)) && (regX rd && (regX rs && !decide (rs % 8 = 4))))) = false := by
      simp [cms] at h1 h2 ⊢
      first | done | omega | ((repeat' split at h1) <;> omega) | ((repeat' split at h1) <;> (repeat' split at h2) <;> omega) | skip
    have he : errX 28 w rd rs n = 1 := by rw [hE, hA]; rfl
    exact givesE (strX_bad he (by decide)) he.symm
  have hA : ((decide (w = 4) || decide (w = 8)) && ((false || decide (w = 8)) && (regX rd && (regX rs && !decide (rs % 8 = 4))))) = true := by
    simp [cms] at h1 h2 ⊢
    first | done | omega | ((repeat' split at h1) <;> omega) | ((repeat' split at h1) <;> (repeat' split at h2) <;> omega) | skip
  refine gives_cond (fun h9 => ?_) (fun h9 => ?_)
  · have hF : ((decide (-2147483648 ≤ n) && decide (n ≤ 2147483647)) || false) = false := by
      simp [cms] at h9 ⊢
      first | done | omega | ((repeat' split at h9) <;> omega) | skip
    have he : errX 28 w rd rs n = 10 := by rw [hE, hA, hF]; rfl
    exact givesE (strX_bad he (by decide)) he.symm
  have hF : ((decide (-2147483648 ≤ n) && decide (n ≤ 2147483647)) || false) = true := by
    simp [cms] at h9 ⊢
    first | done | omega | ((repeat' split at h9) <;> omega) | skip
  have he : errX 28 w rd rs n = 0 := by rw [hE, hA, hF]; rfl
  have hrd : small rd := by simp [regX] at hA; simp only [small]; omega
  have hrs : small rs := by simp [regX] at hA; simp only [small]; omega
  have hw : w = 4 ∨ w = 8 := by simp at hA; omega
  refine givesE ?_ he.symm
  rw [strX_ok he]
  refine Eq.trans (b := S [rexI w rd rs] ++ S [99] ++ S [modR 128 rd rs] ++ S [batR n 0, batR n 1, batR n 2, batR n 3]) (by kernel_rfl) ?_
  simp only [S_append]
  exact congrArg S (Eq.trans (b := [rexI w rd rs, 99, modR 128 rd rs, batR n 0, batR n 1, batR n 2, batR n 3]) (by rfl) (Eq.trans (b := [rexI w rd rs, 99, modI 128 rd rs, bat n 0, bat n 1, bat n 2, bat n 3]) (by rw [modR_eq (.inr rfl) hrd hrs, batR_eq n (by decide : 0 < 8), batR_eq n (by decide : 1 < 8), batR_eq n (by decide : 2 < 8), batR_eq n (by decide : 3 < 8)]) (by kernel_rfl)))

theorem u8_29 (w rd rs n : Int) : (T8 29 w rd rs n).bare = (bif (bif (cm .neq w 4) then (bif (cm .neq w 8) then true else (bif (cm .neq 8 w) then true else (bif (!(bif (cm .geq rd 0) then (cm .leq rd 15) else false)) then true else (bif (!(bif (cm .geq rs 0) then (cm .leq rs 15) else false)) then true else false)))) else (bif (cm .neq 8 w) then true else (bif (!(bif (cm .geq rd 0) then (cm .leq rd 15) else false)) then true else (bif (!(bif (cm .geq rs 0) then (cm .leq rs 15) else false)) then true else false)))) then .ret (.tup [.str ⟨#[]⟩, .int true .i64 1]) [] else (bif (bif (cm .eql (ar .rem .i64 rs 8) 4) then true else false) then .ret (.tup [.str ⟨#[]⟩, .int true .i64 1]) [] else (bif (bif (cm .lss n (-2147483648)) then true else (bif (cm .geq n 2147483648) then true else false)) then .ret (.tup [.str ⟨#[]⟩, .int true .i64 10]) [] else .ret (.tup [(.str (strOf (nth [rexI w rd rs] 0) 1 ++ (ByteArray.mk #[15, 191]) ++ strOf (nth [conv .u8 (ar .add .i64 (ar .add .i64 128 (ar .mul .i64 8 (ar .rem .i64 rd 8))) (ar .rem .i64 rs 8))] 0) 1 ++ strOf (batR n) (Int.toNat 4))), .int true .i64 0]) []))) :=
  (t8 29 w rd rs n).trans (by kernel_rfl)
attribute [local irreducible] evalF Lf.gives in
theorem ref8_29 (w rd rs n : Int) : (T8 29 w rd rs n).leaf.gives (.tup [.str (strX 29 w rd rs n), .int false .i64 (errX 29 w rd rs n)]) := by
  have hE : errX 29 w rd rs n = (bif (decide (w = 4) || decide (w = 8)) && ((false || decide (w = 8)) && (regX rd && (regX rs && !decide (rs % 8 = 4)))) then (bif ((decide (-2147483648 ≤ n) && decide (n ≤ 2147483647)) || false) then 0 else 10) else 1) := by kernel_rfl
  refine gives_tree (u8_29 w rd rs n) ?_
  refine gives_cond (fun h1 => ?_) (fun h1 => ?_)
  · have hA : ((decide (w = 4) || decide (w = 8)) && ((false || decide (w = 8)) && (regX rd && (regX rs && !decide (rs % 8 = 4))))) = false := by
      simp [cms] at h1 ⊢
      first | done | omega | ((repeat' split at h1) <;> omega) | ((repeat' split at h1) <;> (repeat' split at h1) <;> omega) | skip
    have he : errX 29 w rd rs n = 1 := by rw [hE, hA]; rfl
    exact givesE (strX_bad he (by decide)) he.symm
  refine gives_cond (fun h2 => ?_) (fun h2 => ?_)
  all_goals rw [rem8 (show 0 ≤ rs by simp [cms] at h1; first | omega | ((repeat' split at h1) <;> omega))] at h2
  · have hA : ((decide (w = 4) || decide (w = 8)) && ((false || decide (w = 8)) && (regX rd && (regX rs && !decide (rs % 8 = 4))))) = false := by
      simp [cms] at h1 h2 ⊢
      first | done | omega | ((repeat' split at h1) <;> omega) | ((repeat' split at h1) <;> (repeat' split at h2) <;> omega) | skip
    have he : errX 29 w rd rs n = 1 := by rw [hE, hA]; rfl
    exact givesE (strX_bad he (by decide)) he.symm
  have hA : ((decide (w = 4) || decide (w = 8)) && ((false || decide (w = 8)) && (regX rd && (regX rs && !decide (rs % 8 = 4))))) = true := by
    simp [cms] at h1 h2 ⊢
    first | done | omega | ((repeat' split at h1) <;> omega) | ((repeat' split at h1) <;> (repeat' split at h2) <;> omega) | skip
  refine gives_cond (fun h9 => ?_) (fun h9 => ?_)
  · have hF : ((decide (-2147483648 ≤ n) && decide (n ≤ 2147483647)) || false) = false := by
      simp [cms] at h9 ⊢
      first | done | omega | ((repeat' split at h9) <;> omega) | skip
    have he : errX 29 w rd rs n = 10 := by rw [hE, hA, hF]; rfl
    exact givesE (strX_bad he (by decide)) he.symm
  have hF : ((decide (-2147483648 ≤ n) && decide (n ≤ 2147483647)) || false) = true := by
    simp [cms] at h9 ⊢
    first | done | omega | ((repeat' split at h9) <;> omega) | skip
  have he : errX 29 w rd rs n = 0 := by rw [hE, hA, hF]; rfl
  have hrd : small rd := by simp [regX] at hA; simp only [small]; omega
  have hrs : small rs := by simp [regX] at hA; simp only [small]; omega
  have hw : w = 4 ∨ w = 8 := by simp at hA; omega
  refine givesE ?_ he.symm
  rw [strX_ok he]
  refine Eq.trans (b := S [rexI w rd rs] ++ S [15, 191] ++ S [modR 128 rd rs] ++ S [batR n 0, batR n 1, batR n 2, batR n 3]) (by kernel_rfl) ?_
  simp only [S_append]
  exact congrArg S (Eq.trans (b := [rexI w rd rs, 15, 191, modR 128 rd rs, batR n 0, batR n 1, batR n 2, batR n 3]) (by rfl) (Eq.trans (b := [rexI w rd rs, 15, 191, modI 128 rd rs, bat n 0, bat n 1, bat n 2, bat n 3]) (by rw [modR_eq (.inr rfl) hrd hrs, batR_eq n (by decide : 0 < 8), batR_eq n (by decide : 1 < 8), batR_eq n (by decide : 2 < 8), batR_eq n (by decide : 3 < 8)]) (by kernel_rfl)))

theorem u8_30 (w rd rs n : Int) : (T8 30 w rd rs n).bare = (bif (bif (cm .neq w 4) then (bif (cm .neq w 8) then true else (bif (cm .neq 8 w) then true else (bif (!(bif (cm .geq rd 0) then (cm .leq rd 15) else false)) then true else (bif (!(bif (cm .geq rs 0) then (cm .leq rs 15) else false)) then true else false)))) else (bif (cm .neq 8 w) then true else (bif (!(bif (cm .geq rd 0) then (cm .leq rd 15) else false)) then true else (bif (!(bif (cm .geq rs 0) then (cm .leq rs 15) else false)) then true else false)))) then .ret (.tup [.str ⟨#[]⟩, .int true .i64 1]) [] else (bif (bif (cm .eql (ar .rem .i64 rs 8) 4) then true else false) then .ret (.tup [.str ⟨#[]⟩, .int true .i64 1]) [] else (bif (bif (cm .lss n (-2147483648)) then true else (bif (cm .geq n 2147483648) then true else false)) then .ret (.tup [.str ⟨#[]⟩, .int true .i64 10]) [] else .ret (.tup [(.str (strOf (nth [rexI w rd rs] 0) 1 ++ (ByteArray.mk #[15, 190]) ++ strOf (nth [conv .u8 (ar .add .i64 (ar .add .i64 128 (ar .mul .i64 8 (ar .rem .i64 rd 8))) (ar .rem .i64 rs 8))] 0) 1 ++ strOf (batR n) (Int.toNat 4))), .int true .i64 0]) []))) :=
  (t8 30 w rd rs n).trans (by kernel_rfl)
attribute [local irreducible] evalF Lf.gives in
theorem ref8_30 (w rd rs n : Int) : (T8 30 w rd rs n).leaf.gives (.tup [.str (strX 30 w rd rs n), .int false .i64 (errX 30 w rd rs n)]) := by
  have hE : errX 30 w rd rs n = (bif (decide (w = 4) || decide (w = 8)) && ((false || decide (w = 8)) && (regX rd && (regX rs && !decide (rs % 8 = 4)))) then (bif ((decide (-2147483648 ≤ n) && decide (n ≤ 2147483647)) || false) then 0 else 10) else 1) := by kernel_rfl
  refine gives_tree (u8_30 w rd rs n) ?_
  refine gives_cond (fun h1 => ?_) (fun h1 => ?_)
  · have hA : ((decide (w = 4) || decide (w = 8)) && ((false || decide (w = 8)) && (regX rd && (regX rs && !decide (rs % 8 = 4))))) = false := by
      simp [cms] at h1 ⊢
      first | done | omega | ((repeat' split at h1) <;> omega) | ((repeat' split at h1) <;> (repeat' split at h1) <;> omega) | skip
    have he : errX 30 w rd rs n = 1 := by rw [hE, hA]; rfl
    exact givesE (strX_bad he (by decide)) he.symm
  refine gives_cond (fun h2 => ?_) (fun h2 => ?_)
  all_goals rw [rem8 (show 0 ≤ rs by simp [cms] at h1; first | omega | ((repeat' split at h1) <;> omega))] at h2
  · have hA : ((decide (w = 4) || decide (w = 8)) && ((false || decide (w = 8)) && (regX rd && (regX rs && !decide (rs % 8 = 4))))) = false := by
      simp [cms] at h1 h2 ⊢
      first | done | omega | ((repeat' split at h1) <;> omega) | ((repeat' split at h1) <;> (repeat' split at h2) <;> omega) | skip
    have he : errX 30 w rd rs n = 1 := by rw [hE, hA]; rfl
    exact givesE (strX_bad he (by decide)) he.symm
  have hA : ((decide (w = 4) || decide (w = 8)) && ((false || decide (w = 8)) && (regX rd && (regX rs && !decide (rs % 8 = 4))))) = true := by
    simp [cms] at h1 h2 ⊢
    first | done | omega | ((repeat' split at h1) <;> omega) | ((repeat' split at h1) <;> (repeat' split at h2) <;> omega) | skip
  refine gives_cond (fun h9 => ?_) (fun h9 => ?_)
  · have hF : ((decide (-2147483648 ≤ n) && decide (n ≤ 2147483647)) || false) = false := by
      simp [cms] at h9 ⊢
      first | done | omega | ((repeat' split at h9) <;> omega) | skip
    have he : errX 30 w rd rs n = 10 := by rw [hE, hA, hF]; rfl
    exact givesE (strX_bad he (by decide)) he.symm
  have hF : ((decide (-2147483648 ≤ n) && decide (n ≤ 2147483647)) || false) = true := by
    simp [cms] at h9 ⊢
    first | done | omega | ((repeat' split at h9) <;> omega) | skip
  have he : errX 30 w rd rs n = 0 := by rw [hE, hA, hF]; rfl
  have hrd : small rd := by simp [regX] at hA; simp only [small]; omega
  have hrs : small rs := by simp [regX] at hA; simp only [small]; omega
  have hw : w = 4 ∨ w = 8 := by simp at hA; omega
  refine givesE ?_ he.symm
  rw [strX_ok he]
  refine Eq.trans (b := S [rexI w rd rs] ++ S [15, 190] ++ S [modR 128 rd rs] ++ S [batR n 0, batR n 1, batR n 2, batR n 3]) (by kernel_rfl) ?_
  simp only [S_append]
  exact congrArg S (Eq.trans (b := [rexI w rd rs, 15, 190, modR 128 rd rs, batR n 0, batR n 1, batR n 2, batR n 3]) (by rfl) (Eq.trans (b := [rexI w rd rs, 15, 190, modI 128 rd rs, bat n 0, bat n 1, bat n 2, bat n 3]) (by rw [modR_eq (.inr rfl) hrd hrs, batR_eq n (by decide : 0 < 8), batR_eq n (by decide : 1 < 8), batR_eq n (by decide : 2 < 8), batR_eq n (by decide : 3 < 8)]) (by kernel_rfl)))

theorem u8_31 (w rd rs n : Int) : (T8 31 w rd rs n).bare = (bif (bif (cm .neq w 4) then (bif (cm .neq w 8) then true else (bif (cm .neq 8 w) then true else (bif (!(bif (cm .geq rd 0) then (cm .leq rd 15) else false)) then true else (bif (!(bif (cm .geq rs 0) then (cm .leq rs 15) else false)) then true else false)))) else (bif (cm .neq 8 w) then true else (bif (!(bif (cm .geq rd 0) then (cm .leq rd 15) else false)) then true else (bif (!(bif (cm .geq rs 0) then (cm .leq rs 15) else false)) then true else false)))) then .ret (.tup [.str ⟨#[]⟩, .int true .i64 1]) [] else (bif (bif (cm .eql (ar .rem .i64 rs 8) 4) then true else false) then .ret (.tup [.str ⟨#[]⟩, .int true .i64 1]) [] else (bif (bif (cm .lss n (-2147483648)) then true else (bif (cm .geq n 2147483648) then true else false)) then .ret (.tup [.str ⟨#[]⟩, .int true .i64 10]) [] else .ret (.tup [(.str (strOf (nth [rexI w rd rs] 0) 1 ++ (ByteArray.mk #[15, 183]) ++ strOf (nth [conv .u8 (ar .add .i64 (ar .add .i64 128 (ar .mul .i64 8 (ar .rem .i64 rd 8))) (ar .rem .i64 rs 8))] 0) 1 ++ strOf (batR n) (Int.toNat 4))), .int true .i64 0]) []))) :=
  (t8 31 w rd rs n).trans (by kernel_rfl)
attribute [local irreducible] evalF Lf.gives in
theorem ref8_31 (w rd rs n : Int) : (T8 31 w rd rs n).leaf.gives (.tup [.str (strX 31 w rd rs n), .int false .i64 (errX 31 w rd rs n)]) := by
  have hE : errX 31 w rd rs n = (bif (decide (w = 4) || decide (w = 8)) && ((false || decide (w = 8)) && (regX rd && (regX rs && !decide (rs % 8 = 4)))) then (bif ((decide (-2147483648 ≤ n) && decide (n ≤ 2147483647)) || false) then 0 else 10) else 1) := by kernel_rfl
  refine gives_tree (u8_31 w rd rs n) ?_
  refine gives_cond (fun h1 => ?_) (fun h1 => ?_)
  · have hA : ((decide (w = 4) || decide (w = 8)) && ((false || decide (w = 8)) && (regX rd && (regX rs && !decide (rs % 8 = 4))))) = false := by
      simp [cms] at h1 ⊢
      first | done | omega | ((repeat' split at h1) <;> omega) | ((repeat' split at h1) <;> (repeat' split at h1) <;> omega) | skip
    have he : errX 31 w rd rs n = 1 := by rw [hE, hA]; rfl
    exact givesE (strX_bad he (by decide)) he.symm
  refine gives_cond (fun h2 => ?_) (fun h2 => ?_)
  all_goals rw [rem8 (show 0 ≤ rs by simp [cms] at h1; first | omega | ((repeat' split at h1) <;> omega))] at h2
  · have hA : ((decide (w = 4) || decide (w = 8)) && ((false || decide (w = 8)) && (regX rd && (regX rs && !decide (rs % 8 = 4))))) = false := by
      simp [cms] at h1 h2 ⊢
      first | done | omega | ((repeat' split at h1) <;> omega) | ((repeat' split at h1) <;> (repeat' split at h2) <;> omega) | skip
    have he : errX 31 w rd rs n = 1 := by rw [hE, hA]; rfl
    exact givesE (strX_bad he (by decide)) he.symm
  have hA : ((decide (w = 4) || decide (w = 8)) && ((false || decide (w = 8)) && (regX rd && (regX rs && !decide (rs % 8 = 4))))) = true := by
    simp [cms] at h1 h2 ⊢
    first | done | omega | ((repeat' split at h1) <;> omega) | ((repeat' split at h1) <;> (repeat' split at h2) <;> omega) | skip
  refine gives_cond (fun h9 => ?_) (fun h9 => ?_)
  · have hF : ((decide (-2147483648 ≤ n) && decide (n ≤ 2147483647)) || false) = false := by
      simp [cms] at h9 ⊢
      first | done | omega | ((repeat' split at h9) <;> omega) | skip
    have he : errX 31 w rd rs n = 10 := by rw [hE, hA, hF]; rfl
    exact givesE (strX_bad he (by decide)) he.symm
  have hF : ((decide (-2147483648 ≤ n) && decide (n ≤ 2147483647)) || false) = true := by
    simp [cms] at h9 ⊢
    first | done | omega | ((repeat' split at h9) <;> omega) | skip
  have he : errX 31 w rd rs n = 0 := by rw [hE, hA, hF]; rfl
  have hrd : small rd := by simp [regX] at hA; simp only [small]; omega
  have hrs : small rs := by simp [regX] at hA; simp only [small]; omega
  have hw : w = 4 ∨ w = 8 := by simp at hA; omega
  refine givesE ?_ he.symm
  rw [strX_ok he]
  refine Eq.trans (b := S [rexI w rd rs] ++ S [15, 183] ++ S [modR 128 rd rs] ++ S [batR n 0, batR n 1, batR n 2, batR n 3]) (by kernel_rfl) ?_
  simp only [S_append]
  exact congrArg S (Eq.trans (b := [rexI w rd rs, 15, 183, modR 128 rd rs, batR n 0, batR n 1, batR n 2, batR n 3]) (by rfl) (Eq.trans (b := [rexI w rd rs, 15, 183, modI 128 rd rs, bat n 0, bat n 1, bat n 2, bat n 3]) (by rw [modR_eq (.inr rfl) hrd hrs, batR_eq n (by decide : 0 < 8), batR_eq n (by decide : 1 < 8), batR_eq n (by decide : 2 < 8), batR_eq n (by decide : 3 < 8)]) (by kernel_rfl)))

theorem u8_32 (w rd rs n : Int) : (T8 32 w rd rs n).bare = (bif (bif (cm .neq w 4) then (bif (cm .neq w 8) then true else (bif (cm .neq 8 w) then true else (bif (!(bif (cm .geq rd 0) then (cm .leq rd 15) else false)) then true else (bif (!(bif (cm .geq rs 0) then (cm .leq rs 15) else false)) then true else false)))) else (bif (cm .neq 8 w) then true else (bif (!(bif (cm .geq rd 0) then (cm .leq rd 15) else false)) then true else (bif (!(bif (cm .geq rs 0) then (cm .leq rs 15) else false)) then true else false)))) then .ret (.tup [.str ⟨#[]⟩, .int true .i64 1]) [] else (bif (bif (cm .eql (ar .rem .i64 rs 8) 4) then true else false) then .ret (.tup [.str ⟨#[]⟩, .int true .i64 1]) [] else (bif (bif (cm .lss n (-2147483648)) then true else (bif (cm .geq n 2147483648) then true else false)) then .ret (.tup [.str ⟨#[]⟩, .int true .i64 10]) [] else .ret (.tup [(.str (strOf (nth [rexI w rd rs] 0) 1 ++ (ByteArray.mk #[15, 182]) ++ strOf (nth [conv .u8 (ar .add .i64 (ar .add .i64 128 (ar .mul .i64 8 (ar .rem .i64 rd 8))) (ar .rem .i64 rs 8))] 0) 1 ++ strOf (batR n) (Int.toNat 4))), .int true .i64 0]) []))) :=
  (t8 32 w rd rs n).trans (by kernel_rfl)
attribute [local irreducible] evalF Lf.gives in
theorem ref8_32 (w rd rs n : Int) : (T8 32 w rd rs n).leaf.gives (.tup [.str (strX 32 w rd rs n), .int false .i64 (errX 32 w rd rs n)]) := by
  have hE : errX 32 w rd rs n = (bif (decide (w = 4) || decide (w = 8)) && ((false || decide (w = 8)) && (regX rd && (regX rs && !decide (rs % 8 = 4)))) then (bif ((decide (-2147483648 ≤ n) && decide (n ≤ 2147483647)) || false) then 0 else 10) else 1) := by kernel_rfl
  refine gives_tree (u8_32 w rd rs n) ?_
  refine gives_cond (fun h1 => ?_) (fun h1 => ?_)
  · have hA : ((decide (w = 4) || decide (w = 8)) && ((false || decide (w = 8)) && (regX rd && (regX rs && !decide (rs % 8 = 4))))) = false := by
      simp [cms] at h1 ⊢
      first | done | omega | ((repeat' split at h1) <;> omega) | ((repeat' split at h1) <;> (repeat' split at h1) <;> omega) | skip
    have he : errX 32 w rd rs n = 1 := by rw [hE, hA]; rfl
    exact givesE (strX_bad he (by decide)) he.symm
  refine gives_cond (fun h2 => ?_) (fun h2 => ?_)
  all_goals rw [rem8 (show 0 ≤ rs by simp [cms] at h1; first | omega | ((repeat' split at h1) <;> omega))] at h2
  · have hA : ((decide (w = 4) || decide (w = 8)) && ((false || decide (w = 8)) && (regX rd && (regX rs && !decide (rs % 8 = 4))))) = false := by
      simp [cms] at h1 h2 ⊢
      first | done | omega | ((repeat' split at h1) <;> omega) | ((repeat' split at h1) <;> (repeat' split at h2) <;> omega) | skip
    have he : errX 32 w rd rs n = 1 := by rw [hE, hA]; rfl
    exact givesE (strX_bad he (by decide)) he.symm
  have hA : ((decide (w = 4) || decide (w = 8)) && ((false || decide (w = 8)) && (regX rd && (regX rs && !decide (rs % 8 = 4))))) = true := by
    simp [cms] at h1 h2 ⊢
    first | done | omega | ((repeat' split at h1) <;> omega) | ((repeat' split at h1) <;> (repeat' split at h2) <;> omega) | skip
  refine gives_cond (fun h9 => ?_) (fun h9 => ?_)
  · have hF : ((decide (-2147483648 ≤ n) && decide (n ≤ 2147483647)) || false) = false := by
      simp [cms] at h9 ⊢
      first | done | omega | ((repeat' split at h9) <;> omega) | skip
    have he : errX 32 w rd rs n = 10 := by rw [hE, hA, hF]; rfl
    exact givesE (strX_bad he (by decide)) he.symm
  have hF : ((decide (-2147483648 ≤ n) && decide (n ≤ 2147483647)) || false) = true := by
    simp [cms] at h9 ⊢
    first | done | omega | ((repeat' split at h9) <;> omega) | skip
  have he : errX 32 w rd rs n = 0 := by rw [hE, hA, hF]; rfl
  have hrd : small rd := by simp [regX] at hA; simp only [small]; omega
  have hrs : small rs := by simp [regX] at hA; simp only [small]; omega
  have hw : w = 4 ∨ w = 8 := by simp at hA; omega
  refine givesE ?_ he.symm
  rw [strX_ok he]
  refine Eq.trans (b := S [rexI w rd rs] ++ S [15, 182] ++ S [modR 128 rd rs] ++ S [batR n 0, batR n 1, batR n 2, batR n 3]) (by kernel_rfl) ?_
  simp only [S_append]
  exact congrArg S (Eq.trans (b := [rexI w rd rs, 15, 182, modR 128 rd rs, batR n 0, batR n 1, batR n 2, batR n 3]) (by rfl) (Eq.trans (b := [rexI w rd rs, 15, 182, modI 128 rd rs, bat n 0, bat n 1, bat n 2, bat n 3]) (by rw [modR_eq (.inr rfl) hrd hrs, batR_eq n (by decide : 0 < 8), batR_eq n (by decide : 1 < 8), batR_eq n (by decide : 2 < 8), batR_eq n (by decide : 3 < 8)]) (by kernel_rfl)))

theorem u8_33 (w rd rs n : Int) : (T8 33 w rd rs n).bare = (bif (bif (cm .neq w 4) then (bif (cm .neq w 8) then true else (bif (cm .neq 8 w) then true else (bif (!(bif (cm .geq rd 0) then (cm .leq rd 15) else false)) then true else (bif (!(bif (cm .geq rs 0) then (cm .leq rs 15) else false)) then true else false)))) else (bif (cm .neq 8 w) then true else (bif (!(bif (cm .geq rd 0) then (cm .leq rd 15) else false)) then true else (bif (!(bif (cm .geq rs 0) then (cm .leq rs 15) else false)) then true else false)))) then .ret (.tup [.str ⟨#[]⟩, .int true .i64 1]) [] else (bif (bif (cm .eql (ar .rem .i64 rs 8) 4) then true else false) then .ret (.tup [.str ⟨#[]⟩, .int true .i64 1]) [] else (bif (bif (cm .lss n (-2147483648)) then true else (bif (cm .geq n 2147483648) then true else false)) then .ret (.tup [.str ⟨#[]⟩, .int true .i64 10]) [] else .ret (.tup [(.str (strOf (nth [rexI w rd rs] 0) 1 ++ (ByteArray.mk #[137]) ++ strOf (nth [conv .u8 (ar .add .i64 (ar .add .i64 128 (ar .mul .i64 8 (ar .rem .i64 rd 8))) (ar .rem .i64 rs 8))] 0) 1 ++ strOf (batR n) (Int.toNat 4))), .int true .i64 0]) []))) :=
  (t8 33 w rd rs n).trans (by kernel_rfl)
attribute [local irreducible] evalF Lf.gives in
theorem ref8_33 (w rd rs n : Int) : (T8 33 w rd rs n).leaf.gives (.tup [.str (strX 33 w rd rs n), .int false .i64 (errX 33 w rd rs n)]) := by
  have hE : errX 33 w rd rs n = (bif (decide (w = 4) || decide (w = 8)) && ((false || decide (w = 8)) && (regX rd && (regX rs && !decide (rs % 8 = 4)))) then (bif ((decide (-2147483648 ≤ n) && decide (n ≤ 2147483647)) || false) then 0 else 10) else 1) := by kernel_rfl
  refine gives_tree (u8_33 w rd rs n) ?_
  refine gives_cond (fun h1 => ?_) (fun h1 => ?_)
  · have hA : ((decide (w = 4) || decide (w = 8)) && ((false || decide (w = 8)) && (regX rd && (regX rs && !decide (rs % 8 = 4))))) = false := by
      simp [cms] at h1 ⊢
      first | done | omega | ((repeat' split at h1) <;> omega) | ((repeat' split at h1) <;> (repeat' split at h1) <;> omega) | skip
    have he : errX 33 w rd rs n = 1 := by rw [hE, hA]; rfl
    exact givesE (strX_bad he (by decide)) he.symm
  refine gives_cond (fun h2 => ?_) (fun h2 => ?_)
  all_goals rw [rem8 (show 0 ≤ rs by simp [cms] at h1; first | omega | ((repeat' split at h1) <;> omega))] at h2
  · have hA : ((decide (w = 4) || decide (w = 8)) && ((false || decide (w = 8)) && (regX rd && (regX rs && !decide (rs % 8 = 4))))) = false := by
      simp [cms] at h1 h2 ⊢
      first | done | omega | ((repeat' split at h1) <;> omega) | ((repeat' split at h1) <;> (repeat' split at h2) <;> omega) | skip
    have he : errX 33 w rd rs n = 1 := by rw [hE, hA]; rfl
    exact givesE (strX_bad he (by decide)) he.symm
  have hA : ((decide (w = 4) || decide (w = 8)) && ((false || decide (w = 8)) && (regX rd && (regX rs && !decide (rs % 8 = 4))))) = true := by
    simp [cms] at h1 h2 ⊢
    first | done | omega | ((repeat' split at h1) <;> omega) | ((repeat' split at h1) <;> (repeat' split at h2) <;> omega) | skip
  refine gives_cond (fun h9 => ?_) (fun h9 => ?_)
  · have hF : ((decide (-2147483648 ≤ n) && decide (n ≤ 2147483647)) || false) = false := by
      simp [cms] at h9 ⊢
      first | done | omega | ((repeat' split at h9) <;> omega) | skip
    have he : errX 33 w rd rs n = 10 := by rw [hE, hA, hF]; rfl
    exact givesE (strX_bad he (by decide)) he.symm
  have hF : ((decide (-2147483648 ≤ n) && decide (n ≤ 2147483647)) || false) = true := by
    simp [cms] at h9 ⊢
    first | done | omega | ((repeat' split at h9) <;> omega) | skip
  have he : errX 33 w rd rs n = 0 := by rw [hE, hA, hF]; rfl
  have hrd : small rd := by simp [regX] at hA; simp only [small]; omega
  have hrs : small rs := by simp [regX] at hA; simp only [small]; omega
  have hw : w = 4 ∨ w = 8 := by simp at hA; omega
  refine givesE ?_ he.symm
  rw [strX_ok he]
  refine Eq.trans (b := S [rexI w rd rs] ++ S [137] ++ S [modR 128 rd rs] ++ S [batR n 0, batR n 1, batR n 2, batR n 3]) (by kernel_rfl) ?_
  simp only [S_append]
  exact congrArg S (Eq.trans (b := [rexI w rd rs, 137, modR 128 rd rs, batR n 0, batR n 1, batR n 2, batR n 3]) (by rfl) (Eq.trans (b := [rexI w rd rs, 137, modI 128 rd rs, bat n 0, bat n 1, bat n 2, bat n 3]) (by rw [modR_eq (.inr rfl) hrd hrs, batR_eq n (by decide : 0 < 8), batR_eq n (by decide : 1 < 8), batR_eq n (by decide : 2 < 8), batR_eq n (by decide : 3 < 8)]) (by kernel_rfl)))

theorem u8_34 (w rd rs n : Int) : (T8 34 w rd rs n).bare = (bif (bif (cm .neq w 4) then (bif (cm .neq w 8) then true else (bif (cm .neq 4 w) then true else (bif (!(bif (cm .geq rd 0) then (cm .leq rd 15) else false)) then true else (bif (!(bif (cm .geq rs 0) then (cm .leq rs 15) else false)) then true else false)))) else (bif (cm .neq 4 w) then true else (bif (!(bif (cm .geq rd 0) then (cm .leq rd 15) else false)) then true else (bif (!(bif (cm .geq rs 0) then (cm .leq rs 15) else false)) then true else false)))) then .ret (.tup [.str ⟨#[]⟩, .int true .i64 1]) [] else (bif (bif (cm .eql (ar .rem .i64 rs 8) 4) then true else false) then .ret (.tup [.str ⟨#[]⟩, .int true .i64 1]) [] else (bif (bif (cm .lss n (-2147483648)) then true else (bif (cm .geq n 2147483648) then true else false)) then .ret (.tup [.str ⟨#[]⟩, .int true .i64 10]) [] else .ret (.tup [(.str (strOf (nth [rexI w rd rs] 0) 1 ++ (ByteArray.mk #[137]) ++ strOf (nth [conv .u8 (ar .add .i64 (ar .add .i64 128 (ar .mul .i64 8 (ar .rem .i64 rd 8))) (ar .rem .i64 rs 8))] 0) 1 ++ strOf (batR n) (Int.toNat 4))), .int true .i64 0]) []))) :=
  (t8 34 w rd rs n).trans (by kernel_rfl)
attribute [local irreducible] evalF Lf.gives in
theorem ref8_34 (w rd rs n : Int) : (T8 34 w rd rs n).leaf.gives (.tup [.str (strX 34 w rd rs n), .int false .i64 (errX 34 w rd rs n)]) := by
  have hE : errX 34 w rd rs n = (bif (decide (w = 4) || decide (w = 8)) && ((false || decide (w = 4)) && (regX rd && (regX rs && !decide (rs % 8 = 4)))) then (bif ((decide (-2147483648 ≤ n) && decide (n ≤ 2147483647)) || false) then 0 else 10) else 1) := by kernel_rfl
  refine gives_tree (u8_34 w rd rs n) ?_
  refine gives_cond (fun h1 => ?_) (fun h1 => ?_)
  · have hA : ((decide (w = 4) || decide (w = 8)) && ((false || decide (w = 4)) && (regX rd && (regX rs && !decide (rs % 8 = 4))))) = false := by
      simp [cms] at h1 ⊢
      first | done | omega | ((repeat' split at h1) <;> omega) | ((repeat' split at h1) <;> (repeat' split at h1) <;> omega) | skip
    have he : errX 34 w rd rs n = 1 := by rw [hE, hA]; rfl
    exact givesE (strX_bad he (by decide)) he.symm
  refine gives_cond (fun h2 => ?_) (fun h2 => ?_)
  all_goals rw [rem8 (show 0 ≤ rs by simp [cms] at h1; first | omega | ((repeat' split at h1) <;> omega))] at h2
  · have hA : ((decide (w = 4) || decide (w = 8)) && ((false || decide (w = 4)) && (regX rd && (regX rs && !decide (rs % 8 = 4))))) = false := by
      simp [cms] at h1 h2 ⊢
      first | done | omega | ((repeat' split at h1) <;> omega) | ((repeat' split at h1) <;> (repeat' split at h2) <;> omega) | skip
    have he : errX 34 w rd rs n = 1 := by rw [hE, hA]; rfl
    exact givesE (strX_bad he (by decide)) he.symm
  have hA : ((decide (w = 4) || decide (w = 8)) && ((false || decide (w = 4)) && (regX rd && (regX rs && !decide (rs % 8 = 4))))) = true := by
    simp [cms] at h1 h2 ⊢
    first | done | omega | ((repeat' split at h1) <;> omega) | ((repeat' split at h1) <;> (repeat' split at h2) <;> omega) | skip
  refine gives_cond (fun h9 => ?_) (fun h9 => ?_)
  · have hF : ((decide (-2147483648 ≤ n) && decide (n ≤ 2147483647)) || false) = false := by
      simp [cms] at h9 ⊢
      first | done | omega | ((repeat' split at h9) <;> omega) | skip
    have he : errX 34 w rd rs n = 10 := by rw [hE, hA, hF]; rfl
    exact givesE (strX_bad he (by decide)) he.symm
  have hF : ((decide (-2147483648 ≤ n) && decide (n ≤ 2147483647)) || false) = true := by
    simp [cms] at h9 ⊢
    first | done | omega | ((repeat' split at h9) <;> omega) | skip
  have he : errX 34 w rd rs n = 0 := by rw [hE, hA, hF]; rfl
  have hrd : small rd := by simp [regX] at hA; simp only [small]; omega
  have hrs : small rs := by simp [regX] at hA; simp only [small]; omega
  have hw : w = 4 ∨ w = 8 := by simp at hA; omega
  refine givesE ?_ he.symm
  rw [strX_ok he]
  refine Eq.trans (b := S [rexI w rd rs] ++ S [137] ++ S [modR 128 rd rs] ++ S [batR n 0, batR n 1, batR n 2, batR n 3]) (by kernel_rfl) ?_
  simp only [S_append]
  exact congrArg S (Eq.trans (b := [rexI w rd rs, 137, modR 128 rd rs, batR n 0, batR n 1, batR n 2, batR n 3]) (by rfl) (Eq.trans (b := [rexI w rd rs, 137, modI 128 rd rs, bat n 0, bat n 1, bat n 2, bat n 3]) (by rw [modR_eq (.inr rfl) hrd hrs, batR_eq n (by decide : 0 < 8), batR_eq n (by decide : 1 < 8), batR_eq n (by decide : 2 < 8), batR_eq n (by decide : 3 < 8)]) (by kernel_rfl)))

theorem u8_35 (w rd rs n : Int) : (T8 35 w rd rs n).bare = (bif (bif (cm .neq w 4) then (bif (cm .neq w 8) then true else (bif (cm .neq 4 w) then true else (bif (!(bif (cm .geq rd 0) then (cm .leq rd 15) else false)) then true else (bif (!(bif (cm .geq rs 0) then (cm .leq rs 15) else false)) then true else false)))) else (bif (cm .neq 4 w) then true else (bif (!(bif (cm .geq rd 0) then (cm .leq rd 15) else false)) then true else (bif (!(bif (cm .geq rs 0) then (cm .leq rs 15) else false)) then true else false)))) then .ret (.tup [.str ⟨#[]⟩, .int true .i64 1]) [] else (bif (bif (cm .eql (ar .rem .i64 rs 8) 4) then true else false) then .ret (.tup [.str ⟨#[]⟩, .int true .i64 1]) [] else (bif (bif (cm .lss n (-2147483648)) then true else (bif (cm .geq n 2147483648) then true else false)) then .ret (.tup [.str ⟨#[]⟩, .int true .i64 10]) [] else .ret (.tup [(.str ((ByteArray.mk #[102]) ++ (strOf (nth [rexI w rd rs] 0) 1 ++ (ByteArray.mk #[137]) ++ strOf (nth [conv .u8 (ar .add .i64 (ar .add .i64 128 (ar .mul .i64 8 (ar .rem .i64 rd 8))) (ar .rem .i64 rs 8))] 0) 1 ++ strOf (batR n) (Int.toNat 4)))), .int true .i64 0]) []))) :=
  (t8 35 w rd rs n).trans (by kernel_rfl)
attribute [local irreducible] evalF Lf.gives in
theorem ref8_35 (w rd rs n : Int) : (T8 35 w rd rs n).leaf.gives (.tup [.str (strX 35 w rd rs n), .int false .i64 (errX 35 w rd rs n)]) := by
  have hE : errX 35 w rd rs n = (bif (decide (w = 4) || decide (w = 8)) && ((false || decide (w = 4)) && (regX rd && (regX rs && !decide (rs % 8 = 4)))) then (bif ((decide (-2147483648 ≤ n) && decide (n ≤ 2147483647)) || false) then 0 else 10) else 1) := by kernel_rfl
  refine gives_tree (u8_35 w rd rs n) ?_
  refine gives_cond (fun h1 => ?_) (fun h1 => ?_)
  · have hA : ((decide (w = 4) || decide (w = 8)) && ((false || decide (w = 4)) && (regX rd && (regX rs && !decide (rs % 8 = 4))))) = false := by
      simp [cms] at h1 ⊢
      first | done | omega | ((repeat' split at h1) <;> omega) | ((repeat' split at h1) <;> (repeat' split at h1) <;> omega) | skip
    have he : errX 35 w rd rs n = 1 := by rw [hE, hA]; rfl
    exact givesE (strX_bad he (by decide)) he.symm
  refine gives_cond (fun h2 => ?_) (fun h2 => ?_)
  all_goals rw [rem8 (show 0 ≤ rs by simp [cms] at h1; first | omega | ((repeat' split at h1) <;> omega))] at h2
  · have hA : ((decide (w = 4) || decide (w = 8)) && ((false || decide (w = 4)) && (regX rd && (regX rs && !decide (rs % 8 = 4))))) = false := by
      simp [cms] at h1 h2 ⊢
      first | done | omega | ((repeat' split at h1) <;> omega) | ((repeat' split at h1) <;> (repeat' split at h2) <;> omega) | skip
    have he : errX 35 w rd rs n = 1 := by rw [hE, hA]; rfl
    exact givesE (strX_bad he (by decide)) he.symm
  have hA : ((decide (w = 4) || decide (w = 8)) && ((false || decide (w = 4)) && (regX rd && (regX rs && !decide (rs % 8 = 4))))) = true := by
    simp [cms] at h1 h2 ⊢
    first | done | omega | ((repeat' split at h1) <;> omega) | ((repeat' split at h1) <;> (repeat' split at h2) <;> omega) | skip
  refine gives_cond (fun h9 => ?_) (fun h9 => ?_)
  · have hF : ((decide (-2147483648 ≤ n) && decide (n ≤ 2147483647)) || false) = false := by
      simp [cms] at h9 ⊢
      first | done | omega | ((repeat' split at h9) <;> omega) | skip
    have he : errX 35 w rd rs n = 10 := by rw [hE, hA, hF]; rfl
    exact givesE (strX_bad he (by decide)) he.symm
  have hF : ((decide (-2147483648 ≤ n) && decide (n ≤ 2147483647)) || false) = true := by
    simp [cms] at h9 ⊢
    first | done | omega | ((repeat' split at h9) <;> omega) | skip
  have he : errX 35 w rd rs n = 0 := by rw [hE, hA, hF]; rfl
  have hrd : small rd := by simp [regX] at hA; simp only [small]; omega
  have hrs : small rs := by simp [regX] at hA; simp only [small]; omega
  have hw : w = 4 ∨ w = 8 := by simp at hA; omega
  refine givesE ?_ he.symm
  rw [strX_ok he]
  refine Eq.trans (b := S [102] ++ (S [rexI w rd rs] ++ S [137] ++ S [modR 128 rd rs] ++ S [batR n 0, batR n 1, batR n 2, batR n 3])) (by kernel_rfl) ?_
  simp only [S_append]
  exact congrArg S (Eq.trans (b := [102, rexI w rd rs, 137, modR 128 rd rs, batR n 0, batR n 1, batR n 2, batR n 3]) (by rfl) (Eq.trans (b := [102, rexI w rd rs, 137, modI 128 rd rs, bat n 0, bat n 1, bat n 2, bat n 3]) (by rw [modR_eq (.inr rfl) hrd hrs, batR_eq n (by decide : 0 < 8), batR_eq n (by decide : 1 < 8), batR_eq n (by decide : 2 < 8), batR_eq n (by decide : 3 < 8)]) (by kernel_rfl)))

theorem u8_36 (w rd rs n : Int) : (T8 36 w rd rs n).bare = (bif (bif (cm .neq w 4) then (bif (cm .neq w 8) then true else (bif (cm .neq 4 w) then true else (bif (!(bif (cm .geq rd 0) then (cm .leq rd 15) else false)) then true else (bif (!(bif (cm .geq rs 0) then (cm .leq rs 15) else false)) then true else false)))) else (bif (cm .neq 4 w) then true else (bif (!(bif (cm .geq rd 0) then (cm .leq rd 15) else false)) then true else (bif (!(bif (cm .geq rs 0) then (cm .leq rs 15) else false)) then true else false)))) then .ret (.tup [.str ⟨#[]⟩, .int true .i64 1]) [] else (bif (bif (cm .eql (ar .rem .i64 rs 8) 4) then true else false) then .ret (.tup [.str ⟨#[]⟩, .int true .i64 1]) [] else (bif (bif (cm .lss n (-2147483648)) then true else (bif (cm .geq n 2147483648) then true else false)) then .ret (.tup [.str ⟨#[]⟩, .int true .i64 10]) [] else .ret (.tup [(.str (strOf (nth [rexI w rd rs] 0) 1 ++ (ByteArray.mk #[136]) ++ strOf (nth [conv .u8 (ar .add .i64 (ar .add .i64 128 (ar .mul .i64 8 (ar .rem .i64 rd 8))) (ar .rem .i64 rs 8))] 0) 1 ++ strOf (batR n) (Int.toNat 4))), .int true .i64 0]) []))) :=
  (t8 36 w rd rs n).trans (by kernel_rfl)
attribute [local irreducible] evalF Lf.gives in
theorem ref8_36 (w rd rs n : Int) : (T8 36 w rd rs n).leaf.gives (.tup [.str (strX 36 w rd rs n), .int false .i64 (errX 36 w rd rs n)]) := by
  have hE : errX 36 w rd rs n = (bif (decide (w = 4) || decide (w = 8)) && ((false || decide (w = 4)) && (regX rd && (regX rs && !decide (rs % 8 = 4)))) then (bif ((decide (-2147483648 ≤ n) && decide (n ≤ 2147483647)) || false) then 0 else 10) else 1) := by kernel_rfl
  refine gives_tree (u8_36 w rd rs n) ?_
  refine gives_cond (fun h1 => ?_) (fun h1 => ?_)
  · have hA : ((decide (w = 4) || decide (w = 8)) && ((false || decide (w = 4)) && (regX rd && (regX rs && !decide (rs % 8 = 4))))) = false := by
      simp [cms] at h1 ⊢
      first | done | omega | ((repeat' split at h1) <;> omega) | ((repeat' split at h1) <;> (repeat' split at h1) <;> omega) | skip
    have he : errX 36 w rd rs n = 1 := by rw [hE, hA]; rfl
    exact givesE (strX_bad he (by decide)) he.symm
  refine gives_cond (fun h2 => ?_) (fun h2 => ?_)
  all_goals rw [rem8 (show 0 ≤ rs by simp [cms] at h1; first | omega | ((repeat' split at h1) <;> omega))] at h2
  · have hA : ((decide (w = 4) || decide (w = 8)) && ((false || decide (w = 4)) && (regX rd && (regX rs && !decide (rs % 8 = 4))))) = false := by
      simp [cms] at h1 h2 ⊢
      first | done | omega | ((repeat' split at h1) <;> omega) | ((repeat' split at h1) <;> (repeat' split at h2) <;> omega) | skip
    have he : errX 36 w rd rs n = 1 := by rw [hE, hA]; rfl
    exact givesE (strX_bad he (by decide)) he.symm
  have hA : ((decide (w = 4) || decide (w = 8)) && ((false || decide (w = 4)) && (regX rd && (regX rs && !decide (rs % 8 = 4))))) = true := by
    simp [cms] at h1 h2 ⊢
    first | done | omega | ((repeat' split at h1) <;> omega) | ((repeat' split at h1) <;> (repeat' split at h2) <;> omega) | skip
  refine gives_cond (fun h9 => ?_) (fun h9 => ?_)
  · have hF : ((decide (-2147483648 ≤ n) && decide (n ≤ 2147483647)) || false) = false := by
      simp [cms] at h9 ⊢
      first | done | omega | ((repeat' split at h9) <;> omega) | skip
    have he : errX 36 w rd rs n = 10 := by rw [hE, hA, hF]; rfl
    exact givesE (strX_bad he (by decide)) he.symm
  have hF : ((decide (-2147483648 ≤ n) && decide (n ≤ 2147483647)) || false) = true := by
    simp [cms] at h9 ⊢
    first | done | omega | ((repeat' split at h9) <;> omega) | skip
  have he : errX 36 w rd rs n = 0 := by rw [hE, hA, hF]; rfl
  have hrd : small rd := by simp [regX] at hA; simp only [small]; omega
  have hrs : small rs := by simp [regX] at hA; simp only [small]; omega
  have hw : w = 4 ∨ w = 8 := by simp at hA; omega
  refine givesE ?_ he.symm
  rw [strX_ok he]
  refine Eq.trans (b := S [rexI w rd rs] ++ S [136] ++ S [modR 128 rd rs] ++ S [batR n 0, batR n 1, batR n 2, batR n 3]) (by kernel_rfl) ?_
  simp only [S_append]
  exact congrArg S (Eq.trans (b := [rexI w rd rs, 136, modR 128 rd rs, batR n 0, batR n 1, batR n 2, batR n 3]) (by rfl) (Eq.trans (b := [rexI w rd rs, 136, modI 128 rd rs, bat n 0, bat n 1, bat n 2, bat n 3]) (by rw [modR_eq (.inr rfl) hrd hrs, batR_eq n (by decide : 0 < 8), batR_eq n (by decide : 1 < 8), batR_eq n (by decide : 2 < 8), batR_eq n (by decide : 3 < 8)]) (by kernel_rfl)))

end Go.X
end

section
set_option linter.unusedVariables false
open Go Go.Ev Go.Proofs
namespace Go.X

theorem u8_37 (w rd rs n : Int) : (T8 37 w rd rs n).bare = (bif (bif (cm .neq w 4) then (bif (cm .neq w 8) then true else (bif (cm .neq 8 w) then true else (bif (!(bif (cm .geq rd 0) then (cm .leq rd 15) else false)) then true else (bif (!(bif (cm .geq rs 0) then (cm .leq rs 15) else false)) then true else false)))) else (bif (cm .neq 8 w) then true else (bif (!(bif (cm .geq rd 0) then (cm .leq rd 15) else false)) then true else (bif (!(bif (cm .geq rs 0) then (cm .leq rs 15) else false)) then true else false)))) then .ret (.tup [.str ⟨#[]⟩, .int true .i64 1]) [] else (bif (bif (cm .eql (ar .rem .i64 rs 8) 4) then true else false) then .ret (.tup [.str ⟨#[]⟩, .int true .i64 1]) [] else (bif (bif (cm .lss n (-2147483648)) then true else (bif (cm .geq n 2147483648) then true else false)) then .ret (.tup [.str ⟨#[]⟩, .int true .i64 10]) [] else .ret (.tup [(.str (strOf (nth [rexI w rd rs] 0) 1 ++ (ByteArray.mk #[141]) ++ strOf (nth [conv .u8 (ar .add .i64 (ar .add .i64 128 (ar .mul .i64 8 (ar .rem .i64 rd 8))) (ar .rem .i64 rs 8))] 0) 1 ++ strOf (batR n) (Int.toNat 4))), .int true .i64 0]) []))) :=
  (t8 37 w rd rs n).trans (by kernel_rfl)
attribute [local irreducible] evalF Lf.gives in
theorem ref8_37 (w rd rs n : Int) : (T8 37 w rd rs n).leaf.gives (.tup [.str (strX 37 w rd rs n), .int false .i64 (errX 37 w rd rs n)]) := by
  have hE : errX 37 w rd rs n = (bif (decide (w = 4) || decide (w = 8)) && ((false || decide (w = 8)) && (regX rd && (regX rs && !decide (rs % 8 = 4)))) then (bif ((decide (-2147483648 ≤ n) && decide (n ≤ 2147483647)) || false) then 0 else 10) else 1) := by kernel_rfl
  refine gives_tree (u8_37 w rd rs n) ?_
  refine gives_cond (fun h1 => ?_) (fun h1 => ?_)
  · have hA : ((decide (w = 4) || decide (w = 8)) && ((false || decide (w = 8)) && (regX rd && (regX rs && !decide (rs % 8 = 4))))) = false := by
      simp [cms] at h1 ⊢
      first | done | omega | ((repeat' split at h1) <;> omega) | ((repeat' split at h1) <;> (repeat' split at h1) <;> omega) | skip
    have he : errX 37 w rd rs n = 1 := by rw [hE, hA]; rfl
    exact givesE (strX_bad he (by decide)) he.symm
  refine gives_cond (fun h2 => ?_) (fun h2 => ?_)
  all_goals rw [rem8 (show 0 ≤ rs by simp [cms] at h1; first | omega | ((repeat' split at h1) <;> omega))] at h2
  · have hA : ((decide (w = 4) || decide (w = 8)) && ((false || decide (w = 8)) && (regX rd && (regX rs && !decide (rs % 8 = 4))))) = false := by
      simp [cms] at h1 h2 ⊢
      first | done | omega | ((repeat' split at h1) <;> omega) | ((repeat' split at h1) <;> (repeat' split at h2) <;> omega) | skip
    have he : errX 37 w rd rs n = 1 := by rw [hE, hA]; rfl
    exact givesE (strX_bad he (by decide)) he.symm
  have hA : ((decide (w = 4) || decide (w = 8)) && ((false || decide (w = 8)) && (regX rd && (regX rs && !decide (rs % 8 = 4))))) = true := by
    simp [cms] at h1 h2 ⊢
    first | done | omega | ((repeat' split at h1) <;> omega) | ((repeat' split at h1) <;> (repeat' split at h2) <;> omega) | skip
  refine gives_cond (fun h9 => ?_) (fun h9 => ?_)
  · have hF : ((decide (-2147483648 ≤ n) && decide (n ≤ 2147483647)) || false) = false := by
      simp [cms] at h9 ⊢
      first | done | omega | ((repeat' split at h9) <;> omega) | skip
    have he : errX 37 w rd rs n = 10 := by rw [hE, hA, hF]; rfl
    exact givesE (strX_bad he (by decide)) he.symm
  have hF : ((decide (-2147483648 ≤ n) && decide (n ≤ 2147483647)) || false) = true := by
    simp [cms] at h9 ⊢
    first | done | omega | ((repeat' split at h9) <;> omega) | skip
  have he : errX 37 w rd rs n = 0 := by rw [hE, hA, hF]; rfl
  have hrd : small rd := by simp [regX] at hA; simp only [small]; omega
  have hrs : small rs := by simp [regX] at hA; simp only [small]; omega
  have hw : w = 4 ∨ w = 8 := by simp at hA; omega
  refine givesE ?_ he.symm
  rw [strX_ok he]
  refine Eq.trans (b := S [rexI w rd rs] ++ S [141] ++ S [modR 128 rd rs] ++ S [batR n 0, batR n 1, batR n 2, batR n 3]) (by kernel_rfl) ?_
  simp only [S_append]
  exact congrArg S (Eq.trans (b := [rexI w rd rs, 141, modR 128 rd rs, batR n 0, batR n 1, batR n 2, batR n 3]) (by rfl) (Eq.trans (b := [rexI w rd rs, 141, modI 128 rd rs, bat n 0, bat n 1, bat n 2, bat n 3]) (by rw [modR_eq (.inr rfl) hrd hrs, batR_eq n (by decide : 0 < 8), batR_eq n (by decide : 1 < 8), batR_eq n (by decide : 2 < 8), batR_eq n (by decide : 3 < 8)]) (by kernel_rfl)))

theorem u8_38 (w rd rs n : Int) : (T8 38 w rd rs n).bare = (bif (bif (cm .neq w 4) then (bif (cm .neq w 8) then true else (bif (cm .neq 4 w) then true else (bif (!(bif (cm .geq rd 0) then (cm .leq rd 15) else false)) then true else (bif (!(bif (cm .geq rs 0) then (cm .leq rs 15) else false)) then true else (bif (cm .neq rs 0) then true else (cm .neq n 0)))))) else (bif (cm .neq 4 w) then true else (bif (!(bif (cm .geq rd 0) then (cm .leq rd 15) else false)) then true else (bif (!(bif (cm .geq rs 0) then (cm .leq rs 15) else false)) then true else (bif (cm .neq rs 0) then true else (cm .neq n 0)))))) then .ret (.tup [.str ⟨#[]⟩, .int true .i64 1]) [] else .ret (.tup [.str (strOf (nth [rexI w 0 rd] 0) 1 ++ strOf (nth [ar .add .u8 (chr (ByteArray.mk #[80]) (Int.toNat 0)) (conv .u8 (ar .rem .i64 rd 8))] 0) 1 ++ strOf (batR n) (Int.toNat 0)), .int true .i64 0]) []) :=
  (t8 38 w rd rs n).trans (by kernel_rfl)
attribute [local irreducible] evalF Lf.gives in
theorem ref8_38 (w rd rs n : Int) : (T8 38 w rd rs n).leaf.gives (.tup [.str (strX 38 w rd rs n), .int false .i64 (errX 38 w rd rs n)]) := by
  have hE : errX 38 w rd rs n = (bif (decide (w = 4) || decide (w = 8)) && ((false || decide (w = 4)) && (regX rd && (decide (rs = 0) && decide (n = 0)))) then (bif ((true) || false) then 0 else 10) else 1) := by kernel_rfl
  refine gives_tree (u8_38 w rd rs n) ?_
  refine gives_cond (fun h1 => ?_) (fun h1 => ?_)
  · have hA : ((decide (w = 4) || decide (w = 8)) && ((false || decide (w = 4)) && (regX rd && (decide (rs = 0) && decide (n = 0))))) = false := by
      simp [cms] at h1 ⊢
      first | done | omega | ((repeat' split at h1) <;> omega) | ((repeat' split at h1) <;> (repeat' split at h1) <;> omega) | skip
    have he : errX 38 w rd rs n = 1 := by rw [hE, hA]; rfl
    exact givesE (strX_bad he (by decide)) he.symm
  have hA : ((decide (w = 4) || decide (w = 8)) && ((false || decide (w = 4)) && (regX rd && (decide (rs = 0) && decide (n = 0))))) = true := by
    simp [cms] at h1 ⊢
    first | done | omega | ((repeat' split at h1) <;> omega) | ((repeat' split at h1) <;> (repeat' split at h1) <;> omega) | skip
  have he : errX 38 w rd rs n = 0 := by rw [hE, hA]; rfl
  have hrd : small rd := by simp [regX] at hA; simp only [small]; omega
  have hw : w = 4 ∨ w = 8 := by simp at hA; omega
  refine givesE ?_ he.symm
  rw [strX_ok he]
  refine Eq.trans (b := S [rexI w 0 rd] ++ S [ar .add .u8 80 (conv .u8 (ar .rem .i64 rd 8))] ++ S []) (by kernel_rfl) ?_
  simp only [S_append]
  exact congrArg S (Eq.trans (b := [rexI w 0 rd, ar .add .u8 80 (conv .u8 (ar .rem .i64 rd 8))]) (by rfl) (Eq.trans (b := [rexI w 0 rd, 80 + rd % 8]) (by rw [addReg8 (by decide) hrd]) (by kernel_rfl)))

theorem u8_39 (w rd rs n : Int) : (T8 39 w rd rs n).bare = (bif (bif (cm .neq w 4) then (bif (cm .neq w 8) then true else (bif (cm .neq 4 w) then true else (bif (!(bif (cm .geq rd 0) then (cm .leq rd 15) else false)) then true else (bif (!(bif (cm .geq rs 0) then (cm .leq rs 15) else false)) then true else (bif (cm .neq rs 0) then true else (cm .neq n 0)))))) else (bif (cm .neq 4 w) then true else (bif (!(bif (cm .geq rd 0) then (cm .leq rd 15) else false)) then true else (bif (!(bif (cm .geq rs 0) then (cm .leq rs 15) else false)) then true else (bif (cm .neq rs 0) then true else (cm .neq n 0)))))) then .ret (.tup [.str ⟨#[]⟩, .int true .i64 1]) [] else .ret (.tup [.str (strOf (nth [rexI w 0 rd] 0) 1 ++ strOf (nth [ar .add .u8 (chr (ByteArray.mk #[88]) (Int.toNat 0)) (conv .u8 (ar .rem .i64 rd 8))] 0) 1 ++ strOf (batR n) (Int.toNat 0)), .int true .i64 0]) []) :=
  (t8 39 w rd rs n).trans (by kernel_rfl)
attribute [local irreducible] evalF Lf.gives in
theorem ref8_39 (w rd rs n : Int) : (T8 39 w rd rs n).leaf.gives (.tup [.str (strX 39 w rd rs n), .int false .i64 (errX 39 w rd rs n)]) := by
  have hE : errX 39 w rd rs n = (bif (decide (w = 4) || decide (w = 8)) && ((false || decide (w = 4)) && (regX rd && (decide (rs = 0) && decide (n = 0)))) then (bif ((true) || false) then 0 else 10) else 1) := by kernel_rfl
  refine gives_tree (u8_39 w rd rs n) ?_
  refine gives_cond (fun h1 => ?_) (fun h1 => ?_)
  · have hA : ((decide (w = 4) || decide (w = 8)) && ((false || decide (w = 4)) && (regX rd && (decide (rs = 0) && decide (n = 0))))) = false := by
      simp [cms] at h1 ⊢
      first | done | omega | ((repeat' split at h1) <;> omega) | ((repeat' split at h1) <;> (repeat' split at h1) <;> omega) | skip
    have he : errX 39 w rd rs n = 1 := by rw [hE, hA]; rfl
    exact givesE (strX_bad he (by decide)) he.symm
  have hA : ((decide (w = 4) || decide (w = 8)) && ((false || decide (w = 4)) && (regX rd && (decide (rs = 0) && decide (n = 0))))) = true := by
    simp [cms] at h1 ⊢
    first | done | omega | ((repeat' split at h1) <;> omega) | ((repeat' split at h1) <;> (repeat' split at h1) <;> omega) | skip
  have he : errX 39 w rd rs n = 0 := by rw [hE, hA]; rfl
  have hrd : small rd := by simp [regX] at hA; simp only [small]; omega
  have hw : w = 4 ∨ w = 8 := by simp at hA; omega
  refine givesE ?_ he.symm
  rw [strX_ok he]
  refine Eq.trans (b := S [rexI w 0 rd] ++ S [ar .add .u8 88 (conv .u8 (ar .rem .i64 rd 8))] ++ S []) (by kernel_rfl) ?_
  simp only [S_append]
  exact congrArg S (Eq.trans (b := [rexI w 0 rd, ar .add .u8 88 (conv .u8 (ar .rem .i64 rd 8))]) (by rfl) (Eq.trans (b := [rexI w 0 rd, 88 + rd % 8]) (by rw [addReg8 (by decide) hrd]) (by kernel_rfl)))

theorem u8_40 (w rd rs n : Int) : (T8 40 w rd rs n).bare = (bif (bif (cm .neq w 4) then (bif (cm .neq w 8) then true else (bif (cm .neq 4 w) then true else (bif (!(bif (cm .geq rd 0) then (cm .leq rd 15) else false)) then true else (bif (!(bif (cm .geq rs 0) then (cm .leq rs 15) else false)) then true else (bif (cm .neq rd 0) then true else (bif (cm .neq rs 0) then true else false)))))) else (bif (cm .neq 4 w) then true else (bif (!(bif (cm .geq rd 0) then (cm .leq rd 15) else false)) then true else (bif (!(bif (cm .geq rs 0) then (cm .leq rs 15) else false)) then true else (bif (cm .neq rd 0) then true else (bif (cm .neq rs 0) then true else false)))))) then .ret (.tup [.str ⟨#[]⟩, .int true .i64 1]) [] else (bif (bif (cm .lss n (-2147483648)) then true else (bif (cm .geq n 2147483648) then true else false)) then .ret (.tup [.str ⟨#[]⟩, .int true .i64 10]) [] else .ret (.tup [.str ((ByteArray.mk #[232]) ++ strOf (batR n) (Int.toNat 4)), .int true .i64 0]) [])) :=
  (t8 40 w rd rs n).trans (by kernel_rfl)
attribute [local irreducible] evalF Lf.gives in
theorem ref8_40 (w rd rs n : Int) : (T8 40 w rd rs n).leaf.gives (.tup [.str (strX 40 w rd rs n), .int false .i64 (errX 40 w rd rs n)]) := by
  have hE : errX 40 w rd rs n = (bif (decide (w = 4) || decide (w = 8)) && ((false || decide (w = 4)) && (decide (rd = 0) && decide (rs = 0))) then (bif ((decide (-2147483648 ≤ n) && decide (n ≤ 2147483647)) || false) then 0 else 10) else 1) := by kernel_rfl
  refine gives_tree (u8_40 w rd rs n) ?_
  refine gives_cond (fun h1 => ?_) (fun h1 => ?_)
  · have hA : ((decide (w = 4) || decide (w = 8)) && ((false || decide (w = 4)) && (decide (rd = 0) && decide (rs = 0)))) = false := by
      simp [cms] at h1 ⊢
      first | done | omega | ((repeat' split at h1) <;> omega) | ((repeat' split at h1) <;> (repeat' split at h1) <;> omega) | skip
    have he : errX 40 w rd rs n = 1 := by rw [hE, hA]; rfl
    exact givesE (strX_bad he (by decide)) he.symm
  have hA : ((decide (w = 4) || decide (w = 8)) && ((false || decide (w = 4)) && (decide (rd = 0) && decide (rs = 0)))) = true := by
    simp [cms] at h1 ⊢
    first | done | omega | ((repeat' split at h1) <;> omega) | ((repeat' split at h1) <;> (repeat' split at h1) <;> omega) | skip
  refine gives_cond (fun h9 => ?_) (fun h9 => ?_)
  · have hF : ((decide (-2147483648 ≤ n) && decide (n ≤ 2147483647)) || false) = false := by
      simp [cms] at h9 ⊢
      first | done | omega | ((repeat' split at h9) <;> omega) | skip
    have he : errX 40 w rd rs n = 10 := by rw [hE, hA, hF]; rfl
    exact givesE (strX_bad he (by decide)) he.symm
  have hF : ((decide (-2147483648 ≤ n) && decide (n ≤ 2147483647)) || false) = true := by
    simp [cms] at h9 ⊢
    first | done | omega | ((repeat' split at h9) <;> omega) | skip
  have he : errX 40 w rd rs n = 0 := by rw [hE, hA, hF]; rfl
  refine givesE ?_ he.symm
  rw [strX_ok he]
  refine Eq.trans (b := S [232] ++ S [batR n 0, batR n 1, batR n 2, batR n 3]) (by kernel_rfl) ?_
  simp only [S_append]
  exact congrArg S (Eq.trans (b := [232, batR n 0, batR n 1, batR n 2, batR n 3]) (by rfl) (Eq.trans (b := [232, bat n 0, bat n 1, bat n 2, bat n 3]) (by rw [batR_eq n (by decide : 0 < 8), batR_eq n (by decide : 1 < 8), batR_eq n (by decide : 2 < 8), batR_eq n (by decide : 3 < 8)]) (by kernel_rfl)))

theorem u8_41 (w rd rs n : Int) : (T8 41 w rd rs n).bare = (bif (bif (cm .neq w 4) then (bif (cm .neq w 8) then true else (bif (cm .neq 4 w) then true else (bif (!(bif (cm .geq rd 0) then (cm .leq rd 15) else false)) then true else (bif (!(bif (cm .geq rs 0) then (cm .leq rs 15) else false)) then true else (bif (cm .neq rd 0) then true else (bif (cm .neq rs 0) then true else (cm .neq n 0))))))) else (bif (cm .neq 4 w) then true else (bif (!(bif (cm .geq rd 0) then (cm .leq rd 15) else false)) then true else (bif (!(bif (cm .geq rs 0) then (cm .leq rs 15) else false)) then true else (bif (cm .neq rd 0) then true else (bif (cm .neq rs 0) then true else (cm .neq n 0))))))) then .ret (.tup [.str ⟨#[]⟩, .int true .i64 1]) [] else .ret (.tup [.str ((ByteArray.mk #[195]) ++ strOf (batR n) (Int.toNat 0)), .int true .i64 0]) []) :=
  (t8 41 w rd rs n).trans (by kernel_rfl)
attribute [local irreducible] evalF Lf.gives in
theorem ref8_41 (w rd rs n : Int) : (T8 41 w rd rs n).leaf.gives (.tup [.str (strX 41 w rd rs n), .int false .i64 (errX 41 w rd rs n)]) := by
  have hE : errX 41 w rd rs n = (bif (decide (w = 4) || decide (w = 8)) && ((false || decide (w = 4)) && (decide (rd = 0) && (decide (rs = 0) && decide (n = 0)))) then (bif ((true) || false) then 0 else 10) else 1) := by kernel_rfl
  refine gives_tree (u8_41 w rd rs n) ?_
  refine gives_cond (fun h1 => ?_) (fun h1 => ?_)
  · have hA : ((decide (w = 4) || decide (w = 8)) && ((false || decide (w = 4)) && (decide (rd = 0) && (decide (rs = 0) && decide (n = 0))))) = false := by
      simp [cms] at h1 ⊢
      first | done | omega | ((repeat' split at h1) <;> omega) | ((repeat' split at h1) <;> (repeat' split at h1) <;> omega) | skip
    have he : errX 41 w rd rs n = 1 := by rw [hE, hA]; rfl
    exact givesE (strX_bad he (by decide)) he.symm
  have hA : ((decide (w = 4) || decide (w = 8)) && ((false || decide (w = 4)) && (decide (rd = 0) && (decide (rs = 0) && decide (n = 0))))) = true := by
    simp [cms] at h1 ⊢
    first | done | omega | ((repeat' split at h1) <;> omega) | ((repeat' split at h1) <;> (repeat' split at h1) <;> omega) | skip
  have he : errX 41 w rd rs n = 0 := by rw [hE, hA]; rfl
  refine givesE ?_ he.symm
  rw [strX_ok he]
  refine Eq.trans (b := S [195] ++ S []) (by kernel_rfl) ?_
  simp only [S_append]
  exact congrArg S (Eq.trans (b := [195]) (by rfl) (Eq.trans (b := [195]) (by rfl) (by kernel_rfl)))

theorem u8_42 (w rd rs n : Int) : (T8 42 w rd rs n).bare = (bif (bif (cm .neq w 4) then (bif (cm .neq w 8) then true else (bif (cm .neq 4 w) then true else (bif (!(bif (cm .geq rd 0) then (cm .leq rd 15) else false)) then true else (bif (!(bif (cm .geq rs 0) then (cm .leq rs 15) else false)) then true else (bif (cm .neq rd 0) then true else (bif (cm .neq rs 0) then true else false)))))) else (bif (cm .neq 4 w) then true else (bif (!(bif (cm .geq rd 0) then (cm .leq rd 15) else false)) then true else (bif (!(bif (cm .geq rs 0) then (cm .leq rs 15) else false)) then true else (bif (cm .neq rd 0) then true else (bif (cm .neq rs 0) then true else false)))))) then .ret (.tup [.str ⟨#[]⟩, .int true .i64 1]) [] else (bif (bif (cm .lss n (-2147483648)) then true else (bif (cm .geq n 2147483648) then true else false)) then .ret (.tup [.str ⟨#[]⟩, .int true .i64 10]) [] else .ret (.tup [.str ((ByteArray.mk #[233]) ++ strOf (batR n) (Int.toNat 4)), .int true .i64 0]) [])) :=
  (t8 42 w rd rs n).trans (by kernel_rfl)
attribute [local irreducible] evalF Lf.gives in
theorem ref8_42 (w rd rs n : Int) : (T8 42 w rd rs n).leaf.gives (.tup [.str (strX 42 w rd rs n), .int false .i64 (errX 42 w rd rs n)]) := by
  have hE : errX 42 w rd rs n = (bif (decide (w = 4) || decide (w = 8)) && ((false || decide (w = 4)) && (decide (rd = 0) && decide (rs = 0))) then (bif ((decide (-2147483648 ≤ n) && decide (n ≤ 2147483647)) || false) then 0 else 10) else 1) := by kernel_rfl
  refine gives_tree (u8_42 w rd rs n) ?_
  refine gives_cond (fun h1 => ?_) (fun h1 => ?_)
  · have hA : ((decide (w = 4) || decide (w = 8)) && ((false || decide (w = 4)) && (decide (rd = 0) && decide (rs = 0)))) = false := by
      simp [cms] at h1 ⊢
      first | done | omega | ((repeat' split at h1) <;> omega) | ((repeat' split at h1) <;> (repeat' split at h1) <;> omega) | skip
    have he : errX 42 w rd rs n = 1 := by rw [hE, hA]; rfl
    exact givesE (strX_bad he (by decide)) he.symm
  have hA : ((decide (w = 4) || decide (w = 8)) && ((false || decide (w = 4)) && (decide (rd = 0) && decide (rs = 0)))) = true := by
    simp [cms] at h1 ⊢
    first | done | omega | ((repeat' split at h1) <;> omega) | ((repeat' split at h1) <;> (repeat' split at h1) <;> omega) | skip
  refine gives_cond (fun h9 => ?_) (fun h9 => ?_)
  · have hF : ((decide (-2147483648 ≤ n) && decide (n ≤ 2147483647)) || false) = false := by
      simp [cms] at h9 ⊢
      first | done | omega | ((repeat' split at h9) <;> omega) | skip
    have he : errX 42 w rd rs n = 10 := by rw [hE, hA, hF]; rfl
    exact givesE (strX_bad he (by decide)) he.symm
  have hF : ((decide (-2147483648 ≤ n) && decide (n ≤ 2147483647)) || false) = true := by
    simp [cms] at h9 ⊢
    first | done | omega | ((repeat' split at h9) <;> omega) | skip
  have he : errX 42 w rd rs n = 0 := by rw [hE, hA, hF]; rfl
  refine givesE ?_ he.symm
  rw [strX_ok he]
  refine Eq.trans (b := S [233] ++ S [batR n 0, batR n 1, batR n 2, batR n 3]) (by kernel_rfl) ?_
  simp only [S_append]
  exact congrArg S (Eq.trans (b := [233, batR n 0, batR n 1, batR n 2, batR n 3]) (by rfl) (Eq.trans (b := [233, bat n 0, bat n 1, bat n 2, bat n 3]) (by rw [batR_eq n (by decide : 0 < 8), batR_eq n (by decide : 1 < 8), batR_eq n (by decide : 2 < 8), batR_eq n (by decide : 3 < 8)]) (by kernel_rfl)))

theorem u8_43 (w rd rs n : Int) : (T8 43 w rd rs n).bare = (bif (bif (cm .neq w 4) then (bif (cm .neq w 8) then true else (bif (cm .neq 4 w) then true else (bif (!(bif (cm .geq rd 0) then (cm .leq rd 15) else false)) then true else (bif (!(bif (cm .geq rs 0) then (cm .leq rs 15) else false)) then true else (bif (cm .neq rd 0) then true else (bif (cm .neq rs 0) then true else false)))))) else (bif (cm .neq 4 w) then true else (bif (!(bif (cm .geq rd 0) then (cm .leq rd 15) else false)) then true else (bif (!(bif (cm .geq rs 0) then (cm .leq rs 15) else false)) then true else (bif (cm .neq rd 0) then true else (bif (cm .neq rs 0) then true else false)))))) then .ret (.tup [.str ⟨#[]⟩, .int true .i64 1]) [] else (bif (bif (cm .lss n (-128)) then true else (cm .gtr n 127)) then .ret (.tup [.str ⟨#[]⟩, .int true .i64 10]) [] else .ret (.tup [.str ((ByteArray.mk #[235]) ++ strOf (batR n) (Int.toNat 1)), .int true .i64 0]) [])) :=
  (t8 43 w rd rs n).trans (by kernel_rfl)
attribute [local irreducible] evalF Lf.gives in
theorem ref8_43 (w rd rs n : Int) : (T8 43 w rd rs n).leaf.gives (.tup [.str (strX 43 w rd rs n), .int false .i64 (errX 43 w rd rs n)]) := by
  have hE : errX 43 w rd rs n = (bif (decide (w = 4) || decide (w = 8)) && ((false || decide (w = 4)) && (decide (rd = 0) && decide (rs = 0))) then (bif ((decide (-128 ≤ n) && decide (n ≤ 127)) || false) then 0 else 10) else 1) := by kernel_rfl
  refine gives_tree (u8_43 w rd rs n) ?_
  refine gives_cond (fun h1 => ?_) (fun h1 => ?_)
  · have hA : ((decide (w = 4) || decide (w = 8)) && ((false || decide (w = 4)) && (decide (rd = 0) && decide (rs = 0)))) = false := by
      simp [cms] at h1 ⊢
      first | done | omega | ((repeat' split at h1) <;> omega) | ((repeat' split at h1) <;> (repeat' split at h1) <;> omega) | skip
    have he : errX 43 w rd rs n = 1 := by rw [hE, hA]; rfl
    exact givesE (strX_bad he (by decide)) he.symm
  have hA : ((decide (w = 4) || decide (w = 8)) && ((false || decide (w = 4)) && (decide (rd = 0) && decide (rs = 0)))) = true := by
    simp [cms] at h1 ⊢
    first | done | omega | ((repeat' split at h1) <;> omega) | ((repeat' split at h1) <;> (repeat' split at h1) <;> omega) | skip
  refine gives_cond (fun h9 => ?_) (fun h9 => ?_)
  · have hF : ((decide (-128 ≤ n) && decide (n ≤ 127)) || false) = false := by
      simp [cms] at h9 ⊢
      first | done | omega | ((repeat' split at h9) <;> omega) | skip
    have he : errX 43 w rd rs n = 10 := by rw [hE, hA, hF]; rfl
    exact givesE (strX_bad he (by decide)) he.symm
  have hF : ((decide (-128 ≤ n) && decide (n ≤ 127)) || false) = true := by
    simp [cms] at h9 ⊢
    first | done | omega | ((repeat' split at h9) <;> omega) | skip
  have he : errX 43 w rd rs n = 0 := by rw [hE, hA, hF]; rfl
  refine givesE ?_ he.symm
  rw [strX_ok he]
  refine Eq.trans (b := S [235] ++ S [batR n 0]) (by kernel_rfl) ?_
  simp only [S_append]
  exact congrArg S (Eq.trans (b := [235, batR n 0]) (by rfl) (Eq.trans (b := [235, bat n 0]) (by rw [batR_eq n (by decide : 0 < 8)]) (by kernel_rfl)))

theorem u8_44 (w rd rs n : Int) : (T8 44 w rd rs n).bare = (bif (bif (cm .neq w 4) then (bif (cm .neq w 8) then true else (bif (cm .neq 4 w) then true else (bif (!(bif (cm .geq rd 0) then (cm .leq rd 15) else false)) then true else (bif (!(bif (cm .geq rs 0) then (cm .leq rs 15) else false)) then true else (bif (cm .neq rs 0) then true else false))))) else (bif (cm .neq 4 w) then true else (bif (!(bif (cm .geq rd 0) then (cm .leq rd 15) else false)) then true else (bif (!(bif (cm .geq rs 0) then (cm .leq rs 15) else false)) then true else (bif (cm .neq rs 0) then true else false))))) then .ret (.tup [.str ⟨#[]⟩, .int true .i64 1]) [] else (bif (bif (!(bif (cm .geq rd 2) then (bif (cm .leq rd 7) then true else (bif (cm .geq rd 12) then (cm .leq rd 15) else false)) else (bif (cm .geq rd 12) then (cm .leq rd 15) else false))) then true else false) then .ret (.tup [.str ⟨#[]⟩, .int true .i64 1]) [] else (bif (bif (cm .lss n (-2147483648)) then true else (bif (cm .geq n 2147483648) then true else false)) then .ret (.tup [.str ⟨#[]⟩, .int true .i64 10]) [] else .ret (.tup [(.str ((ByteArray.mk #[15, 128]).extract 0 (ar .sub .i64 (↑(ByteArray.mk #[15, 128]).size) 1).toNat ++ strOf (nth [ar .add .u8 (chr (ByteArray.mk #[15, 128]) (ar .sub .i64 (↑(ByteArray.mk #[15, 128]).size) 1).toNat) (conv .u8 rd)] 0) 1 ++ strOf (batR n) (Int.toNat 4))), .int true .i64 0]) []))) :=
  (t8 44 w rd rs n).trans (by kernel_rfl)
attribute [local irreducible] evalF Lf.gives in
theorem ref8_44 (w rd rs n : Int) : (T8 44 w rd rs n).leaf.gives (.tup [.str (strX 44 w rd rs n), .int false .i64 (errX 44 w rd rs n)]) := by
  have hE : errX 44 w rd rs n = (bif (decide (w = 4) || decide (w = 8)) && ((false || decide (w = 4)) && (condX rd && decide (rs = 0))) then (bif ((decide (-2147483648 ≤ n) && decide (n ≤ 2147483647)) || false) then 0 else 10) else 1) := by kernel_rfl
  refine gives_tree (u8_44 w rd rs n) ?_
  refine gives_cond (fun h1 => ?_) (fun h1 => ?_)
  · have hA : ((decide (w = 4) || decide (w = 8)) && ((false || decide (w = 4)) && (condX rd && decide (rs = 0)))) = false := by
      simp [cms] at h1 ⊢
      first | done | omega | ((repeat' split at h1) <;> omega) | ((repeat' split at h1) <;> (repeat' split at h1) <;> omega) | skip
    have he : errX 44 w rd rs n = 1 := by rw [hE, hA]; rfl
    exact givesE (strX_bad he (by decide)) he.symm
  refine gives_cond (fun h2 => ?_) (fun h2 => ?_)
  · have hA : ((decide (w = 4) || decide (w = 8)) && ((false || decide (w = 4)) && (condX rd && decide (rs = 0)))) = false := by
      simp [cms] at h1 h2 ⊢
      first | done | omega | ((repeat' split at h1) <;> omega) | ((repeat' split at h1) <;> (repeat' split at h2) <;> omega) | skip
    have he : errX 44 w rd rs n = 1 := by rw [hE, hA]; rfl
    exact givesE (strX_bad he (by decide)) he.symm
  have hA : ((decide (w = 4) || decide (w = 8)) && ((false || decide (w = 4)) && (condX rd && decide (rs = 0)))) = true := by
    simp [cms] at h1 h2 ⊢
    first | done | omega | ((repeat' split at h1) <;> omega) | ((repeat' split at h1) <;> (repeat' split at h2) <;> omega) | skip
  refine gives_cond (fun h9 => ?_) (fun h9 => ?_)
  · have hF : ((decide (-2147483648 ≤ n) && decide (n ≤ 2147483647)) || false) = false := by
      simp [cms] at h9 ⊢
      first | done | omega | ((repeat' split at h9) <;> omega) | skip
    have he : errX 44 w rd rs n = 10 := by rw [hE, hA, hF]; rfl
    exact givesE (strX_bad he (by decide)) he.symm
  have hF : ((decide (-2147483648 ≤ n) && decide (n ≤ 2147483647)) || false) = true := by
    simp [cms] at h9 ⊢
    first | done | omega | ((repeat' split at h9) <;> omega) | skip
  have he : errX 44 w rd rs n = 0 := by rw [hE, hA, hF]; rfl
  have hcd : small rd := by simp [regX, condX] at hA; simp only [small]; omega
  refine givesE ?_ he.symm
  rw [strX_ok he]
  refine Eq.trans (b := S [15] ++ S [ar .add .u8 128 (conv .u8 rd)] ++ S [batR n 0, batR n 1, batR n 2, batR n 3]) (by kernel_rfl) ?_
  simp only [S_append]
  exact congrArg S (Eq.trans (b := [15, ar .add .u8 128 (conv .u8 rd), batR n 0, batR n 1, batR n 2, batR n 3]) (by rfl) (Eq.trans (b := [15, 128 + rd, bat n 0, bat n 1, bat n 2, bat n 3]) (by rw [addCond (by decide) hcd, batR_eq n (by decide : 0 < 8), batR_eq n (by decide : 1 < 8), batR_eq n (by decide : 2 < 8), batR_eq n (by decide : 3 < 8)]) (by kernel_rfl)))

theorem u8_45 (w rd rs n : Int) : (T8 45 w rd rs n).bare = (bif (bif (cm .neq w 4) then (bif (cm .neq w 8) then true else (bif (cm .neq 4 w) then true else (bif (!(bif (cm .geq rd 0) then (cm .leq rd 15) else false)) then true else (bif (!(bif (cm .geq rs 0) then (cm .leq rs 15) else false)) then true else (bif (cm .neq rs 0) then true else false))))) else (bif (cm .neq 4 w) then true else (bif (!(bif (cm .geq rd 0) then (cm .leq rd 15) else false)) then true else (bif (!(bif (cm .geq rs 0) then (cm .leq rs 15) else false)) then true else (bif (cm .neq rs 0) then true else false))))) then .ret (.tup [.str ⟨#[]⟩, .int true .i64 1]) [] else (bif (bif (!(bif (cm .geq rd 2) then (bif (cm .leq rd 7) then true else (bif (cm .geq rd 12) then (cm .leq rd 15) else false)) else (bif (cm .geq rd 12) then (cm .leq rd 15) else false))) then true else false) then .ret (.tup [.str ⟨#[]⟩, .int true .i64 1]) [] else (bif (bif (cm .lss n (-128)) then true else (cm .gtr n 127)) then .ret (.tup [.str ⟨#[]⟩, .int true .i64 10]) [] else .ret (.tup [(.str ((ByteArray.mk #[112]).extract 0 (ar .sub .i64 (↑(ByteArray.mk #[112]).size) 1).toNat ++ strOf (nth [ar .add .u8 (chr (ByteArray.mk #[112]) (ar .sub .i64 (↑(ByteArray.mk #[112]).size) 1).toNat) (conv .u8 rd)] 0) 1 ++ strOf (batR n) (Int.toNat 1))), .int true .i64 0]) []))) :=
  (t8 45 w rd rs n).trans (by kernel_rfl)
attribute [local irreducible] evalF Lf.gives in
theorem ref8_45 (w rd rs n : Int) : (T8 45 w rd rs n).leaf.gives (.tup [.str (strX 45 w rd rs n), .int false .i64 (errX 45 w rd rs n)]) := by
  have hE : errX 45 w rd rs n = (bif (decide (w = 4) || decide (w = 8)) && ((false || decide (w = 4)) && (condX rd && decide (rs = 0))) then (bif ((decide (-128 ≤ n) && decide (n ≤ 127)) || false) then 0 else 10) else 1) := by kernel_rfl
  refine gives_tree (u8_45 w rd rs n) ?_
  refine gives_cond (fun h1 => ?_) (fun h1 => ?_)
  · have hA : ((decide (w = 4) || decide (w = 8)) && ((false || decide (w = 4)) && (condX rd && decide (rs = 0)))) = false := by
      simp [cms] at h1 ⊢
      first | done | omega | ((repeat' split at h1) <;> omega) | ((repeat' split at h1) <;> (repeat' split at h1) <;> omega) | skip
    have he : errX 45 w rd rs n = 1 := by rw [hE, hA]; rfl
    exact givesE (strX_bad he (by decide)) he.symm
  refine gives_cond (fun h2 => ?_) (fun h2 => ?_)
  · have hA : ((decide (w = 4) || decide (w = 8)) && ((false || decide (w = 4)) && (condX rd && decide (rs = 0)))) = false := by
      simp [cms] at h1 h2 ⊢
      first | done | omega | ((repeat' split at h1) <;> omega) | ((repeat' split at h1) <;> (repeat' split at h2) <;> omega) | skip
    have he : errX 45 w rd rs n = 1 := by rw [hE, hA]; rfl
    exact givesE (strX_bad he (by decide)) he.symm
  have hA : ((decide (w = 4) || decide (w = 8)) && ((false || decide (w = 4)) && (condX rd && decide (rs = 0)))) = true := by
    simp [cms] at h1 h2 ⊢
    first | done | omega | ((repeat' split at h1) <;> omega) | ((repeat' split at h1) <;> (repeat' split at h2) <;> omega) | skip
  refine gives_cond (fun h9 => ?_) (fun h9 => ?_)
  · have hF : ((decide (-128 ≤ n) && decide (n ≤ 127)) || false) = false := by
      simp [cms] at h9 ⊢
      first | done | omega | ((repeat' split at h9) <;> omega) | skip
    have he : errX 45 w rd rs n = 10 := by rw [hE, hA, hF]; rfl
    exact givesE (strX_bad he (by decide)) he.symm
  have hF : ((decide (-128 ≤ n) && decide (n ≤ 127)) || false) = true := by
    simp [cms] at h9 ⊢
    first | done | omega | ((repeat' split at h9) <;> omega) | skip
  have he : errX 45 w rd rs n = 0 := by rw [hE, hA, hF]; rfl
  have hcd : small rd := by simp [regX, condX] at hA; simp only [small]; omega
  refine givesE ?_ he.symm
  rw [strX_ok he]
  refine Eq.trans (b := S [] ++ S [ar .add .u8 112 (conv .u8 rd)] ++ S [batR n 0]) (by kernel_rfl) ?_
  simp only [S_append]
  exact congrArg S (Eq.trans (b := [ar .add .u8 112 (conv .u8 rd), batR n 0]) (by rfl) (Eq.trans (b := [112 + rd, bat n 0]) (by rw [addCond (by decide) hcd, batR_eq n (by decide : 0 < 8)]) (by kernel_rfl)))

theorem u8_46 (w rd rs n : Int) : (T8 46 w rd rs n).bare = (bif (bif (cm .neq w 4) then (bif (cm .neq w 8) then true else (bif (cm .neq 4 w) then true else (bif (!(bif (cm .geq rd 0) then (cm .leq rd 15) else false)) then true else (bif (!(bif (cm .geq rs 0) then (cm .leq rs 15) else false)) then true else (bif (cm .neq rd 0) then true else (bif (cm .neq rs 0) then true else (cm .neq n 0))))))) else (bif (cm .neq 4 w) then true else (bif (!(bif (cm .geq rd 0) then (cm .leq rd 15) else false)) then true else (bif (!(bif (cm .geq rs 0) then (cm .leq rs 15) else false)) then true else (bif (cm .neq rd 0) then true else (bif (cm .neq rs 0) then true else (cm .neq n 0))))))) then .ret (.tup [.str ⟨#[]⟩, .int true .i64 1]) [] else .ret (.tup [.str ((ByteArray.mk #[15, 5]) ++ strOf (batR n) (Int.toNat 0)), .int true .i64 0]) []) :=
  (t8 46 w rd rs n).trans (by kernel_rfl)
attribute [local irreducible] evalF Lf.gives in
theorem ref8_46 (w rd rs n : Int) : (T8 46 w rd rs n).leaf.gives (.tup [.str (strX 46 w rd rs n), .int false .i64 (errX 46 w rd rs n)]) := by
  have hE : errX 46 w rd rs n = (bif (decide (w = 4) || decide (w = 8)) && ((false || decide (w = 4)) && (decide (rd = 0) && (decide (rs = 0) && decide (n = 0)))) then (bif ((true) || false) then 0 else 10) else 1) := by kernel_rfl
  refine gives_tree (u8_46 w rd rs n) ?_
  refine gives_cond (fun h1 => ?_) (fun h1 => ?_)
  · have hA : ((decide (w = 4) || decide (w = 8)) && ((false || decide (w = 4)) && (decide (rd = 0) && (decide (rs = 0) && decide (n = 0))))) = false := by
      simp [cms] at h1 ⊢
      first | done | omega | ((repeat' split at h1) <;> omega) | ((repeat' split at h1) <;> (repeat' split at h1) <;> omega) | skip
    have he : errX 46 w rd rs n = 1 := by rw [hE, hA]; rfl
    exact givesE (strX_bad he (by decide)) he.symm
  have hA : ((decide (w = 4) || decide (w = 8)) && ((false || decide (w = 4)) && (decide (rd = 0) && (decide (rs = 0) && decide (n = 0))))) = true := by
    simp [cms] at h1 ⊢
    first | done | omega | ((repeat' split at h1) <;> omega) | ((repeat' split at h1) <;> (repeat' split at h1) <;> omega) | skip
  have he : errX 46 w rd rs n = 0 := by rw [hE, hA]; rfl
  refine givesE ?_ he.symm
  rw [strX_ok he]
  refine Eq.trans (b := S [15, 5] ++ S []) (by kernel_rfl) ?_
  simp only [S_append]
  exact congrArg S (Eq.trans (b := [15, 5]) (by rfl) (Eq.trans (b := [15, 5]) (by rfl) (by kernel_rfl)))

end Go.X
end

section
set_option linter.unusedVariables false
open Go Go.Ev Go.Proofs
namespace Go.X

def ref8P (k : Int) : Prop := ∀ (w rd rs n : Int), (evalF E8s Try.prog 8 [SV.agg [SV.int false IntKind.i64 k, SV.int false IntKind.i64 w, SV.int false IntKind.i64 rd, SV.int false IntKind.i64 rs, SV.int false IntKind.i64 n]] [] 1024).leaf.gives (.tup [.str (strX k w rd rs n), .int false .i64 (errX k w rd rs n)])
attribute [local irreducible] evalF Lf.gives strX errX in
theorem ref8_all (k : Int) (h1 : 1 ≤ k) (h2 : k ≤ 46) : ref8P k := by
  have : k = 1 ∨ k = 2 ∨ k = 3 ∨ k = 4 ∨ k = 5 ∨ k = 6 ∨ k = 7 ∨ k = 8 ∨ k = 9 ∨ k = 10 ∨ k = 11 ∨ k = 12 ∨ k = 13 ∨ k = 14 ∨ k = 15 ∨ k = 16 ∨ k = 17 ∨ k = 18 ∨ k = 19 ∨ k = 20 ∨ k = 21 ∨ k = 22 ∨ k = 23 ∨ k = 24 ∨ k = 25 ∨ k = 26 ∨ k = 27 ∨ k = 28 ∨ k = 29 ∨ k = 30 ∨ k = 31 ∨ k = 32 ∨ k = 33 ∨ k = 34 ∨ k = 35 ∨ k = 36 ∨ k = 37 ∨ k = 38 ∨ k = 39 ∨ k = 40 ∨ k = 41 ∨ k = 42 ∨ k = 43 ∨ k = 44 ∨ k = 45 ∨ k = 46 := by omega
  rcases this with rfl | rfl | rfl | rfl | rfl | rfl | rfl | rfl | rfl | rfl | rfl | rfl | rfl | rfl | rfl | rfl | rfl | rfl | rfl | rfl | rfl | rfl | rfl | rfl | rfl | rfl | rfl | rfl | rfl | rfl | rfl | rfl | rfl | rfl | rfl | rfl | rfl | rfl | rfl | rfl | rfl | rfl | rfl | rfl | rfl | rfl
  · exact ref8_1
  · exact ref8_2
  · exact ref8_3
  · exact ref8_4
  · exact ref8_5
  · exact ref8_6
  · exact ref8_7
  · exact ref8_8
  · exact ref8_9
  · exact ref8_10
  · exact ref8_11
  · exact ref8_12
  · exact ref8_13
  · exact ref8_14
  · exact ref8_15
  · exact ref8_16
  · exact ref8_17
  · exact ref8_18
  · exact ref8_19
  · exact ref8_20
  · exact ref8_21
  · exact ref8_22
  · exact ref8_23
  · exact ref8_24
  · exact ref8_25
  · exact ref8_26
  · exact ref8_27
  · exact ref8_28
  · exact ref8_29
  · exact ref8_30
  · exact ref8_31
  · exact ref8_32
  · exact ref8_33
  · exact ref8_34
  · exact ref8_35
  · exact ref8_36
  · exact ref8_37
  · exact ref8_38
  · exact ref8_39
  · exact ref8_40
  · exact ref8_41
  · exact ref8_42
  · exact ref8_43
  · exact ref8_44
  · exact ref8_45
  · exact ref8_46

attribute [local irreducible] evalF Lf.gives in
theorem ref8_0 (op w rd rs n : Int) (h : op < 1 ∨ 46 < op) : (T8 op w rd rs n).leaf.gives (.tup [.str (strX op w rd rs n), .int false .i64 (errX op w rd rs n)]) := by
  have he : errX op w rd rs n = 1 := by
    have : (decide (op < 1) || decide (46 < op)) = true := by simpa using h
    unfold errX
    rw [this]
    rfl
  refine gives_tree (t8 op w rd rs n) ?_
  refine gives_cond (fun h1 => ?_) (fun h1 => ?_)
  · exact givesE (strX_bad he (by decide)) he.symm
  · exfalso
    simp [cm_geq', cm_leq'] at h1
    first | omega | ((repeat' split at h1) <;> omega)

attribute [local irreducible] evalF Lf.gives strX errX in
theorem spec8 : SpecOk Try.prog 8 (specOf g7) := spec_okA false e8s_calls mixed fn8 b8 n8 (loops_noLoop e8s_loop _ _) g7 fun a0 H0 r hg hn => by
  unfold g7 at hg
  split at hg
  · rename_i op w rd rs n
    simp only [Option.some.injEq] at hg
    subst hg
    by_cases h : op < 1 ∨ 46 < op
    · exact ⟨_, id, fun _ => rfl, gives_giv (ref8_0 op w rd rs n h)⟩
    · exact ⟨_, id, fun _ => rfl, gives_giv (ref8_all op (by omega) (by omega) w rd rs n)⟩
  · cases hg

end Go.X
end

section
set_option linter.unusedVariables false
open Go Go.Ev Go.Proofs
namespace Go.X

noncomputable def E41 : Env := inlA Try.prog (envOf [] noLoop) [27, 43] [] 3
theorem named27 : named Try.prog [27, 43] = true := by kernel_rfl
theorem e41_calls : CallsOk E41 Try.prog := (inlA_calls (SpecsOk.nil.calls noLoop) mixed named27 namedNil 3).1
theorem e41_loop : E41.loop = noLoop := rfl
theorem fn41 : Try.prog.funcs[41]? = some Try.f41 := by kernel_rfl
theorem b41 : Try.f41.body = some (bodyOf Try.f41) := by kernel_rfl
theorem n41 : (Try.f41.name == "runtime.NumGoroutine") = false := by kernel_rfl

theorem t41 (sh m w : Int) (c s : ByteArray) (tu im : Bool) : (evalF E41 Try.prog 41 [.agg [.int false .i64 sh, .str c, .int false .i64 m, .bool false tu, .int false .i64 w, .bool false im, .bool true false], .str s] [] 1024).bare =
    (bif (cm .eql sh 8) then
      .ret (.tup [.int true .u8 0, .int true .i64 0, .bool true true]) []
    else
      bif (cm .eql sh 9) then
        .ret (.tup [.int true .u8 0, .int true .i64 0, .bool true true]) []
      else
        bif (cm .eql sh 10) then
          .ret (.tup [.int true .u8 0, .int true .i64 0, .bool true true]) []
        else
          bif (cm .eql sh 11) then
            .ret (.tup [.int true .u8 0, .int true .i64 0, .bool true true]) []
          else
            bif (cm .eql sh 5) then
              .ret (.tup [.int true .u8 0, .int true .i64 0, .bool true true]) []
            else
              bif (bif cm .geq 0 ↑s.size then allB [] else allB [decide ((0 : Int) ≤ 0), Nat.blt (Int.toNat 0) s.size]) then
                bif (bif cm .geq 0 ↑s.size then true else cm .neq (ar .and .u8 (chr s (Int.toNat 0)) 240) 64) then
                  .ret (.tup [.int true .u8 0, .int true .i64 0, .bool true false]) []
                else
                  bif (Nat.blt (0) (s.size)) then
                    .ret (.tup [.int false .u8 (chr s (Int.toNat 0)), .int true .i64 1, .bool true true]) []
                  else .bad
              else .bad) := by kernel_rfl

theorem t41a (sh m w : Int) (c s : ByteArray) (tu im : Bool) : (evalF E41 Try.prog 41 [.agg [.int false .i64 sh, .str c, .int false .i64 m, .bool false tu, .int false .i64 w, .bool false im, .bool true true], .str s] [] 1024).bare =
    (bif (cm .eql sh 8) then
      .ret (.tup [.int true .u8 0, .int true .i64 0, .bool true true]) []
    else
      bif (cm .eql sh 9) then
        .ret (.tup [.int true .u8 0, .int true .i64 0, .bool true true]) []
      else
        bif (cm .eql sh 10) then
          .ret (.tup [.int true .u8 0, .int true .i64 0, .bool true true]) []
        else
          bif (cm .eql sh 11) then
            .ret (.tup [.int true .u8 0, .int true .i64 0, .bool true true]) []
          else
            bif (cm .eql sh 5) then
              .ret (.tup [.int true .u8 0, .int true .i64 0, .bool true true]) []
            else
              bif (bif cm .geq ↑s.size ((1 : Nat) : Int) then allB [decide ((0 : Int) ≤ ((1 : Nat) : Int)), Nat.ble (((1 : Nat) : Int)).toNat s.size] else allB []) then
                bif (!bif cm .geq ↑s.size ((1 : Nat) : Int) then seq (s.extract 0 (((1 : Nat) : Int)).toNat) ⟨#[102]⟩ else false) then
                  .ret (.tup [.int true .u8 0, .int true .i64 0, .bool true false]) []
                else
                  bif (bif cm .geq 1 ↑s.size then allB [] else allB [decide ((0 : Int) ≤ 1), Nat.blt (Int.toNat 1) s.size]) then
                    bif (bif cm .geq 1 ↑s.size then true else cm .neq (ar .and .u8 (chr s (Int.toNat 1)) 240) 64) then
                      .ret (.tup [.int true .u8 0, .int true .i64 0, .bool true false]) []
                    else
                      bif (Nat.blt (1) (s.size)) then
                        .ret (.tup [.int false .u8 (chr s (Int.toNat 1)), .int true .i64 2, .bool true true]) []
                      else .bad
                  else .bad
              else .bad) := by kernel_rfl

def freeX (sh : Int) : Bool := decide (sh = 5) || decide (8 ≤ sh)
def rexAt (s : ByteArray) (i : Nat) : Bool := Nat.blt i s.size && decide (ar .and .u8 (chr s i) 240 = 64)
def preOk (ah : Bool) (s : ByteArray) : Bool := bif ah then (Nat.ble 1 s.size && seq (s.extract 0 1) ⟨#[102]⟩) && rexAt s 1 else rexAt s 0
def preV (p ah : Bool) (s : ByteArray) : SV := match p with
  | false => .tup [.int true .u8 0, .int true .i64 0, .bool true false]
  | true => match ah with
    | false => .tup [.int false .u8 (chr s 0), .int true .i64 1, .bool true true]
    | true => .tup [.int false .u8 (chr s 1), .int true .i64 2, .bool true true]
/-- prefix, when it finds (or does not find) what it wants -/
def g41 (p : Bool) : List SV → Heap → Option R
  | [.agg [.int _ .i64 sh, .str _, .int _ .i64 _, .bool _ _, .int _ .i64 _, .bool _ _, .bool _ ah], .str s], [] => match freeX sh with
    | true => some ⟨[decide (sh ≤ 11)], .tup [.int true .u8 0, .int true .i64 0, .bool true true], []⟩
    | false => some ⟨[preOk ah s == p, decide (0 ≤ sh)], preV p ah s, []⟩
  | _, _ => none

theorem allB_nil : allB [] = true := rfl
theorem allB_two (a b : Bool) : allB [a, b] = (a && b) := by simp [allB]

theorem bif_fst {α : Sort _} {b : Bool} {x y : α} (h : b = true) : (bif b then x else y) = x := by rw [h]; rfl

attribute [local irreducible] evalF in
theorem spec41 (p : Bool) : SpecOk Try.prog 41 (specC true (g41 p)) := spec_okA true e41_calls mixed fn41 b41 n41 (loops_noLoop e41_loop _ _) (g41 p) fun a0 H0 r hg hn => by
  unfold g41 at hg
  split at hg
  · rename_i _ sh c _ m _ tu _ w _ im _ ah s
    split at hg
    · rename_i hf
      simp only [Option.some.injEq] at hg
      subst hg
      have hf : sh = 5 ∨ 8 ≤ sh := by simpa [freeX] using hf
      have hn : sh ≤ 11 := by simpa [allB] using hn
      refine ⟨[.agg [.int false .i64 sh, .str c, .int false .i64 m, .bool false tu, .int false .i64 w, .bool false im, .bool true ah], .str s], fun _ => by simp [SV.alL, SV.al], fun σ => by simp only [denL, den], gives_giv ?_⟩
      have : sh = 5 ∨ sh = 8 ∨ sh = 9 ∨ sh = 10 ∨ sh = 11 := by omega
      cases ah with
      | false => exact gives_tree (t41 sh m w c s tu im) (by rcases this with rfl | rfl | rfl | rfl | rfl <;> exact fun σ σ' => rfl)
      | true => exact gives_tree (t41a sh m w c s tu im) (by rcases this with rfl | rfl | rfl | rfl | rfl <;> exact fun σ σ' => rfl)
    · rename_i hf
      simp only [Option.some.injEq] at hg
      subst hg
      have hf : sh ≠ 5 ∧ sh < 8 := by simpa [freeX] using hf
      simp only [allB, Bool.and_true, Bool.and_eq_true, beq_iff_eq, decide_eq_true_eq] at hn
      obtain ⟨rfl, h0⟩ := hn
      refine ⟨[.agg [.int false .i64 sh, .str c, .int false .i64 m, .bool false tu, .int false .i64 w, .bool false im, .bool true ah], .str s], fun _ => by simp [SV.alL, SV.al], fun σ => by simp only [denL, den], gives_giv ?_⟩
      have e5 : cm .eql sh 5 = false := by rw [cm_eql']; exact decide_eq_false (by omega)
      have e8 : cm .eql sh 8 = false := by rw [cm_eql']; exact decide_eq_false (by omega)
      have e9 : cm .eql sh 9 = false := by rw [cm_eql']; exact decide_eq_false (by omega)
      have e10 : cm .eql sh 10 = false := by rw [cm_eql']; exact decide_eq_false (by omega)
      have e11 : cm .eql sh 11 = false := by rw [cm_eql']; exact decide_eq_false (by omega)
      cases ah with
      | false =>
        refine gives_tree (t41 sh m w c s tu im) ?_
        simp only [e5, e8, e9, e10, e11, cond_false, allB_nil, preOk]
        by_cases hs : 0 < s.size
        · have h1 : cm .geq 0 (s.size : Int) = false := by rw [cm_geq']; exact decide_eq_false (by omega)
          have h2 : Nat.blt 0 s.size = true := by rw [Nat.blt_eq]; exact hs
          simp only [h1, h2, cond_false, allB_two, Int.toNat_zero, Bool.and_true, decide_true, cond_true, Int.le_refl, rexAt, Bool.true_and, cm_neq']
          cases decide (ar .and .u8 (chr s 0) 240 = 64) <;> exact fun σ σ' => rfl
        · have h1 : cm .geq 0 (s.size : Int) = true := by rw [cm_geq']; exact decide_eq_true (by omega)
          have h2 : Nat.blt 0 s.size = false := by
            cases h : Nat.blt 0 s.size with
            | false => rfl
            | true => rw [Nat.blt_eq] at h; omega
          simp only [h1, h2, cond_true, rexAt, Bool.false_and]
          exact fun σ σ' => rfl
      | true =>
        refine gives_tree (t41a sh m w c s tu im) ?_
        simp only [e5, e8, e9, e10, e11, cond_false, cond_true, allB_nil, allB_two, preOk]
        by_cases hs : 1 ≤ s.size
        · have h1 : cm .geq (s.size : Int) ((1 : Nat) : Int) = true := by rw [cm_geq']; exact decide_eq_true (by omega)
          have h2 : Nat.ble (((1 : Nat) : Int)).toNat s.size = true := by rw [Nat.ble_eq]; exact hs
          have h2' : Nat.ble 1 s.size = true := by rw [Nat.ble_eq]; exact hs
          have h3 : decide ((0 : Int) ≤ ((1 : Nat) : Int)) = true := rfl
          have h4 : (((1 : Nat) : Int)).toNat = 1 := rfl
          simp only [h1, h2, h2', h3, cond_true, Bool.and_self, h4, Bool.true_and]
          cases hq : seq (s.extract 0 1) ⟨#[102]⟩ with
          | false => exact fun σ σ' => rfl
          | true =>
            simp only [Bool.not_true, cond_false, Bool.true_and]
            by_cases hs : 1 < s.size
            · have h1 : cm .geq 1 (s.size : Int) = false := by rw [cm_geq']; exact decide_eq_false (by omega)
              have h2 : Nat.blt 1 s.size = true := by rw [Nat.blt_eq]; exact hs
              have h5 : decide ((0 : Int) ≤ 1) = true := rfl
              have h6 : Int.toNat 1 = 1 := rfl
              simp only [h1, h2, h5, h6, cond_false, allB_two, Bool.and_true, cond_true, rexAt, Bool.true_and, cm_neq']
              cases decide (ar .and .u8 (chr s 1) 240 = 64) <;> exact fun σ σ' => rfl
            · have h1 : cm .geq 1 (s.size : Int) = true := by rw [cm_geq']; exact decide_eq_true (by omega)
              have h2 : Nat.blt 1 s.size = false := by
                cases h : Nat.blt 1 s.size with
                | false => rfl
                | true => rw [Nat.blt_eq] at h; omega
              simp only [h1, h2, cond_true, rexAt, Bool.false_and]
              exact fun σ σ' => rfl
        · have h1 : cm .geq (s.size : Int) ((1 : Nat) : Int) = false := by rw [cm_geq']; exact decide_eq_false (by omega)
          have h2 : Nat.ble 1 s.size = false := by
            cases h : Nat.ble 1 s.size with
            | false => rfl
            | true => rw [Nat.ble_eq] at h; omega
          simp only [h1, h2, cond_false, cond_true, Bool.false_and, Bool.not_false]
          exact fun σ σ' => rfl
  · cases hg

noncomputable def E26 (p : Bool) : Env := inlA Try.prog (envOf [(42, specOf g42), (41, specC true (g41 p))] noLoop) [15] [] 2
theorem named15 : named Try.prog [15] = true := by kernel_rfl
theorem e26_calls (p : Bool) : CallsOk (E26 p) Try.prog := (inlA_calls ((SpecsOk.cons spec42 (SpecsOk.cons (spec41 p) SpecsOk.nil)).calls noLoop) mixed named15 namedNil 2).1
theorem e26_loop (p : Bool) : (E26 p).loop = noLoop := rfl

/-- nothing is found -/
abbrev zG : Lf := .ret (.tup [.agg [.int true .i64 0, .int true .i64 0, .int true .i64 0, .int true .i64 0, .int true .i64 0], .bool true false]) []

end Go.X
end

section
set_option linter.unusedVariables false
open Go Go.Ev Go.Proofs
namespace Go.X

def inI (n : Int) : Prop := -9223372036854775808 ≤ n ∧ n ≤ 9223372036854775807
def starts (s : ByteArray) (l : List Int) : Prop := l.length ≤ s.size ∧ ∀ j, j < l.length → chr s j = l.getD j 0
/-- s begins with this instruction's bytes -/
def DX (k : Int) (s : ByteArray) (w rd rs n : Int) : Prop := errX k w rd rs n = 0 ∧ inI n ∧ starts s (encL k w rd rs n)

theorem chr_range (s : ByteArray) (i : Nat) : 0 ≤ chr s i ∧ chr s i < 256 := by
  unfold chr
  have := (s.data.getD i 0).toNat_lt
  omega

theorem starts_tail {s : ByteArray} {p t : List Int} (h : starts s (p ++ t)) : starts s p ∧ p.length + t.length ≤ s.size ∧ ∀ j, j < t.length → chr s (p.length + j) = t.getD j 0 := by
  obtain ⟨h1, h2⟩ := h
  rw [List.length_append] at h1 h2
  refine ⟨⟨by omega, fun j hj => ?_⟩, h1, fun j hj => ?_⟩
  · rw [h2 j (by omega)]
    simp [List.getD, List.getElem?_append_left hj]
  · rw [h2 _ (by omega)]
    simp [List.getD, List.getElem?_append_right]

theorem tail_length (n : Int) (m : Nat) : (tailL n m).length = m := by simp [tailL]
theorem tail_get (n : Int) (m j : Nat) (h : j < m) : (tailL n m).getD j 0 = bat n j := by simp [tailL, List.getD, h]

/-! numbers of bytes -/
def valB (f : Nat → Int) : Nat → Int
  | 0 => 0
  | k + 1 => valB f k + f k * 256 ^ k

theorem or_low {a b : Nat} {i : Nat} (ha : a < 2 ^ i) (hab : a + b * 2 ^ i < 2 ^ 64) : ar .or .u64 (a : Int) ((b * 2 ^ i : Nat) : Int) = ((a + b * 2 ^ i : Nat) : Int) := by
  have h1 : (BitVec.ofInt 64 (a : Int) ||| BitVec.ofInt 64 ((b * 2 ^ i : Nat) : Int)).toNat = a + b * 2 ^ i := by
    rw [BitVec.ofInt_natCast, BitVec.ofInt_natCast, BitVec.toNat_or, BitVec.toNat_ofNat, BitVec.toNat_ofNat, Nat.mod_eq_of_lt (by omega), Nat.mod_eq_of_lt (by omega), ← Nat.shiftLeft_eq, Nat.or_comm, ← Nat.shiftLeft_add_eq_or_of_lt ha, Nat.add_comm]
  have h2 : ar .or .u64 (a : Int) ((b * 2 ^ i : Nat) : Int) = IntKind.u64.wrap (((BitVec.ofInt 64 (a : Int) ||| BitVec.ofInt 64 ((b * 2 ^ i : Nat) : Int)).toNat : Nat) : Int) := rfl
  rw [h2, h1, IntKind.wrap_u64]
  omega

theorem or_high {a b : Nat} {i : Nat} (ha : a < 2 ^ i) (hab : a + b * 2 ^ i < 2 ^ 64) : ar .or .u64 ((b * 2 ^ i : Nat) : Int) (a : Int) = ((a + b * 2 ^ i : Nat) : Int) := by
  have h1 : (BitVec.ofInt 64 ((b * 2 ^ i : Nat) : Int) ||| BitVec.ofInt 64 (a : Int)).toNat = a + b * 2 ^ i := by
    rw [BitVec.ofInt_natCast, BitVec.ofInt_natCast, BitVec.toNat_or, BitVec.toNat_ofNat, BitVec.toNat_ofNat, Nat.mod_eq_of_lt (by omega), Nat.mod_eq_of_lt (by omega), ← Nat.shiftLeft_eq, ← Nat.shiftLeft_add_eq_or_of_lt ha, Nat.add_comm]
  have h2 : ar .or .u64 ((b * 2 ^ i : Nat) : Int) (a : Int) = IntKind.u64.wrap (((BitVec.ofInt 64 ((b * 2 ^ i : Nat) : Int) ||| BitVec.ofInt 64 (a : Int)).toNat : Nat) : Int) := rfl
  rw [h2, h1, IntKind.wrap_u64]
  omega

theorem shl_u64 {a : Nat} {i : Nat} (hi : i ≤ 64) (h : a * 2 ^ i < 2 ^ 64) : ar .shl .u64 (a : Int) ((i : Nat) : Int) = ((a * 2 ^ i : Nat) : Int) := by
  have : ar .shl .u64 (a : Int) ((i : Nat) : Int) = IntKind.u64.wrap ((a : Int) * 2 ^ (min ((i : Nat) : Int).toNat 64)) := rfl
  rw [this, Int.toNat_natCast, Nat.min_eq_left hi, IntKind.wrap_u64]
  have e : (a : Int) * 2 ^ i = ((a * 2 ^ i : Nat) : Int) := by simp
  rw [e]
  omega

theorem conv_u64 {a : Int} (h : 0 ≤ a) (h2 : a < 256) : conv .u64 a = a := by
  simp only [conv, IntKind.wrap_u64]; omega

/-- a value of so many bytes -/
def natB (f : Nat → Int) : Nat → Nat
  | 0 => 0
  | k + 1 => natB f k + (f k).toNat * 2 ^ (8 * k)

theorem natB_lt {f : Nat → Int} (hf : ∀ j, 0 ≤ f j ∧ f j < 256) : ∀ k, natB f k < 2 ^ (8 * k)
  | 0 => by simp [natB]
  | k + 1 => by
    have ih := natB_lt hf k
    have h1 := hf k
    have e : 2 ^ (8 * (k + 1)) = 256 * 2 ^ (8 * k) := by rw [Nat.mul_add, Nat.pow_add]; omega
    have h2 : (f k).toNat ≤ 255 := by omega
    have h3 : (f k).toNat * 2 ^ (8 * k) ≤ 255 * 2 ^ (8 * k) := Nat.mul_le_mul_right _ h2
    simp only [natB]
    omega

theorem pow_le_64 {k : Nat} (h : k ≤ 8) : 2 ^ (8 * k) ≤ 2 ^ 64 := Nat.pow_le_pow_right (by decide) (by omega)

theorem accU_nat (s : ByteArray) : ∀ k, k ≤ 8 → accU s k = (natB (chr s) k : Int)
  | 0, _ => rfl
  | k + 1, h => by
    have ih := accU_nat s k (by omega)
    have hl := natB_lt (chr_range s) k
    have hl1 := natB_lt (chr_range s) (k + 1)
    have hp := pow_le_64 h
    obtain ⟨c0, c1⟩ := chr_range s k
    have hc : chr s k = ((chr s k).toNat : Int) := by omega
    simp only [natB] at hl1
    simp only [accU, ih, natB, mul8 (show k ≤ 1000 by omega), conv_u64 c0 c1]
    rw [hc, Int.toNat_natCast, shl_u64 (by omega) (by omega), or_low hl (by omega)]

theorem accD_nat (s : ByteArray) (hs : s.size ≤ 8) : ∀ k, k ≤ s.size → ∃ a : Nat, accD s k = (a : Int) ∧ a < 2 ^ (8 * k) ∧ natB (chr s) s.size = natB (chr s) (s.size - k) + a * 2 ^ (8 * (s.size - k))
  | 0, _ => ⟨0, rfl, by simp, by simp⟩
  | k + 1, h => by
    obtain ⟨a, h1, h2, h3⟩ := accD_nat s hs k (by omega)
    obtain ⟨c0, c1⟩ := chr_range s (s.size - 1 - k)
    have hc : chr s (s.size - 1 - k) = ((chr s (s.size - 1 - k)).toNat : Int) := by omega
    have hcl : (chr s (s.size - 1 - k)).toNat < 2 ^ 8 := by omega
    have e : 2 ^ (8 * (k + 1)) = 2 ^ (8 * k) * 256 := by rw [Nat.mul_add, Nat.pow_add]
    have hp := pow_le_64 (show k + 1 ≤ 8 by omega)
    have hlt : (chr s (s.size - 1 - k)).toNat + a * 2 ^ 8 < 2 ^ (8 * (k + 1)) := by omega
    refine ⟨(chr s (s.size - 1 - k)).toNat + a * 2 ^ 8, ?_, hlt, ?_⟩
    · simp only [accD, h1, conv_u64 c0 c1]
      have e8 : (8 : Int) = ((8 : Nat) : Int) := rfl
      rw [e8, shl_u64 (by omega) (by omega)]
      rw [hc, Int.toNat_natCast, or_high hcl (by omega)]
    · rw [h3]
      obtain ⟨m, hm⟩ : ∃ m, s.size - k = m + 1 := ⟨s.size - k - 1, by omega⟩
      have hm2 : s.size - (k + 1) = m := by omega
      have hm3 : s.size - 1 - k = m := by omega
      rw [hm, hm2, hm3]
      simp only [natB]
      have e2 : 2 ^ (8 * (m + 1)) = 2 ^ 8 * 2 ^ (8 * m) := by rw [Nat.mul_add, Nat.pow_add, Nat.mul_comm]
      rw [e2, Nat.add_mul, Nat.mul_assoc]
      omega

theorem numD_eq (s : ByteArray) (h : s.size ≤ 8) : numD s = numU s := by
  obtain ⟨a, h1, h2, h3⟩ := accD_nat s h s.size (Nat.le_refl _)
  have : accD s s.size = accU s s.size := by
    rw [h1, accU_nat s s.size h, h3]
    simp [natB]
  simp only [numD, numU, this]

theorem endN_range (u : Int) {k : Nat} (hk : k ≤ 8) : inI (endN u k) := by
  unfold endN
  generalize ar .sub .i64 64 (ar .mul .i64 8 (k : Int)) = by_
  have e : ar .shr .i64 (conv .i64 (ar .shl .u64 u by_)) by_ = (conv .i64 (ar .shl .u64 u by_)).fdiv (2 ^ min by_.toNat 64) := rfl
  rw [e]
  have hr : -9223372036854775808 ≤ conv .i64 (ar .shl .u64 u by_) ∧ conv .i64 (ar .shl .u64 u by_) ≤ 9223372036854775807 := by
    simp only [conv, IntKind.wrap_i64]; omega
  generalize conv .i64 (ar .shl .u64 u by_) = x at hr
  have hp : (0 : Int) < 2 ^ min by_.toNat 64 := Int.pow_pos (by decide)
  rw [Int.fdiv_eq_ediv_of_nonneg _ (Int.le_of_lt hp)]
  generalize (2 : Int) ^ min by_.toNat 64 = p at hp
  unfold inI
  by_cases hx : 0 ≤ x
  · have h1 := Int.ediv_nonneg hx (Int.le_of_lt hp)
    have h2 := Int.ediv_le_self p hx
    omega
  · have h1 : x / p < 0 := Int.ediv_neg_of_neg_of_pos (by omega) hp
    have h2 : x ≤ x / p := by
      rw [Int.le_ediv_iff_mul_le hp]
      have : x * p ≤ x * 1 := Int.mul_le_mul_of_nonpos_left (by omega) (by omega)
      omega
    omega

theorem numU_range (s : ByteArray) (h : s.size ≤ 8) : inI (numU s) := endN_range _ h

theorem bat_eq (n : Int) {t : Nat} (h : t < 8) : bat n t = (n / 2 ^ (8 * t)) % 256 := by
  have e : ar .mul .i64 8 (t : Int) = ((8 * t : Nat) : Int) := mul8 (by omega)
  unfold bat
  rw [e]
  have e2 : ar .shr .i64 n ((8 * t : Nat) : Int) = n.fdiv (2 ^ min (((8 * t : Nat) : Int)).toNat 64) := rfl
  rw [e2, Int.toNat_natCast, Nat.min_eq_left (by omega), Int.fdiv_eq_ediv_of_nonneg _ (Int.le_of_lt (Int.pow_pos (by decide)))]
  simp only [conv, IntKind.wrap_u8]

theorem bat_range (n : Int) (t : Nat) : 0 ≤ bat n t ∧ bat n t < 256 := by
  unfold bat
  simp only [conv, IntKind.wrap_u8]
  omega

theorem natB_congr {f g : Nat → Int} : ∀ k, (∀ j, j < k → f j = g j) → natB f k = natB g k
  | 0, _ => rfl
  | k + 1, h => by simp only [natB, natB_congr k fun j hj => h j (by omega), h k (by omega)]

theorem emod_step (n p : Int) (hp : 0 < p) : n % (p * 256) = n % p + (n / p % 256) * p := by
  have h1 := Int.mul_ediv_add_emod n p
  have h2 := Int.mul_ediv_add_emod (n / p) 256
  have h3 := Int.emod_nonneg n (Int.ne_of_gt hp)
  have h4 := Int.emod_lt_of_pos n hp
  have h5 := Int.emod_nonneg (n / p) (show (256 : Int) ≠ 0 by decide)
  have h6 := Int.emod_lt_of_pos (n / p) (show (0 : Int) < 256 by decide)
  generalize n / p = q at *
  generalize n % p = r at *
  generalize q % 256 = b at *
  generalize q / 256 = c at *
  subst h2
  subst h1
  have e : p * (256 * c + b) + r = (r + b * p) + p * 256 * c := by
    rw [Int.mul_add, ← Int.mul_assoc, Int.mul_comm p b]
    omega
  rw [e, Int.add_mul_emod_self_left]
  have hb : b * p ≤ 255 * p := Int.mul_le_mul_of_nonneg_right (by omega) (by omega)
  have hb0 : 0 ≤ b * p := Int.mul_nonneg h5 (by omega)
  exact Int.emod_eq_of_lt (by omega) (by omega)

theorem natB_bat (n : Int) : ∀ k, k ≤ 8 → (natB (bat n) k : Int) = n % 2 ^ (8 * k)
  | 0, _ => by simp [natB, Int.emod_one]
  | k + 1, h => by
    have ih := natB_bat n k (by omega)
    obtain ⟨b0, b1⟩ := bat_range n k
    have e : (2 : Int) ^ (8 * (k + 1)) = 2 ^ (8 * k) * 256 := by rw [Nat.mul_add, Int.pow_add]; rfl
    simp only [natB]
    rw [e, emod_step _ _ (Int.pow_pos (by decide)), ← bat_eq n (show k < 8 by omega), ← ih]
    have e2 : ((2 ^ (8 * k) : Nat) : Int) = 2 ^ (8 * k) := by simp
    rw [Int.natCast_add, Int.natCast_mul, e2, Int.toNat_of_nonneg b0]

/-- so many bytes of a number that fits are that number -/
theorem end_tail (n : Int) (k : Nat) (hk : k = 1 ∨ k = 4 ∨ k = 8) (hn : inI n) (hf : fitsX k n = true) : endN (natB (bat n) k) k = n := by
  obtain ⟨n0, n1⟩ := hn
  have e : ∀ (u : Nat) (b : Nat), b ≤ 64 → u * 2 ^ b < 2 ^ 64 → ar .shr .i64 (conv .i64 (ar .shl .u64 (u : Int) ((b : Nat) : Int))) ((b : Nat) : Int) = (IntKind.i64.wrap ((u * 2 ^ b : Nat) : Int)) / 2 ^ b := by
    intro u b hb hu
    rw [shl_u64 hb hu]
    have e2 : ∀ x : Int, ar .shr .i64 x ((b : Nat) : Int) = x.fdiv (2 ^ min (((b : Nat) : Int)).toNat 64) := fun _ => rfl
    rw [e2, Int.toNat_natCast, Nat.min_eq_left hb, Int.fdiv_eq_ediv_of_nonneg _ (Int.le_of_lt (Int.pow_pos (by decide)))]
    rfl
  have hl := natB_lt (bat_range n) k
  rcases hk with rfl | rfl | rfl
  · have hf : -128 ≤ n ∧ n ≤ 127 := by simpa [fitsX] using hf
    have e1 : ar .sub .i64 64 (ar .mul .i64 8 ((1 : Nat) : Int)) = ((56 : Nat) : Int) := by kernel_rfl
    unfold endN
    rw [e1, e _ _ (by omega) (by omega), IntKind.wrap_i64]
    have hv := natB_bat n 1 (by decide)
    generalize natB (bat n) 1 = v at hv hl
    omega
  · have hf : -2147483648 ≤ n ∧ n ≤ 2147483647 := by simpa [fitsX] using hf
    have e1 : ar .sub .i64 64 (ar .mul .i64 8 ((4 : Nat) : Int)) = ((32 : Nat) : Int) := by kernel_rfl
    unfold endN
    rw [e1, e _ _ (by omega) (by omega), IntKind.wrap_i64]
    have hv := natB_bat n 4 (by decide)
    generalize natB (bat n) 4 = v at hv hl
    omega
  · have e1 : ar .sub .i64 64 (ar .mul .i64 8 ((8 : Nat) : Int)) = ((0 : Nat) : Int) := by kernel_rfl
    unfold endN
    rw [e1, e _ _ (by omega) (by omega), IntKind.wrap_i64]
    have hv := natB_bat n 8 (by decide)
    generalize natB (bat n) 8 = v at hv hl
    omega

theorem chr_extract (s : ByteArray) (a b j : Nat) (hb : b ≤ s.size) (hj : j < b - a) : chr (s.extract a b) j = chr s (a + j) := by
  unfold chr
  simp [ByteArray.data_extract, Array.getD_eq_getD_getElem?, Array.getElem?_extract]
  have : s.data.size = s.size := rfl
  rw [if_pos (by omega)]

theorem num_tail {s : ByteArray} {n : Int} (a m : Nat) (hm : m = 1 ∨ m = 4 ∨ m = 8) (hs : a + m ≤ s.size) (h : ∀ j, j < m → chr s (a + j) = bat n j) (hn : inI n) (hf : fitsX m n = true) : numU (s.extract a (a + m)) = n := by
  have hsz : (s.extract a (a + m)).size = m := by simp [ByteArray.size_extract]; omega
  unfold numU
  rw [hsz, accU_nat _ _ (by omega)]
  rw [natB_congr (g := bat n) m fun j hj => by rw [chr_extract s a (a + m) j hs (by omega), h j hj]]
  exact end_tail n m hm hn hf

end Go.X
end

section
set_option linter.unusedVariables false
open Go Go.Ev Go.Proofs
namespace Go.X

def all16 (p : Int → Bool) : Bool := (List.range 16).all fun i => p (Int.ofNat i)
theorem all16_spec {p : Int → Bool} (h : all16 p = true) {x : Int} (hx : small x) : p x = true := by
  obtain ⟨i, hi, rfl⟩ := small_nat hx
  exact List.all_eq_true.1 h i (List.mem_range.2 hi)

theorem rex_chk : ([(4 : Int), 8].all fun w => all16 fun m => all16 fun l => (ar .and .u8 (rexI w m l) 240 == 64) && ((ar .and .u8 (rexI w m l) 8 == 2 * (w - 4)) && ((ar .and .u8 (rexI w m l) 1 == l / 8) && (ar .and .u8 (rexI w m l) 4 == 4 * (m / 8))))) = true := by kernel_rfl
theorem rex_facts {w m l : Int} (hw : w = 4 ∨ w = 8) (hm : small m) (hl : small l) : ar .and .u8 (rexI w m l) 240 = 64 ∧ ar .and .u8 (rexI w m l) 8 = 2 * (w - 4) ∧ ar .and .u8 (rexI w m l) 1 = l / 8 ∧ ar .and .u8 (rexI w m l) 4 = 4 * (m / 8) := by
  have := all16_spec (all16_spec (List.all_eq_true.1 rex_chk w (by rcases hw with rfl | rfl <;> simp)) hm) hl
  simpa using this
theorem mod_chk : ([(192 : Int), 128].all fun d => all16 fun m => all16 fun l => (ar .and .u8 (modI d m l) 7 == l % 8) && (ar .and .u8 (ar .shr .u8 (modI d m l) 3) 7 == m % 8)) = true := by kernel_rfl
theorem mod_facts {d m l : Int} (hd : d = 192 ∨ d = 128) (hm : small m) (hl : small l) : ar .and .u8 (modI d m l) 7 = l % 8 ∧ ar .and .u8 (ar .shr .u8 (modI d m l) 3) 7 = m % 8 := by
  have := all16_spec (all16_spec (List.all_eq_true.1 mod_chk d (by rcases hd with rfl | rfl <;> simp)) hm) hl
  simpa using this
theorem put_chk : (all16 fun m => (ar .or .i64 (conv .i64 (m % 8)) (ar .shl .i64 (conv .i64 (m / 8)) 3) == m) && (ar .or .i64 (conv .i64 (m % 8)) (ar .shl .i64 (conv .i64 (4 * (m / 8))) 1) == m)) = true := by kernel_rfl
theorem put_facts {m : Int} (hm : small m) : ar .or .i64 (conv .i64 (m % 8)) (ar .shl .i64 (conv .i64 (m / 8)) 3) = m ∧ ar .or .i64 (conv .i64 (m % 8)) (ar .shl .i64 (conv .i64 (4 * (m / 8))) 1) = m := by
  have := all16_spec put_chk hm
  simpa using this
theorem more_chk : ([(184 : Int), 80, 88].all fun c => all16 fun m => ar .or .i64 (ar .sub .i64 (conv .i64 (c + m % 8)) c) (ar .shl .i64 (conv .i64 (m / 8)) 3) == m) = true := by kernel_rfl
theorem more_reg {c m : Int} (hc : c ∈ [(184 : Int), 80, 88]) (hm : small m) : ar .or .i64 (ar .sub .i64 (conv .i64 (c + m % 8)) c) (ar .shl .i64 (conv .i64 (m / 8)) 3) = m := by
  have := all16_spec (List.all_eq_true.1 more_chk c hc) hm
  simpa using this
theorem cond_chk : ([(144 : Int), 128, 112].all fun c => all16 fun m => ar .sub .i64 (conv .i64 (c + m)) c == m) = true := by kernel_rfl
theorem more_cond {c m : Int} (hc : c ∈ [(144 : Int), 128, 112]) (hm : small m) : ar .sub .i64 (conv .i64 (c + m)) c = m := by
  have := all16_spec (List.all_eq_true.1 cond_chk c hc) hm
  simpa using this
theorem more_inI {c x : Int} (hx : 0 ≤ x ∧ x < 256) (hc : 0 ≤ c ∧ c < 256) : inI (ar .sub .i64 (conv .i64 x) c) := by
  simp only [inI, ar, conv, IntKind.wrap_i64]; omega
theorem inI0 : inI 0 := by simp [inI]

/-- what guess says -/
def Q (k : Int) (s : ByteArray) (o w rd rs n : Int) (ok : Bool) : Prop :=
  (ok = true → o = k ∧ inI n) ∧ ∀ w' rd' rs' n', DX k s w' rd' rs' n' → ok = true ∧ w = w' ∧ rd = rd' ∧ rs = rs' ∧ n = n'
def tupG (o w rd rs n : Int) (ok : Bool) : SV := .tup [.agg [.int false .i64 o, .int false .i64 w, .int false .i64 rd, .int false .i64 rs, .int false .i64 n], .bool false ok]
def GPl (k : Int) (s : ByteArray) (l : Lf) : Prop := ∃ o w rd rs n ok, Q k s o w rd rs n ok ∧ l.gives (tupG o w rd rs n ok)
theorem GPl_cond {k : Int} {s : ByteArray} {b : Bool} {x y : Lf} (h1 : b = true → GPl k s x) (h2 : b = false → GPl k s y) : GPl k s (bif b then x else y) := by
  cases b with
  | true => exact h1 rfl
  | false => exact h2 rfl
theorem GPl_no {k : Int} {s : ByteArray} {o w rd rs n : Int} {a b c d e f : Bool} {H : Heap} (h : ∀ w' rd' rs' n', ¬ DX k s w' rd' rs' n') : GPl k s (.ret (.tup [.agg [.int a .i64 o, .int b .i64 w, .int c .i64 rd, .int d .i64 rs, .int e .i64 n], .bool f false]) H) :=
  ⟨o, w, rd, rs, n, false, ⟨fun h => (by cases h), fun w' rd' rs' n' hd => (h _ _ _ _ hd).elim⟩, fun σ σ' => by simp only [tupG, den, denL]⟩
theorem GPl_yes {k : Int} {s : ByteArray} {w rd rs n : Int} {a b c d e f : Bool} {H : Heap} (hn : inI n) (h : ∀ w' rd' rs' n', DX k s w' rd' rs' n' → w = w' ∧ rd = rd' ∧ rs = rs' ∧ n = n') : GPl k s (.ret (.tup [.agg [.int a .i64 k, .int b .i64 w, .int c .i64 rd, .int d .i64 rs, .int e .i64 n], .bool f true]) H) :=
  ⟨k, w, rd, rs, n, true, ⟨fun _ => ⟨rfl, hn⟩, fun w' rd' rs' n' hd => ⟨rfl, h _ _ _ _ hd⟩⟩, fun σ σ' => by simp only [tupG, den, denL]⟩
def GP (k : Int) (f : SV) : Prop := ∀ s, ∃ p o w rd rs n ok, Q k s o w rd rs n ok ∧ (evalF (E26 p) Try.prog 26 [.int true .i64 k, f, .str s] [] 1024).leaf.gives (tupG o w rd rs n ok)

attribute [local irreducible] evalF Lf.gives in
theorem GP_of {k : Int} {s : ByteArray} {f : SV} {l : Lf} (p : Bool) (h : (evalF (E26 p) Try.prog 26 [.int true .i64 k, f, .str s] [] 1024).bare = l) (hl : GPl k s l) : ∃ p o w rd rs n ok, Q k s o w rd rs n ok ∧ (evalF (E26 p) Try.prog 26 [.int true .i64 k, f, .str s] [] 1024).leaf.gives (tupG o w rd rs n ok) := by
  obtain ⟨o, w, rd, rs, n, ok, hq, hg⟩ := hl
  exact ⟨p, o, w, rd, rs, n, ok, hq, gives_tree h hg⟩

theorem err0 {A F : Bool} (h : (bif A then (bif F then 0 else 10) else (1 : Int)) = 0) : A = true ∧ F = true := by
  cases A <;> cases F <;> simp at h ⊢
theorem nblt (a b : Nat) : Nat.blt a b = decide (a < b) := by
  by_cases h : a < b
  · rw [decide_eq_true h, Nat.blt_eq]; exact h
  · rw [decide_eq_false h]
    cases hb : Nat.blt a b with
    | false => rfl
    | true => rw [Nat.blt_eq] at hb; exact absurd hb h
theorem nble (a b : Nat) : Nat.ble a b = decide (a ≤ b) := by
  by_cases h : a ≤ b
  · rw [decide_eq_true h, Nat.ble_eq]; exact h
  · rw [decide_eq_false h]
    cases hb : Nat.ble a b with
    | false => rfl
    | true => rw [Nat.ble_eq] at hb; exact absurd hb h
theorem pre0 {s : ByteArray} {w m l : Int} (hw : w = 4 ∨ w = 8) (hm : small m) (hl : small l) (hz : 0 < s.size) (h : chr s 0 = rexI w m l) : preOk false s = true := by
  simp [preOk, rexAt, nblt, hz, h, (rex_facts hw hm hl).1]
theorem seq_one {s : ByteArray} {b : UInt8} (hz : 1 ≤ s.size) (h : chr s 0 = (b.toNat : Int)) : seq (s.extract 0 1) ⟨#[b]⟩ = true := by
  have : s.extract 0 1 = ⟨#[b]⟩ := by
    apply ByteArray.ext
    have hs : s.data.size = s.size := rfl
    simp only [ByteArray.data_extract]
    apply Array.ext
    · simp; omega
    · intro i h1 h2
      simp at h1 h2
      obtain rfl : i = 0 := by omega
      simp
      have : s.data.getD 0 0 = s.data[0] := by
        rw [Array.getD_eq_getD_getElem?, Array.getElem?_eq_getElem (show 0 < s.data.size by omega)]
        rfl
      simp only [chr, this] at h
      exact UInt8.toNat_inj.1 (by omega)
  rw [this]
  simp [seq]
theorem pre1 {s : ByteArray} {w m l : Int} (hw : w = 4 ∨ w = 8) (hm : small m) (hl : small l) (hz : 1 < s.size) (h0 : chr s 0 = 102) (h : chr s 1 = rexI w m l) : preOk true s = true := by
  have := seq_one (b := 102) (show 1 ≤ s.size by omega) h0
  simp [preOk, rexAt, nblt, nble, hz, h, (rex_facts hw hm hl).1, this]
  omega

/-- how tests are read -/
theorem cmz : (∀ a b, cm .eql a b = decide (a = b)) ∧ (∀ a b, cm .neq a b = !decide (a = b)) ∧ (∀ a b, cm .lss a b = decide (a < b)) ∧ (∀ a b, cm .leq a b = decide (a ≤ b)) ∧ (∀ a b, cm .gtr a b = decide (b < a)) ∧ (∀ a b, cm .geq a b = decide (b ≤ a)) ∧
    (∀ a b, Nat.blt a b = decide (a < b)) ∧ (∀ a b, Nat.ble a b = decide (a ≤ b)) ∧ (∀ (p : Prop) [Decidable p], (decide p = true) = p) ∧ (∀ (p : Prop) [Decidable p], (decide p = false) ↔ ¬ p) ∧
    (∀ b : Bool, ((!b) = true) = (b = false)) ∧ (∀ b : Bool, ((!b) = false) = (b = true)) ∧ ∀ (s : ByteArray) (i j : Nat), (s.extract i j).size = min j s.size - i :=
  ⟨cm_eql', cm_neq', cm_lss', cm_leq', cm_gtr', cm_geq', nblt, nble, fun _ _ => decide_eq_true_eq, fun _ _ => decide_eq_false_iff_not, fun b => Bool.not_eq_true' b, fun b => Bool.not_eq_false' b, fun _ _ _ => ByteArray.size_extract⟩

end Go.X
end

section
set_option linter.unusedVariables false
open Go Go.Ev Go.Proofs
namespace Go.X

theorem gy_1 (s : ByteArray) : (evalF (E26 true) Try.prog 26 [.int true .i64 1, .agg [.int true .i64 0, .str ⟨#[137]⟩, .int true .i64 0, .bool true false, .int true .i64 0, .bool true false, .bool true false], .str s] [] 1024).bare =
    (bif (preOk false s == true) then
 bif (cm .gtr 2 ↑s.size) then
 zG
 else
 bif (cm .neq (ar .and .u8 (chr s 0) 8) 0) then
 bif (Nat.blt (1) (s.size)) then
 bif (cm .geq 2 ↑s.size) then
 .ret (.tup [.agg [.int true .i64 1, .int true .i64 8, .int true .i64 0, .int true .i64 0, .int true .i64 0], .bool true false]) []
 else
 bif (Nat.blt (2) (s.size)) then
 bif (Nat.blt (2) (s.size)) then
 .ret (.tup [(.agg [.int true .i64 1, .int true .i64 8, (.int false .i64 (ar .or .i64 (conv .i64 (ar .and .u8 (chr s 2) 7)) (ar .shl .i64 (conv .i64 (ar .and .u8 (chr s 0) 1)) 3))), (.int false .i64 (ar .or .i64 (conv .i64 (ar .and .u8 (ar .shr .u8 (chr s 2) 3) 7)) (ar .shl .i64 (conv .i64 (ar .and .u8 (chr s 0) 4)) 1))), .int true .i64 0]), .bool true true]) []
 else .bad
 else .bad
 else .bad
 else
 bif (Nat.blt (1) (s.size)) then
 bif (cm .geq 2 ↑s.size) then
 .ret (.tup [.agg [.int true .i64 1, .int true .i64 4, .int true .i64 0, .int true .i64 0, .int true .i64 0], .bool true false]) []
 else
 bif (Nat.blt (2) (s.size)) then
 bif (Nat.blt (2) (s.size)) then
 .ret (.tup [(.agg [.int true .i64 1, .int true .i64 4, (.int false .i64 (ar .or .i64 (conv .i64 (ar .and .u8 (chr s 2) 7)) (ar .shl .i64 (conv .i64 (ar .and .u8 (chr s 0) 1)) 3))), (.int false .i64 (ar .or .i64 (conv .i64 (ar .and .u8 (ar .shr .u8 (chr s 2) 3) 7)) (ar .shl .i64 (conv .i64 (ar .and .u8 (chr s 0) 4)) 1))), .int true .i64 0]), .bool true true]) []
 else .bad
 else .bad
 else .bad
 else .bad) := by kernel_rfl

theorem gn_1 (s : ByteArray) : (evalF (E26 false) Try.prog 26 [.int true .i64 1, .agg [.int true .i64 0, .str ⟨#[137]⟩, .int true .i64 0, .bool true false, .int true .i64 0, .bool true false, .bool true false], .str s] [] 1024).bare =
    (bif (preOk false s == false) then
 zG
 else .bad) := by kernel_rfl

theorem gy_2 (s : ByteArray) : (evalF (E26 true) Try.prog 26 [.int true .i64 2, .agg [.int true .i64 1, .str ⟨#[199]⟩, .int true .i64 0, .bool true false, .int true .i64 8, .bool true true, .bool true false], .str s] [] 1024).bare =
    (bif (preOk false s == true) then
 bif (cm .gtr 2 ↑s.size) then
 zG
 else
 bif (cm .neq (ar .and .u8 (chr s 0) 8) 0) then
 bif (Nat.blt (1) (s.size)) then
 bif (cm .geq 2 ↑s.size) then
 .ret (.tup [.agg [.int true .i64 2, .int true .i64 8, .int true .i64 0, .int true .i64 0, .int true .i64 0], .bool true false]) []
 else
 bif (Nat.blt (2) (s.size)) then
 bif (Nat.blt (2) (s.size)) then
 bif (cm .gtr 7 ↑s.size) then
 .ret (.tup [(.agg [.int true .i64 2, .int true .i64 8, (.int false .i64 (ar .or .i64 (conv .i64 (ar .and .u8 (chr s 2) 7)) (ar .shl .i64 (conv .i64 (ar .and .u8 (chr s 0) 1)) 3))), .int true .i64 0, .int true .i64 0]), .bool true false]) []
 else
 bif (Nat.ble (7) (s.size)) then
 bif (Nat.ble ((s.extract 3 7).size) (8)) then
 .ret (.tup [(.agg [.int true .i64 2, .int true .i64 8, (.int false .i64 (ar .or .i64 (conv .i64 (ar .and .u8 (chr s 2) 7)) (ar .shl .i64 (conv .i64 (ar .and .u8 (chr s 0) 1)) 3))), .int true .i64 0, .int false .i64 (numU (s.extract 3 7))]), .bool true true]) []
 else .bad
 else .bad
 else .bad
 else .bad
 else .bad
 else
 bif (Nat.blt (1) (s.size)) then
 bif (cm .geq 2 ↑s.size) then
 .ret (.tup [.agg [.int true .i64 2, .int true .i64 4, .int true .i64 0, .int true .i64 0, .int true .i64 0], .bool true false]) []
 else
 bif (Nat.blt (2) (s.size)) then
 bif (Nat.blt (2) (s.size)) then
 bif (cm .gtr 7 ↑s.size) then
 .ret (.tup [(.agg [.int true .i64 2, .int true .i64 4, (.int false .i64 (ar .or .i64 (conv .i64 (ar .and .u8 (chr s 2) 7)) (ar .shl .i64 (conv .i64 (ar .and .u8 (chr s 0) 1)) 3))), .int true .i64 0, .int true .i64 0]), .bool true false]) []
 else
 bif (Nat.ble (7) (s.size)) then
 bif (Nat.ble ((s.extract 3 7).size) (8)) then
 .ret (.tup [(.agg [.int true .i64 2, .int true .i64 4, (.int false .i64 (ar .or .i64 (conv .i64 (ar .and .u8 (chr s 2) 7)) (ar .shl .i64 (conv .i64 (ar .and .u8 (chr s 0) 1)) 3))), .int true .i64 0, .int false .i64 (numU (s.extract 3 7))]), .bool true true]) []
 else .bad
 else .bad
 else .bad
 else .bad
 else .bad
 else .bad) := by kernel_rfl

theorem gn_2 (s : ByteArray) : (evalF (E26 false) Try.prog 26 [.int true .i64 2, .agg [.int true .i64 1, .str ⟨#[199]⟩, .int true .i64 0, .bool true false, .int true .i64 8, .bool true true, .bool true false], .str s] [] 1024).bare =
    (bif (preOk false s == false) then
 zG
 else .bad) := by kernel_rfl

theorem gy_3 (s : ByteArray) : (evalF (E26 true) Try.prog 26 [.int true .i64 3, .agg [.int true .i64 3, .str ⟨#[184]⟩, .int true .i64 0, .bool true false, .int true .i64 8, .bool true false, .bool true false], .str s] [] 1024).bare =
    (bif (preOk false s == true) then
 bif (cm .gtr 2 ↑s.size) then
 zG
 else
 bif (cm .neq (ar .and .u8 (chr s 0) 8) 0) then
 bif (Nat.blt (1) (s.size)) then
 bif (cm .gtr 10 ↑s.size) then
 .ret (.tup [(.agg [.int true .i64 3, .int true .i64 8, (.int false .i64 (ar .or .i64 (ar .sub .i64 (conv .i64 (chr s 1)) 184) (ar .shl .i64 (conv .i64 (ar .and .u8 (chr s 0) 1)) 3))), .int true .i64 0, .int true .i64 0]), .bool true false]) []
 else
 bif (Nat.ble (10) (s.size)) then
 bif (Nat.ble ((s.extract 2 10).size) (8)) then
 .ret (.tup [(.agg [.int true .i64 3, .int true .i64 8, (.int false .i64 (ar .or .i64 (ar .sub .i64 (conv .i64 (chr s 1)) 184) (ar .shl .i64 (conv .i64 (ar .and .u8 (chr s 0) 1)) 3))), .int true .i64 0, .int false .i64 (numU (s.extract 2 10))]), .bool true true]) []
 else .bad
 else .bad
 else .bad
 else
 bif (Nat.blt (1) (s.size)) then
 bif (cm .gtr 10 ↑s.size) then
 .ret (.tup [(.agg [.int true .i64 3, .int true .i64 4, (.int false .i64 (ar .or .i64 (ar .sub .i64 (conv .i64 (chr s 1)) 184) (ar .shl .i64 (conv .i64 (ar .and .u8 (chr s 0) 1)) 3))), .int true .i64 0, .int true .i64 0]), .bool true false]) []
 else
 bif (Nat.ble (10) (s.size)) then
 bif (Nat.ble ((s.extract 2 10).size) (8)) then
 .ret (.tup [(.agg [.int true .i64 3, .int true .i64 4, (.int false .i64 (ar .or .i64 (ar .sub .i64 (conv .i64 (chr s 1)) 184) (ar .shl .i64 (conv .i64 (ar .and .u8 (chr s 0) 1)) 3))), .int true .i64 0, .int false .i64 (numU (s.extract 2 10))]), .bool true true]) []
 else .bad
 else .bad
 else .bad
 else .bad) := by kernel_rfl

theorem gn_3 (s : ByteArray) : (evalF (E26 false) Try.prog 26 [.int true .i64 3, .agg [.int true .i64 3, .str ⟨#[184]⟩, .int true .i64 0, .bool true false, .int true .i64 8, .bool true false, .bool true false], .str s] [] 1024).bare =
    (bif (preOk false s == false) then
 zG
 else .bad) := by kernel_rfl

theorem gy_4 (s : ByteArray) : (evalF (E26 true) Try.prog 26 [.int true .i64 4, .agg [.int true .i64 0, .str ⟨#[1]⟩, .int true .i64 0, .bool true false, .int true .i64 0, .bool true false, .bool true false], .str s] [] 1024).bare =
    (bif (preOk false s == true) then
 bif (cm .gtr 2 ↑s.size) then
 zG
 else
 bif (cm .neq (ar .and .u8 (chr s 0) 8) 0) then
 bif (Nat.blt (1) (s.size)) then
 bif (cm .geq 2 ↑s.size) then
 .ret (.tup [.agg [.int true .i64 4, .int true .i64 8, .int true .i64 0, .int true .i64 0, .int true .i64 0], .bool true false]) []
 else
 bif (Nat.blt (2) (s.size)) then
 bif (Nat.blt (2) (s.size)) then
 .ret (.tup [(.agg [.int true .i64 4, .int true .i64 8, (.int false .i64 (ar .or .i64 (conv .i64 (ar .and .u8 (chr s 2) 7)) (ar .shl .i64 (conv .i64 (ar .and .u8 (chr s 0) 1)) 3))), (.int false .i64 (ar .or .i64 (conv .i64 (ar .and .u8 (ar .shr .u8 (chr s 2) 3) 7)) (ar .shl .i64 (conv .i64 (ar .and .u8 (chr s 0) 4)) 1))), .int true .i64 0]), .bool true true]) []
 else .bad
 else .bad
 else .bad
 else
 bif (Nat.blt (1) (s.size)) then
 bif (cm .geq 2 ↑s.size) then
 .ret (.tup [.agg [.int true .i64 4, .int true .i64 4, .int true .i64 0, .int true .i64 0, .int true .i64 0], .bool true false]) []
 else
 bif (Nat.blt (2) (s.size)) then
 bif (Nat.blt (2) (s.size)) then
 .ret (.tup [(.agg [.int true .i64 4, .int true .i64 4, (.int false .i64 (ar .or .i64 (conv .i64 (ar .and .u8 (chr s 2) 7)) (ar .shl .i64 (conv .i64 (ar .and .u8 (chr s 0) 1)) 3))), (.int false .i64 (ar .or .i64 (conv .i64 (ar .and .u8 (ar .shr .u8 (chr s 2) 3) 7)) (ar .shl .i64 (conv .i64 (ar .and .u8 (chr s 0) 4)) 1))), .int true .i64 0]), .bool true true]) []
 else .bad
 else .bad
 else .bad
 else .bad) := by kernel_rfl

theorem gn_4 (s : ByteArray) : (evalF (E26 false) Try.prog 26 [.int true .i64 4, .agg [.int true .i64 0, .str ⟨#[1]⟩, .int true .i64 0, .bool true false, .int true .i64 0, .bool true false, .bool true false], .str s] [] 1024).bare =
    (bif (preOk false s == false) then
 zG
 else .bad) := by kernel_rfl

theorem gy_5 (s : ByteArray) : (evalF (E26 true) Try.prog 26 [.int true .i64 5, .agg [.int true .i64 0, .str ⟨#[41]⟩, .int true .i64 0, .bool true false, .int true .i64 0, .bool true false, .bool true false], .str s] [] 1024).bare =
    (bif (preOk false s == true) then
 bif (cm .gtr 2 ↑s.size) then
 zG
 else
 bif (cm .neq (ar .and .u8 (chr s 0) 8) 0) then
 bif (Nat.blt (1) (s.size)) then
 bif (cm .geq 2 ↑s.size) then
 .ret (.tup [.agg [.int true .i64 5, .int true .i64 8, .int true .i64 0, .int true .i64 0, .int true .i64 0], .bool true false]) []
 else
 bif (Nat.blt (2) (s.size)) then
 bif (Nat.blt (2) (s.size)) then
 .ret (.tup [(.agg [.int true .i64 5, .int true .i64 8, (.int false .i64 (ar .or .i64 (conv .i64 (ar .and .u8 (chr s 2) 7)) (ar .shl .i64 (conv .i64 (ar .and .u8 (chr s 0) 1)) 3))), (.int false .i64 (ar .or .i64 (conv .i64 (ar .and .u8 (ar .shr .u8 (chr s 2) 3) 7)) (ar .shl .i64 (conv .i64 (ar .and .u8 (chr s 0) 4)) 1))), .int true .i64 0]), .bool true true]) []
 else .bad
 else .bad
 else .bad
 else
 bif (Nat.blt (1) (s.size)) then
 bif (cm .geq 2 ↑s.size) then
 .ret (.tup [.agg [.int true .i64 5, .int true .i64 4, .int true .i64 0, .int true .i64 0, .int true .i64 0], .bool true false]) []
 else
 bif (Nat.blt (2) (s.size)) then
 bif (Nat.blt (2) (s.size)) then
 .ret (.tup [(.agg [.int true .i64 5, .int true .i64 4, (.int false .i64 (ar .or .i64 (conv .i64 (ar .and .u8 (chr s 2) 7)) (ar .shl .i64 (conv .i64 (ar .and .u8 (chr s 0) 1)) 3))), (.int false .i64 (ar .or .i64 (conv .i64 (ar .and .u8 (ar .shr .u8 (chr s 2) 3) 7)) (ar .shl .i64 (conv .i64 (ar .and .u8 (chr s 0) 4)) 1))), .int true .i64 0]), .bool true true]) []
 else .bad
 else .bad
 else .bad
 else .bad) := by kernel_rfl

theorem gn_5 (s : ByteArray) : (evalF (E26 false) Try.prog 26 [.int true .i64 5, .agg [.int true .i64 0, .str ⟨#[41]⟩, .int true .i64 0, .bool true false, .int true .i64 0, .bool true false, .bool true false], .str s] [] 1024).bare =
    (bif (preOk false s == false) then
 zG
 else .bad) := by kernel_rfl

theorem gy_6 (s : ByteArray) : (evalF (E26 true) Try.prog 26 [.int true .i64 6, .agg [.int true .i64 0, .str ⟨#[33]⟩, .int true .i64 0, .bool true false, .int true .i64 0, .bool true false, .bool true false], .str s] [] 1024).bare =
    (bif (preOk false s == true) then
 bif (cm .gtr 2 ↑s.size) then
 zG
 else
 bif (cm .neq (ar .and .u8 (chr s 0) 8) 0) then
 bif (Nat.blt (1) (s.size)) then
 bif (cm .geq 2 ↑s.size) then
 .ret (.tup [.agg [.int true .i64 6, .int true .i64 8, .int true .i64 0, .int true .i64 0, .int true .i64 0], .bool true false]) []
 else
 bif (Nat.blt (2) (s.size)) then
 bif (Nat.blt (2) (s.size)) then
 .ret (.tup [(.agg [.int true .i64 6, .int true .i64 8, (.int false .i64 (ar .or .i64 (conv .i64 (ar .and .u8 (chr s 2) 7)) (ar .shl .i64 (conv .i64 (ar .and .u8 (chr s 0) 1)) 3))), (.int false .i64 (ar .or .i64 (conv .i64 (ar .and .u8 (ar .shr .u8 (chr s 2) 3) 7)) (ar .shl .i64 (conv .i64 (ar .and .u8 (chr s 0) 4)) 1))), .int true .i64 0]), .bool true true]) []
 else .bad
 else .bad
 else .bad
 else
 bif (Nat.blt (1) (s.size)) then
 bif (cm .geq 2 ↑s.size) then
 .ret (.tup [.agg [.int true .i64 6, .int true .i64 4, .int true .i64 0, .int true .i64 0, .int true .i64 0], .bool true false]) []
 else
 bif (Nat.blt (2) (s.size)) then
 bif (Nat.blt (2) (s.size)) then
 .ret (.tup [(.agg [.int true .i64 6, .int true .i64 4, (.int false .i64 (ar .or .i64 (conv .i64 (ar .and .u8 (chr s 2) 7)) (ar .shl .i64 (conv .i64 (ar .and .u8 (chr s 0) 1)) 3))), (.int false .i64 (ar .or .i64 (conv .i64 (ar .and .u8 (ar .shr .u8 (chr s 2) 3) 7)) (ar .shl .i64 (conv .i64 (ar .and .u8 (chr s 0) 4)) 1))), .int true .i64 0]), .bool true true]) []
 else .bad
 else .bad
 else .bad
 else .bad) := by kernel_rfl

theorem gn_6 (s : ByteArray) : (evalF (E26 false) Try.prog 26 [.int true .i64 6, .agg [.int true .i64 0, .str ⟨#[33]⟩, .int true .i64 0, .bool true false, .int true .i64 0, .bool true false, .bool true false], .str s] [] 1024).bare =
    (bif (preOk false s == false) then
 zG
 else .bad) := by kernel_rfl

theorem gy_7 (s : ByteArray) : (evalF (E26 true) Try.prog 26 [.int true .i64 7, .agg [.int true .i64 0, .str ⟨#[9]⟩, .int true .i64 0, .bool true false, .int true .i64 0, .bool true false, .bool true false], .str s] [] 1024).bare =
    (bif (preOk false s == true) then
 bif (cm .gtr 2 ↑s.size) then
 zG
 else
 bif (cm .neq (ar .and .u8 (chr s 0) 8) 0) then
 bif (Nat.blt (1) (s.size)) then
 bif (cm .geq 2 ↑s.size) then
 .ret (.tup [.agg [.int true .i64 7, .int true .i64 8, .int true .i64 0, .int true .i64 0, .int true .i64 0], .bool true false]) []
 else
 bif (Nat.blt (2) (s.size)) then
 bif (Nat.blt (2) (s.size)) then
 .ret (.tup [(.agg [.int true .i64 7, .int true .i64 8, (.int false .i64 (ar .or .i64 (conv .i64 (ar .and .u8 (chr s 2) 7)) (ar .shl .i64 (conv .i64 (ar .and .u8 (chr s 0) 1)) 3))), (.int false .i64 (ar .or .i64 (conv .i64 (ar .and .u8 (ar .shr .u8 (chr s 2) 3) 7)) (ar .shl .i64 (conv .i64 (ar .and .u8 (chr s 0) 4)) 1))), .int true .i64 0]), .bool true true]) []
 else .bad
 else .bad
 else .bad
 else
 bif (Nat.blt (1) (s.size)) then
 bif (cm .geq 2 ↑s.size) then
 .ret (.tup [.agg [.int true .i64 7, .int true .i64 4, .int true .i64 0, .int true .i64 0, .int true .i64 0], .bool true false]) []
 else
 bif (Nat.blt (2) (s.size)) then
 bif (Nat.blt (2) (s.size)) then
 .ret (.tup [(.agg [.int true .i64 7, .int true .i64 4, (.int false .i64 (ar .or .i64 (conv .i64 (ar .and .u8 (chr s 2) 7)) (ar .shl .i64 (conv .i64 (ar .and .u8 (chr s 0) 1)) 3))), (.int false .i64 (ar .or .i64 (conv .i64 (ar .and .u8 (ar .shr .u8 (chr s 2) 3) 7)) (ar .shl .i64 (conv .i64 (ar .and .u8 (chr s 0) 4)) 1))), .int true .i64 0]), .bool true true]) []
 else .bad
 else .bad
 else .bad
 else .bad) := by kernel_rfl

theorem gn_7 (s : ByteArray) : (evalF (E26 false) Try.prog 26 [.int true .i64 7, .agg [.int true .i64 0, .str ⟨#[9]⟩, .int true .i64 0, .bool true false, .int true .i64 0, .bool true false, .bool true false], .str s] [] 1024).bare =
    (bif (preOk false s == false) then
 zG
 else .bad) := by kernel_rfl

theorem gy_8 (s : ByteArray) : (evalF (E26 true) Try.prog 26 [.int true .i64 8, .agg [.int true .i64 0, .str ⟨#[49]⟩, .int true .i64 0, .bool true false, .int true .i64 0, .bool true false, .bool true false], .str s] [] 1024).bare =
    (bif (preOk false s == true) then
 bif (cm .gtr 2 ↑s.size) then
 zG
 else
 bif (cm .neq (ar .and .u8 (chr s 0) 8) 0) then
 bif (Nat.blt (1) (s.size)) then
 bif (cm .geq 2 ↑s.size) then
 .ret (.tup [.agg [.int true .i64 8, .int true .i64 8, .int true .i64 0, .int true .i64 0, .int true .i64 0], .bool true false]) []
 else
 bif (Nat.blt (2) (s.size)) then
 bif (Nat.blt (2) (s.size)) then
 .ret (.tup [(.agg [.int true .i64 8, .int true .i64 8, (.int false .i64 (ar .or .i64 (conv .i64 (ar .and .u8 (chr s 2) 7)) (ar .shl .i64 (conv .i64 (ar .and .u8 (chr s 0) 1)) 3))), (.int false .i64 (ar .or .i64 (conv .i64 (ar .and .u8 (ar .shr .u8 (chr s 2) 3) 7)) (ar .shl .i64 (conv .i64 (ar .and .u8 (chr s 0) 4)) 1))), .int true .i64 0]), .bool true true]) []
 else .bad
 else .bad
 else .bad
 else
 bif (Nat.blt (1) (s.size)) then
 bif (cm .geq 2 ↑s.size) then
 .ret (.tup [.agg [.int true .i64 8, .int true .i64 4, .int true .i64 0, .int true .i64 0, .int true .i64 0], .bool true false]) []
 else
 bif (Nat.blt (2) (s.size)) then
 bif (Nat.blt (2) (s.size)) then
 .ret (.tup [(.agg [.int true .i64 8, .int true .i64 4, (.int false .i64 (ar .or .i64 (conv .i64 (ar .and .u8 (chr s 2) 7)) (ar .shl .i64 (conv .i64 (ar .and .u8 (chr s 0) 1)) 3))), (.int false .i64 (ar .or .i64 (conv .i64 (ar .and .u8 (ar .shr .u8 (chr s 2) 3) 7)) (ar .shl .i64 (conv .i64 (ar .and .u8 (chr s 0) 4)) 1))), .int true .i64 0]), .bool true true]) []
 else .bad
 else .bad
 else .bad
 else .bad) := by kernel_rfl

theorem gn_8 (s : ByteArray) : (evalF (E26 false) Try.prog 26 [.int true .i64 8, .agg [.int true .i64 0, .str ⟨#[49]⟩, .int true .i64 0, .bool true false, .int true .i64 0, .bool true false, .bool true false], .str s] [] 1024).bare =
    (bif (preOk false s == false) then
 zG
 else .bad) := by kernel_rfl

theorem gy_9 (s : ByteArray) : (evalF (E26 true) Try.prog 26 [.int true .i64 9, .agg [.int true .i64 0, .str ⟨#[57]⟩, .int true .i64 0, .bool true false, .int true .i64 0, .bool true false, .bool true false], .str s] [] 1024).bare =
    (bif (preOk false s == true) then
 bif (cm .gtr 2 ↑s.size) then
 zG
 else
 bif (cm .neq (ar .and .u8 (chr s 0) 8) 0) then
 bif (Nat.blt (1) (s.size)) then
 bif (cm .geq 2 ↑s.size) then
 .ret (.tup [.agg [.int true .i64 9, .int true .i64 8, .int true .i64 0, .int true .i64 0, .int true .i64 0], .bool true false]) []
 else
 bif (Nat.blt (2) (s.size)) then
 bif (Nat.blt (2) (s.size)) then
 .ret (.tup [(.agg [.int true .i64 9, .int true .i64 8, (.int false .i64 (ar .or .i64 (conv .i64 (ar .and .u8 (chr s 2) 7)) (ar .shl .i64 (conv .i64 (ar .and .u8 (chr s 0) 1)) 3))), (.int false .i64 (ar .or .i64 (conv .i64 (ar .and .u8 (ar .shr .u8 (chr s 2) 3) 7)) (ar .shl .i64 (conv .i64 (ar .and .u8 (chr s 0) 4)) 1))), .int true .i64 0]), .bool true true]) []
 else .bad
 else .bad
 else .bad
 else
 bif (Nat.blt (1) (s.size)) then
 bif (cm .geq 2 ↑s.size) then
 .ret (.tup [.agg [.int true .i64 9, .int true .i64 4, .int true .i64 0, .int true .i64 0, .int true .i64 0], .bool true false]) []
 else
 bif (Nat.blt (2) (s.size)) then
 bif (Nat.blt (2) (s.size)) then
 .ret (.tup [(.agg [.int true .i64 9, .int true .i64 4, (.int false .i64 (ar .or .i64 (conv .i64 (ar .and .u8 (chr s 2) 7)) (ar .shl .i64 (conv .i64 (ar .and .u8 (chr s 0) 1)) 3))), (.int false .i64 (ar .or .i64 (conv .i64 (ar .and .u8 (ar .shr .u8 (chr s 2) 3) 7)) (ar .shl .i64 (conv .i64 (ar .and .u8 (chr s 0) 4)) 1))), .int true .i64 0]), .bool true true]) []
 else .bad
 else .bad
 else .bad
 else .bad) := by kernel_rfl

theorem gn_9 (s : ByteArray) : (evalF (E26 false) Try.prog 26 [.int true .i64 9, .agg [.int true .i64 0, .str ⟨#[57]⟩, .int true .i64 0, .bool true false, .int true .i64 0, .bool true false, .bool true false], .str s] [] 1024).bare =
    (bif (preOk false s == false) then
 zG
 else .bad) := by kernel_rfl

theorem gy_10 (s : ByteArray) : (evalF (E26 true) Try.prog 26 [.int true .i64 10, .agg [.int true .i64 0, .str ⟨#[15, 175]⟩, .int true .i64 0, .bool true true, .int true .i64 0, .bool true false, .bool true false], .str s] [] 1024).bare =
    (bif (preOk false s == true) then
 bif (cm .gtr 3 ↑s.size) then
 zG
 else
 bif (cm .neq (ar .and .u8 (chr s 0) 8) 0) then
 bif (Nat.blt (2) (s.size)) then
 bif (cm .geq 3 ↑s.size) then
 .ret (.tup [.agg [.int true .i64 10, .int true .i64 8, .int true .i64 0, .int true .i64 0, .int true .i64 0], .bool true false]) []
 else
 bif (Nat.blt (3) (s.size)) then
 bif (Nat.blt (3) (s.size)) then
 .ret (.tup [(.agg [.int true .i64 10, .int true .i64 8, (.int false .i64 (ar .or .i64 (conv .i64 (ar .and .u8 (ar .shr .u8 (chr s 3) 3) 7)) (ar .shl .i64 (conv .i64 (ar .and .u8 (chr s 0) 4)) 1))), (.int false .i64 (ar .or .i64 (conv .i64 (ar .and .u8 (chr s 3) 7)) (ar .shl .i64 (conv .i64 (ar .and .u8 (chr s 0) 1)) 3))), .int true .i64 0]), .bool true true]) []
 else .bad
 else .bad
 else .bad
 else
 bif (Nat.blt (2) (s.size)) then
 bif (cm .geq 3 ↑s.size) then
 .ret (.tup [.agg [.int true .i64 10, .int true .i64 4, .int true .i64 0, .int true .i64 0, .int true .i64 0], .bool true false]) []
 else
 bif (Nat.blt (3) (s.size)) then
 bif (Nat.blt (3) (s.size)) then
 .ret (.tup [(.agg [.int true .i64 10, .int true .i64 4, (.int false .i64 (ar .or .i64 (conv .i64 (ar .and .u8 (ar .shr .u8 (chr s 3) 3) 7)) (ar .shl .i64 (conv .i64 (ar .and .u8 (chr s 0) 4)) 1))), (.int false .i64 (ar .or .i64 (conv .i64 (ar .and .u8 (chr s 3) 7)) (ar .shl .i64 (conv .i64 (ar .and .u8 (chr s 0) 1)) 3))), .int true .i64 0]), .bool true true]) []
 else .bad
 else .bad
 else .bad
 else .bad) := by kernel_rfl

theorem gn_10 (s : ByteArray) : (evalF (E26 false) Try.prog 26 [.int true .i64 10, .agg [.int true .i64 0, .str ⟨#[15, 175]⟩, .int true .i64 0, .bool true true, .int true .i64 0, .bool true false, .bool true false], .str s] [] 1024).bare =
    (bif (preOk false s == false) then
 zG
 else .bad) := by kernel_rfl

theorem gy_11 (s : ByteArray) : (evalF (E26 true) Try.prog 26 [.int true .i64 11, .agg [.int true .i64 1, .str ⟨#[247]⟩, .int true .i64 3, .bool true false, .int true .i64 0, .bool true false, .bool true false], .str s] [] 1024).bare =
    (bif (preOk false s == true) then
 bif (cm .gtr 2 ↑s.size) then
 zG
 else
 bif (cm .neq (ar .and .u8 (chr s 0) 8) 0) then
 bif (Nat.blt (1) (s.size)) then
 bif (cm .geq 2 ↑s.size) then
 .ret (.tup [.agg [.int true .i64 11, .int true .i64 8, .int true .i64 0, .int true .i64 0, .int true .i64 0], .bool true false]) []
 else
 bif (Nat.blt (2) (s.size)) then
 bif (Nat.blt (2) (s.size)) then
 .ret (.tup [(.agg [.int true .i64 11, .int true .i64 8, (.int false .i64 (ar .or .i64 (conv .i64 (ar .and .u8 (chr s 2) 7)) (ar .shl .i64 (conv .i64 (ar .and .u8 (chr s 0) 1)) 3))), .int true .i64 0, .int true .i64 0]), .bool true true]) []
 else .bad
 else .bad
 else .bad
 else
 bif (Nat.blt (1) (s.size)) then
 bif (cm .geq 2 ↑s.size) then
 .ret (.tup [.agg [.int true .i64 11, .int true .i64 4, .int true .i64 0, .int true .i64 0, .int true .i64 0], .bool true false]) []
 else
 bif (Nat.blt (2) (s.size)) then
 bif (Nat.blt (2) (s.size)) then
 .ret (.tup [(.agg [.int true .i64 11, .int true .i64 4, (.int false .i64 (ar .or .i64 (conv .i64 (ar .and .u8 (chr s 2) 7)) (ar .shl .i64 (conv .i64 (ar .and .u8 (chr s 0) 1)) 3))), .int true .i64 0, .int true .i64 0]), .bool true true]) []
 else .bad
 else .bad
 else .bad
 else .bad) := by kernel_rfl

theorem gn_11 (s : ByteArray) : (evalF (E26 false) Try.prog 26 [.int true .i64 11, .agg [.int true .i64 1, .str ⟨#[247]⟩, .int true .i64 3, .bool true false, .int true .i64 0, .bool true false, .bool true false], .str s] [] 1024).bare =
    (bif (preOk false s == false) then
 zG
 else .bad) := by kernel_rfl

theorem gy_12 (s : ByteArray) : (evalF (E26 true) Try.prog 26 [.int true .i64 12, .agg [.int true .i64 1, .str ⟨#[247]⟩, .int true .i64 2, .bool true false, .int true .i64 0, .bool true false, .bool true false], .str s] [] 1024).bare =
    (bif (preOk false s == true) then
 bif (cm .gtr 2 ↑s.size) then
 zG
 else
 bif (cm .neq (ar .and .u8 (chr s 0) 8) 0) then
 bif (Nat.blt (1) (s.size)) then
 bif (cm .geq 2 ↑s.size) then
 .ret (.tup [.agg [.int true .i64 12, .int true .i64 8, .int true .i64 0, .int true .i64 0, .int true .i64 0], .bool true false]) []
 else
 bif (Nat.blt (2) (s.size)) then
 bif (Nat.blt (2) (s.size)) then
 .ret (.tup [(.agg [.int true .i64 12, .int true .i64 8, (.int false .i64 (ar .or .i64 (conv .i64 (ar .and .u8 (chr s 2) 7)) (ar .shl .i64 (conv .i64 (ar .and .u8 (chr s 0) 1)) 3))), .int true .i64 0, .int true .i64 0]), .bool true true]) []
 else .bad
 else .bad
 else .bad
 else
 bif (Nat.blt (1) (s.size)) then
 bif (cm .geq 2 ↑s.size) then
 .ret (.tup [.agg [.int true .i64 12, .int true .i64 4, .int true .i64 0, .int true .i64 0, .int true .i64 0], .bool true false]) []
 else
 bif (Nat.blt (2) (s.size)) then
 bif (Nat.blt (2) (s.size)) then
 .ret (.tup [(.agg [.int true .i64 12, .int true .i64 4, (.int false .i64 (ar .or .i64 (conv .i64 (ar .and .u8 (chr s 2) 7)) (ar .shl .i64 (conv .i64 (ar .and .u8 (chr s 0) 1)) 3))), .int true .i64 0, .int true .i64 0]), .bool true true]) []
 else .bad
 else .bad
 else .bad
 else .bad) := by kernel_rfl

theorem gn_12 (s : ByteArray) : (evalF (E26 false) Try.prog 26 [.int true .i64 12, .agg [.int true .i64 1, .str ⟨#[247]⟩, .int true .i64 2, .bool true false, .int true .i64 0, .bool true false, .bool true false], .str s] [] 1024).bare =
    (bif (preOk false s == false) then
 zG
 else .bad) := by kernel_rfl

end Go.X
end
