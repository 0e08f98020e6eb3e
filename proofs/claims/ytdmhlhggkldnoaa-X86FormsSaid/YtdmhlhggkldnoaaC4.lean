/-
  x86: trees of Encode, op by op. Laid by the tool '#leafv'.
-/
import Derived.Test.YtdmhlhggkldnoaaC3
set_option linter.unusedSimpArgs false
set_option linter.unusedVariables false
section
set_option linter.unusedVariables false
open Go Go.Ev Go.Proofs
namespace Go.X

theorem t7_37 (w : Int) (rd : Int) (rs : Int) (n : Int) : (T7 37 w rd rs n).bare =
    (bif (bif cm .neq w 4 then bif cm .neq w 8 then true else bif cm .neq w 8 then true else !bif bif cm .geq rd 0 then cm .lss rd 16 else false then bif bif cm .geq rs 0 then cm .lss rs 16 else false then cm .neq (ar .and .i64 rs 7) 4 else false else false else bif cm .neq w 8 then true else !bif bif cm .geq rd 0 then cm .lss rd 16 else false then bif bif cm .geq rs 0 then cm .lss rs 16 else false then cm .neq (ar .and .i64 rs 7) 4 else false else false) then
 .ret (.tup [.str ⟨#[]⟩, .int true .i64 1]) []
 else
 bif (bif !bif cm .geq n (-2147483648) then cm .leq n 2147483647 else false then cm .neq 2 7 else false) then
 .ret (.tup [.str ⟨#[]⟩, .int true .i64 10]) []
 else
 bif (bif cm .eql w 8 then allB [decide (0 ≤ 3), decide (0 ≤ 2), decide (0 ≤ 3)] else allB [decide (0 ≤ 3), decide (0 ≤ 2), decide (0 ≤ 3)]) then
 .ret (.tup [(.str (strOf (cat (1 + (ByteArray.mk #[141]).size + 1) (cat (1 + (ByteArray.mk #[141]).size) (cat 1 (nth [bif cm .eql w 8 then ar .or .u8 (ar .or .u8 (ar .or .u8 64 8) (ar .shl .u8 (conv .u8 (ar .shr .i64 rd 3)) 2)) (conv .u8 (ar .shr .i64 rs 3)) else ar .or .u8 (ar .or .u8 64 (ar .shl .u8 (conv .u8 (ar .shr .i64 rd 3)) 2)) (conv .u8 (ar .shr .i64 rs 3))] 0) (chr (ByteArray.mk #[141]))) (nth [ar .or .u8 (ar .or .u8 128 (ar .shl .u8 (conv .u8 (ar .and .i64 rd 7)) 3)) (conv .u8 (ar .and .i64 rs 7))] 0)) (bat n)) (1 + (ByteArray.mk #[141]).size + 1 + Int.toNat 4))), .int true .i64 0]) []
 else .bad) := by kernel_rfl

theorem t7_38 (w : Int) (rd : Int) (rs : Int) (n : Int) : (T7 38 w rd rs n).bare =
    (bif (bif cm .neq w 4 then bif cm .neq w 8 then true else bif cm .neq w 4 then true else !bif bif cm .geq rd 0 then cm .lss rd 16 else false then bif cm .eql rs 0 then cm .eql n 0 else false else false else bif cm .neq w 4 then true else !bif bif cm .geq rd 0 then cm .lss rd 16 else false then bif cm .eql rs 0 then cm .eql n 0 else false else false) then
 .ret (.tup [.str ⟨#[]⟩, .int true .i64 1]) []
 else
 bif (bif cm .eql w 8 then allB [decide (0 ≤ 3), decide (0 ≤ 2), decide (0 ≤ 3)] else allB [decide (0 ≤ 3), decide (0 ≤ 2), decide (0 ≤ 3)]) then
 .ret (.tup [(.str (strOf (cat (1 + (ByteArray.mk #[80]).size) (cat 1 (nth [bif cm .eql w 8 then ar .or .u8 (ar .or .u8 (ar .or .u8 64 8) (ar .shl .u8 (conv .u8 (ar .shr .i64 0 3)) 2)) (conv .u8 (ar .shr .i64 rd 3)) else ar .or .u8 (ar .or .u8 64 (ar .shl .u8 (conv .u8 (ar .shr .i64 0 3)) 2)) (conv .u8 (ar .shr .i64 rd 3))] 0) (upd (chr (ByteArray.mk #[80])) (ar .sub .i64 (↑(ByteArray.mk #[80]).size) 1).toNat (ar .add .u8 (chr (ByteArray.mk #[80]) (ar .sub .i64 (↑(ByteArray.mk #[80]).size) 1).toNat) (conv .u8 (ar .and .i64 rd 7))))) (bat n)) (1 + (ByteArray.mk #[80]).size + Int.toNat 0))), .int true .i64 0]) []
 else .bad) := by kernel_rfl

theorem t7_39 (w : Int) (rd : Int) (rs : Int) (n : Int) : (T7 39 w rd rs n).bare =
    (bif (bif cm .neq w 4 then bif cm .neq w 8 then true else bif cm .neq w 4 then true else !bif bif cm .geq rd 0 then cm .lss rd 16 else false then bif cm .eql rs 0 then cm .eql n 0 else false else false else bif cm .neq w 4 then true else !bif bif cm .geq rd 0 then cm .lss rd 16 else false then bif cm .eql rs 0 then cm .eql n 0 else false else false) then
 .ret (.tup [.str ⟨#[]⟩, .int true .i64 1]) []
 else
 bif (bif cm .eql w 8 then allB [decide (0 ≤ 3), decide (0 ≤ 2), decide (0 ≤ 3)] else allB [decide (0 ≤ 3), decide (0 ≤ 2), decide (0 ≤ 3)]) then
 .ret (.tup [(.str (strOf (cat (1 + (ByteArray.mk #[88]).size) (cat 1 (nth [bif cm .eql w 8 then ar .or .u8 (ar .or .u8 (ar .or .u8 64 8) (ar .shl .u8 (conv .u8 (ar .shr .i64 0 3)) 2)) (conv .u8 (ar .shr .i64 rd 3)) else ar .or .u8 (ar .or .u8 64 (ar .shl .u8 (conv .u8 (ar .shr .i64 0 3)) 2)) (conv .u8 (ar .shr .i64 rd 3))] 0) (upd (chr (ByteArray.mk #[88])) (ar .sub .i64 (↑(ByteArray.mk #[88]).size) 1).toNat (ar .add .u8 (chr (ByteArray.mk #[88]) (ar .sub .i64 (↑(ByteArray.mk #[88]).size) 1).toNat) (conv .u8 (ar .and .i64 rd 7))))) (bat n)) (1 + (ByteArray.mk #[88]).size + Int.toNat 0))), .int true .i64 0]) []
 else .bad) := by kernel_rfl

theorem t7_40 (w : Int) (rd : Int) (rs : Int) (n : Int) : (T7 40 w rd rs n).bare =
    (bif (bif cm .neq w 4 then bif cm .neq w 8 then true else bif cm .neq w 4 then true else !bif cm .eql rd 0 then cm .eql rs 0 else false else bif cm .neq w 4 then true else !bif cm .eql rd 0 then cm .eql rs 0 else false) then
 .ret (.tup [.str ⟨#[]⟩, .int true .i64 1]) []
 else
 bif (bif !bif cm .geq n (-2147483648) then cm .leq n 2147483647 else false then cm .neq 8 7 else false) then
 .ret (.tup [.str ⟨#[]⟩, .int true .i64 10]) []
 else
 .ret (.tup [.str (strOf (cat (ByteArray.mk #[232]).size (chr (ByteArray.mk #[232])) (bat n)) ((ByteArray.mk #[232]).size + Int.toNat 4)), .int true .i64 0]) []) := by kernel_rfl

theorem t7_41 (w : Int) (rd : Int) (rs : Int) (n : Int) : (T7 41 w rd rs n).bare =
    (bif (bif cm .neq w 4 then bif cm .neq w 8 then true else bif cm .neq w 4 then true else !bif cm .eql rd 0 then bif cm .eql rs 0 then cm .eql n 0 else false else false else bif cm .neq w 4 then true else !bif cm .eql rd 0 then bif cm .eql rs 0 then cm .eql n 0 else false else false) then
 .ret (.tup [.str ⟨#[]⟩, .int true .i64 1]) []
 else
 .ret (.tup [.str (strOf (cat (ByteArray.mk #[195]).size (chr (ByteArray.mk #[195])) (bat n)) ((ByteArray.mk #[195]).size + Int.toNat 0)), .int true .i64 0]) []) := by kernel_rfl

theorem t7_42 (w : Int) (rd : Int) (rs : Int) (n : Int) : (T7 42 w rd rs n).bare =
    (bif (bif cm .neq w 4 then bif cm .neq w 8 then true else bif cm .neq w 4 then true else !bif cm .eql rd 0 then cm .eql rs 0 else false else bif cm .neq w 4 then true else !bif cm .eql rd 0 then cm .eql rs 0 else false) then
 .ret (.tup [.str ⟨#[]⟩, .int true .i64 1]) []
 else
 bif (bif !bif cm .geq n (-2147483648) then cm .leq n 2147483647 else false then cm .neq 8 7 else false) then
 .ret (.tup [.str ⟨#[]⟩, .int true .i64 10]) []
 else
 .ret (.tup [.str (strOf (cat (ByteArray.mk #[233]).size (chr (ByteArray.mk #[233])) (bat n)) ((ByteArray.mk #[233]).size + Int.toNat 4)), .int true .i64 0]) []) := by kernel_rfl

theorem t7_43 (w : Int) (rd : Int) (rs : Int) (n : Int) : (T7 43 w rd rs n).bare =
    (bif (bif cm .neq w 4 then bif cm .neq w 8 then true else bif cm .neq w 4 then true else !bif cm .eql rd 0 then cm .eql rs 0 else false else bif cm .neq w 4 then true else !bif cm .eql rd 0 then cm .eql rs 0 else false) then
 .ret (.tup [.str ⟨#[]⟩, .int true .i64 1]) []
 else
 bif (bif !bif cm .geq n (-128) then cm .leq n 127 else false then cm .neq 9 7 else false) then
 .ret (.tup [.str ⟨#[]⟩, .int true .i64 10]) []
 else
 .ret (.tup [.str (strOf (cat (ByteArray.mk #[235]).size (chr (ByteArray.mk #[235])) (bat n)) ((ByteArray.mk #[235]).size + Int.toNat 1)), .int true .i64 0]) []) := by kernel_rfl

theorem t7_44 (w : Int) (rd : Int) (rs : Int) (n : Int) : (T7 44 w rd rs n).bare =
    (bif (bif cm .neq w 4 then bif cm .neq w 8 then true else bif cm .neq w 4 then true else !bif bif cm .geq rd 2 then bif cm .leq rd 7 then true else bif cm .geq rd 12 then cm .leq rd 15 else false else bif cm .geq rd 12 then cm .leq rd 15 else false then cm .eql rs 0 else false else bif cm .neq w 4 then true else !bif bif cm .geq rd 2 then bif cm .leq rd 7 then true else bif cm .geq rd 12 then cm .leq rd 15 else false else bif cm .geq rd 12 then cm .leq rd 15 else false then cm .eql rs 0 else false) then
 .ret (.tup [.str ⟨#[]⟩, .int true .i64 1]) []
 else
 bif (bif !bif cm .geq n (-2147483648) then cm .leq n 2147483647 else false then cm .neq 10 7 else false) then
 .ret (.tup [.str ⟨#[]⟩, .int true .i64 10]) []
 else
 .ret (.tup [(.str (strOf (cat (ByteArray.mk #[15, 128]).size (upd (chr (ByteArray.mk #[15, 128])) (ar .sub .i64 (↑(ByteArray.mk #[15, 128]).size) 1).toNat (ar .add .u8 (chr (ByteArray.mk #[15, 128]) (ar .sub .i64 (↑(ByteArray.mk #[15, 128]).size) 1).toNat) (conv .u8 rd))) (bat n)) ((ByteArray.mk #[15, 128]).size + Int.toNat 4))), .int true .i64 0]) []) := by kernel_rfl

theorem t7_45 (w : Int) (rd : Int) (rs : Int) (n : Int) : (T7 45 w rd rs n).bare =
    (bif (bif cm .neq w 4 then bif cm .neq w 8 then true else bif cm .neq w 4 then true else !bif bif cm .geq rd 2 then bif cm .leq rd 7 then true else bif cm .geq rd 12 then cm .leq rd 15 else false else bif cm .geq rd 12 then cm .leq rd 15 else false then cm .eql rs 0 else false else bif cm .neq w 4 then true else !bif bif cm .geq rd 2 then bif cm .leq rd 7 then true else bif cm .geq rd 12 then cm .leq rd 15 else false else bif cm .geq rd 12 then cm .leq rd 15 else false then cm .eql rs 0 else false) then
 .ret (.tup [.str ⟨#[]⟩, .int true .i64 1]) []
 else
 bif (bif !bif cm .geq n (-128) then cm .leq n 127 else false then cm .neq 11 7 else false) then
 .ret (.tup [.str ⟨#[]⟩, .int true .i64 10]) []
 else
 .ret (.tup [(.str (strOf (cat (ByteArray.mk #[112]).size (upd (chr (ByteArray.mk #[112])) (ar .sub .i64 (↑(ByteArray.mk #[112]).size) 1).toNat (ar .add .u8 (chr (ByteArray.mk #[112]) (ar .sub .i64 (↑(ByteArray.mk #[112]).size) 1).toNat) (conv .u8 rd))) (bat n)) ((ByteArray.mk #[112]).size + Int.toNat 1))), .int true .i64 0]) []) := by kernel_rfl

theorem t7_46 (w : Int) (rd : Int) (rs : Int) (n : Int) : (T7 46 w rd rs n).bare =
    (bif (bif cm .neq w 4 then bif cm .neq w 8 then true else bif cm .neq w 4 then true else !bif cm .eql rd 0 then bif cm .eql rs 0 then cm .eql n 0 else false else false else bif cm .neq w 4 then true else !bif cm .eql rd 0 then bif cm .eql rs 0 then cm .eql n 0 else false else false) then
 .ret (.tup [.str ⟨#[]⟩, .int true .i64 1]) []
 else
 .ret (.tup [.str (strOf (cat (ByteArray.mk #[15, 5]).size (chr (ByteArray.mk #[15, 5])) (bat n)) ((ByteArray.mk #[15, 5]).size + Int.toNat 0)), .int true .i64 0]) []) := by kernel_rfl

end Go.X
end

section
set_option linter.unusedVariables false
open Go Go.Ev Go.Proofs
namespace Go.X

attribute [local irreducible] evalF Lf.gives in
theorem enc7_37 (w rd rs n : Int) : (T7 37 w rd rs n).leaf.gives (.tup [.str (strX 37 w rd rs n), .int false .i64 (errX 37 w rd rs n)]) := by
  have hE : errX 37 w rd rs n = (bif (decide (w = 4) || decide (w = 8)) && ((false || decide (w = 8)) && (regX rd && (regX rs && !decide (rs % 8 = 4)))) then (bif ((decide (-2147483648 ≤ n) && decide (n ≤ 2147483647)) || false) then 0 else 10) else 1) := by kernel_rfl
  refine gives_tree (t7_37 w rd rs n) ?_
  refine gives_cond (fun h1 => ?_) (fun h1 => ?_)
  · have hA : ((decide (w = 4) || decide (w = 8)) && ((false || decide (w = 8)) && (regX rd && (regX rs && !decide (rs % 8 = 4))))) = false := by
      simp [cms] at h1 ⊢
      first | done | omega | (split at h1 <;> omega) | ((repeat' split at h1) <;> omega) | skip
    have he : errX 37 w rd rs n = 1 := by rw [hE, hA]; rfl
    exact givesE (strX_bad he (by decide)) he.symm
  · have hA : ((decide (w = 4) || decide (w = 8)) && ((false || decide (w = 8)) && (regX rd && (regX rs && !decide (rs % 8 = 4))))) = true := by
      simp [cms] at h1 ⊢
      first | done | omega | (split at h1 <;> omega) | ((repeat' split at h1) <;> omega) | skip
    refine gives_cond (fun h2 => ?_) (fun h2 => ?_)
    · have hF : ((decide (-2147483648 ≤ n) && decide (n ≤ 2147483647)) || false) = false := by
        simp [cms] at h2 ⊢
        first | done | omega | skip
      have he : errX 37 w rd rs n = 10 := by rw [hE, hA, hF]; rfl
      exact givesE (strX_bad he (by decide)) he.symm
    · have hF : ((decide (-2147483648 ≤ n) && decide (n ≤ 2147483647)) || false) = true := by
        simp [cms] at h2 ⊢
        first | done | omega | skip
      have he : errX 37 w rd rs n = 0 := by rw [hE, hA, hF]; rfl
      refine gives_cond (fun _ => ?_) (fun h3 => ?_)
      case refine_2 => exfalso; revert h3; cases cm .eql w 8 <;> simp [allB]
      have hrd : small rd := by simp [regX] at hA; simp only [small]; omega
      have hrs : small rs := by simp [regX] at hA; simp only [small]; omega
      have hw : w = 4 ∨ w = 8 := by simp at hA; omega
      refine givesE ?_ he.symm
      rw [strX_ok he, strOf_S]
      exact congrArg S (Eq.trans (b := [rexA w rd rs, 141, modA 128 rd rs, bat n 0, bat n 1, bat n 2, bat n 3]) (by kernel_rfl) (Eq.trans (b := [rexI w rd rs, 141, modI 128 rd rs, bat n 0, bat n 1, bat n 2, bat n 3]) (by rw [rexA_eq hw hrd hrs, modA_eq (.inr rfl) hrd hrs]) (by kernel_rfl)))

attribute [local irreducible] evalF Lf.gives in
theorem enc7_38 (w rd rs n : Int) : (T7 38 w rd rs n).leaf.gives (.tup [.str (strX 38 w rd rs n), .int false .i64 (errX 38 w rd rs n)]) := by
  have hE : errX 38 w rd rs n = (bif (decide (w = 4) || decide (w = 8)) && ((false || decide (w = 4)) && (regX rd && (decide (rs = 0) && decide (n = 0)))) then (bif ((true) || false) then 0 else 10) else 1) := by kernel_rfl
  refine gives_tree (t7_38 w rd rs n) ?_
  refine gives_cond (fun h1 => ?_) (fun h1 => ?_)
  · have hA : ((decide (w = 4) || decide (w = 8)) && ((false || decide (w = 4)) && (regX rd && (decide (rs = 0) && decide (n = 0))))) = false := by
      simp [cms] at h1 ⊢
      first | done | omega | (split at h1 <;> omega) | ((repeat' split at h1) <;> omega) | skip
    have he : errX 38 w rd rs n = 1 := by rw [hE, hA]; rfl
    exact givesE (strX_bad he (by decide)) he.symm
  · have hA : ((decide (w = 4) || decide (w = 8)) && ((false || decide (w = 4)) && (regX rd && (decide (rs = 0) && decide (n = 0))))) = true := by
      simp [cms] at h1 ⊢
      first | done | omega | (split at h1 <;> omega) | ((repeat' split at h1) <;> omega) | skip
    have he : errX 38 w rd rs n = 0 := by rw [hE, hA]; rfl
    refine gives_cond (fun _ => ?_) (fun h3 => ?_)
    case refine_2 => exfalso; revert h3; cases cm .eql w 8 <;> simp [allB]
    have hrd : small rd := by simp [regX] at hA; simp only [small]; omega
    have hw : w = 4 ∨ w = 8 := by simp at hA; omega
    refine givesE ?_ he.symm
    rw [strX_ok he, strOf_S]
    exact congrArg S (Eq.trans (b := [rexA w 0 rd, ar .add .u8 80 (conv .u8 (ar .and .i64 rd 7))]) (by kernel_rfl) (Eq.trans (b := [rexI w 0 rd, 80 + rd % 8]) (by rw [rexA_eq hw (by decide : small 0) hrd, addReg (by decide) hrd]) (by kernel_rfl)))

attribute [local irreducible] evalF Lf.gives in
theorem enc7_39 (w rd rs n : Int) : (T7 39 w rd rs n).leaf.gives (.tup [.str (strX 39 w rd rs n), .int false .i64 (errX 39 w rd rs n)]) := by
  have hE : errX 39 w rd rs n = (bif (decide (w = 4) || decide (w = 8)) && ((false || decide (w = 4)) && (regX rd && (decide (rs = 0) && decide (n = 0)))) then (bif ((true) || false) then 0 else 10) else 1) := by kernel_rfl
  refine gives_tree (t7_39 w rd rs n) ?_
  refine gives_cond (fun h1 => ?_) (fun h1 => ?_)
  · have hA : ((decide (w = 4) || decide (w = 8)) && ((false || decide (w = 4)) && (regX rd && (decide (rs = 0) && decide (n = 0))))) = false := by
      simp [cms] at h1 ⊢
      first | done | omega | (split at h1 <;> omega) | ((repeat' split at h1) <;> omega) | skip
    have he : errX 39 w rd rs n = 1 := by rw [hE, hA]; rfl
    exact givesE (strX_bad he (by decide)) he.symm
  · have hA : ((decide (w = 4) || decide (w = 8)) && ((false || decide (w = 4)) && (regX rd && (decide (rs = 0) && decide (n = 0))))) = true := by
      simp [cms] at h1 ⊢
      first | done | omega | (split at h1 <;> omega) | ((repeat' split at h1) <;> omega) | skip
    have he : errX 39 w rd rs n = 0 := by rw [hE, hA]; rfl
    refine gives_cond (fun _ => ?_) (fun h3 => ?_)
    case refine_2 => exfalso; revert h3; cases cm .eql w 8 <;> simp [allB]
    have hrd : small rd := by simp [regX] at hA; simp only [small]; omega
    have hw : w = 4 ∨ w = 8 := by simp at hA; omega
    refine givesE ?_ he.symm
    rw [strX_ok he, strOf_S]
    exact congrArg S (Eq.trans (b := [rexA w 0 rd, ar .add .u8 88 (conv .u8 (ar .and .i64 rd 7))]) (by kernel_rfl) (Eq.trans (b := [rexI w 0 rd, 88 + rd % 8]) (by rw [rexA_eq hw (by decide : small 0) hrd, addReg (by decide) hrd]) (by kernel_rfl)))

attribute [local irreducible] evalF Lf.gives in
theorem enc7_40 (w rd rs n : Int) : (T7 40 w rd rs n).leaf.gives (.tup [.str (strX 40 w rd rs n), .int false .i64 (errX 40 w rd rs n)]) := by
  have hE : errX 40 w rd rs n = (bif (decide (w = 4) || decide (w = 8)) && ((false || decide (w = 4)) && (decide (rd = 0) && decide (rs = 0))) then (bif ((decide (-2147483648 ≤ n) && decide (n ≤ 2147483647)) || false) then 0 else 10) else 1) := by kernel_rfl
  refine gives_tree (t7_40 w rd rs n) ?_
  refine gives_cond (fun h1 => ?_) (fun h1 => ?_)
  · have hA : ((decide (w = 4) || decide (w = 8)) && ((false || decide (w = 4)) && (decide (rd = 0) && decide (rs = 0)))) = false := by
      simp [cms] at h1 ⊢
      first | done | omega | (split at h1 <;> omega) | ((repeat' split at h1) <;> omega) | skip
    have he : errX 40 w rd rs n = 1 := by rw [hE, hA]; rfl
    exact givesE (strX_bad he (by decide)) he.symm
  · have hA : ((decide (w = 4) || decide (w = 8)) && ((false || decide (w = 4)) && (decide (rd = 0) && decide (rs = 0)))) = true := by
      simp [cms] at h1 ⊢
      first | done | omega | (split at h1 <;> omega) | ((repeat' split at h1) <;> omega) | skip
    refine gives_cond (fun h2 => ?_) (fun h2 => ?_)
    · have hF : ((decide (-2147483648 ≤ n) && decide (n ≤ 2147483647)) || false) = false := by
        simp [cms] at h2 ⊢
        first | done | omega | skip
      have he : errX 40 w rd rs n = 10 := by rw [hE, hA, hF]; rfl
      exact givesE (strX_bad he (by decide)) he.symm
    · have hF : ((decide (-2147483648 ≤ n) && decide (n ≤ 2147483647)) || false) = true := by
        simp [cms] at h2 ⊢
        first | done | omega | skip
      have he : errX 40 w rd rs n = 0 := by rw [hE, hA, hF]; rfl
      refine givesE ?_ he.symm
      rw [strX_ok he, strOf_S]
      exact congrArg S (Eq.trans (b := [232, bat n 0, bat n 1, bat n 2, bat n 3]) (by kernel_rfl) (Eq.trans (b := [232, bat n 0, bat n 1, bat n 2, bat n 3]) (by rfl) (by kernel_rfl)))

attribute [local irreducible] evalF Lf.gives in
theorem enc7_41 (w rd rs n : Int) : (T7 41 w rd rs n).leaf.gives (.tup [.str (strX 41 w rd rs n), .int false .i64 (errX 41 w rd rs n)]) := by
  have hE : errX 41 w rd rs n = (bif (decide (w = 4) || decide (w = 8)) && ((false || decide (w = 4)) && (decide (rd = 0) && (decide (rs = 0) && decide (n = 0)))) then (bif ((true) || false) then 0 else 10) else 1) := by kernel_rfl
  refine gives_tree (t7_41 w rd rs n) ?_
  refine gives_cond (fun h1 => ?_) (fun h1 => ?_)
  · have hA : ((decide (w = 4) || decide (w = 8)) && ((false || decide (w = 4)) && (decide (rd = 0) && (decide (rs = 0) && decide (n = 0))))) = false := by
      simp [cms] at h1 ⊢
      first | done | omega | (split at h1 <;> omega) | ((repeat' split at h1) <;> omega) | skip
    have he : errX 41 w rd rs n = 1 := by rw [hE, hA]; rfl
    exact givesE (strX_bad he (by decide)) he.symm
  · have hA : ((decide (w = 4) || decide (w = 8)) && ((false || decide (w = 4)) && (decide (rd = 0) && (decide (rs = 0) && decide (n = 0))))) = true := by
      simp [cms] at h1 ⊢
      first | done | omega | (split at h1 <;> omega) | ((repeat' split at h1) <;> omega) | skip
    have he : errX 41 w rd rs n = 0 := by rw [hE, hA]; rfl
    refine givesE ?_ he.symm
    rw [strX_ok he, strOf_S]
    exact congrArg S (Eq.trans (b := [195]) (by kernel_rfl) (Eq.trans (b := [195]) (by rfl) (by kernel_rfl)))

attribute [local irreducible] evalF Lf.gives in
theorem enc7_42 (w rd rs n : Int) : (T7 42 w rd rs n).leaf.gives (.tup [.str (strX 42 w rd rs n), .int false .i64 (errX 42 w rd rs n)]) := by
  have hE : errX 42 w rd rs n = (bif (decide (w = 4) || decide (w = 8)) && ((false || decide (w = 4)) && (decide (rd = 0) && decide (rs = 0))) then (bif ((decide (-2147483648 ≤ n) && decide (n ≤ 2147483647)) || false) then 0 else 10) else 1) := by kernel_rfl
  refine gives_tree (t7_42 w rd rs n) ?_
  refine gives_cond (fun h1 => ?_) (fun h1 => ?_)
  · have hA : ((decide (w = 4) || decide (w = 8)) && ((false || decide (w = 4)) && (decide (rd = 0) && decide (rs = 0)))) = false := by
      simp [cms] at h1 ⊢
      first | done | omega | (split at h1 <;> omega) | ((repeat' split at h1) <;> omega) | skip
    have he : errX 42 w rd rs n = 1 := by rw [hE, hA]; rfl
    exact givesE (strX_bad he (by decide)) he.symm
  · have hA : ((decide (w = 4) || decide (w = 8)) && ((false || decide (w = 4)) && (decide (rd = 0) && decide (rs = 0)))) = true := by
      simp [cms] at h1 ⊢
      first | done | omega | (split at h1 <;> omega) | ((repeat' split at h1) <;> omega) | skip
    refine gives_cond (fun h2 => ?_) (fun h2 => ?_)
    · have hF : ((decide (-2147483648 ≤ n) && decide (n ≤ 2147483647)) || false) = false := by
        simp [cms] at h2 ⊢
        first | done | omega | skip
      have he : errX 42 w rd rs n = 10 := by rw [hE, hA, hF]; rfl
      exact givesE (strX_bad he (by decide)) he.symm
    · have hF : ((decide (-2147483648 ≤ n) && decide (n ≤ 2147483647)) || false) = true := by
        simp [cms] at h2 ⊢
        first | done | omega | skip
      have he : errX 42 w rd rs n = 0 := by rw [hE, hA, hF]; rfl
      refine givesE ?_ he.symm
      rw [strX_ok he, strOf_S]
      exact congrArg S (Eq.trans (b := [233, bat n 0, bat n 1, bat n 2, bat n 3]) (by kernel_rfl) (Eq.trans (b := [233, bat n 0, bat n 1, bat n 2, bat n 3]) (by rfl) (by kernel_rfl)))

attribute [local irreducible] evalF Lf.gives in
theorem enc7_43 (w rd rs n : Int) : (T7 43 w rd rs n).leaf.gives (.tup [.str (strX 43 w rd rs n), .int false .i64 (errX 43 w rd rs n)]) := by
  have hE : errX 43 w rd rs n = (bif (decide (w = 4) || decide (w = 8)) && ((false || decide (w = 4)) && (decide (rd = 0) && decide (rs = 0))) then (bif ((decide (-128 ≤ n) && decide (n ≤ 127)) || false) then 0 else 10) else 1) := by kernel_rfl
  refine gives_tree (t7_43 w rd rs n) ?_
  refine gives_cond (fun h1 => ?_) (fun h1 => ?_)
  · have hA : ((decide (w = 4) || decide (w = 8)) && ((false || decide (w = 4)) && (decide (rd = 0) && decide (rs = 0)))) = false := by
      simp [cms] at h1 ⊢
      first | done | omega | (split at h1 <;> omega) | ((repeat' split at h1) <;> omega) | skip
    have he : errX 43 w rd rs n = 1 := by rw [hE, hA]; rfl
    exact givesE (strX_bad he (by decide)) he.symm
  · have hA : ((decide (w = 4) || decide (w = 8)) && ((false || decide (w = 4)) && (decide (rd = 0) && decide (rs = 0)))) = true := by
      simp [cms] at h1 ⊢
      first | done | omega | (split at h1 <;> omega) | ((repeat' split at h1) <;> omega) | skip
    refine gives_cond (fun h2 => ?_) (fun h2 => ?_)
    · have hF : ((decide (-128 ≤ n) && decide (n ≤ 127)) || false) = false := by
        simp [cms] at h2 ⊢
        first | done | omega | skip
      have he : errX 43 w rd rs n = 10 := by rw [hE, hA, hF]; rfl
      exact givesE (strX_bad he (by decide)) he.symm
    · have hF : ((decide (-128 ≤ n) && decide (n ≤ 127)) || false) = true := by
        simp [cms] at h2 ⊢
        first | done | omega | skip
      have he : errX 43 w rd rs n = 0 := by rw [hE, hA, hF]; rfl
      refine givesE ?_ he.symm
      rw [strX_ok he, strOf_S]
      exact congrArg S (Eq.trans (b := [235, bat n 0]) (by kernel_rfl) (Eq.trans (b := [235, bat n 0]) (by rfl) (by kernel_rfl)))

attribute [local irreducible] evalF Lf.gives in
theorem enc7_44 (w rd rs n : Int) : (T7 44 w rd rs n).leaf.gives (.tup [.str (strX 44 w rd rs n), .int false .i64 (errX 44 w rd rs n)]) := by
  have hE : errX 44 w rd rs n = (bif (decide (w = 4) || decide (w = 8)) && ((false || decide (w = 4)) && (condX rd && decide (rs = 0))) then (bif ((decide (-2147483648 ≤ n) && decide (n ≤ 2147483647)) || false) then 0 else 10) else 1) := by kernel_rfl
  refine gives_tree (t7_44 w rd rs n) ?_
  refine gives_cond (fun h1 => ?_) (fun h1 => ?_)
  · have hA : ((decide (w = 4) || decide (w = 8)) && ((false || decide (w = 4)) && (condX rd && decide (rs = 0)))) = false := by
      simp [cms] at h1 ⊢
      first | done | omega | (split at h1 <;> omega) | ((repeat' split at h1) <;> omega) | skip
    have he : errX 44 w rd rs n = 1 := by rw [hE, hA]; rfl
    exact givesE (strX_bad he (by decide)) he.symm
  · have hA : ((decide (w = 4) || decide (w = 8)) && ((false || decide (w = 4)) && (condX rd && decide (rs = 0)))) = true := by
      simp [cms] at h1 ⊢
      first | done | omega | (split at h1 <;> omega) | ((repeat' split at h1) <;> omega) | skip
    refine gives_cond (fun h2 => ?_) (fun h2 => ?_)
    · have hF : ((decide (-2147483648 ≤ n) && decide (n ≤ 2147483647)) || false) = false := by
        simp [cms] at h2 ⊢
        first | done | omega | skip
      have he : errX 44 w rd rs n = 10 := by rw [hE, hA, hF]; rfl
      exact givesE (strX_bad he (by decide)) he.symm
    · have hF : ((decide (-2147483648 ≤ n) && decide (n ≤ 2147483647)) || false) = true := by
        simp [cms] at h2 ⊢
        first | done | omega | skip
      have he : errX 44 w rd rs n = 0 := by rw [hE, hA, hF]; rfl
      have hcd : small rd := by simp [regX, condX] at hA; simp only [small]; omega
      refine givesE ?_ he.symm
      rw [strX_ok he, strOf_S]
      exact congrArg S (Eq.trans (b := [15, ar .add .u8 128 (conv .u8 rd), bat n 0, bat n 1, bat n 2, bat n 3]) (by kernel_rfl) (Eq.trans (b := [15, 128 + rd, bat n 0, bat n 1, bat n 2, bat n 3]) (by rw [addCond (by decide) hcd]) (by kernel_rfl)))

attribute [local irreducible] evalF Lf.gives in
theorem enc7_45 (w rd rs n : Int) : (T7 45 w rd rs n).leaf.gives (.tup [.str (strX 45 w rd rs n), .int false .i64 (errX 45 w rd rs n)]) := by
  have hE : errX 45 w rd rs n = (bif (decide (w = 4) || decide (w = 8)) && ((false || decide (w = 4)) && (condX rd && decide (rs = 0))) then (bif ((decide (-128 ≤ n) && decide (n ≤ 127)) || false) then 0 else 10) else 1) := by kernel_rfl
  refine gives_tree (t7_45 w rd rs n) ?_
  refine gives_cond (fun h1 => ?_) (fun h1 => ?_)
  · have hA : ((decide (w = 4) || decide (w = 8)) && ((false || decide (w = 4)) && (condX rd && decide (rs = 0)))) = false := by
      simp [cms] at h1 ⊢
      first | done | omega | (split at h1 <;> omega) | ((repeat' split at h1) <;> omega) | skip
    have he : errX 45 w rd rs n = 1 := by rw [hE, hA]; rfl
    exact givesE (strX_bad he (by decide)) he.symm
  · have hA : ((decide (w = 4) || decide (w = 8)) && ((false || decide (w = 4)) && (condX rd && decide (rs = 0)))) = true := by
      simp [cms] at h1 ⊢
      first | done | omega | (split at h1 <;> omega) | ((repeat' split at h1) <;> omega) | skip
    refine gives_cond (fun h2 => ?_) (fun h2 => ?_)
    · have hF : ((decide (-128 ≤ n) && decide (n ≤ 127)) || false) = false := by
        simp [cms] at h2 ⊢
        first | done | omega | skip
      have he : errX 45 w rd rs n = 10 := by rw [hE, hA, hF]; rfl
      exact givesE (strX_bad he (by decide)) he.symm
    · have hF : ((decide (-128 ≤ n) && decide (n ≤ 127)) || false) = true := by
        simp [cms] at h2 ⊢
        first | done | omega | skip
      have he : errX 45 w rd rs n = 0 := by rw [hE, hA, hF]; rfl
      have hcd : small rd := by simp [regX, condX] at hA; simp only [small]; omega
      refine givesE ?_ he.symm
      rw [strX_ok he, strOf_S]
      exact congrArg S (Eq.trans (b := [ar .add .u8 112 (conv .u8 rd), bat n 0]) (by kernel_rfl) (Eq.trans (b := [112 + rd, bat n 0]) (by rw [addCond (by decide) hcd]) (by kernel_rfl)))

attribute [local irreducible] evalF Lf.gives in
theorem enc7_46 (w rd rs n : Int) : (T7 46 w rd rs n).leaf.gives (.tup [.str (strX 46 w rd rs n), .int false .i64 (errX 46 w rd rs n)]) := by
  have hE : errX 46 w rd rs n = (bif (decide (w = 4) || decide (w = 8)) && ((false || decide (w = 4)) && (decide (rd = 0) && (decide (rs = 0) && decide (n = 0)))) then (bif ((true) || false) then 0 else 10) else 1) := by kernel_rfl
  refine gives_tree (t7_46 w rd rs n) ?_
  refine gives_cond (fun h1 => ?_) (fun h1 => ?_)
  · have hA : ((decide (w = 4) || decide (w = 8)) && ((false || decide (w = 4)) && (decide (rd = 0) && (decide (rs = 0) && decide (n = 0))))) = false := by
      simp [cms] at h1 ⊢
      first | done | omega | (split at h1 <;> omega) | ((repeat' split at h1) <;> omega) | skip
    have he : errX 46 w rd rs n = 1 := by rw [hE, hA]; rfl
    exact givesE (strX_bad he (by decide)) he.symm
  · have hA : ((decide (w = 4) || decide (w = 8)) && ((false || decide (w = 4)) && (decide (rd = 0) && (decide (rs = 0) && decide (n = 0))))) = true := by
      simp [cms] at h1 ⊢
      first | done | omega | (split at h1 <;> omega) | ((repeat' split at h1) <;> omega) | skip
    have he : errX 46 w rd rs n = 0 := by rw [hE, hA]; rfl
    refine givesE ?_ he.symm
    rw [strX_ok he, strOf_S]
    exact congrArg S (Eq.trans (b := [15, 5]) (by kernel_rfl) (Eq.trans (b := [15, 5]) (by rfl) (by kernel_rfl)))

end Go.X
end
