/-
  rv: contracts of Encode and of the page's Encode.
-/
import Derived.Test.YtngponflocmgiaaC5
import Derived.Test.YtngponflocmgiaaB6
set_option linter.unusedSimpArgs false
set_option linter.unusedVariables false
section
set_option linter.unusedVariables false
open Go Go.Ev Go.Proofs
namespace Go.Rv

theorem fn6 : Try.prog.funcs[74]? = some Try.f74 := by kernel_rfl
theorem fn7 : Try.prog.funcs[30]? = some Try.f30 := by kernel_rfl
theorem b6 : Try.f74.body.isSome = true := by kernel_rfl
theorem b7 : Try.f30.body.isSome = true := by kernel_rfl
theorem n6 : (Try.f74.name == "runtime.NumGoroutine") = false := by kernel_rfl
theorem n7 : (Try.f30.name == "runtime.NumGoroutine") = false := by kernel_rfl

attribute [local irreducible] evalF Lf.gives in
theorem okEnc {f : FuncId} {fn : Func} (hf : Try.prog.funcs[f]? = some fn) (hb : fn.body.isSome = true) (hn : (fn.name == "runtime.NumGoroutine") = false)
    (g : ∀ op rd r1 r2 n : Int, (evalF E1 Try.prog f [.agg [.int false .i64 op, .int false .i64 rd, .int false .i64 r1, .int false .i64 r2, .int false .i64 n]] [] 0).leaf.gives (.tup [.int false .u32 (wordL op rd r1 r2 n), .int false .i64 (errL op rd r1 r2 n)])) : SpecOk Try.prog f sEnc := by
  refine ⟨⟨fn, hf, hb, hn⟩, fun args H nm r h hn => ?_⟩
  unfold sEnc at h
  split at h
  · rename_i op _ rd _ r1 _ r2 _ n
    simp only [Option.some.injEq] at h
    subst h
    refine pure_ok0 (args0 := [.agg [.int false .i64 op, .int false .i64 rd, .int false .i64 r1, .int false .i64 r2, .int false .i64 n]]) e1_calls mixed e1_loop hf hb ?_ (fun σ σ' => by simp only [denL, den]) (by simp only [SV.alL, SV.al, Bool.and_self]) (g op rd r1 r2 n)
    rfl
  · cases h

attribute [local irreducible] evalF Lf.gives in
theorem ok6 : SpecOk Try.prog 74 sEnc := okEnc fn6 b6 n6 g6
attribute [local irreducible] evalF Lf.gives in
theorem ok7 : SpecOk Try.prog 30 sEnc := okEnc fn7 b7 n7 g7

noncomputable def E2 : Env := inl Try.prog (envOf [(72, s12), (50, s18), (74, sEnc), (30, sEnc)] noLoop) plains 3
theorem e2_calls : CallsOk E2 Try.prog := (inl_calls ((SpecsOk.cons ok12 (SpecsOk.cons ok18 (SpecsOk.cons ok6 (SpecsOk.cons ok7 SpecsOk.nil)))).calls noLoop) mixed named1 3).1

end Go.Rv
end

section
set_option linter.unusedVariables false
open Go Go.Ev Go.Proofs
namespace Go.Rv

theorem t22_0 (op : Int) (c1 : Int) (c2 : Int) (c3 : Int) (w : Int) : (evalF E1 Try.prog 73 [SV.int false IntKind.i64 op, SV.agg [SV.int true IntKind.i64 0, SV.int false IntKind.u32 c1, SV.int false IntKind.u32 c2, SV.int false IntKind.u32 c3], SV.int false IntKind.u32 w] [] 0).bare =
    (.ret (.agg [(.int false IntKind.i64 (op)), (.int false IntKind.i64 (conv IntKind.i64 (ar BinOp.and IntKind.u32 (ar BinOp.shr IntKind.u32 w 7) 31))), (.int false IntKind.i64 (conv IntKind.i64 (ar BinOp.and IntKind.u32 (ar BinOp.shr IntKind.u32 w 15) 31))), (.int false IntKind.i64 (conv IntKind.i64 (ar BinOp.and IntKind.u32 (ar BinOp.shr IntKind.u32 w 20) 31))), (.int true IntKind.i64 0)]) []) := by kernel_rfl

theorem t22_1 (op : Int) (c1 : Int) (c2 : Int) (c3 : Int) (w : Int) : (evalF E1 Try.prog 73 [SV.int false IntKind.i64 op, SV.agg [SV.int true IntKind.i64 1, SV.int false IntKind.u32 c1, SV.int false IntKind.u32 c2, SV.int false IntKind.u32 c3], SV.int false IntKind.u32 w] [] 0).bare =
    (.ret (.agg [(.int false IntKind.i64 (op)), (.int false IntKind.i64 (conv IntKind.i64 (ar BinOp.and IntKind.u32 (ar BinOp.shr IntKind.u32 w 7) 31))), (.int false IntKind.i64 (conv IntKind.i64 (ar BinOp.and IntKind.u32 (ar BinOp.shr IntKind.u32 w 15) 31))), (.int true IntKind.i64 0), (.int false IntKind.i64 (conv IntKind.i64 (ar BinOp.shr IntKind.i32 (conv IntKind.i32 (ar BinOp.shl IntKind.u32 (ar BinOp.shr IntKind.u32 w 20) (ar BinOp.sub IntKind.i64 32 12))) (ar BinOp.sub IntKind.i64 32 12))))]) []) := by kernel_rfl

theorem t22_2 (op : Int) (c1 : Int) (c2 : Int) (c3 : Int) (w : Int) : (evalF E1 Try.prog 73 [SV.int false IntKind.i64 op, SV.agg [SV.int true IntKind.i64 2, SV.int false IntKind.u32 c1, SV.int false IntKind.u32 c2, SV.int false IntKind.u32 c3], SV.int false IntKind.u32 w] [] 0).bare =
    (.ret (.agg [(.int false IntKind.i64 (op)), (.int false IntKind.i64 (conv IntKind.i64 (ar BinOp.and IntKind.u32 (ar BinOp.shr IntKind.u32 w 7) 31))), (.int false IntKind.i64 (conv IntKind.i64 (ar BinOp.and IntKind.u32 (ar BinOp.shr IntKind.u32 w 15) 31))), (.int true IntKind.i64 0), (.int false IntKind.i64 (conv IntKind.i64 (ar BinOp.and IntKind.u32 (ar BinOp.shr IntKind.u32 w 20) 63)))]) []) := by kernel_rfl

theorem t22_3 (op : Int) (c1 : Int) (c2 : Int) (c3 : Int) (w : Int) : (evalF E1 Try.prog 73 [SV.int false IntKind.i64 op, SV.agg [SV.int true IntKind.i64 3, SV.int false IntKind.u32 c1, SV.int false IntKind.u32 c2, SV.int false IntKind.u32 c3], SV.int false IntKind.u32 w] [] 0).bare =
    (.ret (.agg [(.int false IntKind.i64 (op)), (.int false IntKind.i64 (conv IntKind.i64 (ar BinOp.and IntKind.u32 (ar BinOp.shr IntKind.u32 w 7) 31))), (.int false IntKind.i64 (conv IntKind.i64 (ar BinOp.and IntKind.u32 (ar BinOp.shr IntKind.u32 w 15) 31))), (.int true IntKind.i64 0), (.int false IntKind.i64 (conv IntKind.i64 (ar BinOp.and IntKind.u32 (ar BinOp.shr IntKind.u32 w 20) 31)))]) []) := by kernel_rfl

theorem t22_4 (op : Int) (c1 : Int) (c2 : Int) (c3 : Int) (w : Int) : (evalF E1 Try.prog 73 [SV.int false IntKind.i64 op, SV.agg [SV.int true IntKind.i64 4, SV.int false IntKind.u32 c1, SV.int false IntKind.u32 c2, SV.int false IntKind.u32 c3], SV.int false IntKind.u32 w] [] 0).bare =
    (.ret (.agg [(.int false IntKind.i64 (op)), (.int true IntKind.i64 0), (.int false IntKind.i64 (conv IntKind.i64 (ar BinOp.and IntKind.u32 (ar BinOp.shr IntKind.u32 w 15) 31))), (.int false IntKind.i64 (conv IntKind.i64 (ar BinOp.and IntKind.u32 (ar BinOp.shr IntKind.u32 w 20) 31))), (.int false IntKind.i64 (conv IntKind.i64 (ar BinOp.shr IntKind.i32 (conv IntKind.i32 (ar BinOp.shl IntKind.u32 (ar BinOp.or IntKind.u32 (ar BinOp.shl IntKind.u32 (ar BinOp.and IntKind.u32 (ar BinOp.shr IntKind.u32 w 7) (ar BinOp.sub IntKind.u32 (ar BinOp.shl IntKind.u32 1 5) 1)) 0) (ar BinOp.shl IntKind.u32 (ar BinOp.and IntKind.u32 (ar BinOp.shr IntKind.u32 w 25) (ar BinOp.sub IntKind.u32 (ar BinOp.shl IntKind.u32 1 7) 1)) 5)) (ar BinOp.sub IntKind.i64 32 12))) (ar BinOp.sub IntKind.i64 32 12))))]) []) := by kernel_rfl

theorem t22_5 (op : Int) (c1 : Int) (c2 : Int) (c3 : Int) (w : Int) : (evalF E1 Try.prog 73 [SV.int false IntKind.i64 op, SV.agg [SV.int true IntKind.i64 5, SV.int false IntKind.u32 c1, SV.int false IntKind.u32 c2, SV.int false IntKind.u32 c3], SV.int false IntKind.u32 w] [] 0).bare =
    (.ret (.agg [(.int false IntKind.i64 (op)), (.int true IntKind.i64 0), (.int false IntKind.i64 (conv IntKind.i64 (ar BinOp.and IntKind.u32 (ar BinOp.shr IntKind.u32 w 15) 31))), (.int false IntKind.i64 (conv IntKind.i64 (ar BinOp.and IntKind.u32 (ar BinOp.shr IntKind.u32 w 20) 31))), (.int false IntKind.i64 (conv IntKind.i64 (ar BinOp.shr IntKind.i32 (conv IntKind.i32 (ar BinOp.shl IntKind.u32 (ar BinOp.or IntKind.u32 (ar BinOp.or IntKind.u32 (ar BinOp.or IntKind.u32 (ar BinOp.shl IntKind.u32 (ar BinOp.and IntKind.u32 (ar BinOp.shr IntKind.u32 w 7) (ar BinOp.sub IntKind.u32 (ar BinOp.shl IntKind.u32 1 1) 1)) 11) (ar BinOp.shl IntKind.u32 (ar BinOp.and IntKind.u32 (ar BinOp.shr IntKind.u32 w 8) (ar BinOp.sub IntKind.u32 (ar BinOp.shl IntKind.u32 1 4) 1)) 1)) (ar BinOp.shl IntKind.u32 (ar BinOp.and IntKind.u32 (ar BinOp.shr IntKind.u32 w 25) (ar BinOp.sub IntKind.u32 (ar BinOp.shl IntKind.u32 1 6) 1)) 5)) (ar BinOp.shl IntKind.u32 (ar BinOp.and IntKind.u32 (ar BinOp.shr IntKind.u32 w 31) (ar BinOp.sub IntKind.u32 (ar BinOp.shl IntKind.u32 1 1) 1)) 12)) (ar BinOp.sub IntKind.i64 32 13))) (ar BinOp.sub IntKind.i64 32 13))))]) []) := by kernel_rfl

theorem t22_6 (op : Int) (c1 : Int) (c2 : Int) (c3 : Int) (w : Int) : (evalF E1 Try.prog 73 [SV.int false IntKind.i64 op, SV.agg [SV.int true IntKind.i64 6, SV.int false IntKind.u32 c1, SV.int false IntKind.u32 c2, SV.int false IntKind.u32 c3], SV.int false IntKind.u32 w] [] 0).bare =
    (.ret (.agg [(.int false IntKind.i64 (op)), (.int false IntKind.i64 (conv IntKind.i64 (ar BinOp.and IntKind.u32 (ar BinOp.shr IntKind.u32 w 7) 31))), (.int true IntKind.i64 0), (.int true IntKind.i64 0), (.int false IntKind.i64 (conv IntKind.i64 (ar BinOp.shr IntKind.u32 w 12)))]) []) := by kernel_rfl

theorem t22_7 (op : Int) (c1 : Int) (c2 : Int) (c3 : Int) (w : Int) : (evalF E1 Try.prog 73 [SV.int false IntKind.i64 op, SV.agg [SV.int true IntKind.i64 7, SV.int false IntKind.u32 c1, SV.int false IntKind.u32 c2, SV.int false IntKind.u32 c3], SV.int false IntKind.u32 w] [] 0).bare =
    (.ret (.agg [(.int false IntKind.i64 (op)), (.int false IntKind.i64 (conv IntKind.i64 (ar BinOp.and IntKind.u32 (ar BinOp.shr IntKind.u32 w 7) 31))), (.int true IntKind.i64 0), (.int true IntKind.i64 0), (.int false IntKind.i64 (conv IntKind.i64 (ar BinOp.shr IntKind.i32 (conv IntKind.i32 (ar BinOp.shl IntKind.u32 (ar BinOp.or IntKind.u32 (ar BinOp.or IntKind.u32 (ar BinOp.or IntKind.u32 (ar BinOp.shl IntKind.u32 (ar BinOp.and IntKind.u32 (ar BinOp.shr IntKind.u32 w 12) (ar BinOp.sub IntKind.u32 (ar BinOp.shl IntKind.u32 1 8) 1)) 12) (ar BinOp.shl IntKind.u32 (ar BinOp.and IntKind.u32 (ar BinOp.shr IntKind.u32 w 20) (ar BinOp.sub IntKind.u32 (ar BinOp.shl IntKind.u32 1 1) 1)) 11)) (ar BinOp.shl IntKind.u32 (ar BinOp.and IntKind.u32 (ar BinOp.shr IntKind.u32 w 21) (ar BinOp.sub IntKind.u32 (ar BinOp.shl IntKind.u32 1 10) 1)) 1)) (ar BinOp.shl IntKind.u32 (ar BinOp.and IntKind.u32 (ar BinOp.shr IntKind.u32 w 31) (ar BinOp.sub IntKind.u32 (ar BinOp.shl IntKind.u32 1 1) 1)) 20)) (ar BinOp.sub IntKind.i64 32 21))) (ar BinOp.sub IntKind.i64 32 21))))]) []) := by kernel_rfl

theorem t22_8 (op : Int) (c1 : Int) (c2 : Int) (c3 : Int) (w : Int) : (evalF E1 Try.prog 73 [SV.int false IntKind.i64 op, SV.agg [SV.int true IntKind.i64 8, SV.int false IntKind.u32 c1, SV.int false IntKind.u32 c2, SV.int false IntKind.u32 c3], SV.int false IntKind.u32 w] [] 0).bare =
    (.ret (.agg [(.int false IntKind.i64 (op)), (.int true IntKind.i64 0), (.int true IntKind.i64 0), (.int true IntKind.i64 0), (.int true IntKind.i64 0)]) []) := by kernel_rfl

end Go.Rv
end

section
set_option linter.unusedVariables false
open Go Go.Ev Go.Proofs
namespace Go.Rv

def signB (x : BitVec 32) (m : Nat) : Int := ((x <<< (32 - m)).sshiftRight (32 - m)).toInt
def fieldB (k : Int) (w : BitVec 32) : BitVec 32 :=
  if k = 1 then w >>> 20
  else if k = 4 then ((w >>> 7) &&& 31#32) ||| (((w >>> 25) &&& 127#32) <<< 5)
  else if k = 5 then (((((w >>> 7) &&& 1#32) <<< 11) ||| (((w >>> 8) &&& 15#32) <<< 1)) ||| (((w >>> 25) &&& 63#32) <<< 5)) ||| (((w >>> 31) &&& 1#32) <<< 12)
  else (((((w >>> 12) &&& 255#32) <<< 12) ||| (((w >>> 20) &&& 1#32) <<< 11)) ||| (((w >>> 21) &&& 1023#32) <<< 1)) ||| (((w >>> 31) &&& 1#32) <<< 20)
def numB (k : Int) (w : BitVec 32) : Int :=
  if k = 1 then signB (fieldB 1 w) 12 else if k = 2 then ((w >>> 20) &&& 63#32).toNat else if k = 3 then ((w >>> 20) &&& 31#32).toNat
  else if k = 4 then signB (fieldB 4 w) 12 else if k = 5 then signB (fieldB 5 w) 13 else if k = 6 then (w >>> 12).toNat else if k = 7 then signB (fieldB 7 w) 21 else 0
def rdB (k : Int) (w : BitVec 32) : Int := if (hasL k).1 then ((w >>> 7) &&& 31#32).toNat else 0
def r1B (k : Int) (w : BitVec 32) : Int := if (hasL k).2.1 then ((w >>> 15) &&& 31#32).toNat else 0
def r2B (k : Int) (w : BitVec 32) : Int := if (hasL k).2.2 then ((w >>> 20) &&& 31#32).toNat else 0
def asB (op k : Int) (w : BitVec 32) : List SV := [.int false .i64 op, .int false .i64 (rdB k w), .int false .i64 (r1B k w), .int false .i64 (r2B k w), .int false .i64 (numB k w)]

theorem ofU (w : Int) (h0 : 0 ≤ w) (h1 : w < 4294967296) : w = iv .u32 (W w) := by
  simp only [iv, IntKind.signed, Bool.false_eq_true, if_false, W, IntKind.bits]
  rw [BitVec.toNat_ofInt]
  omega
theorem conv64u (Y : BitVec 32) : conv .i64 (iv .u32 Y) = (Y.toNat : Int) := by
  have := Y.isLt
  show IntKind.i64.wrap (Y.toNat : Int) = _
  rw [IntKind.wrap_i64]
  omega
theorem conv64s (Y : BitVec 32) : conv .i64 (iv .i32 Y) = Y.toInt := by
  have h1 := Y.toInt_lt (w := 32)
  have h2 := Y.le_toInt (w := 32)
  show IntKind.i64.wrap Y.toInt = _
  rw [IntKind.wrap_i64]
  omega
theorem conv32 (X : BitVec 32) : conv .i32 (iv .u32 X) = iv .i32 X := by
  rw [conv_iv]
  congr 1
  exact ofInt_iv .u32 X
theorem shrS (X : BitVec 32) (m : Int) (hm : 0 ≤ m) (hn : m.toNat ≤ 32) : ar .shr .i32 (iv .i32 X) m = iv .i32 (X.sshiftRight m.toNat) := ar_shr_s' (k := .i32) rfl X m hm hn

/-- rv.as -/
def s22 : Ev.Spec := fun args H nm => match args with
  | [.int _ .i64 op, .agg [.int _ .i64 k, .int _ .u32 c1, .int _ .u32 c2, .int _ .u32 c3], .int _ .u32 w] =>
    some ⟨[decide (0 ≤ k), decide (k ≤ 8), decide (0 ≤ w), decide (w < 4294967296)], .agg (asB op k (W w)), []⟩
  | _ => none

theorem givesAs {l1 l2 l3 l4 l5 : Bool} {op a b c d : Int} {k : Int} {w : BitVec 32} (h1 : a = rdB k w) (h2 : b = r1B k w) (h3 : c = r2B k w) (h4 : d = numB k w) :
    (Lf.ret (.agg [.int l1 .i64 op, .int l2 .i64 a, .int l3 .i64 b, .int l4 .i64 c, .int l5 .i64 d]) []).gives (.agg (asB op k w)) := by
  subst h1; subst h2; subst h3; subst h4
  intro σ σ'
  simp only [den, denL, asB]

theorem fn22 : Try.prog.funcs[73]? = some Try.f73 := by kernel_rfl
theorem b22 : Try.f73.body.isSome = true := by kernel_rfl
theorem n22 : (Try.f73.name == "runtime.NumGoroutine") = false := by kernel_rfl

attribute [local irreducible] evalF in
theorem g22 (op k c1 c2 c3 w : Int) (hk0 : 0 ≤ k) (hk8 : k ≤ 8) (hw0 : 0 ≤ w) (hw1 : w < 4294967296) :
    (evalF E1 Try.prog 73 [.int false .i64 op, .agg [.int true .i64 k, .int false .u32 c1, .int false .u32 c2, .int false .u32 c3], .int false .u32 w] [] 0).leaf.gives (.agg (asB op k (W w))) := by
  have hk : k = 0 ∨ k = 1 ∨ k = 2 ∨ k = 3 ∨ k = 4 ∨ k = 5 ∨ k = 6 ∨ k = 7 ∨ k = 8 := by omega
  have hw := ofU w hw0 hw1
  generalize W w = B at *
  subst hw
  have e1 : ar .sub .i64 32 12 = 20 := by decide
  have e2 : ar .sub .i64 32 13 = 19 := by decide
  have e3 : ar .sub .i64 32 21 = 11 := by decide
  rcases hk with rfl | rfl | rfl | rfl | rfl | rfl | rfl | rfl | rfl
  · refine gives_tree (t22_0 ..) (givesAs ?_ ?_ ?_ ?_)
    all_goals simp [rdB, r1B, r2B, numB, fieldB, signB, hasL, U32.or, U32.and, U32.sub, U32.shl, U32.shr, U32.inv, conv64u, conv64s, conv32, shrS, e1, e2, e3]
  · refine gives_tree (t22_1 ..) (givesAs ?_ ?_ ?_ ?_)
    all_goals simp [rdB, r1B, r2B, numB, fieldB, signB, hasL, U32.or, U32.and, U32.sub, U32.shl, U32.shr, U32.inv, conv64u, conv64s, conv32, shrS, e1, e2, e3]
  · refine gives_tree (t22_2 ..) (givesAs ?_ ?_ ?_ ?_)
    all_goals simp [rdB, r1B, r2B, numB, fieldB, signB, hasL, U32.or, U32.and, U32.sub, U32.shl, U32.shr, U32.inv, conv64u, conv64s, conv32, shrS, e1, e2, e3]
  · refine gives_tree (t22_3 ..) (givesAs ?_ ?_ ?_ ?_)
    all_goals simp [rdB, r1B, r2B, numB, fieldB, signB, hasL, U32.or, U32.and, U32.sub, U32.shl, U32.shr, U32.inv, conv64u, conv64s, conv32, shrS, e1, e2, e3]
  · refine gives_tree (t22_4 ..) (givesAs ?_ ?_ ?_ ?_)
    all_goals simp [rdB, r1B, r2B, numB, fieldB, signB, hasL, U32.or, U32.and, U32.sub, U32.shl, U32.shr, U32.inv, conv64u, conv64s, conv32, shrS, e1, e2, e3]
  · refine gives_tree (t22_5 ..) (givesAs ?_ ?_ ?_ ?_)
    all_goals simp [rdB, r1B, r2B, numB, fieldB, signB, hasL, U32.or, U32.and, U32.sub, U32.shl, U32.shr, U32.inv, conv64u, conv64s, conv32, shrS, e1, e2, e3]
  · refine gives_tree (t22_6 ..) (givesAs ?_ ?_ ?_ ?_)
    all_goals simp [rdB, r1B, r2B, numB, fieldB, signB, hasL, U32.or, U32.and, U32.sub, U32.shl, U32.shr, U32.inv, conv64u, conv64s, conv32, shrS, e1, e2, e3]
  · refine gives_tree (t22_7 ..) (givesAs ?_ ?_ ?_ ?_)
    all_goals simp [rdB, r1B, r2B, numB, fieldB, signB, hasL, U32.or, U32.and, U32.sub, U32.shl, U32.shr, U32.inv, conv64u, conv64s, conv32, shrS, e1, e2, e3]
  · refine gives_tree (t22_8 ..) (givesAs ?_ ?_ ?_ ?_)
    all_goals simp [rdB, r1B, r2B, numB, fieldB, signB, hasL, U32.or, U32.and, U32.sub, U32.shl, U32.shr, U32.inv, conv64u, conv64s, conv32, shrS, e1, e2, e3]

end Go.Rv
end
