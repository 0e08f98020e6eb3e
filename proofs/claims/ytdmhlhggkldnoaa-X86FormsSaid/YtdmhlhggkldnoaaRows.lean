/-
  No cell of these rows narrows 'for every input' (looked for: loops, veiled, ifaces, maps, wideKeys, modest, calm, conditions, laid).
  DERIVED. THE GIVEN ROWS OF THIS SEAT. 3 by the template 'for every input the law returns true; each argument reads behind the call as it read before'; 0 by the template 'total and deterministic' (their statements: YtdmhlhggkldnoaaTotals.lean).
  GIVEN WITH THE SEED: the statements are not yours to turn. If you find one false, say at which input.
  Laid BY PROGRAM, IN A SANDBOX (cutbox-rows.mjs): the forced cells as the released guide's own fill.sh prints them over the translation 3e4006a21cd9360d… (all of the seat's roots in one cut). By AI agents, Wed Nov 11 2026. No macro, syntax, notation, axiom, sorry.
-/
import Derived.Test.YtdmhlhggkldnoaaChecked
import GoSem.Claim
import GoSem.ClaimJoined
import GoSem.ClaimMapViews
import Derived.JoinedTies
import Derived.KernelRfl
namespace Go.Proofs.Ytdmhlhggkldnoaa
/- THE CELL 'sum', in the pinned program and in every row, IS THE sha256 OF THE DUMP (.gsa) THAT YtdmhlhggkldnoaaProg.lean LOADS. Nothing in Lean hashes anything: it is a label: what it is worth is what the hold of that sum in a sandbox is worth. -/
noncomputable def Try.pinned : Pinned := { name := "ytdmhlhggkldnoaa", sum := "3e4006a21cd9360dfa863c77268519bf82ecadf705ac61a5ef10fc47f7fd7ac5", checked := Try.checked }
namespace Rows
def none {H : Type} : Left H := { results := [], args := [] }

/-- 'gantletlaw20.X86Encodes': WHATEVER THE INPUT: true; the input reads as it did. -/
def x86EncodesSpec : ChangeSpec := { name := "x86Encodes", fn := fun _ => fun
  | [d] => { results := [.lit (.bool true)], args := [d] }
  | _ => none }
def x86EncodesRow : OpenClaim := { program := "ytdmhlhggkldnoaa", sum := "3e4006a21cd9360dfa863c77268519bf82ecadf705ac61a5ef10fc47f7fd7ac5", func := "gantlet/gantletlaw20.X86Encodes", spec := "x86Encodes", unfollowed := true, recurses := true, apart := false }
def X86EncodesSaid : Prop := x86EncodesRow.holds Try.pinned (OpenSpec.ofChange x86EncodesSpec)

/-- ITS FALSE NEIGHBOUR: 'it returns false'. Refute it at one input. -/
def x86EncodesWrong : ChangeSpec := { name := "x86Encodes", fn := fun _ => fun
  | [d] => { results := [.lit (.bool false)], args := [d] }
  | _ => none }
def X86EncodesWrongFalsely : Prop := x86EncodesRow.holds Try.pinned (OpenSpec.ofChange x86EncodesWrong)

/-- 'gantletlaw20.X86Decodes': WHATEVER THE INPUT: true; the input reads as it did. -/
def x86DecodesSpec : ChangeSpec := { name := "x86Decodes", fn := fun _ => fun
  | [d] => { results := [.lit (.bool true)], args := [d] }
  | _ => none }
def x86DecodesRow : OpenClaim := { program := "ytdmhlhggkldnoaa", sum := "3e4006a21cd9360dfa863c77268519bf82ecadf705ac61a5ef10fc47f7fd7ac5", func := "gantlet/gantletlaw20.X86Decodes", spec := "x86Decodes", unfollowed := true, recurses := true, apart := false }
def X86DecodesSaid : Prop := x86DecodesRow.holds Try.pinned (OpenSpec.ofChange x86DecodesSpec)

/-- ITS FALSE NEIGHBOUR: 'it returns false'. Refute it at one input. -/
def x86DecodesWrong : ChangeSpec := { name := "x86Decodes", fn := fun _ => fun
  | [d] => { results := [.lit (.bool false)], args := [d] }
  | _ => none }
def X86DecodesWrongFalsely : Prop := x86DecodesRow.holds Try.pinned (OpenSpec.ofChange x86DecodesWrong)

/-- 'gantletlaw20.X86Forms': WHATEVER THE INPUT: true; the input reads as it did. -/
def x86FormsSpec : ChangeSpec := { name := "x86Forms", fn := fun _ => fun
  | [d] => { results := [.lit (.bool true)], args := [d] }
  | _ => none }
def x86FormsRow : OpenClaim := { program := "ytdmhlhggkldnoaa", sum := "3e4006a21cd9360dfa863c77268519bf82ecadf705ac61a5ef10fc47f7fd7ac5", func := "gantlet/gantletlaw20.X86Forms", spec := "x86Forms", unfollowed := true, recurses := true, apart := false }
def X86FormsSaid : Prop := x86FormsRow.holds Try.pinned (OpenSpec.ofChange x86FormsSpec)

/-- ITS FALSE NEIGHBOUR: 'it returns false'. Refute it at one input. -/
def x86FormsWrong : ChangeSpec := { name := "x86Forms", fn := fun _ => fun
  | [d] => { results := [.lit (.bool false)], args := [d] }
  | _ => none }
def X86FormsWrongFalsely : Prop := x86FormsRow.holds Try.pinned (OpenSpec.ofChange x86FormsWrong)

/- THE SECOND FORM. 'bulk': how many values and letters a reading holds, each counted each time it is reached (what is shared counts as often as it is met; a slice's spare places count too). A statement '..UptoSaid' is the law's where the arguments, and the package variables that the reading takes, are together of bulk at most 1048576: NARROWER than '..Said'. Prove '..Said' where nothing that the law and all that it calls make is longer than what came in: it says more and counts as full. Else prove '..UptoSaid'. A law counts once. -/
mutual
def uptoBulk {H : Type} : DataW H → Nat
  | .lit (.string bytes) => bytes.length + 1
  | .lit _ => 1
  | .nil => 1
  | .ptr d => uptoBulk d + 1
  | .slice elems spare => uptoBulkAll elems + uptoBulkAll spare + 1
  | .agg parts => uptoBulkAll parts + 1
  | .iface _ d => uptoBulk d + 1
  | .map entries => uptoBulkEntries entries + 1
  | .held _ => 1
def uptoBulkAll {H : Type} : List (DataW H) → Nat
  | [] => 0
  | d :: r => uptoBulk d + uptoBulkAll r
def uptoBulkEntries {H : Type} : List (Lit × DataW H) → Nat
  | [] => 0
  | x :: r => uptoBulkEntry x + uptoBulkEntries r
def uptoBulkEntry {H : Type} : Lit × DataW H → Nat
  | (.string bytes, d) => bytes.length + uptoBulk d + 1
  | (_, d) => uptoBulk d + 1
 end
def uptoSmall : (H : Type) → List (DataW H) → Bool := fun _ ds => decide (uptoBulkAll ds ≤ 1048576)
def OpenSpec.upto (s : _root_.Go.ChangeSpec) : _root_.Go.OpenSpec := { _root_.Go.OpenSpec.ofChange s with cond := some uptoSmall }

/-- 'gantletlaw20.X86Encodes', WHERE WHAT IT READS IS OF BULK AT MOST 1048576: true; the input reads as it did. -/
def x86EncodesUptoRow : OpenClaim := { program := "ytdmhlhggkldnoaa", sum := "3e4006a21cd9360dfa863c77268519bf82ecadf705ac61a5ef10fc47f7fd7ac5", func := "gantlet/gantletlaw20.X86Encodes", spec := "x86Encodes", unfollowed := true, recurses := true, apart := false, narrowed := true }
def X86EncodesUptoSaid : Prop := x86EncodesUptoRow.holds Try.pinned (OpenSpec.upto x86EncodesSpec)

/-- 'gantletlaw20.X86Decodes', WHERE WHAT IT READS IS OF BULK AT MOST 1048576: true; the input reads as it did. -/
def x86DecodesUptoRow : OpenClaim := { program := "ytdmhlhggkldnoaa", sum := "3e4006a21cd9360dfa863c77268519bf82ecadf705ac61a5ef10fc47f7fd7ac5", func := "gantlet/gantletlaw20.X86Decodes", spec := "x86Decodes", unfollowed := true, recurses := true, apart := false, narrowed := true }
def X86DecodesUptoSaid : Prop := x86DecodesUptoRow.holds Try.pinned (OpenSpec.upto x86DecodesSpec)

/-- 'gantletlaw20.X86Forms', WHERE WHAT IT READS IS OF BULK AT MOST 1048576: true; the input reads as it did. -/
def x86FormsUptoRow : OpenClaim := { program := "ytdmhlhggkldnoaa", sum := "3e4006a21cd9360dfa863c77268519bf82ecadf705ac61a5ef10fc47f7fd7ac5", func := "gantlet/gantletlaw20.X86Forms", spec := "x86Forms", unfollowed := true, recurses := true, apart := false, narrowed := true }
def X86FormsUptoSaid : Prop := x86FormsUptoRow.holds Try.pinned (OpenSpec.upto x86FormsSpec)

end Rows
end Go.Proofs.Ytdmhlhggkldnoaa
