/-
  No cell of these rows narrows 'for every input' (looked for: loops, veiled, ifaces, maps, wideKeys, modest, calm, conditions, laid).
  DERIVED. THE GIVEN ROWS OF THIS SEAT. 3 by the template 'for every input the law returns true; each argument reads behind the call as it read before'; 0 by the template 'total and deterministic' (their statements: YtpdbbanpppppcaaTotals.lean).
  GIVEN WITH THE SEED: the statements are not yours to turn. If you find one false, say at which input.
  Laid BY PROGRAM, IN A SANDBOX (cutbox-rows.mjs): the forced cells as the released guide's own fill.sh prints them over the translation f5bed78768f0388e… (all of the seat's roots in one cut). By AI agents, Wed Nov 11 2026. No macro, syntax, notation, axiom, sorry.
-/
import Derived.Test.YtpdbbanpppppcaaChecked
import GoSem.Claim
import GoSem.ClaimJoined
import GoSem.ClaimMapViews
import Derived.JoinedTies
import Derived.KernelRfl
namespace Go.Proofs.Ytpdbbanpppppcaa
/- THE CELL 'sum', in the pinned program and in every row, IS THE sha256 OF THE DUMP (.gsa) THAT YtpdbbanpppppcaaProg.lean LOADS. Nothing in Lean hashes anything: it is a label: what it is worth is what the hold of that sum in a sandbox is worth. -/
noncomputable def Try.pinned : Pinned := { name := "ytpdbbanpppppcaa", sum := "f5bed78768f0388ec166e286cf22036bc9e270175e43d9424ff208380769be21", checked := Try.checked }
namespace Rows
def none {H : Type} : Left H := { results := [], args := [] }

/-- 'gantletlaw18.RvEncodes': WHATEVER THE INPUT: true; the input reads as it did. -/
def rvEncodesSpec : ChangeSpec := { name := "rvEncodes", fn := fun _ => fun
  | [d] => { results := [.lit (.bool true)], args := [d] }
  | _ => none }
def rvEncodesRow : OpenClaim := { program := "ytpdbbanpppppcaa", sum := "f5bed78768f0388ec166e286cf22036bc9e270175e43d9424ff208380769be21", func := "gantlet/gantletlaw18.RvEncodes", spec := "rvEncodes", apart := false }
def RvEncodesSaid : Prop := rvEncodesRow.holds Try.pinned (OpenSpec.ofChange rvEncodesSpec)

/-- ITS FALSE NEIGHBOUR: 'it returns false'. Refute it at one input. -/
def rvEncodesWrong : ChangeSpec := { name := "rvEncodes", fn := fun _ => fun
  | [d] => { results := [.lit (.bool false)], args := [d] }
  | _ => none }
def RvEncodesWrongFalsely : Prop := rvEncodesRow.holds Try.pinned (OpenSpec.ofChange rvEncodesWrong)

/-- 'gantletlaw18.RvDecodes': WHATEVER THE INPUT: true; the input reads as it did. -/
def rvDecodesSpec : ChangeSpec := { name := "rvDecodes", fn := fun _ => fun
  | [d] => { results := [.lit (.bool true)], args := [d] }
  | _ => none }
def rvDecodesRow : OpenClaim := { program := "ytpdbbanpppppcaa", sum := "f5bed78768f0388ec166e286cf22036bc9e270175e43d9424ff208380769be21", func := "gantlet/gantletlaw18.RvDecodes", spec := "rvDecodes", apart := false }
def RvDecodesSaid : Prop := rvDecodesRow.holds Try.pinned (OpenSpec.ofChange rvDecodesSpec)

/-- ITS FALSE NEIGHBOUR: 'it returns false'. Refute it at one input. -/
def rvDecodesWrong : ChangeSpec := { name := "rvDecodes", fn := fun _ => fun
  | [d] => { results := [.lit (.bool false)], args := [d] }
  | _ => none }
def RvDecodesWrongFalsely : Prop := rvDecodesRow.holds Try.pinned (OpenSpec.ofChange rvDecodesWrong)

/-- 'gantletlaw18.RvFormats': WHATEVER THE INPUT: true; the input reads as it did. -/
def rvFormatsSpec : ChangeSpec := { name := "rvFormats", fn := fun _ => fun
  | [d] => { results := [.lit (.bool true)], args := [d] }
  | _ => none }
def rvFormatsRow : OpenClaim := { program := "ytpdbbanpppppcaa", sum := "f5bed78768f0388ec166e286cf22036bc9e270175e43d9424ff208380769be21", func := "gantlet/gantletlaw18.RvFormats", spec := "rvFormats", apart := false }
def RvFormatsSaid : Prop := rvFormatsRow.holds Try.pinned (OpenSpec.ofChange rvFormatsSpec)

/-- ITS FALSE NEIGHBOUR: 'it returns false'. Refute it at one input. -/
def rvFormatsWrong : ChangeSpec := { name := "rvFormats", fn := fun _ => fun
  | [d] => { results := [.lit (.bool false)], args := [d] }
  | _ => none }
def RvFormatsWrongFalsely : Prop := rvFormatsRow.holds Try.pinned (OpenSpec.ofChange rvFormatsWrong)

/- THE SECOND FORM. 'bulk': how many values and letters a reading holds, each counted each time it is reached (what is shared counts as often as it is met; a slice's spare places count too). A statement '..UptoSaid' is the law's where the arguments, and the package variables that the reading takes, are together of bulk at most 1048576: NARROWER than '..Said'. Prove '..Said' where nothing that the law and all that it calls make is longer than what came in: it says more and counts as full. Else prove '..UptoSaid'. A law counts once. -/
mutual
def uptoBulk {H : Type} : DataW H → Nat
  | .lit (.string bytes) => bytes.length + 1
  | .lit _ => 1
  | .nil => 1
  | .ptr d => uptoBulk d + 1
  | .slice elems spare => uptoBulkAll elems + uptoBulkAll spare + 1
  | .agg parts => uptoBulkAll parts + 1
  | .iface _ d => uptoBulk d + 1
  | .map entries => uptoBulkEntries entries + 1
  | .held _ => 1
def uptoBulkAll {H : Type} : List (DataW H) → Nat
  | [] => 0
  | d :: r => uptoBulk d + uptoBulkAll r
def uptoBulkEntries {H : Type} : List (Lit × DataW H) → Nat
  | [] => 0
  | x :: r => uptoBulkEntry x + uptoBulkEntries r
def uptoBulkEntry {H : Type} : Lit × DataW H → Nat
  | (.string bytes, d) => bytes.length + uptoBulk d + 1
  | (_, d) => uptoBulk d + 1
 end
def uptoSmall : (H : Type) → List (DataW H) → Bool := fun _ ds => decide (uptoBulkAll ds ≤ 1048576)
def OpenSpec.upto (s : _root_.Go.ChangeSpec) : _root_.Go.OpenSpec := { _root_.Go.OpenSpec.ofChange s with cond := some uptoSmall }

/-- 'gantletlaw18.RvEncodes', WHERE WHAT IT READS IS OF BULK AT MOST 1048576: true; the input reads as it did. -/
def rvEncodesUptoRow : OpenClaim := { program := "ytpdbbanpppppcaa", sum := "f5bed78768f0388ec166e286cf22036bc9e270175e43d9424ff208380769be21", func := "gantlet/gantletlaw18.RvEncodes", spec := "rvEncodes", apart := false, narrowed := true }
def RvEncodesUptoSaid : Prop := rvEncodesUptoRow.holds Try.pinned (OpenSpec.upto rvEncodesSpec)

/-- 'gantletlaw18.RvDecodes', WHERE WHAT IT READS IS OF BULK AT MOST 1048576: true; the input reads as it did. -/
def rvDecodesUptoRow : OpenClaim := { program := "ytpdbbanpppppcaa", sum := "f5bed78768f0388ec166e286cf22036bc9e270175e43d9424ff208380769be21", func := "gantlet/gantletlaw18.RvDecodes", spec := "rvDecodes", apart := false, narrowed := true }
def RvDecodesUptoSaid : Prop := rvDecodesUptoRow.holds Try.pinned (OpenSpec.upto rvDecodesSpec)

/-- 'gantletlaw18.RvFormats', WHERE WHAT IT READS IS OF BULK AT MOST 1048576: true; the input reads as it did. -/
def rvFormatsUptoRow : OpenClaim := { program := "ytpdbbanpppppcaa", sum := "f5bed78768f0388ec166e286cf22036bc9e270175e43d9424ff208380769be21", func := "gantlet/gantletlaw18.RvFormats", spec := "rvFormats", apart := false, narrowed := true }
def RvFormatsUptoSaid : Prop := rvFormatsUptoRow.holds Try.pinned (OpenSpec.upto rvFormatsSpec)

end Rows
end Go.Proofs.Ytpdbbanpppppcaa
