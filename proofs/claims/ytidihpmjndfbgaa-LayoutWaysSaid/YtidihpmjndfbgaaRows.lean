/-
  No cell of these rows narrows 'for every input' (looked for: loops, veiled, ifaces, maps, wideKeys, modest, calm, conditions, laid).
  DERIVED. THE GIVEN ROWS OF THIS SEAT. 5 by the template 'for every input the law returns true; each argument reads behind the call as it read before'; 0 by the template 'total and deterministic' (their statements: YtidihpmjndfbgaaTotals.lean).
  GIVEN WITH THE SEED: the statements are not yours to turn. If you find one false, say at which input.
  Laid BY PROGRAM, IN A SANDBOX (cutbox-rows.mjs): the forced cells as the released guide's own fill.sh prints them over the translation 89bcc6562509e229… (all of the seat's roots in one cut). By AI agents, Wed Nov 11 2026. No macro, syntax, notation, axiom, sorry.
-/
import Derived.Test.YtidihpmjndfbgaaChecked
import GoSem.Claim
import GoSem.ClaimJoined
import GoSem.ClaimMapViews
import Derived.JoinedTies
import Derived.KernelRfl
namespace Go.Proofs.Ytidihpmjndfbgaa
/- THE CELL 'sum', in the pinned program and in every row, IS THE sha256 OF THE DUMP (.gsa) THAT YtidihpmjndfbgaaProg.lean LOADS. Nothing in Lean hashes anything: it is a label: what it is worth is what the hold of that sum in a sandbox is worth. -/
noncomputable def Try.pinned : Pinned := { name := "ytidihpmjndfbgaa", sum := "89bcc6562509e229120121aaf421472a9a1b370f4599fb9e1f8c793b2f3788f4", checked := Try.checked }
namespace Rows
def none {H : Type} : Left H := { results := [], args := [] }

/-- 'gantletlaw22.LayoutLays': WHATEVER THE INPUT: true; the input reads as it did. -/
def layoutLaysSpec : ChangeSpec := { name := "layoutLays", fn := fun _ => fun
  | [d] => { results := [.lit (.bool true)], args := [d] }
  | _ => none }
def layoutLaysRow : OpenClaim := { program := "ytidihpmjndfbgaa", sum := "89bcc6562509e229120121aaf421472a9a1b370f4599fb9e1f8c793b2f3788f4", func := "gantlet/gantletlaw22.LayoutLays", spec := "layoutLays", unfollowed := true, recurses := true, apart := false }
def LayoutLaysSaid : Prop := layoutLaysRow.holds Try.pinned (OpenSpec.ofChange layoutLaysSpec)

/-- ITS FALSE NEIGHBOUR: 'it returns false'. Refute it at one input. -/
def layoutLaysWrong : ChangeSpec := { name := "layoutLays", fn := fun _ => fun
  | [d] => { results := [.lit (.bool false)], args := [d] }
  | _ => none }
def LayoutLaysWrongFalsely : Prop := layoutLaysRow.holds Try.pinned (OpenSpec.ofChange layoutLaysWrong)

/-- 'gantletlaw22.LayoutFar': WHATEVER THE INPUT: true; the input reads as it did. -/
def layoutFarSpec : ChangeSpec := { name := "layoutFar", fn := fun _ => fun
  | [d] => { results := [.lit (.bool true)], args := [d] }
  | _ => none }
def layoutFarRow : OpenClaim := { program := "ytidihpmjndfbgaa", sum := "89bcc6562509e229120121aaf421472a9a1b370f4599fb9e1f8c793b2f3788f4", func := "gantlet/gantletlaw22.LayoutFar", spec := "layoutFar", unfollowed := true, recurses := true, apart := false }
def LayoutFarSaid : Prop := layoutFarRow.holds Try.pinned (OpenSpec.ofChange layoutFarSpec)

/-- ITS FALSE NEIGHBOUR: 'it returns false'. Refute it at one input. -/
def layoutFarWrong : ChangeSpec := { name := "layoutFar", fn := fun _ => fun
  | [d] => { results := [.lit (.bool false)], args := [d] }
  | _ => none }
def LayoutFarWrongFalsely : Prop := layoutFarRow.holds Try.pinned (OpenSpec.ofChange layoutFarWrong)

/-- 'gantletlaw22.LayoutRV': WHATEVER THE INPUT: true; the input reads as it did. -/
def layoutRVSpec : ChangeSpec := { name := "layoutRV", fn := fun _ => fun
  | [d] => { results := [.lit (.bool true)], args := [d] }
  | _ => none }
def layoutRVRow : OpenClaim := { program := "ytidihpmjndfbgaa", sum := "89bcc6562509e229120121aaf421472a9a1b370f4599fb9e1f8c793b2f3788f4", func := "gantlet/gantletlaw22.LayoutRV", spec := "layoutRV", unfollowed := true, recurses := true, apart := false }
def LayoutRVSaid : Prop := layoutRVRow.holds Try.pinned (OpenSpec.ofChange layoutRVSpec)

/-- ITS FALSE NEIGHBOUR: 'it returns false'. Refute it at one input. -/
def layoutRVWrong : ChangeSpec := { name := "layoutRV", fn := fun _ => fun
  | [d] => { results := [.lit (.bool false)], args := [d] }
  | _ => none }
def LayoutRVWrongFalsely : Prop := layoutRVRow.holds Try.pinned (OpenSpec.ofChange layoutRVWrong)

/-- 'gantletlaw22.LayoutX86': WHATEVER THE INPUT: true; the input reads as it did. -/
def layoutX86Spec : ChangeSpec := { name := "layoutX86", fn := fun _ => fun
  | [d] => { results := [.lit (.bool true)], args := [d] }
  | _ => none }
def layoutX86Row : OpenClaim := { program := "ytidihpmjndfbgaa", sum := "89bcc6562509e229120121aaf421472a9a1b370f4599fb9e1f8c793b2f3788f4", func := "gantlet/gantletlaw22.LayoutX86", spec := "layoutX86", unfollowed := true, recurses := true, apart := false }
def LayoutX86Said : Prop := layoutX86Row.holds Try.pinned (OpenSpec.ofChange layoutX86Spec)

/-- ITS FALSE NEIGHBOUR: 'it returns false'. Refute it at one input. -/
def layoutX86Wrong : ChangeSpec := { name := "layoutX86", fn := fun _ => fun
  | [d] => { results := [.lit (.bool false)], args := [d] }
  | _ => none }
def LayoutX86WrongFalsely : Prop := layoutX86Row.holds Try.pinned (OpenSpec.ofChange layoutX86Wrong)

/-- 'gantletlaw22.LayoutWays': WHATEVER THE INPUT: true; the input reads as it did. -/
def layoutWaysSpec : ChangeSpec := { name := "layoutWays", fn := fun _ => fun
  | [d] => { results := [.lit (.bool true)], args := [d] }
  | _ => none }
def layoutWaysRow : OpenClaim := { program := "ytidihpmjndfbgaa", sum := "89bcc6562509e229120121aaf421472a9a1b370f4599fb9e1f8c793b2f3788f4", func := "gantlet/gantletlaw22.LayoutWays", spec := "layoutWays", unfollowed := true, recurses := true, apart := false }
def LayoutWaysSaid : Prop := layoutWaysRow.holds Try.pinned (OpenSpec.ofChange layoutWaysSpec)

/-- ITS FALSE NEIGHBOUR: 'it returns false'. Refute it at one input. -/
def layoutWaysWrong : ChangeSpec := { name := "layoutWays", fn := fun _ => fun
  | [d] => { results := [.lit (.bool false)], args := [d] }
  | _ => none }
def LayoutWaysWrongFalsely : Prop := layoutWaysRow.holds Try.pinned (OpenSpec.ofChange layoutWaysWrong)

/- THE SECOND FORM. 'bulk': how many values and letters a reading holds, each counted each time it is reached (what is shared counts as often as it is met; a slice's spare places count too). A statement '..UptoSaid' is the law's where the arguments, and the package variables that the reading takes, are together of bulk at most 1048576: NARROWER than '..Said'. Prove '..Said' where nothing that the law and all that it calls make is longer than what came in: it says more and counts as full. Else prove '..UptoSaid'. A law counts once. -/
mutual
def uptoBulk {H : Type} : DataW H → Nat
  | .lit (.string bytes) => bytes.length + 1
  | .lit _ => 1
  | .nil => 1
  | .ptr d => uptoBulk d + 1
  | .slice elems spare => uptoBulkAll elems + uptoBulkAll spare + 1
  | .agg parts => uptoBulkAll parts + 1
  | .iface _ d => uptoBulk d + 1
  | .map entries => uptoBulkEntries entries + 1
  | .held _ => 1
def uptoBulkAll {H : Type} : List (DataW H) → Nat
  | [] => 0
  | d :: r => uptoBulk d + uptoBulkAll r
def uptoBulkEntries {H : Type} : List (Lit × DataW H) → Nat
  | [] => 0
  | x :: r => uptoBulkEntry x + uptoBulkEntries r
def uptoBulkEntry {H : Type} : Lit × DataW H → Nat
  | (.string bytes, d) => bytes.length + uptoBulk d + 1
  | (_, d) => uptoBulk d + 1
 end
def uptoSmall : (H : Type) → List (DataW H) → Bool := fun _ ds => decide (uptoBulkAll ds ≤ 1048576)
def OpenSpec.upto (s : _root_.Go.ChangeSpec) : _root_.Go.OpenSpec := { _root_.Go.OpenSpec.ofChange s with cond := some uptoSmall }

/-- 'gantletlaw22.LayoutLays', WHERE WHAT IT READS IS OF BULK AT MOST 1048576: true; the input reads as it did. -/
def layoutLaysUptoRow : OpenClaim := { program := "ytidihpmjndfbgaa", sum := "89bcc6562509e229120121aaf421472a9a1b370f4599fb9e1f8c793b2f3788f4", func := "gantlet/gantletlaw22.LayoutLays", spec := "layoutLays", unfollowed := true, recurses := true, apart := false, narrowed := true }
def LayoutLaysUptoSaid : Prop := layoutLaysUptoRow.holds Try.pinned (OpenSpec.upto layoutLaysSpec)

/-- 'gantletlaw22.LayoutFar', WHERE WHAT IT READS IS OF BULK AT MOST 1048576: true; the input reads as it did. -/
def layoutFarUptoRow : OpenClaim := { program := "ytidihpmjndfbgaa", sum := "89bcc6562509e229120121aaf421472a9a1b370f4599fb9e1f8c793b2f3788f4", func := "gantlet/gantletlaw22.LayoutFar", spec := "layoutFar", unfollowed := true, recurses := true, apart := false, narrowed := true }
def LayoutFarUptoSaid : Prop := layoutFarUptoRow.holds Try.pinned (OpenSpec.upto layoutFarSpec)

/-- 'gantletlaw22.LayoutRV', WHERE WHAT IT READS IS OF BULK AT MOST 1048576: true; the input reads as it did. -/
def layoutRVUptoRow : OpenClaim := { program := "ytidihpmjndfbgaa", sum := "89bcc6562509e229120121aaf421472a9a1b370f4599fb9e1f8c793b2f3788f4", func := "gantlet/gantletlaw22.LayoutRV", spec := "layoutRV", unfollowed := true, recurses := true, apart := false, narrowed := true }
def LayoutRVUptoSaid : Prop := layoutRVUptoRow.holds Try.pinned (OpenSpec.upto layoutRVSpec)

/-- 'gantletlaw22.LayoutX86', WHERE WHAT IT READS IS OF BULK AT MOST 1048576: true; the input reads as it did. -/
def layoutX86UptoRow : OpenClaim := { program := "ytidihpmjndfbgaa", sum := "89bcc6562509e229120121aaf421472a9a1b370f4599fb9e1f8c793b2f3788f4", func := "gantlet/gantletlaw22.LayoutX86", spec := "layoutX86", unfollowed := true, recurses := true, apart := false, narrowed := true }
def LayoutX86UptoSaid : Prop := layoutX86UptoRow.holds Try.pinned (OpenSpec.upto layoutX86Spec)

/-- 'gantletlaw22.LayoutWays', WHERE WHAT IT READS IS OF BULK AT MOST 1048576: true; the input reads as it did. -/
def layoutWaysUptoRow : OpenClaim := { program := "ytidihpmjndfbgaa", sum := "89bcc6562509e229120121aaf421472a9a1b370f4599fb9e1f8c793b2f3788f4", func := "gantlet/gantletlaw22.LayoutWays", spec := "layoutWays", unfollowed := true, recurses := true, apart := false, narrowed := true }
def LayoutWaysUptoSaid : Prop := layoutWaysUptoRow.holds Try.pinned (OpenSpec.upto layoutWaysSpec)

end Rows
end Go.Proofs.Ytidihpmjndfbgaa
