/-
  No cell of these rows narrows 'for every input' (looked for: loops, veiled, ifaces, maps, wideKeys, modest, calm, conditions, laid).
  DERIVED. THE GIVEN ROWS OF THIS SEAT. 12 by the template 'for every input the law returns true; each argument reads behind the call as it read before'; 0 by the template 'total and deterministic' (their statements: YtihfbhoodofhoaaGreatTotals.lean).
  GIVEN WITH THE SEED: the statements are not yours to turn. If you find one false, say at which input.
  Laid BY PROGRAM, IN A SANDBOX (cutbox-rows.mjs): the forced cells as the released guide's own fill.sh prints them over the translation 28fd1f5f3cc70e0e… (all of the seat's roots in one cut). By AI agents, Wed Nov 11 2026. No macro, syntax, notation, axiom, sorry.
-/
import Derived.Test.YtihfbhoodofhoaaGreatChecked
import GoSem.Claim
import GoSem.ClaimJoined
import GoSem.ClaimMapViews
import Derived.JoinedTies
import Derived.KernelRfl
namespace Go.Proofs.YtihfbhoodofhoaaGreat
/- THE CELL 'sum', in the pinned program and in every row, IS THE sha256 OF THE DUMP (.gsa) THAT YtihfbhoodofhoaaGreatProg.lean LOADS. Nothing in Lean hashes anything: it is a label: what it is worth is what the hold of that sum in a sandbox is worth. -/
noncomputable def Tryz.pinned : Pinned := { name := "ytihfbhoodofhoaagreat", sum := "28fd1f5f3cc70e0ef0405e14c413d51da1f464c9c2d32b66cfb591cb70b32b53", checked := Tryz.checked }
namespace Rows
def none {H : Type} : Left H := { results := [], args := [] }

/-- 'gantletlaw21.XmSteps': WHATEVER THE INPUT: true; the input reads as it did. -/
def xmStepsSpec : ChangeSpec := { name := "xmSteps", fn := fun _ => fun
  | [d] => { results := [.lit (.bool true)], args := [d] }
  | _ => none }
def xmStepsRow : OpenClaim := { program := "ytihfbhoodofhoaagreat", sum := "28fd1f5f3cc70e0ef0405e14c413d51da1f464c9c2d32b66cfb591cb70b32b53", func := "gantlet/gantletlaw21.XmSteps", spec := "xmSteps", unfollowed := true, recurses := true, apart := false }
def XmStepsSaid : Prop := xmStepsRow.holds Tryz.pinned (OpenSpec.ofChange xmStepsSpec)

/-- ITS FALSE NEIGHBOUR: 'it returns false'. Refute it at one input. -/
def xmStepsWrong : ChangeSpec := { name := "xmSteps", fn := fun _ => fun
  | [d] => { results := [.lit (.bool false)], args := [d] }
  | _ => none }
def XmStepsWrongFalsely : Prop := xmStepsRow.holds Tryz.pinned (OpenSpec.ofChange xmStepsWrong)

/-- 'gantletlaw21.XmMoves': WHATEVER THE INPUT: true; the input reads as it did. -/
def xmMovesSpec : ChangeSpec := { name := "xmMoves", fn := fun _ => fun
  | [d] => { results := [.lit (.bool true)], args := [d] }
  | _ => none }
def xmMovesRow : OpenClaim := { program := "ytihfbhoodofhoaagreat", sum := "28fd1f5f3cc70e0ef0405e14c413d51da1f464c9c2d32b66cfb591cb70b32b53", func := "gantlet/gantletlaw21.XmMoves", spec := "xmMoves", unfollowed := true, recurses := true, apart := false }
def XmMovesSaid : Prop := xmMovesRow.holds Tryz.pinned (OpenSpec.ofChange xmMovesSpec)

/-- ITS FALSE NEIGHBOUR: 'it returns false'. Refute it at one input. -/
def xmMovesWrong : ChangeSpec := { name := "xmMoves", fn := fun _ => fun
  | [d] => { results := [.lit (.bool false)], args := [d] }
  | _ => none }
def XmMovesWrongFalsely : Prop := xmMovesRow.holds Tryz.pinned (OpenSpec.ofChange xmMovesWrong)

/-- 'gantletlaw21.XmSums': WHATEVER THE INPUT: true; the input reads as it did. -/
def xmSumsSpec : ChangeSpec := { name := "xmSums", fn := fun _ => fun
  | [d] => { results := [.lit (.bool true)], args := [d] }
  | _ => none }
def xmSumsRow : OpenClaim := { program := "ytihfbhoodofhoaagreat", sum := "28fd1f5f3cc70e0ef0405e14c413d51da1f464c9c2d32b66cfb591cb70b32b53", func := "gantlet/gantletlaw21.XmSums", spec := "xmSums", unfollowed := true, recurses := true, apart := false }
def XmSumsSaid : Prop := xmSumsRow.holds Tryz.pinned (OpenSpec.ofChange xmSumsSpec)

/-- ITS FALSE NEIGHBOUR: 'it returns false'. Refute it at one input. -/
def xmSumsWrong : ChangeSpec := { name := "xmSums", fn := fun _ => fun
  | [d] => { results := [.lit (.bool false)], args := [d] }
  | _ => none }
def XmSumsWrongFalsely : Prop := xmSumsRow.holds Tryz.pinned (OpenSpec.ofChange xmSumsWrong)

/-- 'gantletlaw21.XmBits': WHATEVER THE INPUT: true; the input reads as it did. -/
def xmBitsSpec : ChangeSpec := { name := "xmBits", fn := fun _ => fun
  | [d] => { results := [.lit (.bool true)], args := [d] }
  | _ => none }
def xmBitsRow : OpenClaim := { program := "ytihfbhoodofhoaagreat", sum := "28fd1f5f3cc70e0ef0405e14c413d51da1f464c9c2d32b66cfb591cb70b32b53", func := "gantlet/gantletlaw21.XmBits", spec := "xmBits", unfollowed := true, recurses := true, apart := false }
def XmBitsSaid : Prop := xmBitsRow.holds Tryz.pinned (OpenSpec.ofChange xmBitsSpec)

/-- ITS FALSE NEIGHBOUR: 'it returns false'. Refute it at one input. -/
def xmBitsWrong : ChangeSpec := { name := "xmBits", fn := fun _ => fun
  | [d] => { results := [.lit (.bool false)], args := [d] }
  | _ => none }
def XmBitsWrongFalsely : Prop := xmBitsRow.holds Tryz.pinned (OpenSpec.ofChange xmBitsWrong)

/-- 'gantletlaw21.XmMuls': WHATEVER THE INPUT: true; the input reads as it did. -/
def xmMulsSpec : ChangeSpec := { name := "xmMuls", fn := fun _ => fun
  | [d] => { results := [.lit (.bool true)], args := [d] }
  | _ => none }
def xmMulsRow : OpenClaim := { program := "ytihfbhoodofhoaagreat", sum := "28fd1f5f3cc70e0ef0405e14c413d51da1f464c9c2d32b66cfb591cb70b32b53", func := "gantlet/gantletlaw21.XmMuls", spec := "xmMuls", unfollowed := true, recurses := true, apart := false }
def XmMulsSaid : Prop := xmMulsRow.holds Tryz.pinned (OpenSpec.ofChange xmMulsSpec)

/-- ITS FALSE NEIGHBOUR: 'it returns false'. Refute it at one input. -/
def xmMulsWrong : ChangeSpec := { name := "xmMuls", fn := fun _ => fun
  | [d] => { results := [.lit (.bool false)], args := [d] }
  | _ => none }
def XmMulsWrongFalsely : Prop := xmMulsRow.holds Tryz.pinned (OpenSpec.ofChange xmMulsWrong)

/-- 'gantletlaw21.XmDivs': WHATEVER THE INPUT: true; the input reads as it did. -/
def xmDivsSpec : ChangeSpec := { name := "xmDivs", fn := fun _ => fun
  | [d] => { results := [.lit (.bool true)], args := [d] }
  | _ => none }
def xmDivsRow : OpenClaim := { program := "ytihfbhoodofhoaagreat", sum := "28fd1f5f3cc70e0ef0405e14c413d51da1f464c9c2d32b66cfb591cb70b32b53", func := "gantlet/gantletlaw21.XmDivs", spec := "xmDivs", unfollowed := true, recurses := true, apart := false }
def XmDivsSaid : Prop := xmDivsRow.holds Tryz.pinned (OpenSpec.ofChange xmDivsSpec)

/-- ITS FALSE NEIGHBOUR: 'it returns false'. Refute it at one input. -/
def xmDivsWrong : ChangeSpec := { name := "xmDivs", fn := fun _ => fun
  | [d] => { results := [.lit (.bool false)], args := [d] }
  | _ => none }
def XmDivsWrongFalsely : Prop := xmDivsRow.holds Tryz.pinned (OpenSpec.ofChange xmDivsWrong)

/-- 'gantletlaw21.XmShifts': WHATEVER THE INPUT: true; the input reads as it did. -/
def xmShiftsSpec : ChangeSpec := { name := "xmShifts", fn := fun _ => fun
  | [d] => { results := [.lit (.bool true)], args := [d] }
  | _ => none }
def xmShiftsRow : OpenClaim := { program := "ytihfbhoodofhoaagreat", sum := "28fd1f5f3cc70e0ef0405e14c413d51da1f464c9c2d32b66cfb591cb70b32b53", func := "gantlet/gantletlaw21.XmShifts", spec := "xmShifts", unfollowed := true, recurses := true, apart := false }
def XmShiftsSaid : Prop := xmShiftsRow.holds Tryz.pinned (OpenSpec.ofChange xmShiftsSpec)

/-- ITS FALSE NEIGHBOUR: 'it returns false'. Refute it at one input. -/
def xmShiftsWrong : ChangeSpec := { name := "xmShifts", fn := fun _ => fun
  | [d] => { results := [.lit (.bool false)], args := [d] }
  | _ => none }
def XmShiftsWrongFalsely : Prop := xmShiftsRow.holds Tryz.pinned (OpenSpec.ofChange xmShiftsWrong)

/-- 'gantletlaw21.XmSets': WHATEVER THE INPUT: true; the input reads as it did. -/
def xmSetsSpec : ChangeSpec := { name := "xmSets", fn := fun _ => fun
  | [d] => { results := [.lit (.bool true)], args := [d] }
  | _ => none }
def xmSetsRow : OpenClaim := { program := "ytihfbhoodofhoaagreat", sum := "28fd1f5f3cc70e0ef0405e14c413d51da1f464c9c2d32b66cfb591cb70b32b53", func := "gantlet/gantletlaw21.XmSets", spec := "xmSets", unfollowed := true, recurses := true, apart := false }
def XmSetsSaid : Prop := xmSetsRow.holds Tryz.pinned (OpenSpec.ofChange xmSetsSpec)

/-- ITS FALSE NEIGHBOUR: 'it returns false'. Refute it at one input. -/
def xmSetsWrong : ChangeSpec := { name := "xmSets", fn := fun _ => fun
  | [d] => { results := [.lit (.bool false)], args := [d] }
  | _ => none }
def XmSetsWrongFalsely : Prop := xmSetsRow.holds Tryz.pinned (OpenSpec.ofChange xmSetsWrong)

/-- 'gantletlaw21.XmLoads': WHATEVER THE INPUT: true; the input reads as it did. -/
def xmLoadsSpec : ChangeSpec := { name := "xmLoads", fn := fun _ => fun
  | [d] => { results := [.lit (.bool true)], args := [d] }
  | _ => none }
def xmLoadsRow : OpenClaim := { program := "ytihfbhoodofhoaagreat", sum := "28fd1f5f3cc70e0ef0405e14c413d51da1f464c9c2d32b66cfb591cb70b32b53", func := "gantlet/gantletlaw21.XmLoads", spec := "xmLoads", unfollowed := true, recurses := true, apart := false }
def XmLoadsSaid : Prop := xmLoadsRow.holds Tryz.pinned (OpenSpec.ofChange xmLoadsSpec)

/-- ITS FALSE NEIGHBOUR: 'it returns false'. Refute it at one input. -/
def xmLoadsWrong : ChangeSpec := { name := "xmLoads", fn := fun _ => fun
  | [d] => { results := [.lit (.bool false)], args := [d] }
  | _ => none }
def XmLoadsWrongFalsely : Prop := xmLoadsRow.holds Tryz.pinned (OpenSpec.ofChange xmLoadsWrong)

/-- 'gantletlaw21.XmStores': WHATEVER THE INPUT: true; the input reads as it did. -/
def xmStoresSpec : ChangeSpec := { name := "xmStores", fn := fun _ => fun
  | [d] => { results := [.lit (.bool true)], args := [d] }
  | _ => none }
def xmStoresRow : OpenClaim := { program := "ytihfbhoodofhoaagreat", sum := "28fd1f5f3cc70e0ef0405e14c413d51da1f464c9c2d32b66cfb591cb70b32b53", func := "gantlet/gantletlaw21.XmStores", spec := "xmStores", unfollowed := true, recurses := true, apart := false }
def XmStoresSaid : Prop := xmStoresRow.holds Tryz.pinned (OpenSpec.ofChange xmStoresSpec)

/-- ITS FALSE NEIGHBOUR: 'it returns false'. Refute it at one input. -/
def xmStoresWrong : ChangeSpec := { name := "xmStores", fn := fun _ => fun
  | [d] => { results := [.lit (.bool false)], args := [d] }
  | _ => none }
def XmStoresWrongFalsely : Prop := xmStoresRow.holds Tryz.pinned (OpenSpec.ofChange xmStoresWrong)

/-- 'gantletlaw21.XmStacks': WHATEVER THE INPUT: true; the input reads as it did. -/
def xmStacksSpec : ChangeSpec := { name := "xmStacks", fn := fun _ => fun
  | [d] => { results := [.lit (.bool true)], args := [d] }
  | _ => none }
def xmStacksRow : OpenClaim := { program := "ytihfbhoodofhoaagreat", sum := "28fd1f5f3cc70e0ef0405e14c413d51da1f464c9c2d32b66cfb591cb70b32b53", func := "gantlet/gantletlaw21.XmStacks", spec := "xmStacks", unfollowed := true, recurses := true, apart := false }
def XmStacksSaid : Prop := xmStacksRow.holds Tryz.pinned (OpenSpec.ofChange xmStacksSpec)

/-- ITS FALSE NEIGHBOUR: 'it returns false'. Refute it at one input. -/
def xmStacksWrong : ChangeSpec := { name := "xmStacks", fn := fun _ => fun
  | [d] => { results := [.lit (.bool false)], args := [d] }
  | _ => none }
def XmStacksWrongFalsely : Prop := xmStacksRow.holds Tryz.pinned (OpenSpec.ofChange xmStacksWrong)

/-- 'gantletlaw21.XmJumps': WHATEVER THE INPUT: true; the input reads as it did. -/
def xmJumpsSpec : ChangeSpec := { name := "xmJumps", fn := fun _ => fun
  | [d] => { results := [.lit (.bool true)], args := [d] }
  | _ => none }
def xmJumpsRow : OpenClaim := { program := "ytihfbhoodofhoaagreat", sum := "28fd1f5f3cc70e0ef0405e14c413d51da1f464c9c2d32b66cfb591cb70b32b53", func := "gantlet/gantletlaw21.XmJumps", spec := "xmJumps", unfollowed := true, recurses := true, apart := false }
def XmJumpsSaid : Prop := xmJumpsRow.holds Tryz.pinned (OpenSpec.ofChange xmJumpsSpec)

/-- ITS FALSE NEIGHBOUR: 'it returns false'. Refute it at one input. -/
def xmJumpsWrong : ChangeSpec := { name := "xmJumps", fn := fun _ => fun
  | [d] => { results := [.lit (.bool false)], args := [d] }
  | _ => none }
def XmJumpsWrongFalsely : Prop := xmJumpsRow.holds Tryz.pinned (OpenSpec.ofChange xmJumpsWrong)

/- THE SECOND FORM. 'bulk': how many values and letters a reading holds, each counted each time it is reached (what is shared counts as often as it is met; a slice's spare places count too). A statement '..UptoSaid' is the law's where the arguments, and the package variables that the reading takes, are together of bulk at most 1048576: NARROWER than '..Said'. Prove '..Said' where nothing that the law and all that it calls make is longer than what came in: it says more and counts as full. Else prove '..UptoSaid'. A law counts once. -/
mutual
def uptoBulk {H : Type} : DataW H → Nat
  | .lit (.string bytes) => bytes.length + 1
  | .lit _ => 1
  | .nil => 1
  | .ptr d => uptoBulk d + 1
  | .slice elems spare => uptoBulkAll elems + uptoBulkAll spare + 1
  | .agg parts => uptoBulkAll parts + 1
  | .iface _ d => uptoBulk d + 1
  | .map entries => uptoBulkEntries entries + 1
  | .held _ => 1
def uptoBulkAll {H : Type} : List (DataW H) → Nat
  | [] => 0
  | d :: r => uptoBulk d + uptoBulkAll r
def uptoBulkEntries {H : Type} : List (Lit × DataW H) → Nat
  | [] => 0
  | x :: r => uptoBulkEntry x + uptoBulkEntries r
def uptoBulkEntry {H : Type} : Lit × DataW H → Nat
  | (.string bytes, d) => bytes.length + uptoBulk d + 1
  | (_, d) => uptoBulk d + 1
 end
def uptoSmall : (H : Type) → List (DataW H) → Bool := fun _ ds => decide (uptoBulkAll ds ≤ 1048576)
def OpenSpec.upto (s : _root_.Go.ChangeSpec) : _root_.Go.OpenSpec := { _root_.Go.OpenSpec.ofChange s with cond := some uptoSmall }

/-- 'gantletlaw21.XmSteps', WHERE WHAT IT READS IS OF BULK AT MOST 1048576: true; the input reads as it did. -/
def xmStepsUptoRow : OpenClaim := { program := "ytihfbhoodofhoaagreat", sum := "28fd1f5f3cc70e0ef0405e14c413d51da1f464c9c2d32b66cfb591cb70b32b53", func := "gantlet/gantletlaw21.XmSteps", spec := "xmSteps", unfollowed := true, recurses := true, apart := false, narrowed := true }
def XmStepsUptoSaid : Prop := xmStepsUptoRow.holds Tryz.pinned (OpenSpec.upto xmStepsSpec)

/-- 'gantletlaw21.XmMoves', WHERE WHAT IT READS IS OF BULK AT MOST 1048576: true; the input reads as it did. -/
def xmMovesUptoRow : OpenClaim := { program := "ytihfbhoodofhoaagreat", sum := "28fd1f5f3cc70e0ef0405e14c413d51da1f464c9c2d32b66cfb591cb70b32b53", func := "gantlet/gantletlaw21.XmMoves", spec := "xmMoves", unfollowed := true, recurses := true, apart := false, narrowed := true }
def XmMovesUptoSaid : Prop := xmMovesUptoRow.holds Tryz.pinned (OpenSpec.upto xmMovesSpec)

/-- 'gantletlaw21.XmSums', WHERE WHAT IT READS IS OF BULK AT MOST 1048576: true; the input reads as it did. -/
def xmSumsUptoRow : OpenClaim := { program := "ytihfbhoodofhoaagreat", sum := "28fd1f5f3cc70e0ef0405e14c413d51da1f464c9c2d32b66cfb591cb70b32b53", func := "gantlet/gantletlaw21.XmSums", spec := "xmSums", unfollowed := true, recurses := true, apart := false, narrowed := true }
def XmSumsUptoSaid : Prop := xmSumsUptoRow.holds Tryz.pinned (OpenSpec.upto xmSumsSpec)

/-- 'gantletlaw21.XmBits', WHERE WHAT IT READS IS OF BULK AT MOST 1048576: true; the input reads as it did. -/
def xmBitsUptoRow : OpenClaim := { program := "ytihfbhoodofhoaagreat", sum := "28fd1f5f3cc70e0ef0405e14c413d51da1f464c9c2d32b66cfb591cb70b32b53", func := "gantlet/gantletlaw21.XmBits", spec := "xmBits", unfollowed := true, recurses := true, apart := false, narrowed := true }
def XmBitsUptoSaid : Prop := xmBitsUptoRow.holds Tryz.pinned (OpenSpec.upto xmBitsSpec)

/-- 'gantletlaw21.XmMuls', WHERE WHAT IT READS IS OF BULK AT MOST 1048576: true; the input reads as it did. -/
def xmMulsUptoRow : OpenClaim := { program := "ytihfbhoodofhoaagreat", sum := "28fd1f5f3cc70e0ef0405e14c413d51da1f464c9c2d32b66cfb591cb70b32b53", func := "gantlet/gantletlaw21.XmMuls", spec := "xmMuls", unfollowed := true, recurses := true, apart := false, narrowed := true }
def XmMulsUptoSaid : Prop := xmMulsUptoRow.holds Tryz.pinned (OpenSpec.upto xmMulsSpec)

/-- 'gantletlaw21.XmDivs', WHERE WHAT IT READS IS OF BULK AT MOST 1048576: true; the input reads as it did. -/
def xmDivsUptoRow : OpenClaim := { program := "ytihfbhoodofhoaagreat", sum := "28fd1f5f3cc70e0ef0405e14c413d51da1f464c9c2d32b66cfb591cb70b32b53", func := "gantlet/gantletlaw21.XmDivs", spec := "xmDivs", unfollowed := true, recurses := true, apart := false, narrowed := true }
def XmDivsUptoSaid : Prop := xmDivsUptoRow.holds Tryz.pinned (OpenSpec.upto xmDivsSpec)

/-- 'gantletlaw21.XmShifts', WHERE WHAT IT READS IS OF BULK AT MOST 1048576: true; the input reads as it did. -/
def xmShiftsUptoRow : OpenClaim := { program := "ytihfbhoodofhoaagreat", sum := "28fd1f5f3cc70e0ef0405e14c413d51da1f464c9c2d32b66cfb591cb70b32b53", func := "gantlet/gantletlaw21.XmShifts", spec := "xmShifts", unfollowed := true, recurses := true, apart := false, narrowed := true }
def XmShiftsUptoSaid : Prop := xmShiftsUptoRow.holds Tryz.pinned (OpenSpec.upto xmShiftsSpec)

/-- 'gantletlaw21.XmSets', WHERE WHAT IT READS IS OF BULK AT MOST 1048576: true; the input reads as it did. -/
def xmSetsUptoRow : OpenClaim := { program := "ytihfbhoodofhoaagreat", sum := "28fd1f5f3cc70e0ef0405e14c413d51da1f464c9c2d32b66cfb591cb70b32b53", func := "gantlet/gantletlaw21.XmSets", spec := "xmSets", unfollowed := true, recurses := true, apart := false, narrowed := true }
def XmSetsUptoSaid : Prop := xmSetsUptoRow.holds Tryz.pinned (OpenSpec.upto xmSetsSpec)

/-- 'gantletlaw21.XmLoads', WHERE WHAT IT READS IS OF BULK AT MOST 1048576: true; the input reads as it did. -/
def xmLoadsUptoRow : OpenClaim := { program := "ytihfbhoodofhoaagreat", sum := "28fd1f5f3cc70e0ef0405e14c413d51da1f464c9c2d32b66cfb591cb70b32b53", func := "gantlet/gantletlaw21.XmLoads", spec := "xmLoads", unfollowed := true, recurses := true, apart := false, narrowed := true }
def XmLoadsUptoSaid : Prop := xmLoadsUptoRow.holds Tryz.pinned (OpenSpec.upto xmLoadsSpec)

/-- 'gantletlaw21.XmStores', WHERE WHAT IT READS IS OF BULK AT MOST 1048576: true; the input reads as it did. -/
def xmStoresUptoRow : OpenClaim := { program := "ytihfbhoodofhoaagreat", sum := "28fd1f5f3cc70e0ef0405e14c413d51da1f464c9c2d32b66cfb591cb70b32b53", func := "gantlet/gantletlaw21.XmStores", spec := "xmStores", unfollowed := true, recurses := true, apart := false, narrowed := true }
def XmStoresUptoSaid : Prop := xmStoresUptoRow.holds Tryz.pinned (OpenSpec.upto xmStoresSpec)

/-- 'gantletlaw21.XmStacks', WHERE WHAT IT READS IS OF BULK AT MOST 1048576: true; the input reads as it did. -/
def xmStacksUptoRow : OpenClaim := { program := "ytihfbhoodofhoaagreat", sum := "28fd1f5f3cc70e0ef0405e14c413d51da1f464c9c2d32b66cfb591cb70b32b53", func := "gantlet/gantletlaw21.XmStacks", spec := "xmStacks", unfollowed := true, recurses := true, apart := false, narrowed := true }
def XmStacksUptoSaid : Prop := xmStacksUptoRow.holds Tryz.pinned (OpenSpec.upto xmStacksSpec)

/-- 'gantletlaw21.XmJumps', WHERE WHAT IT READS IS OF BULK AT MOST 1048576: true; the input reads as it did. -/
def xmJumpsUptoRow : OpenClaim := { program := "ytihfbhoodofhoaagreat", sum := "28fd1f5f3cc70e0ef0405e14c413d51da1f464c9c2d32b66cfb591cb70b32b53", func := "gantlet/gantletlaw21.XmJumps", spec := "xmJumps", unfollowed := true, recurses := true, apart := false, narrowed := true }
def XmJumpsUptoSaid : Prop := xmJumpsUptoRow.holds Tryz.pinned (OpenSpec.upto xmJumpsSpec)

end Rows
end Go.Proofs.YtihfbhoodofhoaaGreat
