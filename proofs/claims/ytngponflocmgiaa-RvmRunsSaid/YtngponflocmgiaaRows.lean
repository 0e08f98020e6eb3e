/-
  No cell of these rows narrows 'for every input' (looked for: loops, veiled, ifaces, maps, wideKeys, modest, calm, conditions, laid).
  DERIVED. THE GIVEN ROWS OF THIS SEAT. 13 by the template 'for every input the law returns true; each argument reads behind the call as it read before'; 0 by the template 'total and deterministic' (their statements: YtngponflocmgiaaTotals.lean).
  GIVEN WITH THE SEED: the statements are not yours to turn. If you find one false, say at which input.
  Laid BY PROGRAM, IN A SANDBOX (cutbox-rows.mjs): the forced cells as the released guide's own fill.sh prints them over the translation 1b64f454e4d51b86… (all of the seat's roots in one cut). By AI agents, Wed Nov 11 2026. No macro, syntax, notation, axiom, sorry.
-/
import Derived.Test.YtngponflocmgiaaChecked
import GoSem.Claim
import GoSem.ClaimJoined
import GoSem.ClaimMapViews
import Derived.JoinedTies
import Derived.KernelRfl
namespace Go.Proofs.Ytngponflocmgiaa
/- THE CELL 'sum', in the pinned program and in every row, IS THE sha256 OF THE DUMP (.gsa) THAT YtngponflocmgiaaProg.lean LOADS. Nothing in Lean hashes anything: it is a label: what it is worth is what the hold of that sum in a sandbox is worth. -/
noncomputable def Try.pinned : Pinned := { name := "ytngponflocmgiaa", sum := "1b64f454e4d51b861c4fd414a145f8e4b05f9261d0923dcc4af3de5cdd3f19f5", checked := Try.checked }
namespace Rows
def none {H : Type} : Left H := { results := [], args := [] }

/-- 'gantletlaw19.RvmSteps': WHATEVER THE INPUT: true; the input reads as it did. -/
def rvmStepsSpec : ChangeSpec := { name := "rvmSteps", fn := fun _ => fun
  | [d] => { results := [.lit (.bool true)], args := [d] }
  | _ => none }
def rvmStepsRow : OpenClaim := { program := "ytngponflocmgiaa", sum := "1b64f454e4d51b861c4fd414a145f8e4b05f9261d0923dcc4af3de5cdd3f19f5", func := "gantlet/gantletlaw19.RvmSteps", spec := "rvmSteps", apart := false }
def RvmStepsSaid : Prop := rvmStepsRow.holds Try.pinned (OpenSpec.ofChange rvmStepsSpec)

/-- ITS FALSE NEIGHBOUR: 'it returns false'. Refute it at one input. -/
def rvmStepsWrong : ChangeSpec := { name := "rvmSteps", fn := fun _ => fun
  | [d] => { results := [.lit (.bool false)], args := [d] }
  | _ => none }
def RvmStepsWrongFalsely : Prop := rvmStepsRow.holds Try.pinned (OpenSpec.ofChange rvmStepsWrong)

/-- 'gantletlaw19.RvmRuns': WHATEVER THE INPUT: true; the input reads as it did. -/
def rvmRunsSpec : ChangeSpec := { name := "rvmRuns", fn := fun _ => fun
  | [d] => { results := [.lit (.bool true)], args := [d] }
  | _ => none }
def rvmRunsRow : OpenClaim := { program := "ytngponflocmgiaa", sum := "1b64f454e4d51b861c4fd414a145f8e4b05f9261d0923dcc4af3de5cdd3f19f5", func := "gantlet/gantletlaw19.RvmRuns", spec := "rvmRuns", apart := false }
def RvmRunsSaid : Prop := rvmRunsRow.holds Try.pinned (OpenSpec.ofChange rvmRunsSpec)

/-- ITS FALSE NEIGHBOUR: 'it returns false'. Refute it at one input. -/
def rvmRunsWrong : ChangeSpec := { name := "rvmRuns", fn := fun _ => fun
  | [d] => { results := [.lit (.bool false)], args := [d] }
  | _ => none }
def RvmRunsWrongFalsely : Prop := rvmRunsRow.holds Try.pinned (OpenSpec.ofChange rvmRunsWrong)

/-- 'gantletlaw19.RvmZero': WHATEVER THE INPUT: true; the input reads as it did. -/
def rvmZeroSpec : ChangeSpec := { name := "rvmZero", fn := fun _ => fun
  | [d] => { results := [.lit (.bool true)], args := [d] }
  | _ => none }
def rvmZeroRow : OpenClaim := { program := "ytngponflocmgiaa", sum := "1b64f454e4d51b861c4fd414a145f8e4b05f9261d0923dcc4af3de5cdd3f19f5", func := "gantlet/gantletlaw19.RvmZero", spec := "rvmZero", apart := false }
def RvmZeroSaid : Prop := rvmZeroRow.holds Try.pinned (OpenSpec.ofChange rvmZeroSpec)

/-- ITS FALSE NEIGHBOUR: 'it returns false'. Refute it at one input. -/
def rvmZeroWrong : ChangeSpec := { name := "rvmZero", fn := fun _ => fun
  | [d] => { results := [.lit (.bool false)], args := [d] }
  | _ => none }
def RvmZeroWrongFalsely : Prop := rvmZeroRow.holds Try.pinned (OpenSpec.ofChange rvmZeroWrong)

/-- 'gantletlaw19.RvmSums': WHATEVER THE INPUT: true; the input reads as it did. -/
def rvmSumsSpec : ChangeSpec := { name := "rvmSums", fn := fun _ => fun
  | [d] => { results := [.lit (.bool true)], args := [d] }
  | _ => none }
def rvmSumsRow : OpenClaim := { program := "ytngponflocmgiaa", sum := "1b64f454e4d51b861c4fd414a145f8e4b05f9261d0923dcc4af3de5cdd3f19f5", func := "gantlet/gantletlaw19.RvmSums", spec := "rvmSums", apart := false }
def RvmSumsSaid : Prop := rvmSumsRow.holds Try.pinned (OpenSpec.ofChange rvmSumsSpec)

/-- ITS FALSE NEIGHBOUR: 'it returns false'. Refute it at one input. -/
def rvmSumsWrong : ChangeSpec := { name := "rvmSums", fn := fun _ => fun
  | [d] => { results := [.lit (.bool false)], args := [d] }
  | _ => none }
def RvmSumsWrongFalsely : Prop := rvmSumsRow.holds Try.pinned (OpenSpec.ofChange rvmSumsWrong)

/-- 'gantletlaw19.RvmBits': WHATEVER THE INPUT: true; the input reads as it did. -/
def rvmBitsSpec : ChangeSpec := { name := "rvmBits", fn := fun _ => fun
  | [d] => { results := [.lit (.bool true)], args := [d] }
  | _ => none }
def rvmBitsRow : OpenClaim := { program := "ytngponflocmgiaa", sum := "1b64f454e4d51b861c4fd414a145f8e4b05f9261d0923dcc4af3de5cdd3f19f5", func := "gantlet/gantletlaw19.RvmBits", spec := "rvmBits", apart := false }
def RvmBitsSaid : Prop := rvmBitsRow.holds Try.pinned (OpenSpec.ofChange rvmBitsSpec)

/-- ITS FALSE NEIGHBOUR: 'it returns false'. Refute it at one input. -/
def rvmBitsWrong : ChangeSpec := { name := "rvmBits", fn := fun _ => fun
  | [d] => { results := [.lit (.bool false)], args := [d] }
  | _ => none }
def RvmBitsWrongFalsely : Prop := rvmBitsRow.holds Try.pinned (OpenSpec.ofChange rvmBitsWrong)

/-- 'gantletlaw19.RvmShifts': WHATEVER THE INPUT: true; the input reads as it did. -/
def rvmShiftsSpec : ChangeSpec := { name := "rvmShifts", fn := fun _ => fun
  | [d] => { results := [.lit (.bool true)], args := [d] }
  | _ => none }
def rvmShiftsRow : OpenClaim := { program := "ytngponflocmgiaa", sum := "1b64f454e4d51b861c4fd414a145f8e4b05f9261d0923dcc4af3de5cdd3f19f5", func := "gantlet/gantletlaw19.RvmShifts", spec := "rvmShifts", apart := false }
def RvmShiftsSaid : Prop := rvmShiftsRow.holds Try.pinned (OpenSpec.ofChange rvmShiftsSpec)

/-- ITS FALSE NEIGHBOUR: 'it returns false'. Refute it at one input. -/
def rvmShiftsWrong : ChangeSpec := { name := "rvmShifts", fn := fun _ => fun
  | [d] => { results := [.lit (.bool false)], args := [d] }
  | _ => none }
def RvmShiftsWrongFalsely : Prop := rvmShiftsRow.holds Try.pinned (OpenSpec.ofChange rvmShiftsWrong)

/-- 'gantletlaw19.RvmAsks': WHATEVER THE INPUT: true; the input reads as it did. -/
def rvmAsksSpec : ChangeSpec := { name := "rvmAsks", fn := fun _ => fun
  | [d] => { results := [.lit (.bool true)], args := [d] }
  | _ => none }
def rvmAsksRow : OpenClaim := { program := "ytngponflocmgiaa", sum := "1b64f454e4d51b861c4fd414a145f8e4b05f9261d0923dcc4af3de5cdd3f19f5", func := "gantlet/gantletlaw19.RvmAsks", spec := "rvmAsks", apart := false }
def RvmAsksSaid : Prop := rvmAsksRow.holds Try.pinned (OpenSpec.ofChange rvmAsksSpec)

/-- ITS FALSE NEIGHBOUR: 'it returns false'. Refute it at one input. -/
def rvmAsksWrong : ChangeSpec := { name := "rvmAsks", fn := fun _ => fun
  | [d] => { results := [.lit (.bool false)], args := [d] }
  | _ => none }
def RvmAsksWrongFalsely : Prop := rvmAsksRow.holds Try.pinned (OpenSpec.ofChange rvmAsksWrong)

/-- 'gantletlaw19.RvmMuls': WHATEVER THE INPUT: true; the input reads as it did. -/
def rvmMulsSpec : ChangeSpec := { name := "rvmMuls", fn := fun _ => fun
  | [d] => { results := [.lit (.bool true)], args := [d] }
  | _ => none }
def rvmMulsRow : OpenClaim := { program := "ytngponflocmgiaa", sum := "1b64f454e4d51b861c4fd414a145f8e4b05f9261d0923dcc4af3de5cdd3f19f5", func := "gantlet/gantletlaw19.RvmMuls", spec := "rvmMuls", apart := false }
def RvmMulsSaid : Prop := rvmMulsRow.holds Try.pinned (OpenSpec.ofChange rvmMulsSpec)

/-- ITS FALSE NEIGHBOUR: 'it returns false'. Refute it at one input. -/
def rvmMulsWrong : ChangeSpec := { name := "rvmMuls", fn := fun _ => fun
  | [d] => { results := [.lit (.bool false)], args := [d] }
  | _ => none }
def RvmMulsWrongFalsely : Prop := rvmMulsRow.holds Try.pinned (OpenSpec.ofChange rvmMulsWrong)

/-- 'gantletlaw19.RvmDivs': WHATEVER THE INPUT: true; the input reads as it did. -/
def rvmDivsSpec : ChangeSpec := { name := "rvmDivs", fn := fun _ => fun
  | [d] => { results := [.lit (.bool true)], args := [d] }
  | _ => none }
def rvmDivsRow : OpenClaim := { program := "ytngponflocmgiaa", sum := "1b64f454e4d51b861c4fd414a145f8e4b05f9261d0923dcc4af3de5cdd3f19f5", func := "gantlet/gantletlaw19.RvmDivs", spec := "rvmDivs", apart := false }
def RvmDivsSaid : Prop := rvmDivsRow.holds Try.pinned (OpenSpec.ofChange rvmDivsSpec)

/-- ITS FALSE NEIGHBOUR: 'it returns false'. Refute it at one input. -/
def rvmDivsWrong : ChangeSpec := { name := "rvmDivs", fn := fun _ => fun
  | [d] => { results := [.lit (.bool false)], args := [d] }
  | _ => none }
def RvmDivsWrongFalsely : Prop := rvmDivsRow.holds Try.pinned (OpenSpec.ofChange rvmDivsWrong)

/-- 'gantletlaw19.RvmLoads': WHATEVER THE INPUT: true; the input reads as it did. -/
def rvmLoadsSpec : ChangeSpec := { name := "rvmLoads", fn := fun _ => fun
  | [d] => { results := [.lit (.bool true)], args := [d] }
  | _ => none }
def rvmLoadsRow : OpenClaim := { program := "ytngponflocmgiaa", sum := "1b64f454e4d51b861c4fd414a145f8e4b05f9261d0923dcc4af3de5cdd3f19f5", func := "gantlet/gantletlaw19.RvmLoads", spec := "rvmLoads", apart := false }
def RvmLoadsSaid : Prop := rvmLoadsRow.holds Try.pinned (OpenSpec.ofChange rvmLoadsSpec)

/-- ITS FALSE NEIGHBOUR: 'it returns false'. Refute it at one input. -/
def rvmLoadsWrong : ChangeSpec := { name := "rvmLoads", fn := fun _ => fun
  | [d] => { results := [.lit (.bool false)], args := [d] }
  | _ => none }
def RvmLoadsWrongFalsely : Prop := rvmLoadsRow.holds Try.pinned (OpenSpec.ofChange rvmLoadsWrong)

/-- 'gantletlaw19.RvmStores': WHATEVER THE INPUT: true; the input reads as it did. -/
def rvmStoresSpec : ChangeSpec := { name := "rvmStores", fn := fun _ => fun
  | [d] => { results := [.lit (.bool true)], args := [d] }
  | _ => none }
def rvmStoresRow : OpenClaim := { program := "ytngponflocmgiaa", sum := "1b64f454e4d51b861c4fd414a145f8e4b05f9261d0923dcc4af3de5cdd3f19f5", func := "gantlet/gantletlaw19.RvmStores", spec := "rvmStores", apart := false }
def RvmStoresSaid : Prop := rvmStoresRow.holds Try.pinned (OpenSpec.ofChange rvmStoresSpec)

/-- ITS FALSE NEIGHBOUR: 'it returns false'. Refute it at one input. -/
def rvmStoresWrong : ChangeSpec := { name := "rvmStores", fn := fun _ => fun
  | [d] => { results := [.lit (.bool false)], args := [d] }
  | _ => none }
def RvmStoresWrongFalsely : Prop := rvmStoresRow.holds Try.pinned (OpenSpec.ofChange rvmStoresWrong)

/-- 'gantletlaw19.RvmJumps': WHATEVER THE INPUT: true; the input reads as it did. -/
def rvmJumpsSpec : ChangeSpec := { name := "rvmJumps", fn := fun _ => fun
  | [d] => { results := [.lit (.bool true)], args := [d] }
  | _ => none }
def rvmJumpsRow : OpenClaim := { program := "ytngponflocmgiaa", sum := "1b64f454e4d51b861c4fd414a145f8e4b05f9261d0923dcc4af3de5cdd3f19f5", func := "gantlet/gantletlaw19.RvmJumps", spec := "rvmJumps", apart := false }
def RvmJumpsSaid : Prop := rvmJumpsRow.holds Try.pinned (OpenSpec.ofChange rvmJumpsSpec)

/-- ITS FALSE NEIGHBOUR: 'it returns false'. Refute it at one input. -/
def rvmJumpsWrong : ChangeSpec := { name := "rvmJumps", fn := fun _ => fun
  | [d] => { results := [.lit (.bool false)], args := [d] }
  | _ => none }
def RvmJumpsWrongFalsely : Prop := rvmJumpsRow.holds Try.pinned (OpenSpec.ofChange rvmJumpsWrong)

/-- 'gantletlaw19.RvmCalls': WHATEVER THE INPUT: true; the input reads as it did. -/
def rvmCallsSpec : ChangeSpec := { name := "rvmCalls", fn := fun _ => fun
  | [d] => { results := [.lit (.bool true)], args := [d] }
  | _ => none }
def rvmCallsRow : OpenClaim := { program := "ytngponflocmgiaa", sum := "1b64f454e4d51b861c4fd414a145f8e4b05f9261d0923dcc4af3de5cdd3f19f5", func := "gantlet/gantletlaw19.RvmCalls", spec := "rvmCalls", apart := false }
def RvmCallsSaid : Prop := rvmCallsRow.holds Try.pinned (OpenSpec.ofChange rvmCallsSpec)

/-- ITS FALSE NEIGHBOUR: 'it returns false'. Refute it at one input. -/
def rvmCallsWrong : ChangeSpec := { name := "rvmCalls", fn := fun _ => fun
  | [d] => { results := [.lit (.bool false)], args := [d] }
  | _ => none }
def RvmCallsWrongFalsely : Prop := rvmCallsRow.holds Try.pinned (OpenSpec.ofChange rvmCallsWrong)

/- THE SECOND FORM. 'bulk': how many values and letters a reading holds, each counted each time it is reached (what is shared counts as often as it is met; a slice's spare places count too). A statement '..UptoSaid' is the law's where the arguments, and the package variables that the reading takes, are together of bulk at most 1048576: NARROWER than '..Said'. Prove '..Said' where nothing that the law and all that it calls make is longer than what came in: it says more and counts as full. Else prove '..UptoSaid'. A law counts once. -/
mutual
def uptoBulk {H : Type} : DataW H → Nat
  | .lit (.string bytes) => bytes.length + 1
  | .lit _ => 1
  | .nil => 1
  | .ptr d => uptoBulk d + 1
  | .slice elems spare => uptoBulkAll elems + uptoBulkAll spare + 1
  | .agg parts => uptoBulkAll parts + 1
  | .iface _ d => uptoBulk d + 1
  | .map entries => uptoBulkEntries entries + 1
  | .held _ => 1
def uptoBulkAll {H : Type} : List (DataW H) → Nat
  | [] => 0
  | d :: r => uptoBulk d + uptoBulkAll r
def uptoBulkEntries {H : Type} : List (Lit × DataW H) → Nat
  | [] => 0
  | x :: r => uptoBulkEntry x + uptoBulkEntries r
def uptoBulkEntry {H : Type} : Lit × DataW H → Nat
  | (.string bytes, d) => bytes.length + uptoBulk d + 1
  | (_, d) => uptoBulk d + 1
 end
def uptoSmall : (H : Type) → List (DataW H) → Bool := fun _ ds => decide (uptoBulkAll ds ≤ 1048576)
def OpenSpec.upto (s : _root_.Go.ChangeSpec) : _root_.Go.OpenSpec := { _root_.Go.OpenSpec.ofChange s with cond := some uptoSmall }

/-- 'gantletlaw19.RvmSteps', WHERE WHAT IT READS IS OF BULK AT MOST 1048576: true; the input reads as it did. -/
def rvmStepsUptoRow : OpenClaim := { program := "ytngponflocmgiaa", sum := "1b64f454e4d51b861c4fd414a145f8e4b05f9261d0923dcc4af3de5cdd3f19f5", func := "gantlet/gantletlaw19.RvmSteps", spec := "rvmSteps", apart := false, narrowed := true }
def RvmStepsUptoSaid : Prop := rvmStepsUptoRow.holds Try.pinned (OpenSpec.upto rvmStepsSpec)

/-- 'gantletlaw19.RvmRuns', WHERE WHAT IT READS IS OF BULK AT MOST 1048576: true; the input reads as it did. -/
def rvmRunsUptoRow : OpenClaim := { program := "ytngponflocmgiaa", sum := "1b64f454e4d51b861c4fd414a145f8e4b05f9261d0923dcc4af3de5cdd3f19f5", func := "gantlet/gantletlaw19.RvmRuns", spec := "rvmRuns", apart := false, narrowed := true }
def RvmRunsUptoSaid : Prop := rvmRunsUptoRow.holds Try.pinned (OpenSpec.upto rvmRunsSpec)

/-- 'gantletlaw19.RvmZero', WHERE WHAT IT READS IS OF BULK AT MOST 1048576: true; the input reads as it did. -/
def rvmZeroUptoRow : OpenClaim := { program := "ytngponflocmgiaa", sum := "1b64f454e4d51b861c4fd414a145f8e4b05f9261d0923dcc4af3de5cdd3f19f5", func := "gantlet/gantletlaw19.RvmZero", spec := "rvmZero", apart := false, narrowed := true }
def RvmZeroUptoSaid : Prop := rvmZeroUptoRow.holds Try.pinned (OpenSpec.upto rvmZeroSpec)

/-- 'gantletlaw19.RvmSums', WHERE WHAT IT READS IS OF BULK AT MOST 1048576: true; the input reads as it did. -/
def rvmSumsUptoRow : OpenClaim := { program := "ytngponflocmgiaa", sum := "1b64f454e4d51b861c4fd414a145f8e4b05f9261d0923dcc4af3de5cdd3f19f5", func := "gantlet/gantletlaw19.RvmSums", spec := "rvmSums", apart := false, narrowed := true }
def RvmSumsUptoSaid : Prop := rvmSumsUptoRow.holds Try.pinned (OpenSpec.upto rvmSumsSpec)

/-- 'gantletlaw19.RvmBits', WHERE WHAT IT READS IS OF BULK AT MOST 1048576: true; the input reads as it did. -/
def rvmBitsUptoRow : OpenClaim := { program := "ytngponflocmgiaa", sum := "1b64f454e4d51b861c4fd414a145f8e4b05f9261d0923dcc4af3de5cdd3f19f5", func := "gantlet/gantletlaw19.RvmBits", spec := "rvmBits", apart := false, narrowed := true }
def RvmBitsUptoSaid : Prop := rvmBitsUptoRow.holds Try.pinned (OpenSpec.upto rvmBitsSpec)

/-- 'gantletlaw19.RvmShifts', WHERE WHAT IT READS IS OF BULK AT MOST 1048576: true; the input reads as it did. -/
def rvmShiftsUptoRow : OpenClaim := { program := "ytngponflocmgiaa", sum := "1b64f454e4d51b861c4fd414a145f8e4b05f9261d0923dcc4af3de5cdd3f19f5", func := "gantlet/gantletlaw19.RvmShifts", spec := "rvmShifts", apart := false, narrowed := true }
def RvmShiftsUptoSaid : Prop := rvmShiftsUptoRow.holds Try.pinned (OpenSpec.upto rvmShiftsSpec)

/-- 'gantletlaw19.RvmAsks', WHERE WHAT IT READS IS OF BULK AT MOST 1048576: true; the input reads as it did. -/
def rvmAsksUptoRow : OpenClaim := { program := "ytngponflocmgiaa", sum := "1b64f454e4d51b861c4fd414a145f8e4b05f9261d0923dcc4af3de5cdd3f19f5", func := "gantlet/gantletlaw19.RvmAsks", spec := "rvmAsks", apart := false, narrowed := true }
def RvmAsksUptoSaid : Prop := rvmAsksUptoRow.holds Try.pinned (OpenSpec.upto rvmAsksSpec)

/-- 'gantletlaw19.RvmMuls', WHERE WHAT IT READS IS OF BULK AT MOST 1048576: true; the input reads as it did. -/
def rvmMulsUptoRow : OpenClaim := { program := "ytngponflocmgiaa", sum := "1b64f454e4d51b861c4fd414a145f8e4b05f9261d0923dcc4af3de5cdd3f19f5", func := "gantlet/gantletlaw19.RvmMuls", spec := "rvmMuls", apart := false, narrowed := true }
def RvmMulsUptoSaid : Prop := rvmMulsUptoRow.holds Try.pinned (OpenSpec.upto rvmMulsSpec)

/-- 'gantletlaw19.RvmDivs', WHERE WHAT IT READS IS OF BULK AT MOST 1048576: true; the input reads as it did. -/
def rvmDivsUptoRow : OpenClaim := { program := "ytngponflocmgiaa", sum := "1b64f454e4d51b861c4fd414a145f8e4b05f9261d0923dcc4af3de5cdd3f19f5", func := "gantlet/gantletlaw19.RvmDivs", spec := "rvmDivs", apart := false, narrowed := true }
def RvmDivsUptoSaid : Prop := rvmDivsUptoRow.holds Try.pinned (OpenSpec.upto rvmDivsSpec)

/-- 'gantletlaw19.RvmLoads', WHERE WHAT IT READS IS OF BULK AT MOST 1048576: true; the input reads as it did. -/
def rvmLoadsUptoRow : OpenClaim := { program := "ytngponflocmgiaa", sum := "1b64f454e4d51b861c4fd414a145f8e4b05f9261d0923dcc4af3de5cdd3f19f5", func := "gantlet/gantletlaw19.RvmLoads", spec := "rvmLoads", apart := false, narrowed := true }
def RvmLoadsUptoSaid : Prop := rvmLoadsUptoRow.holds Try.pinned (OpenSpec.upto rvmLoadsSpec)

/-- 'gantletlaw19.RvmStores', WHERE WHAT IT READS IS OF BULK AT MOST 1048576: true; the input reads as it did. -/
def rvmStoresUptoRow : OpenClaim := { program := "ytngponflocmgiaa", sum := "1b64f454e4d51b861c4fd414a145f8e4b05f9261d0923dcc4af3de5cdd3f19f5", func := "gantlet/gantletlaw19.RvmStores", spec := "rvmStores", apart := false, narrowed := true }
def RvmStoresUptoSaid : Prop := rvmStoresUptoRow.holds Try.pinned (OpenSpec.upto rvmStoresSpec)

/-- 'gantletlaw19.RvmJumps', WHERE WHAT IT READS IS OF BULK AT MOST 1048576: true; the input reads as it did. -/
def rvmJumpsUptoRow : OpenClaim := { program := "ytngponflocmgiaa", sum := "1b64f454e4d51b861c4fd414a145f8e4b05f9261d0923dcc4af3de5cdd3f19f5", func := "gantlet/gantletlaw19.RvmJumps", spec := "rvmJumps", apart := false, narrowed := true }
def RvmJumpsUptoSaid : Prop := rvmJumpsUptoRow.holds Try.pinned (OpenSpec.upto rvmJumpsSpec)

/-- 'gantletlaw19.RvmCalls', WHERE WHAT IT READS IS OF BULK AT MOST 1048576: true; the input reads as it did. -/
def rvmCallsUptoRow : OpenClaim := { program := "ytngponflocmgiaa", sum := "1b64f454e4d51b861c4fd414a145f8e4b05f9261d0923dcc4af3de5cdd3f19f5", func := "gantlet/gantletlaw19.RvmCalls", spec := "rvmCalls", apart := false, narrowed := true }
def RvmCallsUptoSaid : Prop := rvmCallsUptoRow.holds Try.pinned (OpenSpec.upto rvmCallsSpec)

end Rows
end Go.Proofs.Ytngponflocmgiaa
