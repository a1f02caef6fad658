/-
  No cell of these rows narrows 'for every input' (looked for: loops, veiled, ifaces, maps, wideKeys, modest, calm, conditions, laid).
  DERIVED. THE GIVEN ROWS OF THIS SEAT. 8 by the template 'for every input the law returns true; each argument reads behind the call as it read before'; 0 by the template 'total and deterministic' (their statements: YtjabpamcpeaboaaTotals.lean).
  GIVEN WITH THE SEED: the statements are not yours to turn. If you find one false, say at which input.
  Laid BY PROGRAM, IN A SANDBOX (cutbox-rows.mjs): the forced cells as the released guide's own fill.sh prints them over the translation b1660b58c26210f7… (all of the seat's roots in one cut). By AI agents, Wed Nov 11 2026. No macro, syntax, notation, axiom, sorry.
-/
import Derived.Test.YtjabpamcpeaboaaChecked
import GoSem.Claim
import GoSem.ClaimJoined
import GoSem.ClaimMapViews
import Derived.JoinedTies
import Derived.KernelRfl
namespace Go.Proofs.Ytjabpamcpeaboaa
/- THE CELL 'sum', in the pinned program and in every row, IS THE sha256 OF THE DUMP (.gsa) THAT YtjabpamcpeaboaaProg.lean LOADS. Nothing in Lean hashes anything: it is a label: what it is worth is what the hold of that sum in a sandbox is worth. -/
noncomputable def Try.pinned : Pinned := { name := "ytjabpamcpeaboaa", sum := "b1660b58c26210f7103f3ebe0d4d28076cb21a109ea36638f4647bf24e872d6d", checked := Try.checked }
namespace Rows
def none {H : Type} : Left H := { results := [], args := [] }

/-- 'coterielaw05.FeBytes': WHATEVER THE INPUT: true; the input reads as it did. -/
def feBytesSpec : ChangeSpec := { name := "feBytes", fn := fun _ => fun
  | [d1, d2] => { results := [.lit (.bool true)], args := [d1, d2] }
  | _ => none }
def feBytesRow : OpenClaim := { program := "ytjabpamcpeaboaa", sum := "b1660b58c26210f7103f3ebe0d4d28076cb21a109ea36638f4647bf24e872d6d", func := "coterie/coterielaw05.FeBytes", spec := "feBytes", unfollowed := true, recurses := true, apart := false }
def FeBytesSaid : Prop := feBytesRow.holds Try.pinned (OpenSpec.ofChange feBytesSpec)

/-- ITS FALSE NEIGHBOUR: 'it returns false'. Refute it at one input. -/
def feBytesWrong : ChangeSpec := { name := "feBytes", fn := fun _ => fun
  | [d1, d2] => { results := [.lit (.bool false)], args := [d1, d2] }
  | _ => none }
def FeBytesWrongFalsely : Prop := feBytesRow.holds Try.pinned (OpenSpec.ofChange feBytesWrong)

/-- 'coterielaw05.FeSquares': WHATEVER THE INPUT: true; the input reads as it did. -/
def feSquaresSpec : ChangeSpec := { name := "feSquares", fn := fun _ => fun
  | [d1, d2, d3] => { results := [.lit (.bool true)], args := [d1, d2, d3] }
  | _ => none }
def feSquaresRow : OpenClaim := { program := "ytjabpamcpeaboaa", sum := "b1660b58c26210f7103f3ebe0d4d28076cb21a109ea36638f4647bf24e872d6d", func := "coterie/coterielaw05.FeSquares", spec := "feSquares", inPlace := ["math/bits.Add64"], unfollowed := true, recurses := true, apart := false }
def FeSquaresSaid : Prop := feSquaresRow.holds Try.pinned (OpenSpec.ofChange feSquaresSpec)

/-- ITS FALSE NEIGHBOUR: 'it returns false'. Refute it at one input. -/
def feSquaresWrong : ChangeSpec := { name := "feSquares", fn := fun _ => fun
  | [d1, d2, d3] => { results := [.lit (.bool false)], args := [d1, d2, d3] }
  | _ => none }
def FeSquaresWrongFalsely : Prop := feSquaresRow.holds Try.pinned (OpenSpec.ofChange feSquaresWrong)

/-- 'coterielaw05.FeRing': WHATEVER THE INPUT: true; the input reads as it did. -/
def feRingSpec : ChangeSpec := { name := "feRing", fn := fun _ => fun
  | [d1, d2, d3] => { results := [.lit (.bool true)], args := [d1, d2, d3] }
  | _ => none }
def feRingRow : OpenClaim := { program := "ytjabpamcpeaboaa", sum := "b1660b58c26210f7103f3ebe0d4d28076cb21a109ea36638f4647bf24e872d6d", func := "coterie/coterielaw05.FeRing", spec := "feRing", inPlace := ["math/bits.Add64"], unfollowed := true, recurses := true, apart := false }
def FeRingSaid : Prop := feRingRow.holds Try.pinned (OpenSpec.ofChange feRingSpec)

/-- ITS FALSE NEIGHBOUR: 'it returns false'. Refute it at one input. -/
def feRingWrong : ChangeSpec := { name := "feRing", fn := fun _ => fun
  | [d1, d2, d3] => { results := [.lit (.bool false)], args := [d1, d2, d3] }
  | _ => none }
def FeRingWrongFalsely : Prop := feRingRow.holds Try.pinned (OpenSpec.ofChange feRingWrong)

/-- 'coterielaw05.FeSmall': WHATEVER THE INPUT: true; the input reads as it did. -/
def feSmallSpec : ChangeSpec := { name := "feSmall", fn := fun _ => fun
  | [d1, d2] => { results := [.lit (.bool true)], args := [d1, d2] }
  | _ => none }
def feSmallRow : OpenClaim := { program := "ytjabpamcpeaboaa", sum := "b1660b58c26210f7103f3ebe0d4d28076cb21a109ea36638f4647bf24e872d6d", func := "coterie/coterielaw05.FeSmall", spec := "feSmall", inPlace := ["math/bits.Add64"], unfollowed := true, recurses := true, apart := false }
def FeSmallSaid : Prop := feSmallRow.holds Try.pinned (OpenSpec.ofChange feSmallSpec)

/-- ITS FALSE NEIGHBOUR: 'it returns false'. Refute it at one input. -/
def feSmallWrong : ChangeSpec := { name := "feSmall", fn := fun _ => fun
  | [d1, d2] => { results := [.lit (.bool false)], args := [d1, d2] }
  | _ => none }
def FeSmallWrongFalsely : Prop := feSmallRow.holds Try.pinned (OpenSpec.ofChange feSmallWrong)

/-- 'coterielaw05.FeZero': WHATEVER THE INPUT: true; the input reads as it did. -/
def feZeroSpec : ChangeSpec := { name := "feZero", fn := fun _ => fun
  | [d] => { results := [.lit (.bool true)], args := [d] }
  | _ => none }
def feZeroRow : OpenClaim := { program := "ytjabpamcpeaboaa", sum := "b1660b58c26210f7103f3ebe0d4d28076cb21a109ea36638f4647bf24e872d6d", func := "coterie/coterielaw05.FeZero", spec := "feZero", inPlace := ["math/bits.Add64"], unfollowed := true, recurses := true, apart := false }
def FeZeroSaid : Prop := feZeroRow.holds Try.pinned (OpenSpec.ofChange feZeroSpec)

/-- ITS FALSE NEIGHBOUR: 'it returns false'. Refute it at one input. -/
def feZeroWrong : ChangeSpec := { name := "feZero", fn := fun _ => fun
  | [d] => { results := [.lit (.bool false)], args := [d] }
  | _ => none }
def FeZeroWrongFalsely : Prop := feZeroRow.holds Try.pinned (OpenSpec.ofChange feZeroWrong)

/-- 'coterielaw05.FeReckons': WHATEVER THE INPUT: true; the input reads as it did. -/
def feReckonsSpec : ChangeSpec := { name := "feReckons", fn := fun _ => fun
  | [d1, d2, d3] => { results := [.lit (.bool true)], args := [d1, d2, d3] }
  | _ => none }
def feReckonsRow : OpenClaim := { program := "ytjabpamcpeaboaa", sum := "b1660b58c26210f7103f3ebe0d4d28076cb21a109ea36638f4647bf24e872d6d", func := "coterie/coterielaw05.FeReckons", spec := "feReckons", inPlace := ["math/bits.Add64"], unfollowed := true, recurses := true, apart := false }
def FeReckonsSaid : Prop := feReckonsRow.holds Try.pinned (OpenSpec.ofChange feReckonsSpec)

/-- ITS FALSE NEIGHBOUR: 'it returns false'. Refute it at one input. -/
def feReckonsWrong : ChangeSpec := { name := "feReckons", fn := fun _ => fun
  | [d1, d2, d3] => { results := [.lit (.bool false)], args := [d1, d2, d3] }
  | _ => none }
def FeReckonsWrongFalsely : Prop := feReckonsRow.holds Try.pinned (OpenSpec.ofChange feReckonsWrong)

/-- 'coterielaw05.FeDivides': WHATEVER THE INPUT: true; the input reads as it did. -/
def feDividesSpec : ChangeSpec := { name := "feDivides", fn := fun _ => fun
  | [d] => { results := [.lit (.bool true)], args := [d] }
  | _ => none }
def feDividesRow : OpenClaim := { program := "ytjabpamcpeaboaa", sum := "b1660b58c26210f7103f3ebe0d4d28076cb21a109ea36638f4647bf24e872d6d", func := "coterie/coterielaw05.FeDivides", spec := "feDivides", inPlace := ["math/bits.Add64"], unfollowed := true, recurses := true, apart := false }
def FeDividesSaid : Prop := feDividesRow.holds Try.pinned (OpenSpec.ofChange feDividesSpec)

/-- ITS FALSE NEIGHBOUR: 'it returns false'. Refute it at one input. -/
def feDividesWrong : ChangeSpec := { name := "feDivides", fn := fun _ => fun
  | [d] => { results := [.lit (.bool false)], args := [d] }
  | _ => none }
def FeDividesWrongFalsely : Prop := feDividesRow.holds Try.pinned (OpenSpec.ofChange feDividesWrong)

/-- 'coterielaw05.FePowers': WHATEVER THE INPUT: true; the input reads as it did. -/
def fePowersSpec : ChangeSpec := { name := "fePowers", fn := fun _ => fun
  | [d1, d2] => { results := [.lit (.bool true)], args := [d1, d2] }
  | _ => none }
def fePowersRow : OpenClaim := { program := "ytjabpamcpeaboaa", sum := "b1660b58c26210f7103f3ebe0d4d28076cb21a109ea36638f4647bf24e872d6d", func := "coterie/coterielaw05.FePowers", spec := "fePowers", inPlace := ["math/bits.Add64"], unfollowed := true, recurses := true, apart := false }
def FePowersSaid : Prop := fePowersRow.holds Try.pinned (OpenSpec.ofChange fePowersSpec)

/-- ITS FALSE NEIGHBOUR: 'it returns false'. Refute it at one input. -/
def fePowersWrong : ChangeSpec := { name := "fePowers", fn := fun _ => fun
  | [d1, d2] => { results := [.lit (.bool false)], args := [d1, d2] }
  | _ => none }
def FePowersWrongFalsely : Prop := fePowersRow.holds Try.pinned (OpenSpec.ofChange fePowersWrong)

/- THE SECOND FORM. 'bulk': how many values and letters a reading holds, each counted each time it is reached (what is shared counts as often as it is met; a slice's spare places count too). A statement '..UptoSaid' is the law's where the arguments, and the package variables that the reading takes, are together of bulk at most 1048576: NARROWER than '..Said'. Prove '..Said' where nothing that the law and all that it calls make is longer than what came in: it says more and counts as full. Else prove '..UptoSaid'. A law counts once. -/
mutual
def uptoBulk {H : Type} : DataW H → Nat
  | .lit (.string bytes) => bytes.length + 1
  | .lit _ => 1
  | .nil => 1
  | .ptr d => uptoBulk d + 1
  | .slice elems spare => uptoBulkAll elems + uptoBulkAll spare + 1
  | .agg parts => uptoBulkAll parts + 1
  | .iface _ d => uptoBulk d + 1
  | .map entries => uptoBulkEntries entries + 1
  | .held _ => 1
def uptoBulkAll {H : Type} : List (DataW H) → Nat
  | [] => 0
  | d :: r => uptoBulk d + uptoBulkAll r
def uptoBulkEntries {H : Type} : List (Lit × DataW H) → Nat
  | [] => 0
  | x :: r => uptoBulkEntry x + uptoBulkEntries r
def uptoBulkEntry {H : Type} : Lit × DataW H → Nat
  | (.string bytes, d) => bytes.length + uptoBulk d + 1
  | (_, d) => uptoBulk d + 1
 end
def uptoSmall : (H : Type) → List (DataW H) → Bool := fun _ ds => decide (uptoBulkAll ds ≤ 1048576)
def OpenSpec.upto (s : _root_.Go.ChangeSpec) : _root_.Go.OpenSpec := { _root_.Go.OpenSpec.ofChange s with cond := some uptoSmall }

/-- 'coterielaw05.FeBytes', WHERE WHAT IT READS IS OF BULK AT MOST 1048576: true; the input reads as it did. -/
def feBytesUptoRow : OpenClaim := { program := "ytjabpamcpeaboaa", sum := "b1660b58c26210f7103f3ebe0d4d28076cb21a109ea36638f4647bf24e872d6d", func := "coterie/coterielaw05.FeBytes", spec := "feBytes", unfollowed := true, recurses := true, apart := false, narrowed := true }
def FeBytesUptoSaid : Prop := feBytesUptoRow.holds Try.pinned (OpenSpec.upto feBytesSpec)

/-- 'coterielaw05.FeSquares', WHERE WHAT IT READS IS OF BULK AT MOST 1048576: true; the input reads as it did. -/
def feSquaresUptoRow : OpenClaim := { program := "ytjabpamcpeaboaa", sum := "b1660b58c26210f7103f3ebe0d4d28076cb21a109ea36638f4647bf24e872d6d", func := "coterie/coterielaw05.FeSquares", spec := "feSquares", inPlace := ["math/bits.Add64"], unfollowed := true, recurses := true, apart := false, narrowed := true }
def FeSquaresUptoSaid : Prop := feSquaresUptoRow.holds Try.pinned (OpenSpec.upto feSquaresSpec)

/-- 'coterielaw05.FeRing', WHERE WHAT IT READS IS OF BULK AT MOST 1048576: true; the input reads as it did. -/
def feRingUptoRow : OpenClaim := { program := "ytjabpamcpeaboaa", sum := "b1660b58c26210f7103f3ebe0d4d28076cb21a109ea36638f4647bf24e872d6d", func := "coterie/coterielaw05.FeRing", spec := "feRing", inPlace := ["math/bits.Add64"], unfollowed := true, recurses := true, apart := false, narrowed := true }
def FeRingUptoSaid : Prop := feRingUptoRow.holds Try.pinned (OpenSpec.upto feRingSpec)

/-- 'coterielaw05.FeSmall', WHERE WHAT IT READS IS OF BULK AT MOST 1048576: true; the input reads as it did. -/
def feSmallUptoRow : OpenClaim := { program := "ytjabpamcpeaboaa", sum := "b1660b58c26210f7103f3ebe0d4d28076cb21a109ea36638f4647bf24e872d6d", func := "coterie/coterielaw05.FeSmall", spec := "feSmall", inPlace := ["math/bits.Add64"], unfollowed := true, recurses := true, apart := false, narrowed := true }
def FeSmallUptoSaid : Prop := feSmallUptoRow.holds Try.pinned (OpenSpec.upto feSmallSpec)

/-- 'coterielaw05.FeZero', WHERE WHAT IT READS IS OF BULK AT MOST 1048576: true; the input reads as it did. -/
def feZeroUptoRow : OpenClaim := { program := "ytjabpamcpeaboaa", sum := "b1660b58c26210f7103f3ebe0d4d28076cb21a109ea36638f4647bf24e872d6d", func := "coterie/coterielaw05.FeZero", spec := "feZero", inPlace := ["math/bits.Add64"], unfollowed := true, recurses := true, apart := false, narrowed := true }
def FeZeroUptoSaid : Prop := feZeroUptoRow.holds Try.pinned (OpenSpec.upto feZeroSpec)

/-- 'coterielaw05.FeReckons', WHERE WHAT IT READS IS OF BULK AT MOST 1048576: true; the input reads as it did. -/
def feReckonsUptoRow : OpenClaim := { program := "ytjabpamcpeaboaa", sum := "b1660b58c26210f7103f3ebe0d4d28076cb21a109ea36638f4647bf24e872d6d", func := "coterie/coterielaw05.FeReckons", spec := "feReckons", inPlace := ["math/bits.Add64"], unfollowed := true, recurses := true, apart := false, narrowed := true }
def FeReckonsUptoSaid : Prop := feReckonsUptoRow.holds Try.pinned (OpenSpec.upto feReckonsSpec)

/-- 'coterielaw05.FeDivides', WHERE WHAT IT READS IS OF BULK AT MOST 1048576: true; the input reads as it did. -/
def feDividesUptoRow : OpenClaim := { program := "ytjabpamcpeaboaa", sum := "b1660b58c26210f7103f3ebe0d4d28076cb21a109ea36638f4647bf24e872d6d", func := "coterie/coterielaw05.FeDivides", spec := "feDivides", inPlace := ["math/bits.Add64"], unfollowed := true, recurses := true, apart := false, narrowed := true }
def FeDividesUptoSaid : Prop := feDividesUptoRow.holds Try.pinned (OpenSpec.upto feDividesSpec)

/-- 'coterielaw05.FePowers', WHERE WHAT IT READS IS OF BULK AT MOST 1048576: true; the input reads as it did. -/
def fePowersUptoRow : OpenClaim := { program := "ytjabpamcpeaboaa", sum := "b1660b58c26210f7103f3ebe0d4d28076cb21a109ea36638f4647bf24e872d6d", func := "coterie/coterielaw05.FePowers", spec := "fePowers", inPlace := ["math/bits.Add64"], unfollowed := true, recurses := true, apart := false, narrowed := true }
def FePowersUptoSaid : Prop := fePowersUptoRow.holds Try.pinned (OpenSpec.upto fePowersSpec)

end Rows
end Go.Proofs.Ytjabpamcpeaboaa
