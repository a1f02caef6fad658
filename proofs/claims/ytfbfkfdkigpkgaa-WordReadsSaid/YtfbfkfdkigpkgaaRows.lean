/-
  No cell of these rows narrows 'for every input' (looked for: loops, veiled, ifaces, maps, wideKeys, modest, calm, conditions, laid).
  DERIVED. THE GIVEN ROWS OF THIS SEAT. 6 by the template 'for every input the law returns true; each argument reads behind the call as it read before'; 0 by the template 'total and deterministic' (their statements: YtfbfkfdkigpkgaaTotals.lean).
  GIVEN WITH THE SEED: the statements are not yours to turn. If you find one false, say at which input.
  Laid BY PROGRAM, IN A SANDBOX (cutbox-rows.mjs): the forced cells as the released guide's own fill.sh prints them over the translation dc20d25bad5e7741… (all of the seat's roots in one cut). By AI agents, Wed Nov 11 2026. No macro, syntax, notation, axiom, sorry.
-/
import Derived.Test.YtfbfkfdkigpkgaaChecked
import GoSem.Claim
import GoSem.ClaimJoined
import GoSem.ClaimMapViews
import Derived.JoinedTies
import Derived.KernelRfl
namespace Go.Proofs.Ytfbfkfdkigpkgaa
/- THE CELL 'sum', in the pinned program and in every row, IS THE sha256 OF THE DUMP (.gsa) THAT YtfbfkfdkigpkgaaProg.lean LOADS. Nothing in Lean hashes anything: it is a label: what it is worth is what the hold of that sum in a sandbox is worth. -/
noncomputable def Try.pinned : Pinned := { name := "ytfbfkfdkigpkgaa", sum := "dc20d25bad5e7741eb3542ab48eb03a16a6c70f9f1b58a2c483ffe870c6958e2", checked := Try.checked }
namespace Rows
def none {H : Type} : Left H := { results := [], args := [] }

/-- 'coterielaw16.WordOthers': WHATEVER THE INPUT: true; the input reads as it did. -/
def wordOthersSpec : ChangeSpec := { name := "wordOthers", fn := fun _ => fun
  | [d1, d2] => { results := [.lit (.bool true)], args := [d1, d2] }
  | _ => none }
def wordOthersRow : OpenClaim := { program := "ytfbfkfdkigpkgaa", sum := "dc20d25bad5e7741eb3542ab48eb03a16a6c70f9f1b58a2c483ffe870c6958e2", func := "coterie/coterielaw16.WordOthers", spec := "wordOthers", unfollowed := true, recurses := true, apart := false }
def WordOthersSaid : Prop := wordOthersRow.holds Try.pinned (OpenSpec.ofChange wordOthersSpec)

/-- ITS FALSE NEIGHBOUR: 'it returns false'. Refute it at one input. -/
def wordOthersWrong : ChangeSpec := { name := "wordOthers", fn := fun _ => fun
  | [d1, d2] => { results := [.lit (.bool false)], args := [d1, d2] }
  | _ => none }
def WordOthersWrongFalsely : Prop := wordOthersRow.holds Try.pinned (OpenSpec.ofChange wordOthersWrong)

/-- 'coterielaw16.WordHead': WHATEVER THE INPUT: true; the input reads as it did. -/
def wordHeadSpec : ChangeSpec := { name := "wordHead", fn := fun _ => fun
  | [d1, d2, d3, d4] => { results := [.lit (.bool true)], args := [d1, d2, d3, d4] }
  | _ => none }
def wordHeadRow : OpenClaim := { program := "ytfbfkfdkigpkgaa", sum := "dc20d25bad5e7741eb3542ab48eb03a16a6c70f9f1b58a2c483ffe870c6958e2", func := "coterie/coterielaw16.WordHead", spec := "wordHead", unfollowed := true, recurses := true, apart := false }
def WordHeadSaid : Prop := wordHeadRow.holds Try.pinned (OpenSpec.ofChange wordHeadSpec)

/-- ITS FALSE NEIGHBOUR: 'it returns false'. Refute it at one input. -/
def wordHeadWrong : ChangeSpec := { name := "wordHead", fn := fun _ => fun
  | [d1, d2, d3, d4] => { results := [.lit (.bool false)], args := [d1, d2, d3, d4] }
  | _ => none }
def WordHeadWrongFalsely : Prop := wordHeadRow.holds Try.pinned (OpenSpec.ofChange wordHeadWrong)

/-- 'coterielaw16.WordWrites': WHATEVER THE INPUT: true; the input reads as it did. -/
def wordWritesSpec : ChangeSpec := { name := "wordWrites", fn := fun _ => fun
  | [d1, d2] => { results := [.lit (.bool true)], args := [d1, d2] }
  | _ => none }
def wordWritesRow : OpenClaim := { program := "ytfbfkfdkigpkgaa", sum := "dc20d25bad5e7741eb3542ab48eb03a16a6c70f9f1b58a2c483ffe870c6958e2", func := "coterie/coterielaw16.WordWrites", spec := "wordWrites", unfollowed := true, recurses := true, apart := false }
def WordWritesSaid : Prop := wordWritesRow.holds Try.pinned (OpenSpec.ofChange wordWritesSpec)

/-- ITS FALSE NEIGHBOUR: 'it returns false'. Refute it at one input. -/
def wordWritesWrong : ChangeSpec := { name := "wordWrites", fn := fun _ => fun
  | [d1, d2] => { results := [.lit (.bool false)], args := [d1, d2] }
  | _ => none }
def WordWritesWrongFalsely : Prop := wordWritesRow.holds Try.pinned (OpenSpec.ofChange wordWritesWrong)

/-- 'coterielaw16.WordReads': WHATEVER THE INPUT: true; the input reads as it did. -/
def wordReadsSpec : ChangeSpec := { name := "wordReads", fn := fun _ => fun
  | [d] => { results := [.lit (.bool true)], args := [d] }
  | _ => none }
def wordReadsRow : OpenClaim := { program := "ytfbfkfdkigpkgaa", sum := "dc20d25bad5e7741eb3542ab48eb03a16a6c70f9f1b58a2c483ffe870c6958e2", func := "coterie/coterielaw16.WordReads", spec := "wordReads", unfollowed := true, recurses := true, apart := false }
def WordReadsSaid : Prop := wordReadsRow.holds Try.pinned (OpenSpec.ofChange wordReadsSpec)

/-- ITS FALSE NEIGHBOUR: 'it returns false'. Refute it at one input. -/
def wordReadsWrong : ChangeSpec := { name := "wordReads", fn := fun _ => fun
  | [d] => { results := [.lit (.bool false)], args := [d] }
  | _ => none }
def WordReadsWrongFalsely : Prop := wordReadsRow.holds Try.pinned (OpenSpec.ofChange wordReadsWrong)

/-- 'coterielaw16.WordBack': WHATEVER THE INPUT: true; the input reads as it did. -/
def wordBackSpec : ChangeSpec := { name := "wordBack", fn := fun _ => fun
  | [d1, d2, d3] => { results := [.lit (.bool true)], args := [d1, d2, d3] }
  | _ => none }
def wordBackRow : OpenClaim := { program := "ytfbfkfdkigpkgaa", sum := "dc20d25bad5e7741eb3542ab48eb03a16a6c70f9f1b58a2c483ffe870c6958e2", func := "coterie/coterielaw16.WordBack", spec := "wordBack", unfollowed := true, recurses := true, apart := false }
def WordBackSaid : Prop := wordBackRow.holds Try.pinned (OpenSpec.ofChange wordBackSpec)

/-- ITS FALSE NEIGHBOUR: 'it returns false'. Refute it at one input. -/
def wordBackWrong : ChangeSpec := { name := "wordBack", fn := fun _ => fun
  | [d1, d2, d3] => { results := [.lit (.bool false)], args := [d1, d2, d3] }
  | _ => none }
def WordBackWrongFalsely : Prop := wordBackRow.holds Try.pinned (OpenSpec.ofChange wordBackWrong)

/-- 'coterielaw16.WordStands': WHATEVER THE INPUT: true; the input reads as it did. -/
def wordStandsSpec : ChangeSpec := { name := "wordStands", fn := fun _ => fun
  | [d] => { results := [.lit (.bool true)], args := [d] }
  | _ => none }
def wordStandsRow : OpenClaim := { program := "ytfbfkfdkigpkgaa", sum := "dc20d25bad5e7741eb3542ab48eb03a16a6c70f9f1b58a2c483ffe870c6958e2", func := "coterie/coterielaw16.WordStands", spec := "wordStands", unfollowed := true, recurses := true, apart := false }
def WordStandsSaid : Prop := wordStandsRow.holds Try.pinned (OpenSpec.ofChange wordStandsSpec)

/-- ITS FALSE NEIGHBOUR: 'it returns false'. Refute it at one input. -/
def wordStandsWrong : ChangeSpec := { name := "wordStands", fn := fun _ => fun
  | [d] => { results := [.lit (.bool false)], args := [d] }
  | _ => none }
def WordStandsWrongFalsely : Prop := wordStandsRow.holds Try.pinned (OpenSpec.ofChange wordStandsWrong)

/- THE SECOND FORM. 'bulk': how many values and letters a reading holds, each counted each time it is reached (what is shared counts as often as it is met; a slice's spare places count too). A statement '..UptoSaid' is the law's where the arguments, and the package variables that the reading takes, are together of bulk at most 1048576: NARROWER than '..Said'. Prove '..Said' where nothing that the law and all that it calls make is longer than what came in: it says more and counts as full. Else prove '..UptoSaid'. A law counts once. -/
mutual
def uptoBulk {H : Type} : DataW H → Nat
  | .lit (.string bytes) => bytes.length + 1
  | .lit _ => 1
  | .nil => 1
  | .ptr d => uptoBulk d + 1
  | .slice elems spare => uptoBulkAll elems + uptoBulkAll spare + 1
  | .agg parts => uptoBulkAll parts + 1
  | .iface _ d => uptoBulk d + 1
  | .map entries => uptoBulkEntries entries + 1
  | .held _ => 1
def uptoBulkAll {H : Type} : List (DataW H) → Nat
  | [] => 0
  | d :: r => uptoBulk d + uptoBulkAll r
def uptoBulkEntries {H : Type} : List (Lit × DataW H) → Nat
  | [] => 0
  | x :: r => uptoBulkEntry x + uptoBulkEntries r
def uptoBulkEntry {H : Type} : Lit × DataW H → Nat
  | (.string bytes, d) => bytes.length + uptoBulk d + 1
  | (_, d) => uptoBulk d + 1
 end
def uptoSmall : (H : Type) → List (DataW H) → Bool := fun _ ds => decide (uptoBulkAll ds ≤ 1048576)
def OpenSpec.upto (s : _root_.Go.ChangeSpec) : _root_.Go.OpenSpec := { _root_.Go.OpenSpec.ofChange s with cond := some uptoSmall }

/-- 'coterielaw16.WordOthers', WHERE WHAT IT READS IS OF BULK AT MOST 1048576: true; the input reads as it did. -/
def wordOthersUptoRow : OpenClaim := { program := "ytfbfkfdkigpkgaa", sum := "dc20d25bad5e7741eb3542ab48eb03a16a6c70f9f1b58a2c483ffe870c6958e2", func := "coterie/coterielaw16.WordOthers", spec := "wordOthers", unfollowed := true, recurses := true, apart := false, narrowed := true }
def WordOthersUptoSaid : Prop := wordOthersUptoRow.holds Try.pinned (OpenSpec.upto wordOthersSpec)

/-- 'coterielaw16.WordHead', WHERE WHAT IT READS IS OF BULK AT MOST 1048576: true; the input reads as it did. -/
def wordHeadUptoRow : OpenClaim := { program := "ytfbfkfdkigpkgaa", sum := "dc20d25bad5e7741eb3542ab48eb03a16a6c70f9f1b58a2c483ffe870c6958e2", func := "coterie/coterielaw16.WordHead", spec := "wordHead", unfollowed := true, recurses := true, apart := false, narrowed := true }
def WordHeadUptoSaid : Prop := wordHeadUptoRow.holds Try.pinned (OpenSpec.upto wordHeadSpec)

/-- 'coterielaw16.WordWrites', WHERE WHAT IT READS IS OF BULK AT MOST 1048576: true; the input reads as it did. -/
def wordWritesUptoRow : OpenClaim := { program := "ytfbfkfdkigpkgaa", sum := "dc20d25bad5e7741eb3542ab48eb03a16a6c70f9f1b58a2c483ffe870c6958e2", func := "coterie/coterielaw16.WordWrites", spec := "wordWrites", unfollowed := true, recurses := true, apart := false, narrowed := true }
def WordWritesUptoSaid : Prop := wordWritesUptoRow.holds Try.pinned (OpenSpec.upto wordWritesSpec)

/-- 'coterielaw16.WordReads', WHERE WHAT IT READS IS OF BULK AT MOST 1048576: true; the input reads as it did. -/
def wordReadsUptoRow : OpenClaim := { program := "ytfbfkfdkigpkgaa", sum := "dc20d25bad5e7741eb3542ab48eb03a16a6c70f9f1b58a2c483ffe870c6958e2", func := "coterie/coterielaw16.WordReads", spec := "wordReads", unfollowed := true, recurses := true, apart := false, narrowed := true }
def WordReadsUptoSaid : Prop := wordReadsUptoRow.holds Try.pinned (OpenSpec.upto wordReadsSpec)

/-- 'coterielaw16.WordBack', WHERE WHAT IT READS IS OF BULK AT MOST 1048576: true; the input reads as it did. -/
def wordBackUptoRow : OpenClaim := { program := "ytfbfkfdkigpkgaa", sum := "dc20d25bad5e7741eb3542ab48eb03a16a6c70f9f1b58a2c483ffe870c6958e2", func := "coterie/coterielaw16.WordBack", spec := "wordBack", unfollowed := true, recurses := true, apart := false, narrowed := true }
def WordBackUptoSaid : Prop := wordBackUptoRow.holds Try.pinned (OpenSpec.upto wordBackSpec)

/-- 'coterielaw16.WordStands', WHERE WHAT IT READS IS OF BULK AT MOST 1048576: true; the input reads as it did. -/
def wordStandsUptoRow : OpenClaim := { program := "ytfbfkfdkigpkgaa", sum := "dc20d25bad5e7741eb3542ab48eb03a16a6c70f9f1b58a2c483ffe870c6958e2", func := "coterie/coterielaw16.WordStands", spec := "wordStands", unfollowed := true, recurses := true, apart := false, narrowed := true }
def WordStandsUptoSaid : Prop := wordStandsUptoRow.holds Try.pinned (OpenSpec.upto wordStandsSpec)

end Rows
end Go.Proofs.Ytfbfkfdkigpkgaa
