/-
  No cell of these rows narrows 'for every input' (looked for: loops, veiled, ifaces, maps, wideKeys, modest, calm, conditions, laid).
  DERIVED. THE GIVEN ROWS OF THIS SEAT. 5 by the template 'for every input the law returns true; each argument reads behind the call as it read before'; 0 by the template 'total and deterministic' (their statements: YthgjhipfgdlbnaaTotals.lean).
  GIVEN WITH THE SEED: the statements are not yours to turn. If you find one false, say at which input.
  Laid BY PROGRAM, IN A SANDBOX (cutbox-rows.mjs): the forced cells as the released guide's own fill.sh prints them over the translation ad7fd34bf91def60… (all of the seat's roots in one cut). By AI agents, Wed Nov 11 2026. No macro, syntax, notation, axiom, sorry.
-/
import Derived.Test.YthgjhipfgdlbnaaChecked
import GoSem.Claim
import GoSem.ClaimJoined
import GoSem.ClaimMapViews
import Derived.JoinedTies
import Derived.KernelRfl
namespace Go.Proofs.Ythgjhipfgdlbnaa
/- THE CELL 'sum', in the pinned program and in every row, IS THE sha256 OF THE DUMP (.gsa) THAT YthgjhipfgdlbnaaProg.lean LOADS. Nothing in Lean hashes anything: it is a label: what it is worth is what the hold of that sum in a sandbox is worth. -/
noncomputable def Try.pinned : Pinned := { name := "ythgjhipfgdlbnaa", sum := "ad7fd34bf91def60e99df26a3185ec23695ef5f4c52d74d859ec900eac0d0f8f", checked := Try.checked }
namespace Rows
def none {H : Type} : Left H := { results := [], args := [] }

/-- 'coterielaw06.CurveMults': WHATEVER THE INPUT: true; the input reads as it did. -/
def curveMultsSpec : ChangeSpec := { name := "curveMults", fn := fun _ => fun
  | [d1, d2] => { results := [.lit (.bool true)], args := [d1, d2] }
  | _ => none }
def curveMultsRow : OpenClaim := { program := "ythgjhipfgdlbnaa", sum := "ad7fd34bf91def60e99df26a3185ec23695ef5f4c52d74d859ec900eac0d0f8f", func := "coterie/coterielaw06.CurveMults", spec := "curveMults", inPlace := ["math/bits.Add64"], unfollowed := true, recurses := true, apart := false }
def CurveMultsSaid : Prop := curveMultsRow.holds Try.pinned (OpenSpec.ofChange curveMultsSpec)

/-- ITS FALSE NEIGHBOUR: 'it returns false'. Refute it at one input. -/
def curveMultsWrong : ChangeSpec := { name := "curveMults", fn := fun _ => fun
  | [d1, d2] => { results := [.lit (.bool false)], args := [d1, d2] }
  | _ => none }
def CurveMultsWrongFalsely : Prop := curveMultsRow.holds Try.pinned (OpenSpec.ofChange curveMultsWrong)

/-- 'coterielaw06.CurveTurns': WHATEVER THE INPUT: true; the input reads as it did. -/
def curveTurnsSpec : ChangeSpec := { name := "curveTurns", fn := fun _ => fun
  | [d1, d2, d3] => { results := [.lit (.bool true)], args := [d1, d2, d3] }
  | _ => none }
def curveTurnsRow : OpenClaim := { program := "ythgjhipfgdlbnaa", sum := "ad7fd34bf91def60e99df26a3185ec23695ef5f4c52d74d859ec900eac0d0f8f", func := "coterie/coterielaw06.CurveTurns", spec := "curveTurns", inPlace := ["math/bits.Add64"], unfollowed := true, recurses := true, apart := false }
def CurveTurnsSaid : Prop := curveTurnsRow.holds Try.pinned (OpenSpec.ofChange curveTurnsSpec)

/-- ITS FALSE NEIGHBOUR: 'it returns false'. Refute it at one input. -/
def curveTurnsWrong : ChangeSpec := { name := "curveTurns", fn := fun _ => fun
  | [d1, d2, d3] => { results := [.lit (.bool false)], args := [d1, d2, d3] }
  | _ => none }
def CurveTurnsWrongFalsely : Prop := curveTurnsRow.holds Try.pinned (OpenSpec.ofChange curveTurnsWrong)

/-- 'coterielaw06.CurveBits': WHATEVER THE INPUT: true; the input reads as it did. -/
def curveBitsSpec : ChangeSpec := { name := "curveBits", fn := fun _ => fun
  | [d1, d2] => { results := [.lit (.bool true)], args := [d1, d2] }
  | _ => none }
def curveBitsRow : OpenClaim := { program := "ythgjhipfgdlbnaa", sum := "ad7fd34bf91def60e99df26a3185ec23695ef5f4c52d74d859ec900eac0d0f8f", func := "coterie/coterielaw06.CurveBits", spec := "curveBits", inPlace := ["math/bits.Add64"], unfollowed := true, recurses := true, apart := false }
def CurveBitsSaid : Prop := curveBitsRow.holds Try.pinned (OpenSpec.ofChange curveBitsSpec)

/-- ITS FALSE NEIGHBOUR: 'it returns false'. Refute it at one input. -/
def curveBitsWrong : ChangeSpec := { name := "curveBits", fn := fun _ => fun
  | [d1, d2] => { results := [.lit (.bool false)], args := [d1, d2] }
  | _ => none }
def CurveBitsWrongFalsely : Prop := curveBitsRow.holds Try.pinned (OpenSpec.ofChange curveBitsWrong)

/-- 'coterielaw06.CurveBase': WHATEVER THE INPUT: true; the input reads as it did. -/
def curveBaseSpec : ChangeSpec := { name := "curveBase", fn := fun _ => fun
  | [d] => { results := [.lit (.bool true)], args := [d] }
  | _ => none }
def curveBaseRow : OpenClaim := { program := "ythgjhipfgdlbnaa", sum := "ad7fd34bf91def60e99df26a3185ec23695ef5f4c52d74d859ec900eac0d0f8f", func := "coterie/coterielaw06.CurveBase", spec := "curveBase", inPlace := ["math/bits.Add64"], unfollowed := true, recurses := true, apart := false }
def CurveBaseSaid : Prop := curveBaseRow.holds Try.pinned (OpenSpec.ofChange curveBaseSpec)

/-- ITS FALSE NEIGHBOUR: 'it returns false'. Refute it at one input. -/
def curveBaseWrong : ChangeSpec := { name := "curveBase", fn := fun _ => fun
  | [d] => { results := [.lit (.bool false)], args := [d] }
  | _ => none }
def CurveBaseWrongFalsely : Prop := curveBaseRow.holds Try.pinned (OpenSpec.ofChange curveBaseWrong)

/-- 'coterielaw06.CurveMeets': WHATEVER THE INPUT: true; the input reads as it did. -/
def curveMeetsSpec : ChangeSpec := { name := "curveMeets", fn := fun _ => fun
  | [d1, d2] => { results := [.lit (.bool true)], args := [d1, d2] }
  | _ => none }
def curveMeetsRow : OpenClaim := { program := "ythgjhipfgdlbnaa", sum := "ad7fd34bf91def60e99df26a3185ec23695ef5f4c52d74d859ec900eac0d0f8f", func := "coterie/coterielaw06.CurveMeets", spec := "curveMeets", inPlace := ["math/bits.Add64"], unfollowed := true, recurses := true, apart := false }
def CurveMeetsSaid : Prop := curveMeetsRow.holds Try.pinned (OpenSpec.ofChange curveMeetsSpec)

/-- ITS FALSE NEIGHBOUR: 'it returns false'. Refute it at one input. -/
def curveMeetsWrong : ChangeSpec := { name := "curveMeets", fn := fun _ => fun
  | [d1, d2] => { results := [.lit (.bool false)], args := [d1, d2] }
  | _ => none }
def CurveMeetsWrongFalsely : Prop := curveMeetsRow.holds Try.pinned (OpenSpec.ofChange curveMeetsWrong)

/- THE SECOND FORM. 'bulk': how many values and letters a reading holds, each counted each time it is reached (what is shared counts as often as it is met; a slice's spare places count too). A statement '..UptoSaid' is the law's where the arguments, and the package variables that the reading takes, are together of bulk at most 1048576: NARROWER than '..Said'. Prove '..Said' where nothing that the law and all that it calls make is longer than what came in: it says more and counts as full. Else prove '..UptoSaid'. A law counts once. -/
mutual
def uptoBulk {H : Type} : DataW H → Nat
  | .lit (.string bytes) => bytes.length + 1
  | .lit _ => 1
  | .nil => 1
  | .ptr d => uptoBulk d + 1
  | .slice elems spare => uptoBulkAll elems + uptoBulkAll spare + 1
  | .agg parts => uptoBulkAll parts + 1
  | .iface _ d => uptoBulk d + 1
  | .map entries => uptoBulkEntries entries + 1
  | .held _ => 1
def uptoBulkAll {H : Type} : List (DataW H) → Nat
  | [] => 0
  | d :: r => uptoBulk d + uptoBulkAll r
def uptoBulkEntries {H : Type} : List (Lit × DataW H) → Nat
  | [] => 0
  | x :: r => uptoBulkEntry x + uptoBulkEntries r
def uptoBulkEntry {H : Type} : Lit × DataW H → Nat
  | (.string bytes, d) => bytes.length + uptoBulk d + 1
  | (_, d) => uptoBulk d + 1
 end
def uptoSmall : (H : Type) → List (DataW H) → Bool := fun _ ds => decide (uptoBulkAll ds ≤ 1048576)
def OpenSpec.upto (s : _root_.Go.ChangeSpec) : _root_.Go.OpenSpec := { _root_.Go.OpenSpec.ofChange s with cond := some uptoSmall }

/-- 'coterielaw06.CurveMults', WHERE WHAT IT READS IS OF BULK AT MOST 1048576: true; the input reads as it did. -/
def curveMultsUptoRow : OpenClaim := { program := "ythgjhipfgdlbnaa", sum := "ad7fd34bf91def60e99df26a3185ec23695ef5f4c52d74d859ec900eac0d0f8f", func := "coterie/coterielaw06.CurveMults", spec := "curveMults", inPlace := ["math/bits.Add64"], unfollowed := true, recurses := true, apart := false, narrowed := true }
def CurveMultsUptoSaid : Prop := curveMultsUptoRow.holds Try.pinned (OpenSpec.upto curveMultsSpec)

/-- 'coterielaw06.CurveTurns', WHERE WHAT IT READS IS OF BULK AT MOST 1048576: true; the input reads as it did. -/
def curveTurnsUptoRow : OpenClaim := { program := "ythgjhipfgdlbnaa", sum := "ad7fd34bf91def60e99df26a3185ec23695ef5f4c52d74d859ec900eac0d0f8f", func := "coterie/coterielaw06.CurveTurns", spec := "curveTurns", inPlace := ["math/bits.Add64"], unfollowed := true, recurses := true, apart := false, narrowed := true }
def CurveTurnsUptoSaid : Prop := curveTurnsUptoRow.holds Try.pinned (OpenSpec.upto curveTurnsSpec)

/-- 'coterielaw06.CurveBits', WHERE WHAT IT READS IS OF BULK AT MOST 1048576: true; the input reads as it did. -/
def curveBitsUptoRow : OpenClaim := { program := "ythgjhipfgdlbnaa", sum := "ad7fd34bf91def60e99df26a3185ec23695ef5f4c52d74d859ec900eac0d0f8f", func := "coterie/coterielaw06.CurveBits", spec := "curveBits", inPlace := ["math/bits.Add64"], unfollowed := true, recurses := true, apart := false, narrowed := true }
def CurveBitsUptoSaid : Prop := curveBitsUptoRow.holds Try.pinned (OpenSpec.upto curveBitsSpec)

/-- 'coterielaw06.CurveBase', WHERE WHAT IT READS IS OF BULK AT MOST 1048576: true; the input reads as it did. -/
def curveBaseUptoRow : OpenClaim := { program := "ythgjhipfgdlbnaa", sum := "ad7fd34bf91def60e99df26a3185ec23695ef5f4c52d74d859ec900eac0d0f8f", func := "coterie/coterielaw06.CurveBase", spec := "curveBase", inPlace := ["math/bits.Add64"], unfollowed := true, recurses := true, apart := false, narrowed := true }
def CurveBaseUptoSaid : Prop := curveBaseUptoRow.holds Try.pinned (OpenSpec.upto curveBaseSpec)

/-- 'coterielaw06.CurveMeets', WHERE WHAT IT READS IS OF BULK AT MOST 1048576: true; the input reads as it did. -/
def curveMeetsUptoRow : OpenClaim := { program := "ythgjhipfgdlbnaa", sum := "ad7fd34bf91def60e99df26a3185ec23695ef5f4c52d74d859ec900eac0d0f8f", func := "coterie/coterielaw06.CurveMeets", spec := "curveMeets", inPlace := ["math/bits.Add64"], unfollowed := true, recurses := true, apart := false, narrowed := true }
def CurveMeetsUptoSaid : Prop := curveMeetsUptoRow.holds Try.pinned (OpenSpec.upto curveMeetsSpec)

end Rows
end Go.Proofs.Ythgjhipfgdlbnaa
