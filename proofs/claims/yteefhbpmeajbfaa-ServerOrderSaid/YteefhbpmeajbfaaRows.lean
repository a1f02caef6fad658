/-
  No cell of these rows narrows 'for every input' (looked for: loops, veiled, ifaces, maps, wideKeys, modest, calm, conditions, laid).
  DERIVED. THE GIVEN ROWS OF THIS SEAT. 5 by the template 'for every input the law returns true; each argument reads behind the call as it read before'; 0 by the template 'total and deterministic' (their statements: YteefhbpmeajbfaaTotals.lean).
  GIVEN WITH THE SEED: the statements are not yours to turn. If you find one false, say at which input.
  Laid BY PROGRAM, IN A SANDBOX (cutbox-rows.mjs): the forced cells as the released guide's own fill.sh prints them over the translation 1fa45e720793e09e… (all of the seat's roots in one cut). By AI agents, Wed Nov 11 2026. No macro, syntax, notation, axiom, sorry.
-/
import Derived.Test.YteefhbpmeajbfaaChecked
import GoSem.Claim
import GoSem.ClaimJoined
import GoSem.ClaimMapViews
import Derived.JoinedTies
import Derived.KernelRfl
namespace Go.Proofs.Yteefhbpmeajbfaa
/- THE CELL 'sum', in the pinned program and in every row, IS THE sha256 OF THE DUMP (.gsa) THAT YteefhbpmeajbfaaProg.lean LOADS. Nothing in Lean hashes anything: it is a label: what it is worth is what the hold of that sum in a sandbox is worth. -/
noncomputable def Try.pinned : Pinned := { name := "yteefhbpmeajbfaa", sum := "1fa45e720793e09ebd88d9d4a46238b87a8f4255d91e4fe935a91ad4d2b5e535", checked := Try.checked }
namespace Rows
def none {H : Type} : Left H := { results := [], args := [] }

/-- 'coterielaw22.ServerOrder': WHATEVER THE INPUT: true; the input reads as it did. -/
def serverOrderSpec : ChangeSpec := { name := "serverOrder", fn := fun _ => fun
  | [d1, d2, d3] => { results := [.lit (.bool true)], args := [d1, d2, d3] }
  | _ => none }
def serverOrderRow : OpenClaim := { program := "yteefhbpmeajbfaa", sum := "1fa45e720793e09ebd88d9d4a46238b87a8f4255d91e4fe935a91ad4d2b5e535", func := "coterie/coterielaw22.ServerOrder", spec := "serverOrder", unfollowed := true, recurses := true, apart := false }
def ServerOrderSaid : Prop := serverOrderRow.holds Try.pinned (OpenSpec.ofChange serverOrderSpec)

/-- ITS FALSE NEIGHBOUR: 'it returns false'. Refute it at one input. -/
def serverOrderWrong : ChangeSpec := { name := "serverOrder", fn := fun _ => fun
  | [d1, d2, d3] => { results := [.lit (.bool false)], args := [d1, d2, d3] }
  | _ => none }
def ServerOrderWrongFalsely : Prop := serverOrderRow.holds Try.pinned (OpenSpec.ofChange serverOrderWrong)

/-- 'coterielaw22.ServerPosts': WHATEVER THE INPUT: true; the input reads as it did. -/
def serverPostsSpec : ChangeSpec := { name := "serverPosts", fn := fun _ => fun
  | [d1, d2, d3, d4] => { results := [.lit (.bool true)], args := [d1, d2, d3, d4] }
  | _ => none }
def serverPostsRow : OpenClaim := { program := "yteefhbpmeajbfaa", sum := "1fa45e720793e09ebd88d9d4a46238b87a8f4255d91e4fe935a91ad4d2b5e535", func := "coterie/coterielaw22.ServerPosts", spec := "serverPosts", unfollowed := true, recurses := true, apart := false }
def ServerPostsSaid : Prop := serverPostsRow.holds Try.pinned (OpenSpec.ofChange serverPostsSpec)

/-- ITS FALSE NEIGHBOUR: 'it returns false'. Refute it at one input. -/
def serverPostsWrong : ChangeSpec := { name := "serverPosts", fn := fun _ => fun
  | [d1, d2, d3, d4] => { results := [.lit (.bool false)], args := [d1, d2, d3, d4] }
  | _ => none }
def ServerPostsWrongFalsely : Prop := serverPostsRow.holds Try.pinned (OpenSpec.ofChange serverPostsWrong)

/-- 'coterielaw22.ServerBack': WHATEVER THE INPUT: true; the input reads as it did. -/
def serverBackSpec : ChangeSpec := { name := "serverBack", fn := fun _ => fun
  | [d1, d2] => { results := [.lit (.bool true)], args := [d1, d2] }
  | _ => none }
def serverBackRow : OpenClaim := { program := "yteefhbpmeajbfaa", sum := "1fa45e720793e09ebd88d9d4a46238b87a8f4255d91e4fe935a91ad4d2b5e535", func := "coterie/coterielaw22.ServerBack", spec := "serverBack", unfollowed := true, recurses := true, apart := false }
def ServerBackSaid : Prop := serverBackRow.holds Try.pinned (OpenSpec.ofChange serverBackSpec)

/-- ITS FALSE NEIGHBOUR: 'it returns false'. Refute it at one input. -/
def serverBackWrong : ChangeSpec := { name := "serverBack", fn := fun _ => fun
  | [d1, d2] => { results := [.lit (.bool false)], args := [d1, d2] }
  | _ => none }
def ServerBackWrongFalsely : Prop := serverBackRow.holds Try.pinned (OpenSpec.ofChange serverBackWrong)

/-- 'coterielaw22.ServerDrains': WHATEVER THE INPUT: true; the input reads as it did. -/
def serverDrainsSpec : ChangeSpec := { name := "serverDrains", fn := fun _ => fun
  | [d] => { results := [.lit (.bool true)], args := [d] }
  | _ => none }
def serverDrainsRow : OpenClaim := { program := "yteefhbpmeajbfaa", sum := "1fa45e720793e09ebd88d9d4a46238b87a8f4255d91e4fe935a91ad4d2b5e535", func := "coterie/coterielaw22.ServerDrains", spec := "serverDrains", unfollowed := true, recurses := true, apart := false }
def ServerDrainsSaid : Prop := serverDrainsRow.holds Try.pinned (OpenSpec.ofChange serverDrainsSpec)

/-- ITS FALSE NEIGHBOUR: 'it returns false'. Refute it at one input. -/
def serverDrainsWrong : ChangeSpec := { name := "serverDrains", fn := fun _ => fun
  | [d] => { results := [.lit (.bool false)], args := [d] }
  | _ => none }
def ServerDrainsWrongFalsely : Prop := serverDrainsRow.holds Try.pinned (OpenSpec.ofChange serverDrainsWrong)

/-- 'coterielaw22.ServerTakes': WHATEVER THE INPUT: true; the input reads as it did. -/
def serverTakesSpec : ChangeSpec := { name := "serverTakes", fn := fun _ => fun
  | [d1, d2, d3] => { results := [.lit (.bool true)], args := [d1, d2, d3] }
  | _ => none }
def serverTakesRow : OpenClaim := { program := "yteefhbpmeajbfaa", sum := "1fa45e720793e09ebd88d9d4a46238b87a8f4255d91e4fe935a91ad4d2b5e535", func := "coterie/coterielaw22.ServerTakes", spec := "serverTakes", unfollowed := true, recurses := true, apart := false }
def ServerTakesSaid : Prop := serverTakesRow.holds Try.pinned (OpenSpec.ofChange serverTakesSpec)

/-- ITS FALSE NEIGHBOUR: 'it returns false'. Refute it at one input. -/
def serverTakesWrong : ChangeSpec := { name := "serverTakes", fn := fun _ => fun
  | [d1, d2, d3] => { results := [.lit (.bool false)], args := [d1, d2, d3] }
  | _ => none }
def ServerTakesWrongFalsely : Prop := serverTakesRow.holds Try.pinned (OpenSpec.ofChange serverTakesWrong)

/- THE SECOND FORM. 'bulk': how many values and letters a reading holds, each counted each time it is reached (what is shared counts as often as it is met; a slice's spare places count too). A statement '..UptoSaid' is the law's where the arguments, and the package variables that the reading takes, are together of bulk at most 1048576: NARROWER than '..Said'. Prove '..Said' where nothing that the law and all that it calls make is longer than what came in: it says more and counts as full. Else prove '..UptoSaid'. A law counts once. -/
mutual
def uptoBulk {H : Type} : DataW H → Nat
  | .lit (.string bytes) => bytes.length + 1
  | .lit _ => 1
  | .nil => 1
  | .ptr d => uptoBulk d + 1
  | .slice elems spare => uptoBulkAll elems + uptoBulkAll spare + 1
  | .agg parts => uptoBulkAll parts + 1
  | .iface _ d => uptoBulk d + 1
  | .map entries => uptoBulkEntries entries + 1
  | .held _ => 1
def uptoBulkAll {H : Type} : List (DataW H) → Nat
  | [] => 0
  | d :: r => uptoBulk d + uptoBulkAll r
def uptoBulkEntries {H : Type} : List (Lit × DataW H) → Nat
  | [] => 0
  | x :: r => uptoBulkEntry x + uptoBulkEntries r
def uptoBulkEntry {H : Type} : Lit × DataW H → Nat
  | (.string bytes, d) => bytes.length + uptoBulk d + 1
  | (_, d) => uptoBulk d + 1
 end
def uptoSmall : (H : Type) → List (DataW H) → Bool := fun _ ds => decide (uptoBulkAll ds ≤ 1048576)
def OpenSpec.upto (s : _root_.Go.ChangeSpec) : _root_.Go.OpenSpec := { _root_.Go.OpenSpec.ofChange s with cond := some uptoSmall }

/-- 'coterielaw22.ServerOrder', WHERE WHAT IT READS IS OF BULK AT MOST 1048576: true; the input reads as it did. -/
def serverOrderUptoRow : OpenClaim := { program := "yteefhbpmeajbfaa", sum := "1fa45e720793e09ebd88d9d4a46238b87a8f4255d91e4fe935a91ad4d2b5e535", func := "coterie/coterielaw22.ServerOrder", spec := "serverOrder", unfollowed := true, recurses := true, apart := false, narrowed := true }
def ServerOrderUptoSaid : Prop := serverOrderUptoRow.holds Try.pinned (OpenSpec.upto serverOrderSpec)

/-- 'coterielaw22.ServerPosts', WHERE WHAT IT READS IS OF BULK AT MOST 1048576: true; the input reads as it did. -/
def serverPostsUptoRow : OpenClaim := { program := "yteefhbpmeajbfaa", sum := "1fa45e720793e09ebd88d9d4a46238b87a8f4255d91e4fe935a91ad4d2b5e535", func := "coterie/coterielaw22.ServerPosts", spec := "serverPosts", unfollowed := true, recurses := true, apart := false, narrowed := true }
def ServerPostsUptoSaid : Prop := serverPostsUptoRow.holds Try.pinned (OpenSpec.upto serverPostsSpec)

/-- 'coterielaw22.ServerBack', WHERE WHAT IT READS IS OF BULK AT MOST 1048576: true; the input reads as it did. -/
def serverBackUptoRow : OpenClaim := { program := "yteefhbpmeajbfaa", sum := "1fa45e720793e09ebd88d9d4a46238b87a8f4255d91e4fe935a91ad4d2b5e535", func := "coterie/coterielaw22.ServerBack", spec := "serverBack", unfollowed := true, recurses := true, apart := false, narrowed := true }
def ServerBackUptoSaid : Prop := serverBackUptoRow.holds Try.pinned (OpenSpec.upto serverBackSpec)

/-- 'coterielaw22.ServerDrains', WHERE WHAT IT READS IS OF BULK AT MOST 1048576: true; the input reads as it did. -/
def serverDrainsUptoRow : OpenClaim := { program := "yteefhbpmeajbfaa", sum := "1fa45e720793e09ebd88d9d4a46238b87a8f4255d91e4fe935a91ad4d2b5e535", func := "coterie/coterielaw22.ServerDrains", spec := "serverDrains", unfollowed := true, recurses := true, apart := false, narrowed := true }
def ServerDrainsUptoSaid : Prop := serverDrainsUptoRow.holds Try.pinned (OpenSpec.upto serverDrainsSpec)

/-- 'coterielaw22.ServerTakes', WHERE WHAT IT READS IS OF BULK AT MOST 1048576: true; the input reads as it did. -/
def serverTakesUptoRow : OpenClaim := { program := "yteefhbpmeajbfaa", sum := "1fa45e720793e09ebd88d9d4a46238b87a8f4255d91e4fe935a91ad4d2b5e535", func := "coterie/coterielaw22.ServerTakes", spec := "serverTakes", unfollowed := true, recurses := true, apart := false, narrowed := true }
def ServerTakesUptoSaid : Prop := serverTakesUptoRow.holds Try.pinned (OpenSpec.upto serverTakesSpec)

end Rows
end Go.Proofs.Yteefhbpmeajbfaa
