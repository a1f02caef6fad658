/- The law WordOthers: whatever the welcome and the frame, it answers true. -/
import Derived.Test.YtfbfkfdkigpkgaaLawOthers
import Derived.Test.YtfbfkfdkigpkgaaOthB0
import Derived.Test.YtfbfkfdkigpkgaaOthB1
import Derived.Test.YtfbfkfdkigpkgaaOthB2
import Derived.Test.YtfbfkfdkigpkgaaOthB3
namespace Go.Proofs.Ytfbfkfdkigpkgaa
set_option linter.unusedSimpArgs false
set_option linter.unusedVariables false
open Go.RowKit
attribute [local irreducible] beL beK headL lH lF lW xF xW

/-- The same, argument by argument. -/
theorem WordOthers_w (w : World) (tw : Int) (_ : -9223372036854775808 ≤ tw ∧ tw < 9223372036854775808) (A1 : Option Addr) (n1 c1 : Nat) (m1 : List Nat) (b1 : n1 ≤ 9223372036854775807) (t1 : Txt w w.heap.size A1 n1 c1 m1) (l1 : ∀ x ∈ m1, x < 256)
    (A2 : Option Addr) (n2 c2 : Nat) (m2 : List Nat) (b2 : n2 ≤ 9223372036854775807) (t2 : Txt w w.heap.size A2 n2 c2 m2) (l2 : ∀ x ∈ m2, x < 256)
    (A3 : Option Addr) (n3 c3 : Nat) (m3 : List Nat) (b3 : n3 ≤ 9223372036854775807) (t3 : Txt w w.heap.size A3 n3 c3 m3) (l3 : ∀ x ∈ m3, x < 256)
    (ep : Int) (hep : 0 ≤ ep ∧ ep < 18446744073709551616) (fr : Int) (_ : -9223372036854775808 ≤ fr ∧ fr < 9223372036854775808) (ge : Int) (hge : 0 ≤ ge ∧ ge < 18446744073709551616)
    (A : Option Addr) (n c : Nat) (m : List Nat) (b4 : n ≤ 9223372036854775807) (t4 : Txt w w.heap.size A n c m) (l4 : ∀ x ∈ m, x < 256) :
    Calls Try.prog 3 #[.agg #[.int .i64 tw, .slice A1 n1 c1, .slice A2 n2 c2, .slice A3 n3 c3], .agg #[.int .u64 ep, .int .i64 fr, .int .u64 ge, .slice A n c]] w fun e w' => e = .returned (.bool true) ∧ Below w.heap.size w w' :=
  if h : n1 ≤ 140737488355328 ∧ n2 ≤ 140737488355328 ∧ n3 ≤ 140737488355328 then
    WordOthers_small tw ep fr ge A1 n1 c1 A2 n2 c2 A3 n3 c3 A n c m1 m2 m3 m w hep.1 hge.1 h.1 h.2.1 h.2.2 b4 t1 t2 t3 t4 l1 l2 l3 l4
  else
    if hz : 4000 < wrap64 (wrap64 ((n1 : Int) + (n2 : Int)) + (n3 : Int)) then
      if g1 : 262144 < n1 then WordOthers_big1 tw ep fr ge A1 n1 c1 A2 n2 c2 A3 n3 c3 A n c m1 m2 m3 m w hep.1 hge.1 hz g1 (Lib.hid (by omega)) b1 b2 b3 b4 t1 t2 t3 t4 l1 l2 l3 l4
      else if g2 : 262144 < n2 then WordOthers_big2 tw ep fr ge A1 n1 c1 A2 n2 c2 A3 n3 c3 A n c m1 m2 m3 m w hep.1 hge.1 hz (by omega) g2 (Lib.hid (by omega)) b1 b2 b3 b4 t1 t2 t3 t4 l1 l2 l3 l4
      else WordOthers_big3 tw ep fr ge A1 n1 c1 A2 n2 c2 A3 n3 c3 A n c m1 m2 m3 m w hep.1 hge.1 hz (by omega) (by omega) (by omega) (Lib.hid (by omega)) b1 b2 b3 b4 t1 t2 t3 t4 l1 l2 l3 l4
    else WordOthers_big0 tw ep fr ge A1 n1 c1 A2 n2 c2 A3 n3 c3 A n c m1 m2 m3 m w hep.1 hge.1 (decide_eq_false hz) (Lib.hid (by omega)) b1 b2 b3 b4 t1 t2 t3 t4 l1 l2 l3 l4
end Go.Proofs.Ytfbfkfdkigpkgaa
