/- Streams: where there is none, and why. -/
import Derived.Test.YtnckddjlpmkkgaaByt
import Derived.Test.YtnckddjlpmkkgaaArr
namespace Go.Proofs.Ytnckddjlpmkkgaa
set_option linter.unusedSimpArgs false
set_option linter.unusedVariables false
open Go.RowKit
/-- No text, and why. -/
def RetNo (w : World) (x : Int) (e : Ending) (w' : World) : Prop := e = .returned (.tuple #[.slice none 0 0, .int .i64 x]) ∧ Below w.heap.size w w'
set_option maxRecDepth 100000 in
set_option maxHeartbeats 1000000 in
theorem Ctr_long (k m : Nat → Int) (fr : Int) (A : Option Addr) (n c : Nat) (h1 : 1048576 < n) (h2 : n ≤ 140737488355328) (w : World) :
    Calls Try.prog 18 #[.agg (arr .u8 16 k), .agg (arr .u8 12 m), .int .u32 fr, .slice A n c] w (RetNo w 4) := by
  go_enter Try.func18, Try.ntmps18
  obtain ⟨_, _, hz, hb⟩ := alloc2 w (.cells (arr .u8 16 k) 23) (.cells (arr .u8 12 m) 34)
  go_wp2
  go_ret2
  exact ⟨rfl, hb⟩
set_option maxRecDepth 100000 in
set_option maxHeartbeats 1000000 in
theorem RCtr_long (k m : Nat → Int) (fr : Int) (A : Option Addr) (n c : Nat) (h1 : 1048576 < n) (h2 : n ≤ 140737488355328) (w : World) :
    Calls Try.prog 19 #[.agg (arr .u8 16 k), .agg (arr .u8 12 m), .int .u32 fr, .slice A n c] w (RetNo w 4) := by
  go_enter Try.func19, Try.ntmps19
  obtain ⟨_, _, hz, hb⟩ := alloc2 w (.cells (arr .u8 16 k) 23) (.cells (arr .u8 12 m) 34)
  go_wp2
  go_ret2
  exact ⟨rfl, hb⟩
set_option maxRecDepth 100000 in
set_option maxHeartbeats 1000000 in
theorem Ctr_arg (k m : Nat → Int) (fr : Int) (A : Option Addr) (n c : Nat) (h0 : 0 ≤ fr) (h3 : fr < 4294967296) (h1 : n ≤ 1048576) (h2 : 4294967296 < fr + (n + 15) / 16) (w : World) :
    Calls Try.prog 18 #[.agg (arr .u8 16 k), .agg (arr .u8 12 m), .int .u32 fr, .slice A n c] w (RetNo w 1) := by
  go_enter Try.func18, Try.ntmps18
  obtain ⟨_, _, hz, hb⟩ := alloc2 w (.cells (arr .u8 16 k) 23) (.cells (arr .u8 12 m) 34)
  go_wp2
  go_ret2
  exact ⟨rfl, hb⟩
set_option maxRecDepth 100000 in
set_option maxHeartbeats 1000000 in
theorem RCtr_arg (k m : Nat → Int) (fr : Int) (A : Option Addr) (n c : Nat) (h0 : 0 ≤ fr) (h3 : fr < 4294967296) (h1 : n ≤ 1048576) (h2 : 4294967296 < fr + (n + 15) / 16) (w : World) :
    Calls Try.prog 19 #[.agg (arr .u8 16 k), .agg (arr .u8 12 m), .int .u32 fr, .slice A n c] w (RetNo w 1) := by
  go_enter Try.func19, Try.ntmps19
  obtain ⟨_, _, hz, hb⟩ := alloc2 w (.cells (arr .u8 16 k) 23) (.cells (arr .u8 12 m) 34)
  go_wp2
  go_ret2
  exact ⟨rfl, hb⟩
end Go.Proofs.Ytnckddjlpmkkgaa
