/- The law WordOthers, lengths without end: whatever the welcome and the frame, it answers true. -/
import Derived.Test.YtfbfkfdkigpkgaaOth
namespace Go.Proofs.Ytfbfkfdkigpkgaa
set_option linter.unusedSimpArgs false
set_option linter.unusedVariables false
open Go.RowKit
attribute [local irreducible] beL beK headL lH lF lW xF xW
set_option maxRecDepth 100000 in
set_option maxHeartbeats 20000000 in
theorem WordOthers_big2 (tw ep fr ge : Int) (A1 : Option Addr) (n1 c1 : Nat) (A2 : Option Addr) (n2 c2 : Nat) (A3 : Option Addr) (n3 c3 : Nat) (A : Option Addr) (n c : Nat) (m1 m2 m3 m : List Nat) (w : World)
    (hep : 0 ≤ ep) (hge : 0 ≤ ge) (hs : 4000 < wrap64 (wrap64 ((n1 : Int) + (n2 : Int)) + (n3 : Int))) (g1 : n1 ≤ 262144) (g2 : 262144 < n2) (big : Hid (140737488355328 < n1 ∨ 140737488355328 < n2 ∨ 140737488355328 < n3)) (b1 : n1 ≤ 9223372036854775807) (b2 : n2 ≤ 9223372036854775807) (b3 : n3 ≤ 9223372036854775807) (b4 : n ≤ 9223372036854775807)
    (t1 : Txt w w.heap.size A1 n1 c1 m1) (t2 : Txt w w.heap.size A2 n2 c2 m2) (t3 : Txt w w.heap.size A3 n3 c3 m3) (t4 : Txt w w.heap.size A n c m)
    (l1 : ∀ x ∈ m1, x < 256) (l2 : ∀ x ∈ m2, x < 256) (l3 : ∀ x ∈ m3, x < 256) (l4 : ∀ x ∈ m, x < 256) :
    Calls Try.prog 3 #[.agg #[.int .i64 tw, .slice A1 n1 c1, .slice A2 n2 c2, .slice A3 n3 c3], .agg #[.int .u64 ep, .int .i64 fr, .int .u64 ge, .slice A n c]] w fun e w' => e = .returned (.bool true) ∧ Below w.heap.size w w' := by
  have L1 := Lib.hid (lH_lt ep fr ge n)
  have L2 := Lib.hid (lF_lt ep fr ge n m l4)
  have L3 := Lib.hid (lW_lt tw n1 n2 n3 m1 m2 m3 l1 l2 l3)
  clear l1 l2 l3 l4
  have U1 := Lib.hid t1
  have U2 := Lib.hid t2
  have U3 := Lib.hid t3
  have U4 := Lib.hid t4
  clear t1 t2 t3 t4
  have cn : n ≤ 4000 ∨ 524288 < n ∨ (4000 < n ∧ n ≤ 524288) := by omega
  go_enter Try.func3, Try.ntmps3
  obtain ⟨h0, h1, hz, hb⟩ := alloc2 w (.cells #[.int .i64 tw, .slice A1 n1 c1, .slice A2 n2 c2, .slice A3 n3 c3] 24) (.cells #[.int .u64 ep, .int .i64 fr, .int .u64 ge, .slice A n c] 27)
  go_wp2_with (go_at_call 9; fail)
  refine (live_any _).mono ?_
  rintro e w1 ⟨rfl, bb⟩
  replace h0 := keep_below bb (by omega) h0
  replace h1 := keep_below bb (by omega) h1
  replace hb := hb.trans (bb.mono (by omega))
  replace U1 := Lib.hid ((U1.out.below hb).more hb.size)
  replace U2 := Lib.hid ((U2.out.below hb).more hb.size)
  replace U3 := Lib.hid ((U3.out.below hb).more hb.size)
  replace U4 := Lib.hid ((U4.out.below hb).more hb.size)
  clear bb hz
  rcases cn with hn | hn | ⟨hn, hn2⟩
  · skip
    have c00 : w1.cell? ⟨w.heap.size, 0, none⟩ = some (.int .i64 tw) := by rw [cell_of_row _ _ _ _ _ _ h0]; rfl
    have c01 : w1.cell? ⟨w.heap.size, 1, none⟩ = some (.slice A1 n1 c1) := by rw [cell_of_row _ _ _ _ _ _ h0]; rfl
    have c02 : w1.cell? ⟨w.heap.size, 2, none⟩ = some (.slice A2 n2 c2) := by rw [cell_of_row _ _ _ _ _ _ h0]; rfl
    have c03 : w1.cell? ⟨w.heap.size, 3, none⟩ = some (.slice A3 n3 c3) := by rw [cell_of_row _ _ _ _ _ _ h0]; rfl
    have c10 : w1.cell? ⟨w.heap.size + 1, 0, none⟩ = some (.int .u64 ep) := by rw [cell_of_row _ _ _ _ _ _ h1]; rfl
    have c11 : w1.cell? ⟨w.heap.size + 1, 1, none⟩ = some (.int .i64 fr) := by rw [cell_of_row _ _ _ _ _ _ h1]; rfl
    have c12 : w1.cell? ⟨w.heap.size + 1, 2, none⟩ = some (.int .u64 ge) := by rw [cell_of_row _ _ _ _ _ _ h1]; rfl
    have c13 : w1.cell? ⟨w.heap.size + 1, 3, none⟩ = some (.slice A n c) := by rw [cell_of_row _ _ _ _ _ _ h1]; rfl
    go_wp2_with (go_at_call 10; fail)
    clear c00 c01 c02 c03 c10 c11 c12 c13
    refine (WriteWelcome_all tw A1 n1 c1 A2 n2 c2 A3 n3 c3 m1 m2 m3 _ U1.out U2.out U3.out).mono ?_
    rintro e x0 ⟨R0, r0, s0, rfl, t0, bb⟩
    replace h0 := keep_below bb (lt_of_block h0) h0
    replace h1 := keep_below bb (lt_of_block h1) h1
    replace hb := hb.trans (bb.mono hb.size)
    replace U1 := Lib.hid ((U1.out.below bb).more bb.size)
    replace U2 := Lib.hid ((U2.out.below bb).more bb.size)
    replace U3 := Lib.hid ((U3.out.below bb).more bb.size)
    replace U4 := Lib.hid ((U4.out.below bb).more bb.size)
    have T0 := Lib.hid t0
    clear bb t0
    have c00 : x0.cell? ⟨w.heap.size, 0, none⟩ = some (.int .i64 tw) := by rw [cell_of_row _ _ _ _ _ _ h0]; rfl
    have c01 : x0.cell? ⟨w.heap.size, 1, none⟩ = some (.slice A1 n1 c1) := by rw [cell_of_row _ _ _ _ _ _ h0]; rfl
    have c02 : x0.cell? ⟨w.heap.size, 2, none⟩ = some (.slice A2 n2 c2) := by rw [cell_of_row _ _ _ _ _ _ h0]; rfl
    have c03 : x0.cell? ⟨w.heap.size, 3, none⟩ = some (.slice A3 n3 c3) := by rw [cell_of_row _ _ _ _ _ _ h0]; rfl
    have c10 : x0.cell? ⟨w.heap.size + 1, 0, none⟩ = some (.int .u64 ep) := by rw [cell_of_row _ _ _ _ _ _ h1]; rfl
    have c11 : x0.cell? ⟨w.heap.size + 1, 1, none⟩ = some (.int .i64 fr) := by rw [cell_of_row _ _ _ _ _ _ h1]; rfl
    have c12 : x0.cell? ⟨w.heap.size + 1, 2, none⟩ = some (.int .u64 ge) := by rw [cell_of_row _ _ _ _ _ _ h1]; rfl
    have c13 : x0.cell? ⟨w.heap.size + 1, 3, none⟩ = some (.slice A n c) := by rw [cell_of_row _ _ _ _ _ _ h1]; rfl
    go_wp2_with (go_at_call 11; fail)
    clear c00 c01 c02 c03 c10 c11 c12 c13
    refine (RWriteWelcome_all tw A1 n1 c1 A2 n2 c2 A3 n3 c3 m1 m2 m3 _ U1.out U2.out U3.out).mono ?_
    rintro e x1 ⟨R1, r1, s1, rfl, t1, bb⟩
    replace h0 := keep_below bb (lt_of_block h0) h0
    replace h1 := keep_below bb (lt_of_block h1) h1
    replace hb := hb.trans (bb.mono hb.size)
    replace U1 := Lib.hid ((U1.out.below bb).more bb.size)
    replace U2 := Lib.hid ((U2.out.below bb).more bb.size)
    replace U3 := Lib.hid ((U3.out.below bb).more bb.size)
    replace U4 := Lib.hid ((U4.out.below bb).more bb.size)
    replace T0 := Lib.hid ((T0.out.below bb).more bb.size)
    have T1 := Lib.hid t1
    clear bb t1
    have c00 : x1.cell? ⟨w.heap.size, 0, none⟩ = some (.int .i64 tw) := by rw [cell_of_row _ _ _ _ _ _ h0]; rfl
    have c01 : x1.cell? ⟨w.heap.size, 1, none⟩ = some (.slice A1 n1 c1) := by rw [cell_of_row _ _ _ _ _ _ h0]; rfl
    have c02 : x1.cell? ⟨w.heap.size, 2, none⟩ = some (.slice A2 n2 c2) := by rw [cell_of_row _ _ _ _ _ _ h0]; rfl
    have c03 : x1.cell? ⟨w.heap.size, 3, none⟩ = some (.slice A3 n3 c3) := by rw [cell_of_row _ _ _ _ _ _ h0]; rfl
    have c10 : x1.cell? ⟨w.heap.size + 1, 0, none⟩ = some (.int .u64 ep) := by rw [cell_of_row _ _ _ _ _ _ h1]; rfl
    have c11 : x1.cell? ⟨w.heap.size + 1, 1, none⟩ = some (.int .i64 fr) := by rw [cell_of_row _ _ _ _ _ _ h1]; rfl
    have c12 : x1.cell? ⟨w.heap.size + 1, 2, none⟩ = some (.int .u64 ge) := by rw [cell_of_row _ _ _ _ _ _ h1]; rfl
    have c13 : x1.cell? ⟨w.heap.size + 1, 3, none⟩ = some (.slice A n c) := by rw [cell_of_row _ _ _ _ _ _ h1]; rfl
    go_wp2_with (go_at_call 12; fail)
    clear c00 c01 c02 c03 c10 c11 c12 c13
    refine (WriteFrame_all ep fr ge A n c m hep hge _ U4.out).mono ?_
    rintro e x2 ⟨R2, r2, s2, rfl, t2, bb⟩
    replace h0 := keep_below bb (lt_of_block h0) h0
    replace h1 := keep_below bb (lt_of_block h1) h1
    replace hb := hb.trans (bb.mono hb.size)
    replace U1 := Lib.hid ((U1.out.below bb).more bb.size)
    replace U2 := Lib.hid ((U2.out.below bb).more bb.size)
    replace U3 := Lib.hid ((U3.out.below bb).more bb.size)
    replace U4 := Lib.hid ((U4.out.below bb).more bb.size)
    replace T0 := Lib.hid ((T0.out.below bb).more bb.size)
    replace T1 := Lib.hid ((T1.out.below bb).more bb.size)
    have T2 := Lib.hid t2
    clear bb t2
    have c00 : x2.cell? ⟨w.heap.size, 0, none⟩ = some (.int .i64 tw) := by rw [cell_of_row _ _ _ _ _ _ h0]; rfl
    have c01 : x2.cell? ⟨w.heap.size, 1, none⟩ = some (.slice A1 n1 c1) := by rw [cell_of_row _ _ _ _ _ _ h0]; rfl
    have c02 : x2.cell? ⟨w.heap.size, 2, none⟩ = some (.slice A2 n2 c2) := by rw [cell_of_row _ _ _ _ _ _ h0]; rfl
    have c03 : x2.cell? ⟨w.heap.size, 3, none⟩ = some (.slice A3 n3 c3) := by rw [cell_of_row _ _ _ _ _ _ h0]; rfl
    have c10 : x2.cell? ⟨w.heap.size + 1, 0, none⟩ = some (.int .u64 ep) := by rw [cell_of_row _ _ _ _ _ _ h1]; rfl
    have c11 : x2.cell? ⟨w.heap.size + 1, 1, none⟩ = some (.int .i64 fr) := by rw [cell_of_row _ _ _ _ _ _ h1]; rfl
    have c12 : x2.cell? ⟨w.heap.size + 1, 2, none⟩ = some (.int .u64 ge) := by rw [cell_of_row _ _ _ _ _ _ h1]; rfl
    have c13 : x2.cell? ⟨w.heap.size + 1, 3, none⟩ = some (.slice A n c) := by rw [cell_of_row _ _ _ _ _ _ h1]; rfl
    go_wp2_with (go_at_call 13; fail)
    clear c00 c01 c02 c03 c10 c11 c12 c13
    refine (RWriteFrame_all ep fr ge A n c m hep hge _ U4.out).mono ?_
    rintro e x3 ⟨R3, r3, s3, rfl, t3, bb⟩
    replace h0 := keep_below bb (lt_of_block h0) h0
    replace h1 := keep_below bb (lt_of_block h1) h1
    replace hb := hb.trans (bb.mono hb.size)
    replace U1 := Lib.hid ((U1.out.below bb).more bb.size)
    replace U2 := Lib.hid ((U2.out.below bb).more bb.size)
    replace U3 := Lib.hid ((U3.out.below bb).more bb.size)
    replace U4 := Lib.hid ((U4.out.below bb).more bb.size)
    replace T0 := Lib.hid ((T0.out.below bb).more bb.size)
    replace T1 := Lib.hid ((T1.out.below bb).more bb.size)
    replace T2 := Lib.hid ((T2.out.below bb).more bb.size)
    have T3 := Lib.hid t3
    clear bb t3
    have c00 : x3.cell? ⟨w.heap.size, 0, none⟩ = some (.int .i64 tw) := by rw [cell_of_row _ _ _ _ _ _ h0]; rfl
    have c01 : x3.cell? ⟨w.heap.size, 1, none⟩ = some (.slice A1 n1 c1) := by rw [cell_of_row _ _ _ _ _ _ h0]; rfl
    have c02 : x3.cell? ⟨w.heap.size, 2, none⟩ = some (.slice A2 n2 c2) := by rw [cell_of_row _ _ _ _ _ _ h0]; rfl
    have c03 : x3.cell? ⟨w.heap.size, 3, none⟩ = some (.slice A3 n3 c3) := by rw [cell_of_row _ _ _ _ _ _ h0]; rfl
    have c10 : x3.cell? ⟨w.heap.size + 1, 0, none⟩ = some (.int .u64 ep) := by rw [cell_of_row _ _ _ _ _ _ h1]; rfl
    have c11 : x3.cell? ⟨w.heap.size + 1, 1, none⟩ = some (.int .i64 fr) := by rw [cell_of_row _ _ _ _ _ _ h1]; rfl
    have c12 : x3.cell? ⟨w.heap.size + 1, 2, none⟩ = some (.int .u64 ge) := by rw [cell_of_row _ _ _ _ _ _ h1]; rfl
    have c13 : x3.cell? ⟨w.heap.size + 1, 3, none⟩ = some (.slice A n c) := by rw [cell_of_row _ _ _ _ _ _ h1]; rfl
    go_wp2_with (go_at_call 14; fail)
    clear c00 c01 c02 c03 c10 c11 c12 c13
    refine (FrameHead_all ep fr ge A n c hep hge _).mono ?_
    rintro e x4 ⟨R4, r4, s4, rfl, t4, bb⟩
    replace h0 := keep_below bb (lt_of_block h0) h0
    replace h1 := keep_below bb (lt_of_block h1) h1
    replace hb := hb.trans (bb.mono hb.size)
    replace U1 := Lib.hid ((U1.out.below bb).more bb.size)
    replace U2 := Lib.hid ((U2.out.below bb).more bb.size)
    replace U3 := Lib.hid ((U3.out.below bb).more bb.size)
    replace U4 := Lib.hid ((U4.out.below bb).more bb.size)
    replace T0 := Lib.hid ((T0.out.below bb).more bb.size)
    replace T1 := Lib.hid ((T1.out.below bb).more bb.size)
    replace T2 := Lib.hid ((T2.out.below bb).more bb.size)
    replace T3 := Lib.hid ((T3.out.below bb).more bb.size)
    have T4 := Lib.hid t4
    clear bb t4
    have c00 : x4.cell? ⟨w.heap.size, 0, none⟩ = some (.int .i64 tw) := by rw [cell_of_row _ _ _ _ _ _ h0]; rfl
    have c01 : x4.cell? ⟨w.heap.size, 1, none⟩ = some (.slice A1 n1 c1) := by rw [cell_of_row _ _ _ _ _ _ h0]; rfl
    have c02 : x4.cell? ⟨w.heap.size, 2, none⟩ = some (.slice A2 n2 c2) := by rw [cell_of_row _ _ _ _ _ _ h0]; rfl
    have c03 : x4.cell? ⟨w.heap.size, 3, none⟩ = some (.slice A3 n3 c3) := by rw [cell_of_row _ _ _ _ _ _ h0]; rfl
    have c10 : x4.cell? ⟨w.heap.size + 1, 0, none⟩ = some (.int .u64 ep) := by rw [cell_of_row _ _ _ _ _ _ h1]; rfl
    have c11 : x4.cell? ⟨w.heap.size + 1, 1, none⟩ = some (.int .i64 fr) := by rw [cell_of_row _ _ _ _ _ _ h1]; rfl
    have c12 : x4.cell? ⟨w.heap.size + 1, 2, none⟩ = some (.int .u64 ge) := by rw [cell_of_row _ _ _ _ _ _ h1]; rfl
    have c13 : x4.cell? ⟨w.heap.size + 1, 3, none⟩ = some (.slice A n c) := by rw [cell_of_row _ _ _ _ _ _ h1]; rfl
    go_wp2_with (go_at_call 15; fail)
    clear c00 c01 c02 c03 c10 c11 c12 c13
    refine (RFrameHead_all ep fr ge A n c hep hge _).mono ?_
    rintro e x5 ⟨R5, r5, s5, rfl, t5, bb⟩
    replace h0 := keep_below bb (lt_of_block h0) h0
    replace h1 := keep_below bb (lt_of_block h1) h1
    replace hb := hb.trans (bb.mono hb.size)
    replace U1 := Lib.hid ((U1.out.below bb).more bb.size)
    replace U2 := Lib.hid ((U2.out.below bb).more bb.size)
    replace U3 := Lib.hid ((U3.out.below bb).more bb.size)
    replace U4 := Lib.hid ((U4.out.below bb).more bb.size)
    replace T0 := Lib.hid ((T0.out.below bb).more bb.size)
    replace T1 := Lib.hid ((T1.out.below bb).more bb.size)
    replace T2 := Lib.hid ((T2.out.below bb).more bb.size)
    replace T3 := Lib.hid ((T3.out.below bb).more bb.size)
    replace T4 := Lib.hid ((T4.out.below bb).more bb.size)
    have T5 := Lib.hid t5
    clear bb t5
    go_wp2_with (go_at_call 16; fail)
    refine (Same_self _ _ _ _ _ _ _ _ T0.out T1.out L3.out).mono ?_
    rintro e y0 ⟨rfl, rfl⟩
    go_wp2_with (go_at_call 16; fail)
    refine (Same_self _ _ _ _ _ _ _ _ T2.out T3.out L2.out).mono ?_
    rintro e y2 ⟨rfl, rfl⟩
    go_wp2_with (go_at_call 16; fail)
    refine (Same_self _ _ _ _ _ _ _ _ T4.out T5.out L1.out).mono ?_
    rintro e y4 ⟨rfl, rfl⟩
    go_wp2
    go_ret
    exact ⟨rfl, hb⟩
  · skip
    have c00 : w1.cell? ⟨w.heap.size, 0, none⟩ = some (.int .i64 tw) := by rw [cell_of_row _ _ _ _ _ _ h0]; rfl
    have c01 : w1.cell? ⟨w.heap.size, 1, none⟩ = some (.slice A1 n1 c1) := by rw [cell_of_row _ _ _ _ _ _ h0]; rfl
    have c02 : w1.cell? ⟨w.heap.size, 2, none⟩ = some (.slice A2 n2 c2) := by rw [cell_of_row _ _ _ _ _ _ h0]; rfl
    have c03 : w1.cell? ⟨w.heap.size, 3, none⟩ = some (.slice A3 n3 c3) := by rw [cell_of_row _ _ _ _ _ _ h0]; rfl
    have c10 : w1.cell? ⟨w.heap.size + 1, 0, none⟩ = some (.int .u64 ep) := by rw [cell_of_row _ _ _ _ _ _ h1]; rfl
    have c11 : w1.cell? ⟨w.heap.size + 1, 1, none⟩ = some (.int .i64 fr) := by rw [cell_of_row _ _ _ _ _ _ h1]; rfl
    have c12 : w1.cell? ⟨w.heap.size + 1, 2, none⟩ = some (.int .u64 ge) := by rw [cell_of_row _ _ _ _ _ _ h1]; rfl
    have c13 : w1.cell? ⟨w.heap.size + 1, 3, none⟩ = some (.slice A n c) := by rw [cell_of_row _ _ _ _ _ _ h1]; rfl
    go_wp2_with (go_at_call 10; fail)
    clear c00 c01 c02 c03 c10 c11 c12 c13
    refine (WriteWelcome_all tw A1 n1 c1 A2 n2 c2 A3 n3 c3 m1 m2 m3 _ U1.out U2.out U3.out).mono ?_
    rintro e x0 ⟨R0, r0, s0, rfl, t0, bb⟩
    replace h0 := keep_below bb (lt_of_block h0) h0
    replace h1 := keep_below bb (lt_of_block h1) h1
    replace hb := hb.trans (bb.mono hb.size)
    replace U1 := Lib.hid ((U1.out.below bb).more bb.size)
    replace U2 := Lib.hid ((U2.out.below bb).more bb.size)
    replace U3 := Lib.hid ((U3.out.below bb).more bb.size)
    replace U4 := Lib.hid ((U4.out.below bb).more bb.size)
    have T0 := Lib.hid t0
    clear bb t0
    have c00 : x0.cell? ⟨w.heap.size, 0, none⟩ = some (.int .i64 tw) := by rw [cell_of_row _ _ _ _ _ _ h0]; rfl
    have c01 : x0.cell? ⟨w.heap.size, 1, none⟩ = some (.slice A1 n1 c1) := by rw [cell_of_row _ _ _ _ _ _ h0]; rfl
    have c02 : x0.cell? ⟨w.heap.size, 2, none⟩ = some (.slice A2 n2 c2) := by rw [cell_of_row _ _ _ _ _ _ h0]; rfl
    have c03 : x0.cell? ⟨w.heap.size, 3, none⟩ = some (.slice A3 n3 c3) := by rw [cell_of_row _ _ _ _ _ _ h0]; rfl
    have c10 : x0.cell? ⟨w.heap.size + 1, 0, none⟩ = some (.int .u64 ep) := by rw [cell_of_row _ _ _ _ _ _ h1]; rfl
    have c11 : x0.cell? ⟨w.heap.size + 1, 1, none⟩ = some (.int .i64 fr) := by rw [cell_of_row _ _ _ _ _ _ h1]; rfl
    have c12 : x0.cell? ⟨w.heap.size + 1, 2, none⟩ = some (.int .u64 ge) := by rw [cell_of_row _ _ _ _ _ _ h1]; rfl
    have c13 : x0.cell? ⟨w.heap.size + 1, 3, none⟩ = some (.slice A n c) := by rw [cell_of_row _ _ _ _ _ _ h1]; rfl
    go_wp2_with (go_at_call 11; fail)
    clear c00 c01 c02 c03 c10 c11 c12 c13
    refine (RWriteWelcome_all tw A1 n1 c1 A2 n2 c2 A3 n3 c3 m1 m2 m3 _ U1.out U2.out U3.out).mono ?_
    rintro e x1 ⟨R1, r1, s1, rfl, t1, bb⟩
    replace h0 := keep_below bb (lt_of_block h0) h0
    replace h1 := keep_below bb (lt_of_block h1) h1
    replace hb := hb.trans (bb.mono hb.size)
    replace U1 := Lib.hid ((U1.out.below bb).more bb.size)
    replace U2 := Lib.hid ((U2.out.below bb).more bb.size)
    replace U3 := Lib.hid ((U3.out.below bb).more bb.size)
    replace U4 := Lib.hid ((U4.out.below bb).more bb.size)
    replace T0 := Lib.hid ((T0.out.below bb).more bb.size)
    have T1 := Lib.hid t1
    clear bb t1
    have c00 : x1.cell? ⟨w.heap.size, 0, none⟩ = some (.int .i64 tw) := by rw [cell_of_row _ _ _ _ _ _ h0]; rfl
    have c01 : x1.cell? ⟨w.heap.size, 1, none⟩ = some (.slice A1 n1 c1) := by rw [cell_of_row _ _ _ _ _ _ h0]; rfl
    have c02 : x1.cell? ⟨w.heap.size, 2, none⟩ = some (.slice A2 n2 c2) := by rw [cell_of_row _ _ _ _ _ _ h0]; rfl
    have c03 : x1.cell? ⟨w.heap.size, 3, none⟩ = some (.slice A3 n3 c3) := by rw [cell_of_row _ _ _ _ _ _ h0]; rfl
    have c10 : x1.cell? ⟨w.heap.size + 1, 0, none⟩ = some (.int .u64 ep) := by rw [cell_of_row _ _ _ _ _ _ h1]; rfl
    have c11 : x1.cell? ⟨w.heap.size + 1, 1, none⟩ = some (.int .i64 fr) := by rw [cell_of_row _ _ _ _ _ _ h1]; rfl
    have c12 : x1.cell? ⟨w.heap.size + 1, 2, none⟩ = some (.int .u64 ge) := by rw [cell_of_row _ _ _ _ _ _ h1]; rfl
    have c13 : x1.cell? ⟨w.heap.size + 1, 3, none⟩ = some (.slice A n c) := by rw [cell_of_row _ _ _ _ _ _ h1]; rfl
    go_wp2_with (go_at_call 12; fail)
    clear c00 c01 c02 c03 c10 c11 c12 c13
    refine (WriteFrame_all ep fr ge A n c m hep hge _ U4.out).mono ?_
    rintro e x2 ⟨R2, r2, s2, rfl, t2, bb⟩
    replace h0 := keep_below bb (lt_of_block h0) h0
    replace h1 := keep_below bb (lt_of_block h1) h1
    replace hb := hb.trans (bb.mono hb.size)
    replace U1 := Lib.hid ((U1.out.below bb).more bb.size)
    replace U2 := Lib.hid ((U2.out.below bb).more bb.size)
    replace U3 := Lib.hid ((U3.out.below bb).more bb.size)
    replace U4 := Lib.hid ((U4.out.below bb).more bb.size)
    replace T0 := Lib.hid ((T0.out.below bb).more bb.size)
    replace T1 := Lib.hid ((T1.out.below bb).more bb.size)
    have T2 := Lib.hid t2
    clear bb t2
    have c00 : x2.cell? ⟨w.heap.size, 0, none⟩ = some (.int .i64 tw) := by rw [cell_of_row _ _ _ _ _ _ h0]; rfl
    have c01 : x2.cell? ⟨w.heap.size, 1, none⟩ = some (.slice A1 n1 c1) := by rw [cell_of_row _ _ _ _ _ _ h0]; rfl
    have c02 : x2.cell? ⟨w.heap.size, 2, none⟩ = some (.slice A2 n2 c2) := by rw [cell_of_row _ _ _ _ _ _ h0]; rfl
    have c03 : x2.cell? ⟨w.heap.size, 3, none⟩ = some (.slice A3 n3 c3) := by rw [cell_of_row _ _ _ _ _ _ h0]; rfl
    have c10 : x2.cell? ⟨w.heap.size + 1, 0, none⟩ = some (.int .u64 ep) := by rw [cell_of_row _ _ _ _ _ _ h1]; rfl
    have c11 : x2.cell? ⟨w.heap.size + 1, 1, none⟩ = some (.int .i64 fr) := by rw [cell_of_row _ _ _ _ _ _ h1]; rfl
    have c12 : x2.cell? ⟨w.heap.size + 1, 2, none⟩ = some (.int .u64 ge) := by rw [cell_of_row _ _ _ _ _ _ h1]; rfl
    have c13 : x2.cell? ⟨w.heap.size + 1, 3, none⟩ = some (.slice A n c) := by rw [cell_of_row _ _ _ _ _ _ h1]; rfl
    go_wp2_with (go_at_call 13; fail)
    clear c00 c01 c02 c03 c10 c11 c12 c13
    refine (RWriteFrame_all ep fr ge A n c m hep hge _ U4.out).mono ?_
    rintro e x3 ⟨R3, r3, s3, rfl, t3, bb⟩
    replace h0 := keep_below bb (lt_of_block h0) h0
    replace h1 := keep_below bb (lt_of_block h1) h1
    replace hb := hb.trans (bb.mono hb.size)
    replace U1 := Lib.hid ((U1.out.below bb).more bb.size)
    replace U2 := Lib.hid ((U2.out.below bb).more bb.size)
    replace U3 := Lib.hid ((U3.out.below bb).more bb.size)
    replace U4 := Lib.hid ((U4.out.below bb).more bb.size)
    replace T0 := Lib.hid ((T0.out.below bb).more bb.size)
    replace T1 := Lib.hid ((T1.out.below bb).more bb.size)
    replace T2 := Lib.hid ((T2.out.below bb).more bb.size)
    have T3 := Lib.hid t3
    clear bb t3
    have c00 : x3.cell? ⟨w.heap.size, 0, none⟩ = some (.int .i64 tw) := by rw [cell_of_row _ _ _ _ _ _ h0]; rfl
    have c01 : x3.cell? ⟨w.heap.size, 1, none⟩ = some (.slice A1 n1 c1) := by rw [cell_of_row _ _ _ _ _ _ h0]; rfl
    have c02 : x3.cell? ⟨w.heap.size, 2, none⟩ = some (.slice A2 n2 c2) := by rw [cell_of_row _ _ _ _ _ _ h0]; rfl
    have c03 : x3.cell? ⟨w.heap.size, 3, none⟩ = some (.slice A3 n3 c3) := by rw [cell_of_row _ _ _ _ _ _ h0]; rfl
    have c10 : x3.cell? ⟨w.heap.size + 1, 0, none⟩ = some (.int .u64 ep) := by rw [cell_of_row _ _ _ _ _ _ h1]; rfl
    have c11 : x3.cell? ⟨w.heap.size + 1, 1, none⟩ = some (.int .i64 fr) := by rw [cell_of_row _ _ _ _ _ _ h1]; rfl
    have c12 : x3.cell? ⟨w.heap.size + 1, 2, none⟩ = some (.int .u64 ge) := by rw [cell_of_row _ _ _ _ _ _ h1]; rfl
    have c13 : x3.cell? ⟨w.heap.size + 1, 3, none⟩ = some (.slice A n c) := by rw [cell_of_row _ _ _ _ _ _ h1]; rfl
    go_wp2_with (go_at_call 14; fail)
    clear c00 c01 c02 c03 c10 c11 c12 c13
    refine (FrameHead_all ep fr ge A n c hep hge _).mono ?_
    rintro e x4 ⟨R4, r4, s4, rfl, t4, bb⟩
    replace h0 := keep_below bb (lt_of_block h0) h0
    replace h1 := keep_below bb (lt_of_block h1) h1
    replace hb := hb.trans (bb.mono hb.size)
    replace U1 := Lib.hid ((U1.out.below bb).more bb.size)
    replace U2 := Lib.hid ((U2.out.below bb).more bb.size)
    replace U3 := Lib.hid ((U3.out.below bb).more bb.size)
    replace U4 := Lib.hid ((U4.out.below bb).more bb.size)
    replace T0 := Lib.hid ((T0.out.below bb).more bb.size)
    replace T1 := Lib.hid ((T1.out.below bb).more bb.size)
    replace T2 := Lib.hid ((T2.out.below bb).more bb.size)
    replace T3 := Lib.hid ((T3.out.below bb).more bb.size)
    have T4 := Lib.hid t4
    clear bb t4
    have c00 : x4.cell? ⟨w.heap.size, 0, none⟩ = some (.int .i64 tw) := by rw [cell_of_row _ _ _ _ _ _ h0]; rfl
    have c01 : x4.cell? ⟨w.heap.size, 1, none⟩ = some (.slice A1 n1 c1) := by rw [cell_of_row _ _ _ _ _ _ h0]; rfl
    have c02 : x4.cell? ⟨w.heap.size, 2, none⟩ = some (.slice A2 n2 c2) := by rw [cell_of_row _ _ _ _ _ _ h0]; rfl
    have c03 : x4.cell? ⟨w.heap.size, 3, none⟩ = some (.slice A3 n3 c3) := by rw [cell_of_row _ _ _ _ _ _ h0]; rfl
    have c10 : x4.cell? ⟨w.heap.size + 1, 0, none⟩ = some (.int .u64 ep) := by rw [cell_of_row _ _ _ _ _ _ h1]; rfl
    have c11 : x4.cell? ⟨w.heap.size + 1, 1, none⟩ = some (.int .i64 fr) := by rw [cell_of_row _ _ _ _ _ _ h1]; rfl
    have c12 : x4.cell? ⟨w.heap.size + 1, 2, none⟩ = some (.int .u64 ge) := by rw [cell_of_row _ _ _ _ _ _ h1]; rfl
    have c13 : x4.cell? ⟨w.heap.size + 1, 3, none⟩ = some (.slice A n c) := by rw [cell_of_row _ _ _ _ _ _ h1]; rfl
    go_wp2_with (go_at_call 15; fail)
    clear c00 c01 c02 c03 c10 c11 c12 c13
    refine (RFrameHead_all ep fr ge A n c hep hge _).mono ?_
    rintro e x5 ⟨R5, r5, s5, rfl, t5, bb⟩
    replace h0 := keep_below bb (lt_of_block h0) h0
    replace h1 := keep_below bb (lt_of_block h1) h1
    replace hb := hb.trans (bb.mono hb.size)
    replace U1 := Lib.hid ((U1.out.below bb).more bb.size)
    replace U2 := Lib.hid ((U2.out.below bb).more bb.size)
    replace U3 := Lib.hid ((U3.out.below bb).more bb.size)
    replace U4 := Lib.hid ((U4.out.below bb).more bb.size)
    replace T0 := Lib.hid ((T0.out.below bb).more bb.size)
    replace T1 := Lib.hid ((T1.out.below bb).more bb.size)
    replace T2 := Lib.hid ((T2.out.below bb).more bb.size)
    replace T3 := Lib.hid ((T3.out.below bb).more bb.size)
    replace T4 := Lib.hid ((T4.out.below bb).more bb.size)
    have T5 := Lib.hid t5
    clear bb t5
    go_wp2_with (go_at_call 16; fail)
    refine (Same_self _ _ _ _ _ _ _ _ T0.out T1.out L3.out).mono ?_
    rintro e y0 ⟨rfl, rfl⟩
    go_wp2_with (go_at_call 16; fail)
    refine (Same_self _ _ _ _ _ _ _ _ T2.out T3.out L2.out).mono ?_
    rintro e y2 ⟨rfl, rfl⟩
    go_wp2_with (go_at_call 16; fail)
    refine (Same_self _ _ _ _ _ _ _ _ T4.out T5.out L1.out).mono ?_
    rintro e y4 ⟨rfl, rfl⟩
    go_wp2
    go_ret
    exact ⟨rfl, hb⟩
  · skip
    have c00 : w1.cell? ⟨w.heap.size, 0, none⟩ = some (.int .i64 tw) := by rw [cell_of_row _ _ _ _ _ _ h0]; rfl
    have c01 : w1.cell? ⟨w.heap.size, 1, none⟩ = some (.slice A1 n1 c1) := by rw [cell_of_row _ _ _ _ _ _ h0]; rfl
    have c02 : w1.cell? ⟨w.heap.size, 2, none⟩ = some (.slice A2 n2 c2) := by rw [cell_of_row _ _ _ _ _ _ h0]; rfl
    have c03 : w1.cell? ⟨w.heap.size, 3, none⟩ = some (.slice A3 n3 c3) := by rw [cell_of_row _ _ _ _ _ _ h0]; rfl
    have c10 : w1.cell? ⟨w.heap.size + 1, 0, none⟩ = some (.int .u64 ep) := by rw [cell_of_row _ _ _ _ _ _ h1]; rfl
    have c11 : w1.cell? ⟨w.heap.size + 1, 1, none⟩ = some (.int .i64 fr) := by rw [cell_of_row _ _ _ _ _ _ h1]; rfl
    have c12 : w1.cell? ⟨w.heap.size + 1, 2, none⟩ = some (.int .u64 ge) := by rw [cell_of_row _ _ _ _ _ _ h1]; rfl
    have c13 : w1.cell? ⟨w.heap.size + 1, 3, none⟩ = some (.slice A n c) := by rw [cell_of_row _ _ _ _ _ _ h1]; rfl
    go_wp2
    go_ret
    exact ⟨rfl, hb⟩
end Go.Proofs.Ytfbfkfdkigpkgaa
