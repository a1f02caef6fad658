/- The walks of layer 5: what a number is divided by. Plain law of layer 5: what the law FeBytes asks; no walk. Plain law of layer 5: what numbers that may be stand for. Plain law of layer 6: a step's numbers. Plain: the prime of layer 5, and its powers; no program is in sight. Plain law of layer 5: what a number is divided by is it, to the power of the prime less 2. The ladder's numbers (plain): sums, differences, products by the prime; twice a point, two points together; what the program's steps stand for. Layer 6's reckoner, by computing. Two points change places, or none, by computing. A step -/
import Derived.Test.YtcmmpiaogfnmoaaGreatDoorStateChainsE
import Derived.Lib.Tables
import Derived.Lib.BitFns
set_option linter.unusedSimpArgs false
set_option linter.unusedVariables false
set_option maxRecDepth 200000
set_option maxHeartbeats 6000000
namespace Go.Proofs.YtcmmpiaogfnmoaaGreatDoor
section
open Go.RowKit
attribute [local irreducible] zdn zdg za2 zbX zcF zcz sqN
def znH (F H : Nat → Nat) (i : Nat) : Nat := if okF F 5 then H i else 0
theorem zmm {F : Nat → Nat} (h : okF F 5) (H : Nat → Nat) : znH F H = H := by funext i; unfold znH; rw [if_pos h]
theorem zpB {F : Nat → Nat} (h : ¬ okF F 5) (H : Nat → Nat) : znH F H = fun _ => 0 := by funext i; unfold znH; rw [if_neg h]
def zjZ (F : Nat → Nat) : Nat → Nat := sqN F 1
def zfK (F : Nat → Nat) : Nat → Nat := ze8 (zjZ F) 2 F
def zcc (F : Nat → Nat) : Nat → Nat := zbX (zfK F) (zjZ F)
def zfL (F : Nat → Nat) : Nat → Nat := zbX (sqN (zcc F) 1) (zfK F)
def zh7 (F : Nat → Nat) : Nat → Nat := ze8 (zfL F) 5 (zfL F)
def zcM (F : Nat → Nat) : Nat → Nat := ze8 (zh7 F) 10 (zh7 F)
def zfa (F : Nat → Nat) : Nat → Nat := ze8 (zcM F) 20 (zcM F)
def zc2 (F : Nat → Nat) : Nat → Nat := ze8 (zfa F) 10 (zh7 F)
def zcd (F : Nat → Nat) : Nat → Nat := ze8 (zc2 F) 50 (zc2 F)
def zdM (F : Nat → Nat) : Nat → Nat := ze8 (zcd F) 100 (zcd F)
def zh8 (F : Nat → Nat) : Nat → Nat := ze8 (zdM F) 50 (zc2 F)
def zs9 (F : Nat → Nat) : Nat → Nat := ze8 (zh8 F) 5 (zcc F)
theorem zpC {F : Nat → Nat} (h : okF F 5) : okF (zjZ F) 5 := zh3 F h 1
theorem zj0 {F : Nat → Nat} (h : okF F 5) : okF (zfK F) 5 := zec _ _ _ (zpC h) h
theorem zfM {F : Nat → Nat} (h : okF F 5) : okF (zcc F) 5 := zdL _ _ (zj0 h) (zpC h)
theorem zj1 {F : Nat → Nat} (h : okF F 5) : okF (zfL F) 5 := zdL _ _ (zh3 _ (zfM h) 1) (zj0 h)
theorem zi3 {F : Nat → Nat} (h : okF F 5) : okF (zh7 F) 5 := zec _ _ _ (zj1 h) (zj1 h)
theorem zfN {F : Nat → Nat} (h : okF F 5) : okF (zcM F) 5 := zec _ _ _ (zi3 h) (zi3 h)
theorem zpD {F : Nat → Nat} (h : okF F 5) : okF (zfa F) 5 := zec _ _ _ (zfN h) (zfN h)
theorem zeF {F : Nat → Nat} (h : okF F 5) : okF (zc2 F) 5 := zec _ _ _ (zpD h) (zi3 h)
theorem zeG {F : Nat → Nat} (h : okF F 5) : okF (zcd F) 5 := zec _ _ _ (zeF h) (zeF h)
theorem zmn {F : Nat → Nat} (h : okF F 5) : okF (zdM F) 5 := zec _ _ _ (zeG h) (zeG h)
theorem zyR {F : Nat → Nat} (h : okF F 5) : okF (zh8 F) 5 := zec _ _ _ (zmn h) (zeF h)
attribute [local irreducible] zjZ zfK zcc zfL zh7 zcM zfa zc2 zcd zdM zh8 ze8
def zxp (F : Nat → Nat) (n : Int) (w : World) (e : Ending) (w' : World) : Prop :=
 (if okF F 5 ∧ 0 ≤ n ∧ n ≤ 300 then e = .returned (.tuple #[.agg (arr .u64 5 fun k => ((sqN F n.toNat k : Nat) : Int)), .int .i64 0]) else e = .returned (.tuple #[.agg (arr .u64 5 fun _ => 0), .int .i64 1])) ∧ Below w.heap.size w w'
theorem zqF (F : Nat → Nat) (hF : ∀ i, i < 5 → F i < 18446744073709551616) (n : Int) (hn : -9223372036854775808 ≤ n ∧ n < 9223372036854775808) (w : World) :
  Calls Tryz.prog 163 #[.agg (arr .u64 5 fun i => ((F i : Nat) : Int)), .int .i64 n] w (zxp F n w) := by
 go_enter Tryz.func163, Tryz.ntmps163
 obtain ⟨h0, h1, hsz, hb⟩ := zgu w (.cells (arr .u64 5 fun i => ((F i : Nat) : Int)) 168) (.cells (arr .u64 5 fun _ => 0) 168)
 go_upto_region 1 with (refine zap rfl rfl zuL ?_)
 generalize (w.alloc (.cells (arr .u64 5 fun i => ((F i : Nat) : Int)) 168)).alloc (.cells (arr .u64 5 fun _ => 0) 168) = wa at *
 (try simp only [Act.put, jA, jB, jC])
 try simp only [World.size_alloc]
 obtain ⟨g3, hz2, bl⟩ := zgt wa (.cells (arr .u64 5 fun i => ((F i : Nat) : Int)) 168)
 rw [hsz] at g3
 go_wp2_with (first | (refine zac rfl rfl rfl zbN h0 ?_) | (refine zca rfl rfl Tryz.underlying217 (by simp [Act.eval, Act.put]) (zma fun i => ((F i : Nat) : Int)) ?_) | (go_at_call 164; fail))
 refine (zgd 1 5 rfl (by omega) F hF _ _ _ g3).mono ?_
 rintro e w2 ⟨rfl, b2⟩
 have b3 := bl.trans (b2.mono (by omega))
 replace h0 := zai b3 (by omega) h0
 replace h1 := zai b3 (by omega) h1
 replace hb := hb.trans (b3.mono (by omega))
 clear b2 b3 bl g3 hz2 hsz
 by_cases hq : okF F 5
 ·rw [show decide (okF F 5) = true from decide_eq_true hq]
  have hq' := Lib.hid hq
  by_cases h2 : n < 0
  ·go_wp2_with (first | (refine zbB rfl (zbH rfl (by simp [Act.eval, Act.put]) zeE) ?_) | (refine zae rfl rfl rfl rfl zbN h1 ?_))
   refine bodyPost_ret (zaD rfl rfl rfl zbN (zaz h1)) rfl ⟨?_, zaA hb (by omega) _⟩
   rw [if_neg (by omega)]; rfl
  ·by_cases h3 : 300 < n
   ·go_wp2_with (first | (refine zbB rfl (zbH rfl (by simp [Act.eval, Act.put]) zeE) ?_) | (refine zae rfl rfl rfl rfl zbN h1 ?_))
    refine bodyPost_ret (zaD rfl rfl rfl zbN (zaz h1)) rfl ⟨?_, zaA hb (by omega) _⟩
    rw [if_neg (by omega)]; rfl
   ·obtain ⟨m, rfl⟩ := Int.eq_ofNat_of_zero_le (show 0 ≤ n by omega)
    go_wp2_with (first | (refine zac rfl rfl rfl zbN h0 ?_) | (go_at_call 168; fail))
    refine (zgh F hq'.out m (by omega) _).mono ?_
    rintro e w4 ⟨rfl, b4⟩
    replace h1 := zai b4 (jM h1) h1
    replace hb := hb.trans (b4.mono hb.size)
    go_wp2_with (refine zae rfl rfl rfl rfl zbN h1 ?_)
    refine bodyPost_ret (zaD rfl rfl rfl zbN (zaz h1)) rfl ⟨?_, zaA hb (by omega) _⟩
    rw [if_pos ⟨hq'.out, by omega, by omega⟩]; rfl
 ·rw [show decide (okF F 5) = false from decide_eq_false hq]
  go_wp2_with (first | (refine zbB rfl (zbH rfl (by simp [Act.eval, Act.put]) zeE) ?_) | (refine zae rfl rfl rfl rfl zbN h1 ?_))
  refine bodyPost_ret (zaD rfl rfl rfl zbN (zaz h1)) rfl ⟨?_, zaA hb (by omega) _⟩
  rw [if_neg (fun h => hq h.1)]; rfl
theorem zqG (F : Nat → Nat) (hF : okF F 5) (n : Nat) (hn : n ≤ 300) (w : World) :
  Calls Tryz.prog 163 #[.agg (arr .u64 5 fun i => ((F i : Nat) : Int)), .int .i64 n] w fun e w' => e = .returned (.tuple #[.agg (arr .u64 5 fun k => ((sqN F n k : Nat) : Int)), .int .i64 0]) ∧ Below w.heap.size w w' :=
 (zqF F (fun i hi => by have := hF i hi; omega) n (by omega) w).mono fun e w' h => by
  unfold zxp at h
  rw [if_pos ⟨hF, by omega, by omega⟩] at h
  exact h
section
variable {X : List Nat} {w0 : World} {F G : Nat → Nat}
theorem zxq (V : Nat → Nat) (hv : V = sqN F 1) (hX : ∀ i ∈ X, i < w0.heap.size) (hF : okF F 5) : Calls Tryz.prog 168 #[.agg (ca [.row 5 (uw F)]), .int .i64 1] w0 fun e w' => e = .returned (.agg (ca [.row 5 (uw V)])) ∧ Sep X [] w0 w' [] [] := by
 subst hv
 rw [← zbI, ← zbI]
 exact (zgh F hF 1 (by omega) w0).mono fun e w' h => ⟨h.1, zeW hX h.2⟩
theorem zxr (V : Nat → Nat) (hv : V = zbX F G) (hX : ∀ i ∈ X, i < w0.heap.size) (hF : okF F 5) (hG : okF G 5) : Calls Tryz.prog 167 #[.agg (ca [.row 5 (uw F)]), .agg (ca [.row 5 (uw G)])] w0 fun e w' => e = .returned (.agg (ca [.row 5 (uw V)])) ∧ Sep X [] w0 w' [] [] := by
 subst hv
 rw [← zbI, ← zbI, ← zbI]
 exact (zjU F G hF hG w0).mono fun e w' h => ⟨h.1, zeW hX h.2⟩
theorem zfO (n : Nat) (V : Nat → Nat) (hv : V = ze8 F n G) (hX : ∀ i ∈ X, i < w0.heap.size) (hF : okF F 5) (hG : okF G 5) (hn : n < 1000) : Calls Tryz.prog 166 #[.agg (ca [.row 5 (uw F)]), .int .i64 (n : Int), .agg (ca [.row 5 (uw G)])] w0 fun e w' => e = .returned (.agg (ca [.row 5 (uw V)])) ∧ Sep X [] w0 w' [] [] := by
 subst hv
 rw [← zbI, ← zbI, ← zbI]
 exact (zvY F G hF hG n hn w0).mono fun e w' h => ⟨h.1, zeW hX h.2⟩
end
theorem zCY : ca [.row 5 fun _ => .int .u64 0] = ca [.row 5 (uw fun _ => 0)] := rfl
theorem zqH {F : Nat → Nat} (hF : ∀ i, i < 5 → F i < 18446744073709551616) {X : List Nat} {w0 : World} (hX : ∀ k ∈ X, k < w0.heap.size) :
  Calls Tryz.prog 137 #[.agg (ca [.row 5 (uw F)])] w0 fun e w' => e = .returned (.tuple #[.agg (ca [.row 5 (uw (znH F (zs9 F)))]), .int .i64 (if okF F 5 then 0 else 1)]) ∧ Sep X [] w0 w' [] [] := by
 refine zdX Tryz.ntmps137 Tryz.func137 rfl rfl fun a E => ?_; replace E : Env a _ [(0, _)] := E
 have H : Sep X [] w0 w0 [] [] := Sep.start hX (fun _ h => by cases h)
 refine Vr ?_; refine Wb E H fun b1 w a H E => ?_; refine Wa (z := [.row 5 fun _ => .int .u64 0]) E H fun b2 w a H E => ?_; refine Vv E pka fun a E => ?_; refine Vn ?_; refine wp_seq_k fun K1 hK1 => ?_; refine Vr ?_; refine Vv E (pkl 5 H 1) fun a E => ?_; refine Ve E ?_
 refine zqh (sz := 5) (z := [.row 5 fun _ => .int .u64 0]) E H rfl Tryz.underlying217 (by kernel_rfl) (by decide) (by kernel_rfl) ⟨_, _, 0, _, rfl, rfl, rfl, rfl, rfl⟩ ?_; clear H; intro b16 w H _; refine Vp E fun a E => ?_; refine Ve E ?_; refine Vc E ?_; refine (zgd 1 5 rfl (by omega) F hF _ _ _ (by rw [zbI]; exact H.holds _ (List.mem_of_getElem? (i := 0) rfl))).mono ?_; rintro e w ⟨rfl, hb⟩
 have F := (Frm.of_below hb : Frm [] _ _)
 replace H := H.grow F
 refine Vp E fun a E => ?_; clear F; clear hb; refine Vv E (zrk rfl rfl) fun a E => ?_; refine Vn ?_; refine zhv (d := 18) E rfl ?_ ?_
 ·skip
  clear E; intro c18 E
  have hq : ¬ okF F 5 := by simpa using c18
  refine zor E rfl ?_; refine Vr ?_; refine Vv E (zhE (n := 5) (z := [.row 5 fun _ => .int .u64 0]) [.row 5 (uw fun _ => 0)] rfl (by kernel_rfl) (by kernel_rfl) rfl zCY) fun a E => ?_; refine Ws 1 E H fun w H => ?_; replace H : Sep _ _ _ _ [_, _, _] _ := H; refine Vv E pka fun a E => ?_; refine Vn ?_; refine wp_ret ?_
  repeat (first | refine zes ?_ | refine zdt ?_)
  refine zxN rfl E (by exact zDx (n := 5) H 1 rfl rfl rfl (by kernel_rfl)) (zuD rfl) ?_
  first | rw [if_pos hq, zmm hq] | rw [if_neg hq, zpB hq]
  exact ⟨by with_unfolding_all rfl, H.keepLR (L := []) (R := [])⟩
 ·skip
  clear E; intro c18 E
  have hq : okF F 5 := by simpa using c18
  refine zos E rfl ?_; refine wp_skip ?_; refine hK1 _ _ ?_; refine Vr ?_; refine Vv E pka fun a E => ?_; refine Vn ?_; refine Vr ?_; refine Vv E (pkl 5 H 2) fun a E => ?_; refine Ve E ?_; refine Vc E ?_; refine (zxq (F := F) (zjZ F) (by unfold zjZ; rfl) H.xk hq).mono ?_; rintro e w ⟨rfl, H1⟩
  replace H := H.call H1
  clear H1; replace H : Sep _ _ _ _ [_, _, _] [] := H; refine Vp E fun a E => ?_; refine Wa (z := [.row 5 fun _ => .int .u64 0]) E H fun b5 w a H E => ?_; refine Ws 0 E H fun w H => ?_; replace H : Sep _ _ _ _ [_, _, _, _] _ := H; refine Vn ?_; refine Vr ?_; refine Vv E pkm fun a E => ?_
  refine Vv E (pkl 5 H 0) fun a E => ?_; refine Vv E (pkl 5 H 3) fun a E => ?_; refine Ve E ?_; refine Vc E ?_; refine (zfO (F := zjZ F) (G := F) 2 (zfK F) (by unfold zfK; rfl) H.xk (zpC hq) hq (by decide)).mono ?_; rintro e w ⟨rfl, H1⟩
  replace H := H.call H1
  clear H1; replace H : Sep _ _ _ _ [_, _, _, _] [] := H; refine Vp E fun a E => ?_; refine Wa (z := [.row 5 fun _ => .int .u64 0]) E H fun b6 w a H E => ?_; refine Ws 0 E H fun w H => ?_; replace H : Sep _ _ _ _ [_, _, _, _, _] _ := H; refine Vn ?_; refine Vr ?_; refine Vv E (pkl 5 H 0) fun a E => ?_
  refine Vv E (pkl 5 H 1) fun a E => ?_; refine Ve E ?_; refine Vc E ?_; refine (zxr (F := zfK F) (G := zjZ F) (zcc F) (by unfold zcc; rfl) H.xk (zj0 hq) (zpC hq)).mono ?_; rintro e w ⟨rfl, H1⟩
  replace H := H.call H1
  clear H1; replace H : Sep _ _ _ _ [_, _, _, _, _] [] := H; refine Vp E fun a E => ?_; refine Wa (z := [.row 5 fun _ => .int .u64 0]) E H fun b7 w a H E => ?_; refine Ws 0 E H fun w H => ?_; replace H : Sep _ _ _ _ [_, _, _, _, _, _] _ := H; refine Vn ?_; refine wp_seq_k fun K8 hK8 => ?_
  apply zmk E H 5 [.v _, .v _, .v _, .v _, .n _ _] [[], [0], [], [1, 2], []] [] [some 29, some 30, some 31, some 32, some 8] (by kernel_rfl) (by kernel_rfl) (by kernel_rfl) rfl rfl rfl rfl ?fo7b1 ?fe7b1
  case fo7b1 =>
   refine' Fv (fun w H => pkl 5 H 0) ?_
   refine' Fw rfl rfl rfl (fun w H => zxq (F := zcc F) (sqN (zcc F) 1) rfl H.xk (zfM hq)) ?_
   refine' Fv (fun w H => pkl 5 H 1) ?_
   refine' Fw rfl rfl rfl (fun w H => zxr (F := sqN (zcc F) 1) (G := zfK F) (zfL F) (by unfold zfL; rfl) H.xk (zh3 _ (zfM hq) 1) (zj0 hq)) ?_
   refine' zxn (z := [.row 5 fun _ => .int .u64 0]) rfl (by kernel_rfl) rfl ?_
   exact zpw
  case fe7b1 =>
   try clear E a H
   intro B a w E H
   simp only [ze9, zpA, zxo, List.cons_append, List.nil_append] at E H
   generalize B 4 = b8 at E H
   clear B; replace H : Sep _ _ _ _ [_, _, _, _, _, _, _] [] := H
   try (simp only [jH, jI, jF, jG])
   refine Ws 0 E H fun w H => ?_; replace H : Sep _ _ _ _ [_, _, _, _, _, _, _] _ := H; refine hK8 _ _ ?_; refine Vr ?_; refine Vv E pkm fun a E => ?_; refine Vv E (pkl 5 H 0) fun a E => ?_; refine Vv E (pkl 5 H 0) fun a E => ?_; refine Ve E ?_; refine Vc E ?_
   refine (zfO (F := zfL F) (G := zfL F) 5 (zh7 F) (by unfold zh7; rfl) H.xk (zj1 hq) (zj1 hq) (by decide)).mono ?_; rintro e w ⟨rfl, H1⟩
   replace H := H.call H1
   clear H1; replace H : Sep _ _ _ _ [_, _, _, _, _, _, _] [] := H; refine Vp E fun a E => ?_; refine Wa (z := [.row 5 fun _ => .int .u64 0]) E H fun b9 w a H E => ?_; refine Ws 0 E H fun w H => ?_; replace H : Sep _ _ _ _ [_, _, _, _, _, _, _, _] _ := H; refine Vn ?_; refine Vr ?_; refine Vv E pkm fun a E => ?_
   refine Vv E (pkl 5 H 0) fun a E => ?_; refine Vv E (pkl 5 H 0) fun a E => ?_; refine Ve E ?_; refine Vc E ?_; refine (zfO (F := zh7 F) (G := zh7 F) 10 (zcM F) (by unfold zcM; rfl) H.xk (zi3 hq) (zi3 hq) (by decide)).mono ?_; rintro e w ⟨rfl, H1⟩
   replace H := H.call H1
   clear H1; replace H : Sep _ _ _ _ [_, _, _, _, _, _, _, _] [] := H; refine Vp E fun a E => ?_; refine Wa (z := [.row 5 fun _ => .int .u64 0]) E H fun b10 w a H E => ?_; refine Ws 0 E H fun w H => ?_; replace H : Sep _ _ _ _ [_, _, _, _, _, _, _, _, _] _ := H; refine Vn ?_; refine Vr ?_; refine Vv E pkm fun a E => ?_
   refine Vv E (pkl 5 H 0) fun a E => ?_; refine Vv E (pkl 5 H 0) fun a E => ?_; refine Ve E ?_; refine Vc E ?_; refine (zfO (F := zcM F) (G := zcM F) 20 (zfa F) (by unfold zfa; rfl) H.xk (zfN hq) (zfN hq) (by decide)).mono ?_; rintro e w ⟨rfl, H1⟩
   replace H := H.call H1
   clear H1; replace H : Sep _ _ _ _ [_, _, _, _, _, _, _, _, _] [] := H; refine Vp E fun a E => ?_; refine Wa (z := [.row 5 fun _ => .int .u64 0]) E H fun b11 w a H E => ?_; refine Ws 0 E H fun w H => ?_; replace H : Sep _ _ _ _ [_, _, _, _, _, _, _, _, _, _] _ := H; refine Vn ?_; refine Vr ?_; refine Vv E pkm fun a E => ?_
   refine Vv E (pkl 5 H 0) fun a E => ?_; refine Vv E (pkl 5 H 2) fun a E => ?_; refine Ve E ?_; refine Vc E ?_; refine (zfO (F := zfa F) (G := zh7 F) 10 (zc2 F) (by unfold zc2; rfl) H.xk (zpD hq) (zi3 hq) (by decide)).mono ?_; rintro e w ⟨rfl, H1⟩
   replace H := H.call H1
   clear H1; replace H : Sep _ _ _ _ [_, _, _, _, _, _, _, _, _, _] [] := H; refine Vp E fun a E => ?_; refine Wa (z := [.row 5 fun _ => .int .u64 0]) E H fun b12 w a H E => ?_; refine Ws 0 E H fun w H => ?_; replace H : Sep _ _ _ _ [_, _, _, _, _, _, _, _, _, _, _] _ := H; refine Vn ?_; refine Vr ?_; refine Vv E pkm fun a E => ?_
   refine Vv E (pkl 5 H 0) fun a E => ?_; refine Vv E (pkl 5 H 0) fun a E => ?_; refine Ve E ?_; refine Vc E ?_; refine (zfO (F := zc2 F) (G := zc2 F) 50 (zcd F) (by unfold zcd; rfl) H.xk (zeF hq) (zeF hq) (by decide)).mono ?_; rintro e w ⟨rfl, H1⟩
   replace H := H.call H1
   clear H1; replace H : Sep _ _ _ _ [_, _, _, _, _, _, _, _, _, _, _] [] := H; refine Vp E fun a E => ?_; refine Wa (z := [.row 5 fun _ => .int .u64 0]) E H fun b13 w a H E => ?_; refine Ws 0 E H fun w H => ?_; replace H : Sep _ _ _ _ [_, _, _, _, _, _, _, _, _, _, _, _] _ := H; refine Vn ?_; refine wp_seq_k fun K14 hK14 => ?_
   apply zmk E H 8 [.v _, .v _, .v _, .v _, .v _, .v _, .v _, .n _ _] [[], [], [], [], [1, 2, 3], [], [0, 4, 5], []] [] [some 53, some 54, some 55, some 56, some 57, some 58, some 59, some 14] (by kernel_rfl) (by kernel_rfl) (by kernel_rfl) rfl rfl rfl rfl ?fo13c2 ?fe13c2
   case fo13c2 =>
    refine' Fv (fun w H => zjj rfl rfl) ?_
    refine' Fv (fun w H => zjj rfl rfl) ?_
    refine' Fv (fun w H => pkl 5 H 0) ?_
    refine' Fv (fun w H => pkl 5 H 0) ?_
    refine' Fw rfl rfl rfl (fun w H => zfO (F := zcd F) (G := zcd F) 100 (zdM F) (by unfold zdM; rfl) H.xk (zeG hq) (zeG hq) (by decide)) ?_
    refine' Fv (fun w H => pkl 5 H 1) ?_
    refine' Fw rfl rfl rfl (fun w H => zfO (F := zdM F) (G := zc2 F) 50 (zh8 F) (by unfold zh8; rfl) H.xk (zmn hq) (zeF hq) (by decide)) ?_
    refine' zxn (z := [.row 5 fun _ => .int .u64 0]) rfl (by kernel_rfl) rfl ?_
    exact zpw
   case fe13c2 =>
    try clear E a H
    intro B a w E H
    simp only [ze9, zpA, zxo, List.cons_append, List.nil_append] at E H
    generalize B 7 = b14 at E H
    clear B; replace H : Sep _ _ _ _ [_, _, _, _, _, _, _, _, _, _, _, _, _] [] := H
    try (simp only [jH, jI, jF, jG])
    refine Ws 0 E H fun w H => ?_; replace H : Sep _ _ _ _ [_, _, _, _, _, _, _, _, _, _, _, _, _] _ := H; refine hK14 _ _ ?_; refine Vr ?_; refine Vv E pkm fun a E => ?_; refine Vv E (pkl 5 H 0) fun a E => ?_; refine Vv E (pkl 5 H 7) fun a E => ?_; refine Ve E ?_; refine Vc E ?_
    refine (zfO (F := zh8 F) (G := zcc F) 5 (zs9 F) (by unfold zs9; rfl) H.xk (zyR hq) (zfM hq) (by decide)).mono ?_; rintro e w ⟨rfl, H1⟩
    replace H := H.call H1
    clear H1; replace H : Sep _ _ _ _ [_, _, _, _, _, _, _, _, _, _, _, _, _] [] := H; refine Vp E fun a E => ?_; refine Ws 11 E H fun w H => ?_; replace H : Sep _ _ _ _ [_, _, _, _, _, _, _, _, _, _, _, _, _] _ := H; refine Vv E pka fun a E => ?_; refine Vn ?_; refine wp_ret ?_
    repeat (first | refine zes ?_ | refine zdt ?_)
    refine zxN rfl E (by exact zDx (n := 5) H 11 rfl rfl rfl (by kernel_rfl)) (zuD rfl) ?_
    first | rw [if_pos hq, zmm hq] | rw [if_neg hq, zpB hq]
    exact ⟨by with_unfolding_all rfl, H.keepLR (L := []) (R := [])⟩
theorem zqI (F : Nat → Nat) (hF : ∀ i, i < 5 → F i < 18446744073709551616) (w : World) :
  Calls Tryz.prog 137 #[.agg (arr .u64 5 fun i => ((F i : Nat) : Int))] w fun e w' => e = .returned (.tuple #[.agg (arr .u64 5 fun k => ((znH F (zs9 F) k : Nat) : Int)), .int .i64 (if okF F 5 then 0 else 1)]) ∧ Below w.heap.size w w' := by
 rw [zbI, zbI]
 exact (zqH (X := []) hF (fun _ h => by cases h)).mono fun e w' h => ⟨h.1, h.2.frm.below⟩
end
section
open Go.RowKit
theorem zmo (X Y : Nat → Nat) : ∀ n, (∀ i, i < n → X i = Y i) → zbj X n = zbj Y n
 | 0, _ => rfl
 | n + 1, h => by rw [zdy, zdy, zmo X Y n (fun i hi => h i (by omega)), h n (by omega)]
theorem zta (F : Nat → Nat) (hF : okF F 5) (k : Nat) : zdh F k = za2 (zbj (zdg F) 5) k := by unfold zdh; rw [if_pos hF]
def znI (k : Nat → Nat) (i : Nat) : Nat := if i = 31 then k 31 % 128 else k i
theorem zBx (k : Nat → Nat) : okF (ofN k) 5 := fun i _ => by have : ofN k i < 2251799813685248 := Nat.mod_lt _ (by omega); omega
end
section
open Go.RowKit
attribute [local irreducible] zdn za2 zbX zcF zcz sqN
def za5 (X : Nat → Nat) (v : Nat) : Prop := okF X 5 ∧ zbj X 5 % pN = v % pN
def zpE (F G : Nat → Nat) : Nat → Nat := zcF fun i => F i + G i
def zpF (F G : Nat → Nat) : Nat → Nat := zcF (zcz F G)
theorem zi4 {F G : Nat → Nat} (hF : okF F 5) (hG : okF G 5) : okF (zpE F G) 5 := zxm _ fun i hi => by have := hF i hi; have := hG i hi; show F i + G i < _; omega
theorem zh9 {F G : Nat → Nat} (hF : okF F 5) : okF (zpF F G) 5 := zxm _ fun i hi => zs4 F G hF i hi
theorem zv1 {F G : Nat → Nat} {a b : Nat} (hF : za5 F a) (hG : za5 G b) : za5 (zpE F G) (a + b) :=
 ⟨zi4 hF.1 hG.1, by unfold zpE; rw [zyM, Nat.add_mod, hF.2, hG.2, ← Nat.add_mod]⟩
theorem zia {F G : Nat → Nat} {a b : Nat} (hF : za5 F a) (hG : za5 G b) : za5 (zbX F G) (a * b) :=
 ⟨zdL F G hF.1 hG.1, by rw [zvW, Nat.mul_mod, hF.2, hG.2, ← Nat.mul_mod]⟩
theorem zv2 {F G : Nat → Nat} {a b c : Nat} (hF : za5 F a) (hG : za5 G b) (h : (c + b) % pN = a % pN) : za5 (zpF F G) c := by
 refine ⟨zh9 hF.1, ?_⟩
 have h1 := zyL F G hG.1
 have e : zbj (zpF F G) 5 = zbj (zcF (zcz F G)) 5 := rfl
 rw [e]
 generalize zbj (zcF (zcz F G)) 5 = x at *
 have h2 : (x + b) % pN = (c + b) % pN := by
  rw [h, ← hF.2, ← h1, Nat.add_mod, ← hG.2, ← Nat.add_mod]
 generalize hp : pN = p at h2 ⊢
 have hp0 : 0 < p := by rw [← hp]; unfold pN; omega
 clear h1 e h hF hG
 have h3 : (x + b + (p - b % p)) % p = (c + b + (p - b % p)) % p := by rw [Nat.add_mod, h2, ← Nat.add_mod]
 have e1 : ∀ y, (y + b + (p - b % p)) % p = y % p := by
  intro y
  have hb := Nat.div_add_mod b p
  have hl := Nat.mod_lt b hp0
  have : y + b + (p - b % p) = y + p * (b / p + 1) := by rw [Nat.mul_add]; omega
  rw [this, Nat.add_mul_mod_self_left]
 rwa [e1, e1] at h3
theorem zj2 {F : Nat → Nat} {a : Nat} (hF : za5 F a) : ∀ n, za5 (sqN F n) (a ^ 2 ^ n)
 | 0 => by unfold sqN; simpa using hF
 | n + 1 => by
  rw [zpr, Nat.pow_succ, Nat.mul_two, Nat.pow_add]
  exact zia (zj2 hF n) (zj2 hF n)
def zmX (x : Nat) (i : Nat) : Nat := if i = 0 then x else 0
theorem zxs {x : Nat} (h : x < 4503599627370496) : okF (zmX x) 5 := fun i _ => by unfold zmX; split <;> omega
theorem zyS (x : Nat) : zbj (zmX x) 5 = x := by rw [zaJ]; unfold zmX; simp
theorem zha {x : Nat} (h : x < 4503599627370496) : za5 (zmX x) x := ⟨zxs h, by rw [zyS]⟩
end
section
open Go.RowKit
attribute [local irreducible] zdn za2 zbX zcF zcz sqN zpE zpF zmX zbj zdh zs9 ofN
def sA (X Z : Nat → Nat) := zpE X Z
def sB (X Z : Nat → Nat) := zpF X Z
def sDA (X Z X' Z' : Nat → Nat) := zbX (zpF X' Z') (sA X Z)
def sCB (X Z X' Z' : Nat → Nat) := zbX (zpE X' Z') (sB X Z)
def sHX (X Z X' Z' : Nat → Nat) := sqN (zpE (sDA X Z X' Z') (sCB X Z X' Z')) 1
def sHZ (X Z X' Z' U : Nat → Nat) := zbX U (sqN (zpF (sDA X Z X' Z') (sCB X Z X' Z')) 1)
def sAA (X Z : Nat → Nat) := sqN (sA X Z) 1
def sBB (X Z : Nat → Nat) := sqN (sB X Z) 1
def sE (X Z : Nat → Nat) := zpF (sAA X Z) (sBB X Z)
def sLX (X Z : Nat → Nat) := zbX (sAA X Z) (sBB X Z)
def sLZ (X Z : Nat → Nat) := zbX (sE X Z) (zpE (sAA X Z) (zbX (zmX 121665) (sE X Z)))
section
variable {X Z X' Z' U : Nat → Nat}
theorem zCy (h : okF X 5) (h' : okF Z 5) : okF (sA X Z) 5 := zi4 h h'
theorem zCz (h : okF X 5) (h' : okF Z 5) : okF (sB X Z) 5 := zh9 h
theorem ztb (h1 : okF X 5) (h2 : okF Z 5) (h3 : okF X' 5) (h4 : okF Z' 5) : okF (sDA X Z X' Z') 5 := zdL _ _ (zh9 h3) (zCy h1 h2)
theorem zyT (h1 : okF X 5) (h2 : okF Z 5) (h3 : okF X' 5) (h4 : okF Z' 5) : okF (sCB X Z X' Z') 5 := zdL _ _ (zi4 h3 h4) (zCz h1 h2)
theorem ztc (h : okF X 5) (h' : okF Z 5) : okF (sAA X Z) 5 := zh3 _ (zCy h h') 1
theorem zBy (h : okF X 5) (h' : okF Z 5) : okF (sBB X Z) 5 := zh3 _ (zCz h h') 1
theorem zCA (h : okF X 5) (h' : okF Z 5) : okF (sE X Z) 5 := zh9 (ztc h h')
theorem zib : okF (zmX 121665) 5 := zxs (by omega)
end
end
section
def IsP (p : Nat) : Prop := 2 ≤ p ∧ ∀ d, d ∣ p → d = 1 ∨ d = p
theorem zmp {p a b : Nat} (hp : IsP p) (h : p ∣ a * b) : p ∣ a ∨ p ∣ b := by
 rcases hp.2 (Nat.gcd p a) (Nat.gcd_dvd_left p a) with h1 | h1
 ·exact .inr (Nat.Coprime.dvd_of_dvd_mul_left h1 h)
 ·exact .inl (by rw [← h1]; exact Nat.gcd_dvd_right p a)
theorem ztd (m : Nat) (h : 2 ≤ m) : ∃ q, IsP q ∧ q ∣ m := by
 induction m using Nat.strongRecOn with
 | _ m ih =>
  by_cases hm : ∃ d, d ∣ m ∧ d ≠ 1 ∧ d ≠ m
  ·obtain ⟨d, hd, h1, h2⟩ := hm
   have hle := Nat.le_of_dvd (by omega) hd
   have h0 : d ≠ 0 := fun e => by rw [e] at hd; have := Nat.eq_zero_of_zero_dvd hd; omega
   obtain ⟨q, hq, hqd⟩ := ih d (by omega) (by omega)
   exact ⟨q, hq, Nat.dvd_trans hqd hd⟩
  ·refine ⟨m, ⟨h, fun d hd => ?_⟩, Nat.dvd_refl m⟩
   by_cases h1 : d = 1
   ·exact .inl h1
   ·by_cases h2 : d = m
    ·exact .inr h2
    ·exact absurd ⟨d, hd, h1, h2⟩ hm
def zyU : List Nat → Nat
 | [] => 1
 | q :: l => q * zyU l
theorem zte {q : Nat} (hq : IsP q) : ∀ (l : List Nat), (∀ x ∈ l, IsP x) → q ∣ zyU l → q ∈ l
 | [], _, h => by have := Nat.le_of_dvd (by unfold zyU; omega) h; unfold zyU at this; have := hq.1; omega
 | x :: l, hl, h => by
  rcases zmp hq h with h1 | h1
  ·rcases (hl x (by simp)).2 q h1 with h2 | h2
   ·have := hq.1; omega
   ·simp [h2]
  ·simp [zte hq l (fun y hy => hl y (by simp [hy])) h1]
theorem zxt : ∀ (N : Nat) (f : Nat → Nat), (∀ i, i < N + 1 → f i < N) → ∃ i j, i < j ∧ j < N + 1 ∧ f i = f j
 | 0, f, h => absurd (h 0 (by omega)) (by omega)
 | N + 1, f, h => by
  by_cases hv : ∃ i, i < N + 1 ∧ f i = f (N + 1)
  ·obtain ⟨i, hi, e⟩ := hv
   exact ⟨i, N + 1, hi, by omega, e⟩
  ·have hne : ∀ i, i < N + 1 → f i ≠ f (N + 1) := fun i hi e => hv ⟨i, hi, e⟩
   have hlast := h (N + 1) (by omega)
   obtain ⟨i, j, hij, hj, e⟩ := zxt N (fun i => if f i = N then f (N + 1) else f i) (fun i hi => by
    have h1 := h i (by omega)
    have h2 := hne i hi
    try dsimp only
    split <;> omega)
   refine ⟨i, j, hij, by omega, ?_⟩
   have hi1 := hne i (by omega)
   have hj1 := hne j hj
   try dsimp only at e
   split at e <;> split at e <;> omega
theorem zDU (N : Nat) (f : Nat → Nat) (h : ∀ i, i < N → f i < N) (inj : ∀ i j, i < j → j < N → f i ≠ f j) (y : Nat) (hy : y < N) : ∃ i, i < N ∧ f i = y := by
 refine Classical.byContradiction fun hno => ?_
 have hn : ∀ i, i < N → f i ≠ y := fun i hi e => hno ⟨i, hi, e⟩
 obtain ⟨M, rfl⟩ : ∃ M, N = M + 1 := ⟨N - 1, by omega⟩
 obtain ⟨i, j, hij, hj, e⟩ := zxt M (fun i => if f i = M then y else f i) (fun i hi => by
  have h1 := h i hi
  have h2 := hn i hi
  try dsimp only
  split <;> omega)
 have hi1 := hn i (by omega)
 have hj1 := hn j hj
 refine inj i j hij hj ?_
 try dsimp only at e
 split at e <;> split at e <;> omega
theorem zdN {n g k : Nat} (h : g ^ k % n = 1 % n) (t : Nat) : g ^ (k * t) % n = 1 % n := by
 rw [Nat.pow_mul, Nat.pow_mod, h, ← Nat.pow_mod, Nat.one_pow]
theorem zBz {n g N x y : Nat} (hN : 0 < N) (h : g ^ N % n = 1 % n) (k : Nat) (e : g ^ k * x % n = g ^ k * y % n) : x % n = y % n := by
 have key : ∀ z, (g ^ (N - 1)) ^ k * (g ^ k * z) % n = z % n := by
  intro z
  rw [← Nat.mul_assoc, ← Nat.mul_pow, ← Nat.pow_succ, show (N - 1).succ = N from by omega, Nat.mul_mod, Nat.pow_mod, h, ← Nat.pow_mod, Nat.one_pow, ← Nat.mul_mod, Nat.one_mul]
 rw [← key x, ← key y, Nat.mul_mod, e, ← Nat.mul_mod]
theorem zCZ {p : Nat → Prop} : ∀ k, p k → ∃ e, p e ∧ ∀ d, d < e → ¬ p d := by
 intro k
 induction k using Nat.strongRecOn with
 | _ k ih =>
  intro hk
  by_cases hm : ∃ d, d < k ∧ p d
  ·obtain ⟨d, hd, hp⟩ := hm
   exact ih d hd hp
  ·exact ⟨k, hk, fun d hd hp => hm ⟨d, hd, hp⟩⟩
theorem zyV {n g N : Nat} {qs : List Nat} (hN : 0 < N) (hqs : ∀ q ∈ qs, IsP q) (hm : zyU qs = N) (h1 : g ^ N % n = 1 % n) (h2 : ∀ q ∈ qs, g ^ (N / q) % n ≠ 1 % n) (k : Nat) (hk0 : 0 < k) (hk : k < N) : g ^ k % n ≠ 1 % n := by
 intro hk1
 obtain ⟨e, ⟨he0, he1⟩, hmin⟩ := zCZ (p := fun e => 0 < e ∧ g ^ e % n = 1 % n) k ⟨hk0, hk1⟩
 have hek : e ≤ k := by
  rcases Nat.lt_or_ge k e with h | h
  ·exact absurd ⟨hk0, hk1⟩ (hmin k h)
  ·exact h
 have hdv : e ∣ N := by
  have hr := Nat.div_add_mod N e
  have hl := Nat.mod_lt N he0
  have h3 : g ^ (N % e) % n = 1 % n := by
   have h4 := zdN he1 (N / e)
   rw [← hr, Nat.pow_add, Nat.mul_mod, h4, ← Nat.mul_mod, Nat.one_mul] at h1
   exact h1
  rcases Nat.eq_zero_or_pos (N % e) with h | h
  ·exact Nat.dvd_of_mod_eq_zero h
  ·exact absurd ⟨h, h3⟩ (hmin _ hl)
 obtain ⟨t, ht⟩ := hdv
 have ht2 : 2 ≤ t := by
  rcases Nat.lt_or_ge t 2 with h | h
  ·have : t = 0 ∨ t = 1 := by omega
   rcases this with rfl | rfl <;> omega
  ·exact h
 obtain ⟨q, hq, hqt⟩ := ztd t ht2
 have hqm : q ∈ qs := zte hq qs hqs (by rw [hm, ht]; exact Nat.dvd_trans hqt (Nat.dvd_mul_left t e))
 obtain ⟨s, hs⟩ := hqt
 refine h2 q hqm ?_
 have : N / q = e * s := by
  rw [ht, hs, Nat.mul_left_comm]
  exact Nat.mul_div_cancel_left _ (by have := hq.1; omega)
 rw [this]
 exact zdN he1 s
theorem zv3 {n g : Nat} {qs : List Nat} (hn : 2 ≤ n) (hqs : ∀ q ∈ qs, IsP q) (hm : zyU qs = n - 1) (h1 : g ^ (n - 1) % n = 1) (h2 : ∀ q ∈ qs, g ^ ((n - 1) / q) % n ≠ 1) :
  IsP n ∧ ∀ a, a % n ≠ 0 → a ^ (n - 1) % n = 1 := by
 have e1 : 1 % n = 1 := Nat.mod_eq_of_lt (by omega)
 have hN : 0 < n - 1 := by omega
 have h1' : g ^ (n - 1) % n = 1 % n := by rw [h1, e1]
 have hless := zyV hN hqs hm h1' (fun q hq => by rw [e1]; exact h2 q hq)
 have all : ∀ a, a % n ≠ 0 → a ^ (n - 1) % n = 1 := by
  intro a ha
  have hlt := Nat.mod_lt a (show n > 0 by omega)
  have nz : ∀ i, g ^ i % n ≠ 0 := by
   intro i hi
   have h3 := zdN h1' i
   rw [Nat.mul_comm, Nat.pow_mul, Nat.pow_mod, hi, e1] at h3
   rw [Nat.zero_pow hN, Nat.zero_mod] at h3
   omega
  obtain ⟨k, _, hk⟩ := zDU (n - 1) (fun i => g ^ i % n - 1) (fun i hi => by
    have := nz i
    have := Nat.mod_lt (g ^ i) (show n > 0 by omega)
    try dsimp only
    omega) (fun i j hij hj e => by
    have a1 := nz i
    have a2 := nz j
    try dsimp only at e
    have e3 : g ^ i * 1 % n = g ^ i * g ^ (j - i) % n := by
     rw [Nat.mul_one, ← Nat.pow_add, show i + (j - i) = j from by omega]
     omega
    exact hless (j - i) (by omega) (by omega) (zBz hN h1' i e3).symm) (a % n - 1) (by omega)
  have hka : g ^ k % n = a % n := by have := nz k; omega
  have h4 := zdN h1' k
  rw [Nat.mul_comm, Nat.pow_mul, Nat.pow_mod, hka, ← Nat.pow_mod, e1] at h4
  exact h4
 refine ⟨⟨hn, fun d hd => ?_⟩, all⟩
 by_cases hd1 : d = 1
 ·exact .inl hd1
 by_cases hdn : d = n
 ·exact .inr hdn
 exfalso
 have hle := Nat.le_of_dvd (by omega) hd
 have hd0 : d ≠ 0 := fun e => by rw [e] at hd; have := Nat.eq_zero_of_zero_dvd hd; omega
 have h3 := all d (by rw [Nat.mod_eq_of_lt (by omega)]; exact hd0)
 have h4 : d ∣ d ^ (n - 1) % n := by
  rw [Nat.dvd_mod_iff hd]
  exact Nat.dvd_trans (by rw [Nat.pow_one]; exact Nat.dvd_refl d) (Nat.pow_dvd_pow d (show 1 ≤ n - 1 by omega))
 rw [h3] at h4
 have := Nat.le_of_dvd (by omega) h4
 omega
def pw (n : Nat) : Nat → Nat → Nat → Nat
 | 0, _, _ => 1 % n
 | f + 1, b, e => if e % 2 = 1 then b * pw n f (b * b % n) (e / 2) % n else pw n f (b * b % n) (e / 2)
theorem zv4 (n : Nat) : ∀ f b e, e < 2 ^ f → pw n f b e = b ^ e % n
 | 0, b, e, h => by
  have : e = 0 := by simpa using h
  subst this
  simp [pw]
 | f + 1, b, e, h => by
  have ih := zv4 n f (b * b % n) (e / 2) (by rw [Nat.pow_succ] at h; omega)
  have e2 : (b * b % n) ^ (e / 2) % n = b ^ (2 * (e / 2)) % n := by rw [← Nat.pow_mod, ← Nat.pow_two, ← Nat.pow_mul]
  unfold pw
  rw [ih, e2]
  split
  ·rw [Nat.mul_mod_mod, ← Nat.pow_succ']
   congr 2
   omega
  ·congr 2
   omega
def zxu (n g : Nat) (qs : List Nat) : Bool := decide (2 ≤ n) && decide (n < 2 ^ 256) && decide (zyU qs = n - 1) && decide (pw n 256 g (n - 1) = 1) && qs.all fun q => decide (pw n 256 g ((n - 1) / q) ≠ 1)
def zcN (v e : Nat) : Nat := v ^ e
def IsL (n : Nat) : Prop := IsP n ∧ ∀ a, a % n ≠ 0 → zcN a (n - 1) % n = 1
theorem zaZ (n g : Nat) (qs : List Nat) (h : zxu n g qs = true) (hqs : ∀ q ∈ qs, IsP q) : IsL n := by
 unfold IsL zcN
 simp only [zxu, Bool.and_eq_true, jS, List.all_eq_true] at h
 obtain ⟨⟨⟨⟨h1, h2⟩, h3⟩, h4⟩, h5⟩ := h
 refine zv3 h1 hqs h3 (by rw [← zv4 n 256 g (n - 1) (Nat.lt_of_le_of_lt (Nat.sub_le _ _) h2)]; exact h4) (fun q hq => ?_)
 have := h5 q hq
 rwa [zv4 n 256 g _ (Nat.lt_of_le_of_lt (Nat.div_le_self _ _) (Nat.lt_of_le_of_lt (Nat.sub_le _ _) h2))] at this
def zxv (n : Nat) : Bool := decide (2 ≤ n) && (List.range n).all fun d => decide (d < 2) || decide (n % d ≠ 0)
theorem za9 {n : Nat} (h : zxv n = true) : IsP n := by
 simp only [zxv, Bool.and_eq_true, jS, List.all_eq_true, Bool.or_eq_true, List.mem_range] at h
 refine ⟨h.1, fun d hd => ?_⟩
 by_cases hdn : d = n
 ·exact .inr hdn
 have hle := Nat.le_of_dvd (by omega) hd
 rcases h.2 d (by omega) with h2 | h2
 ·have : d ≠ 0 := fun e => by rw [e] at hd; have := Nat.eq_zero_of_zero_dvd hd; omega
  omega
 ·exact absurd (Nat.mod_eq_zero_of_dvd hd) h2
theorem zao : ∀ q ∈ ([] : List Nat), IsP q := fun _ h => by cases h
theorem all_cons {x : Nat} {l : List Nat} (h : IsP x) (hl : ∀ q ∈ l, IsP q) : ∀ q ∈ x :: l, IsP q := fun q hq => by
 rcases List.mem_cons.1 hq with rfl | hq
 ·exact h
 ·exact hl q hq
theorem p2 : IsP 2 := za9 (by decide +kernel)
theorem p3 : IsP 3 := za9 (by decide +kernel)
theorem p5 : IsP 5 := za9 (by decide +kernel)
theorem p7 : IsP 7 := za9 (by decide +kernel)
theorem p13 : IsP 13 := za9 (by decide +kernel)
theorem p17 : IsP 17 := za9 (by decide +kernel)
theorem p19 : IsP 19 := za9 (by decide +kernel)
theorem p23 : IsP 23 := za9 (by decide +kernel)
theorem p29 : IsP 29 := za9 (by decide +kernel)
theorem p31 : IsP 31 := za9 (by decide +kernel)
theorem p41 : IsP 41 := za9 (by decide +kernel)
theorem p43 : IsP 43 := za9 (by decide +kernel)
theorem p47 : IsP 47 := za9 (by decide +kernel)
theorem p59 : IsP 59 := za9 (by decide +kernel)
theorem p83 : IsP 83 := za9 (by decide +kernel)
theorem p97 : IsP 97 := za9 (by decide +kernel)
theorem zDV : IsP 103 := za9 (by decide +kernel)
theorem zDW : IsP 107 := za9 (by decide +kernel)
theorem zDX : IsP 127 := za9 (by decide +kernel)
theorem zDY : IsP 131 := za9 (by decide +kernel)
theorem zDZ : IsP 173 := za9 (by decide +kernel)
theorem zD0 : IsP 223 := za9 (by decide +kernel)
theorem zD1 : IsP 353 := za9 (by decide +kernel)
theorem zD2 : IsP 419 := za9 (by decide +kernel)
theorem zD3 : IsP 479 := za9 (by decide +kernel)
theorem zD4 : IsP 487 := za9 (by decide +kernel)
theorem zD5 : IsP 991 := za9 (by decide +kernel)
theorem zC0 : IsL 1723 := zaZ 1723 3 [2, 3, 7, 41] (by decide +kernel) (all_cons p2 (all_cons p3 (all_cons p7 (all_cons p41 zao))))
theorem zC1 : IsL 2437 := zaZ 2437 2 [2, 2, 3, 7, 29] (by decide +kernel) (all_cons p2 (all_cons p2 (all_cons p3 (all_cons p7 (all_cons p29 zao)))))
theorem zC2 : IsL 3727 := zaZ 3727 3 [2, 3, 3, 3, 3, 23] (by decide +kernel) (all_cons p2 (all_cons p3 (all_cons p3 (all_cons p3 (all_cons p3 (all_cons p23 zao))))))
theorem zC3 : IsL 4153 := zaZ 4153 5 [2, 2, 2, 3, 173] (by decide +kernel) (all_cons p2 (all_cons p2 (all_cons p2 (all_cons p3 (all_cons zDZ zao)))))
theorem zC4 : IsL 9463 := zaZ 9463 3 [2, 3, 19, 83] (by decide +kernel) (all_cons p2 (all_cons p3 (all_cons p19 (all_cons p83 zao))))
theorem zBA : IsL 32573 := zaZ 32573 2 [2, 2, 17, 479] (by decide +kernel) (all_cons p2 (all_cons p2 (all_cons p17 (all_cons zD3 zao))))
theorem zBB : IsL 37853 := zaZ 37853 2 [2, 2, 9463] (by decide +kernel) (all_cons p2 (all_cons p2 (all_cons zC4.1 zao)))
theorem zBC : IsL 57467 := zaZ 57467 2 [2, 59, 487] (by decide +kernel) (all_cons p2 (all_cons p59 (all_cons zD4 zao)))
theorem zBD : IsL 65147 := zaZ 65147 2 [2, 32573] (by decide +kernel) (all_cons p2 (all_cons zBA.1 zao))
theorem zBE : IsL 75707 := zaZ 75707 2 [2, 37853] (by decide +kernel) (all_cons p2 (all_cons zBB.1 zao))
theorem zyW : IsL 132049 := zaZ 132049 26 [2, 2, 2, 2, 3, 3, 7, 131] (by decide +kernel) (all_cons p2 (all_cons p2 (all_cons p2 (all_cons p2 (all_cons p3 (all_cons p3 (all_cons p7 (all_cons zDY zao))))))))
theorem zyX : IsL 430751 := zaZ 430751 17 [2, 5, 5, 5, 1723] (by decide +kernel) (all_cons p2 (all_cons p5 (all_cons p5 (all_cons p5 (all_cons zC0.1 zao)))))
theorem zyY : IsL 569003 := zaZ 569003 2 [2, 7, 97, 419] (by decide +kernel) (all_cons p2 (all_cons p7 (all_cons p97 (all_cons zD2 zao))))
theorem zv5 : IsL 1923133 := zaZ 1923133 2 [2, 2, 3, 43, 3727] (by decide +kernel) (all_cons p2 (all_cons p2 (all_cons p3 (all_cons p43 (all_cons zC2.1 zao)))))
theorem zv6 : IsL 8574133 := zaZ 8574133 2 [2, 2, 3, 7, 103, 991] (by decide +kernel) (all_cons p2 (all_cons p2 (all_cons p3 (all_cons p7 (all_cons zDV (all_cons zD5 zao))))))
theorem znJ : IsL 2773320623 := zaZ 2773320623 5 [2, 2437, 569003] (by decide +kernel) (all_cons p2 (all_cons zC1.1 (all_cons zyY.1 zao)))
theorem zmq : IsL 72106336199 := zaZ 72106336199 7 [2, 13, 2773320623] (by decide +kernel) (all_cons p2 (all_cons p13 (all_cons znJ.1 zao)))
theorem zgj : IsL 1919519569386763 := zaZ 1919519569386763 2 [2, 3, 7, 19, 47, 47, 127, 8574133] (by decide +kernel) (all_cons p2 (all_cons p3 (all_cons p7 (all_cons p19 (all_cons p47 (all_cons p47 (all_cons zDX (all_cons zv6.1 zao))))))))
theorem zfP : IsL 31757755568855353 := zaZ 31757755568855353 10 [2, 2, 2, 3, 31, 107, 223, 4153, 430751] (by decide +kernel) (all_cons p2 (all_cons p2 (all_cons p2 (all_cons p3 (all_cons p31 (all_cons zDW (all_cons zD0 (all_cons zC3.1 (all_cons zyX.1 zao)))))))))
theorem zbQ : IsL 75445702479781427272750846543864801 := zaZ 75445702479781427272750846543864801 7 [2, 2, 2, 2, 2, 3, 3, 5, 5, 75707, 72106336199, 1919519569386763] (by decide +kernel) (all_cons p2 (all_cons p2 (all_cons p2 (all_cons p2 (all_cons p2 (all_cons p3 (all_cons p3 (all_cons p5 (all_cons p5 (all_cons zBE.1 (all_cons zmq.1 (all_cons zgj.1 zao))))))))))))
theorem zaL : IsL 74058212732561358302231226437062788676166966415465897661863160754340907 := zaZ 74058212732561358302231226437062788676166966415465897661863160754340907 2 [2, 3, 353, 57467, 132049, 1923133, 31757755568855353, 75445702479781427272750846543864801] (by decide +kernel) (all_cons p2 (all_cons p3 (all_cons zD1 (all_cons zBC.1 (all_cons zyW.1 (all_cons zv5.1 (all_cons zfP.1 (all_cons zbQ.1 zao))))))))
theorem zam : IsL 57896044618658097711785492504343953926634992332820282019728792003956564819949 := zaZ 57896044618658097711785492504343953926634992332820282019728792003956564819949 2 [2, 2, 3, 65147, 74058212732561358302231226437062788676166966415465897661863160754340907] (by decide +kernel) (all_cons p2 (all_cons p2 (all_cons p3 (all_cons zBD.1 (all_cons zaL.1 zao)))))
end
section
attribute [local irreducible] zdn za2 zbX zcF zcz zpE zpF zbj
theorem zpG (v : Nat) : zcN v 1 = v := Nat.pow_one v
theorem zyZ (v e n : Nat) : zcN v e ^ 2 ^ n = zcN v (e * 2 ^ n) := (Nat.pow_mul v e _).symm
theorem zpH (v e f : Nat) : zcN v e * zcN v f = zcN v (e + f) := (Nat.pow_add v e f).symm
theorem zy0 (v e k : Nat) (h : e + 1 = k) : v * zcN v e = zcN v k := by subst h; exact (Nat.pow_succ' ..).symm
theorem zv7 (v w e n : Nat) (h : v % n = w % n) : zcN v e % n = zcN w e % n := by unfold zcN; rw [Nat.pow_mod, h, ← Nat.pow_mod]
theorem zmr (e n : Nat) (v : Nat) (he : e ≠ 0) (h : v % n = 0) : zcN v e % n = 0 := by
 unfold zcN
 rw [Nat.pow_mod, h, Nat.zero_pow (Nat.pos_of_ne_zero he), Nat.zero_mod]
attribute [local irreducible] zcN
theorem zms (v : Nat) (h : v % pN ≠ 0) : zcN v 57896044618658097711785492504343953926634992332820282019728792003956564819948 % pN = 1 := by
 have h1 := zam.2 v
 unfold pN at h ⊢
 exact h1 h
theorem znK {F : Nat → Nat} {v e : Nat} (hF : za5 F (zcN v e)) (n k : Nat) (h : e * 2 ^ n = k) : za5 (sqN F n) (zcN v k) := by
 have := zj2 hF n
 rwa [zyZ, h] at this
theorem zic {F G : Nat → Nat} {v e f k : Nat} (hF : za5 F (zcN v e)) (hG : za5 G (zcN v f)) (h : e + f = k) : za5 (zbX F G) (zcN v k) := by
 have := zia hF hG
 rwa [zpH, h] at this
theorem zce {F G : Nat → Nat} {v e f k : Nat} (n : Nat) (hF : za5 F (zcN v e)) (hG : za5 G (zcN v f)) (h : e * 2 ^ n + f = k) : za5 (ze8 F n G) (zcN v k) :=
 zic (znK hF n _ rfl) hG h
theorem zpI {F : Nat → Nat} {v : Nat} (hF : za5 F v) : za5 (zs9 F) (zcN v 57896044618658097711785492504343953926634992332820282019728792003956564819947) := by
 have h1 : za5 F (zcN v 1) := by rw [zpG]; exact hF
 have h2 : za5 (zjZ F) (zcN v 2) := znK h1 1 _ rfl
 have h9 : za5 (zfK F) (zcN v 9) := zce 2 h2 h1 rfl
 have h11 : za5 (zcc F) (zcN v 11) := zic h9 h2 rfl
 have h5 : za5 (zfL F) (zcN v 31) := zic (znK h11 1 22 rfl) h9 rfl
 have h10 : za5 (zh7 F) (zcN v 1023) := zce 5 h5 h5 rfl
 have h20 : za5 (zcM F) (zcN v 1048575) := zce 10 h10 h10 rfl
 have h40 : za5 (zfa F) (zcN v 1099511627775) := zce 20 h20 h20 rfl
 have h50 : za5 (zc2 F) (zcN v 1125899906842623) := zce 10 h40 h10 rfl
 have h100 : za5 (zcd F) (zcN v 1267650600228229401496703205375) := zce 50 h50 h50 rfl
 have h200 : za5 (zdM F) (zcN v 1606938044258990275541962092341162602522202993782792835301375) := zce 100 h100 h100 rfl
 have h250 : za5 (zh8 F) (zcN v 1809251394333065553493296640760748560207343510400633813116524750123642650623) := zce 50 h200 h50 rfl
 exact zce 5 h250 h11 rfl
theorem zy1 (v : Nat) (h : v % pN ≠ 0) : v * zcN v 57896044618658097711785492504343953926634992332820282019728792003956564819947 % pN = 1 % pN := by
 rw [zy0 v _ 57896044618658097711785492504343953926634992332820282019728792003956564819948 rfl, zms v h]
 rfl
end
section
open Go.RowKit
theorem ztf (k : Nat → Nat) (hk : ∀ i, i < 32 → k i < 256) : kvN (znI k) 32 = kvN k 32 % 57896044618658097711785492504343953926634992332820282019728792003956564819968 := by
 have e1 : kvN (znI k) 31 = kvN k 31 := zh0 _ _ 31 (fun i hi => by unfold znI; rw [if_neg (by omega)])
 have e2 : kvN (znI k) 32 = kvN (znI k) 31 + znI k 31 * 2 ^ (8 * 31) := rfl
 have e3 : kvN k 32 = kvN k 31 + k 31 * 2 ^ (8 * 31) := rfl
 have h1 := zi1 k 31 (fun i hi => hk i (by omega)) 31 (jV _)
 have h2 : znI k 31 = k 31 % 128 := by unfold znI; rw [if_pos rfl]
 rw [e2, e3, e1, h2]
 generalize kvN k 31 = v at *
 generalize k 31 = x at *
 rw [show (2 : Nat) ^ (8 * 31) = 452312848583266388373324160190187140051835877600158453279131187530910662656 from rfl] at *
 omega
theorem zy2 (k : Nat → Nat) (hk : ∀ i, i < 32 → k i < 256) : zbj (ofN k) 5 % pN = kvN (znI k) 32 % pN := by
 have e : zbj (ofN k) 5 = zbj (zCw (kvN k 32)) 5 := by
  rw [zaJ, zaJ]
  simp only [zyI]
 rw [e, zyH, ztf k hk]
theorem znL {F : Nat → Nat} (hF : okF F 5) {v : Nat} (h : zbj F 5 % pN = v) (i : Nat) : ((zdh F i : Nat) : Int) = ((za2 v i : Nat) : Int) := by
 rw [zta F hF i, zs0 F (fun i hi => zpn hF i hi), h]
attribute [local irreducible] zdn za2 zbX zcF zcz sqN zpE zpF zmX zbj zdh zs9 ofN
def fA (a b : Nat) : Nat := (a + b) % pN
def fS (a b : Nat) : Nat := (a + (pN - b)) % pN
def fM (a b : Nat) : Nat := a * b % pN
structure Pt where
 x : Nat
 z : Nat
def zgT (q : Pt) : Prop := q.x < pN ∧ q.z < pN
def zv8 (q : Pt) : Nat := fS (fM (fA q.x q.z) (fA q.x q.z)) (fM (fS q.x q.z) (fS q.x q.z))
def ztg (q : Pt) : Pt := ⟨fM (fM (fA q.x q.z) (fA q.x q.z)) (fM (fS q.x q.z) (fS q.x q.z)), fM (zv8 q) (fA (fM (fA q.x q.z) (fA q.x q.z)) (fM 121665 (zv8 q)))⟩
def znM (q s : Pt) : Nat := fM (fS s.x s.z) (fA q.x q.z)
def znN (q s : Pt) : Nat := fM (fA s.x s.z) (fS q.x q.z)
def zpJ (u : Nat) (q s : Pt) : Pt := ⟨fM (fA (znM q s) (znN q s)) (fA (znM q s) (znN q s)), fM u (fM (fS (znM q s) (znN q s)) (fS (znM q s) (znN q s)))⟩
def ziN (u b : Nat) (q s : Pt) : Pt × Pt := if b = 1 then (zpJ u s q, ztg s) else (ztg q, zpJ u q s)
def zeX (k : Nat → Nat) (n : Nat) : Nat := k ((254 - n) / 8) / 2 ^ ((254 - n) % 8) % 2
def zeH (u : Nat) (k : Nat → Nat) : Nat → Pt × Pt
 | 0 => (⟨1, 0⟩, ⟨u, 1⟩)
 | n + 1 => ziN u (zeX k n) (zeH u k n).1 (zeH u k n).2
def zbf (k : Nat → Nat) (i : Nat) : Nat := if i = 0 then k 0 / 8 * 8 else if i = 31 then k 31 % 64 + 64 else k i
def zdO (k : Nat → Nat) (u : Nat) : Nat := fM (zeH u (zbf k) 255).1.x (zcN (zeH u (zbf k) 255).1.z 57896044618658097711785492504343953926634992332820282019728792003956564819947)
def zmY (u : Nat → Nat) : Nat := kvN (znI u) 32 % pN
theorem zdz : 0 < pN := by unfold pN; decide +kernel
theorem zgk (a b : Nat) : fM a b < pN := Nat.mod_lt _ zdz
theorem zxw (q : Pt) : zgT (ztg q) := ⟨zgk _ _, zgk _ _⟩
theorem zxx (u : Nat) (q s : Pt) : zgT (zpJ u q s) := ⟨zgk _ _, zgk _ _⟩
theorem zhb : 1 < pN := by unfold pN; decide +kernel
theorem zpK (u : Nat) (hu : u < pN) (k : Nat → Nat) : ∀ n, zgT (zeH u k n).1 ∧ zgT (zeH u k n).2
 | 0 => ⟨⟨zhb, zdz⟩, ⟨hu, zhb⟩⟩
 | n + 1 => by
  unfold zeH ziN
  split
  ·exact ⟨zxx _ _ _, zxw _⟩
  ·exact ⟨zxw _, zxx _ _ _⟩
theorem zgm (k : Nat → Nat) (n : Nat) : zeX k n = 0 ∨ zeX k n = 1 := by unfold zeX; omega
theorem zj3 {F : Nat → Nat} {a : Nat} (h : za5 F a) : za5 F (a % pN) := ⟨h.1, by rw [h.2, Nat.mod_mod]⟩
theorem zmt {F G : Nat → Nat} {a b : Nat} (hF : za5 F a) (hG : za5 G b) : za5 (zpE F G) (fA a b) := zj3 (zv1 hF hG)
theorem zmu {F G : Nat → Nat} {a b : Nat} (hF : za5 F a) (hG : za5 G b) (hb : b < pN) : za5 (zpF F G) (fS a b) := by
 refine zv2 hF hG ?_
 unfold fS
 rw [Nat.mod_add_mod, show a + (pN - b) + b = a + pN by omega, Nat.add_mod_right]
theorem zid {F G : Nat → Nat} {a b : Nat} (hF : za5 F a) (hG : za5 G b) : za5 (zbX F G) (fM a b) := zj3 (zia hF hG)
theorem zpL {F : Nat → Nat} {a : Nat} (hF : za5 F a) : za5 (sqN F 1) (fM a a) := by
 have h := zj3 (zj2 hF 1)
 rw [show a ^ 2 ^ 1 = a * a from by rw [Nat.pow_one]; exact Nat.pow_two a] at h
 exact h
section
variable {X Z X' Z' U : Nat → Nat} {q s : Pt} {u : Nat}
theorem znO (hX : za5 X q.x) (hZ : za5 Z q.z) : za5 (sAA X Z) (fM (fA q.x q.z) (fA q.x q.z)) := zpL (zmt hX hZ)
theorem zth (hX : za5 X q.x) (hZ : za5 Z q.z) (hq : zgT q) : za5 (sBB X Z) (fM (fS q.x q.z) (fS q.x q.z)) := zpL (zmu hX hZ hq.2)
theorem zxy (hX : za5 X q.x) (hZ : za5 Z q.z) (hq : zgT q) : za5 (sE X Z) (zv8 q) := zmu (znO hX hZ) (zth hX hZ hq) (zgk _ _)
theorem zy3 (hX : za5 X q.x) (hZ : za5 Z q.z) (hq : zgT q) : za5 (sLX X Z) (ztg q).x := zid (znO hX hZ) (zth hX hZ hq)
theorem zy4 (hX : za5 X q.x) (hZ : za5 Z q.z) (hq : zgT q) : za5 (sLZ X Z) (ztg q).z := zid (zxy hX hZ hq) (zmt (znO hX hZ) (zid (zha (by omega)) (zxy hX hZ hq)))
theorem zti (hX : za5 X q.x) (hZ : za5 Z q.z) (hX' : za5 X' s.x) (hZ' : za5 Z' s.z) (hs : zgT s) : za5 (sDA X Z X' Z') (znM q s) := zid (zmu hX' hZ' hs.2) (zmt hX hZ)
theorem ztj (hX : za5 X q.x) (hZ : za5 Z q.z) (hX' : za5 X' s.x) (hZ' : za5 Z' s.z) (hq : zgT q) : za5 (sCB X Z X' Z') (znN q s) := zid (zmt hX' hZ') (zmu hX hZ hq.2)
theorem zy5 (hX : za5 X q.x) (hZ : za5 Z q.z) (hX' : za5 X' s.x) (hZ' : za5 Z' s.z) (hq : zgT q) (hs : zgT s) : za5 (sHX X Z X' Z') (zpJ u q s).x := zpL (zmt (zti hX hZ hX' hZ' hs) (ztj hX hZ hX' hZ' hq))
theorem zy6 (hX : za5 X q.x) (hZ : za5 Z q.z) (hX' : za5 X' s.x) (hZ' : za5 Z' s.z) (hq : zgT q) (hs : zgT s) (hU : za5 U u) : za5 (sHZ X Z X' Z' U) (zpJ u q s).z := zid hU (zpL (zmu (zti hX hZ hX' hZ' hs) (ztj hX hZ hX' hZ' hq) (zgk _ _)))
end
end
section
open Go.RowKit
def feS (F : Nat → Nat) : SA := .agg [.row 5 (uw F)]
def okI : SA := .s (.p (.v (.int .i64 0)))
theorem zq8 {F : Nat → Nat} (hF : okF F 5) (i : Nat) (hi : i < 5) : F i < 18446744073709551616 := by have := hF i hi; omega
theorem zj4 {n : Nat} {F : Nat → Nat} {f : Nat → Int} (h : ∀ i, i < n → f i = ((F i : Nat) : Int)) : arr .u64 n f = ca [.row n (uw F)] := by rw [zcR h, zbI]
section
variable {X : List Nat} {w : World} {F G : Nat → Nat} {h0 : Hn}
theorem zv9 (hX : ∀ k ∈ X, k < w.heap.size) (hF : okF F 5) (hG : okF G 5) : Ct Tryz.prog 160 [.agg (ca [.row 5 (uw F)]), .agg (ca [.row 5 (uw G)])] X w (.tup [feS (zpE F G), okI]) [] [] := by
 have h := zyG F G (zq8 hF) (zq8 hG) w
 rw [zbI, zbI, if_pos ⟨hF, hG⟩, zj4 (F := zpE F G) fun i _ => by unfold addN; rw [if_pos ⟨hF, hG⟩]; rfl] at h
 exact h.mono fun e w' h => ⟨hnQ [], h.1, zeW hX h.2⟩
theorem zwa (hX : ∀ k ∈ X, k < w.heap.size) (hF : okF F 5) (hG : okF G 5) : Ct Tryz.prog 161 [.agg (ca [.row 5 (uw F)]), .agg (ca [.row 5 (uw G)])] X w (.tup [feS (zpF F G), okI]) [] [] := by
 have h := zyQ F G (zq8 hF) (zq8 hG) w
 rw [zbI, zbI, if_pos ⟨hF, hG⟩, zj4 (F := zpF F G) fun i _ => by unfold zCx zmf; rw [if_pos ⟨hF, hG⟩]; rfl] at h
 exact h.mono fun e w' h => ⟨hnQ [], h.1, zeW hX h.2⟩
theorem zwb (hX : ∀ k ∈ X, k < w.heap.size) (hF : okF F 5) (hG : okF G 5) : Ct Tryz.prog 162 [.agg (ca [.row 5 (uw F)]), .agg (ca [.row 5 (uw G)])] X w (.tup [feS (zbX F G), okI]) [] [] := by
 have h := zyP F G (zq8 hF) (zq8 hG) w
 rw [zbI, zbI, if_pos ⟨hF, hG⟩, zj4 (F := zbX F G) fun i _ => by unfold mulN zmf; rw [if_pos ⟨hF, hG⟩]] at h
 exact h.mono fun e w' h => ⟨hnQ [], h.1, zeW hX h.2⟩
theorem znP (hX : ∀ k ∈ X, k < w.heap.size) (hF : okF F 5) : Ct Tryz.prog 163 [.agg (ca [.row 5 (uw F)]), .int .i64 1] X w (.tup [feS (sqN F 1), okI]) [] [] := by
 have h := zqG F hF 1 (by omega) w
 rw [zbI, zbI] at h
 exact h.mono fun e w' h => ⟨hnQ [], h.1, zeW hX h.2⟩
theorem znQ (hX : ∀ k ∈ X, k < w.heap.size) (hF : okF F 5) : Ct Tryz.prog 137 [.agg (ca [.row 5 (uw F)])] X w (.tup [feS (zs9 F), okI]) [] [] := by
 have h := zqI F (zq8 hF) w
 rw [zbI, if_pos hF, zj4 (F := zs9 F) fun i _ => by unfold znH; rw [if_pos hF]] at h
 exact h.mono fun e w' h => ⟨hnQ [], h.1, zeW hX h.2⟩
theorem zy7 {kk : List Nat} (hX : ∀ k ∈ X, k < w.heap.size) (hk : ∀ x ∈ kk, x < 256) : Ct Tryz.prog 128 [.agg (ca [.key kk])] X w (.a (feS (ofN fun i => kk.getD i 0))) [] [] := by
 have h := zBo (fun i => kk.getD i 0) (fun i _ => zcW hk i) w
 rw [← zcP, zbI] at h
 exact h.mono fun e w' h => ⟨hnQ [], h.1, zeW hX h.2⟩
def zqJ (f : Nat → Nat) : List Nat := (List.range 32).map f
theorem zwc (f : Nat → Nat) : (zqJ f).length = 32 := by simp [zqJ]
theorem zfb (f : Nat → Nat) (i : Nat) (hi : i < 32) : (zqJ f).getD i 0 = f i := by simp [zqJ, hi]
theorem zqK (hX : ∀ k ∈ X, k < w.heap.size) (hF : okF F 5) : Ct Tryz.prog 135 [.agg (ca [.row 5 (uw F)])] X w (.tup [.agg [.key (zqJ (zdh F))], okI]) [] [] := by
 have h := znD F (zq8 hF) w
 rw [zbI, if_pos hF, show (arr .u8 32 fun k => ((zdh F k : Nat) : Int)) = ca [.key (zqJ (zdh F))] from by rw [zcP]; exact zcR fun i hi => by rw [zfb _ i hi]] at h
 exact h.mono fun e w' h => ⟨hnQ [], h.1, zeW hX h.2⟩
def rkF (b : Nat) (w : World) : Prop := hdF [.one (.int .i64 0)] 166 b w
def hnB (bl : List Nat) (ql : List Qd) : Hn := ⟨ziL bl, qs ql, fun _ _ => []⟩
def rkR : List SF := [.b 0 (hdF [.one (.int .i64 0)] 166), .blk 0 [.one (.p (.v (.int .i64 0)))]]
theorem zmv {b : Nat} (hr : St (rkF b) w X) : ∀ r ∈ zaN (hnB [b] []) rkR, St r w X := fun r h => by
 rcases List.mem_cons.1 h with rfl | h
 ·exact hr
 ·rcases List.mem_singleton.1 h with rfl
  exact hr.imp fun w' hw => zxh hw
theorem zgn {b : Nat} (hX : ∀ k ∈ X, k < w.heap.size) (hr : St (rkF b) w X) : Ct Tryz.prog 136 [.pointer (some ⟨b, 0, none⟩), .agg (ca [.row 5 (uw F)]), .int .i64 0] X w (.a (feS F)) [] [] := by
 refine vFn (k0 := 1) (rs := [.cell 6 168]) (svs := [atS 0 0, .a (feS F), zaH .i64 0]) (R0 := rkR) (hnB [b] []) Tryz.ntmps136 Tryz.func136 rfl rfl rfl rfl rfl zaw (by kernel_rfl) hX (zmv hr) ?_
 conv => whnf
 refine .inl ?_
 conv => whnf
 refine za4 (zsL 0 rfl rfl rfl rfl rfl (by kernel_rfl)) ?_
 conv => whnf
 refine ⟨fun _ _ => rfl, ?_⟩
 conv => whnf
 exact zaF rfl
theorem zj5 {b : Nat} (hF : okF F 5) (hG : okF G 5) (hX : ∀ k ∈ X, k < w.heap.size) (hr : St (rkF b) w X) : Ct Tryz.prog 130 [.pointer (some ⟨b, 0, none⟩), .agg (ca [.row 5 (uw F)]), .agg (ca [.row 5 (uw G)])] X w (.a (feS (zpE F G))) [] [] := by
 refine vFn (k0 := 1) (rs := [.cell 6 168]) (svs := [atS 0 0, .a (feS F), .a (feS G)]) (R0 := rkR) (hnB [b] []) Tryz.ntmps130 Tryz.func130 rfl rfl rfl rfl rfl zaw (by kernel_rfl) hX (zmv hr) ?_
 conv => whnf
 refine zak rfl rfl rfl (by kernel_rfl) (fun h X w H => zv9 H.xk hF hG) rfl rfl rfl ?_
 conv => whnf
 refine zak rfl rfl rfl (by kernel_rfl) (fun h X w H => zgn H.xk (H.fact 0 rfl)) rfl rfl rfl ?_
 conv => whnf
 refine ⟨fun _ _ => rfl, ?_⟩
 conv => whnf
 exact zaF rfl
theorem zj6 {b : Nat} (hF : okF F 5) (hG : okF G 5) (hX : ∀ k ∈ X, k < w.heap.size) (hr : St (rkF b) w X) : Ct Tryz.prog 131 [.pointer (some ⟨b, 0, none⟩), .agg (ca [.row 5 (uw F)]), .agg (ca [.row 5 (uw G)])] X w (.a (feS (zpF F G))) [] [] := by
 refine vFn (k0 := 1) (rs := [.cell 6 168]) (svs := [atS 0 0, .a (feS F), .a (feS G)]) (R0 := rkR) (hnB [b] []) Tryz.ntmps131 Tryz.func131 rfl rfl rfl rfl rfl zaw (by kernel_rfl) hX (zmv hr) ?_
 conv => whnf
 refine zak rfl rfl rfl (by kernel_rfl) (fun h X w H => zwa H.xk hF hG) rfl rfl rfl ?_
 conv => whnf
 refine zak rfl rfl rfl (by kernel_rfl) (fun h X w H => zgn H.xk (H.fact 0 rfl)) rfl rfl rfl ?_
 conv => whnf
 refine ⟨fun _ _ => rfl, ?_⟩
 conv => whnf
 exact zaF rfl
theorem zfc {b : Nat} (hF : okF F 5) (hG : okF G 5) (hX : ∀ k ∈ X, k < w.heap.size) (hr : St (rkF b) w X) : Ct Tryz.prog 132 [.pointer (some ⟨b, 0, none⟩), .agg (ca [.row 5 (uw F)]), .agg (ca [.row 5 (uw G)])] X w (.a (feS (zbX F G))) [] [] := by
 refine vFn (k0 := 1) (rs := [.cell 6 168]) (svs := [atS 0 0, .a (feS F), .a (feS G)]) (R0 := rkR) (hnB [b] []) Tryz.ntmps132 Tryz.func132 rfl rfl rfl rfl rfl zaw (by kernel_rfl) hX (zmv hr) ?_
 conv => whnf
 refine zak rfl rfl rfl (by kernel_rfl) (fun h X w H => zwb H.xk hF hG) rfl rfl rfl ?_
 conv => whnf
 refine zak rfl rfl rfl (by kernel_rfl) (fun h X w H => zgn H.xk (H.fact 0 rfl)) rfl rfl rfl ?_
 conv => whnf
 refine ⟨fun _ _ => rfl, ?_⟩
 conv => whnf
 exact zaF rfl
theorem zpM {b : Nat} (hF : okF F 5) (hX : ∀ k ∈ X, k < w.heap.size) (hr : St (rkF b) w X) : Ct Tryz.prog 133 [.pointer (some ⟨b, 0, none⟩), .agg (ca [.row 5 (uw F)])] X w (.a (feS (sqN F 1))) [] [] := by
 refine vFn (k0 := 1) (rs := [.cell 4 168]) (svs := [atS 0 0, .a (feS F)]) (R0 := rkR) (hnB [b] []) Tryz.ntmps133 Tryz.func133 rfl rfl rfl rfl rfl zaw (by kernel_rfl) hX (zmv hr) ?_
 conv => whnf
 refine zak rfl rfl rfl (by kernel_rfl) (fun h X w H => znP H.xk hF) rfl rfl rfl ?_
 conv => whnf
 refine zak rfl rfl rfl (by kernel_rfl) (fun h X w H => zgn H.xk (H.fact 0 rfl)) rfl rfl rfl ?_
 conv => whnf
 refine ⟨fun _ _ => rfl, ?_⟩
 conv => whnf
 exact zaF rfl
end
end
section
open Go.RowKit
def ptB (X Z : Nat → Nat) : RB := .blk [.row 5 (uw X), .row 5 (uw Z)] 171
def zDC (b : Nat) (F G : Nat → Nat) (i : Nat) : Nat := if b = 1 then G i else F i
def swN (b n : Nat) (F G : Nat → Nat) (i : Nat) : Nat := if i < n then zDC b F G i else F i
def zy8 (b : Nat) : Nat := if b = 1 then 18446744073709551615 else 0
theorem zCB (x : Nat) (h : x < 18446744073709551616) : (BitVec.ofInt 64 (x : Int)).toNat = x := by
 rw [BitVec.toNat_ofInt]; omega
section
variable {x y b : Nat} {A : Int → Prop}
theorem zD6 (hx : x < 18446744073709551616) (hy : y < 18446744073709551616) (h : A ((x ^^^ y : Nat) : Int)) : ∃ z, IntKind.u64.wrap ((BitVec.ofInt IntKind.u64.bits (x : Int) ^^^ BitVec.ofInt IntKind.u64.bits (y : Int)).toNat : Nat) = z ∧ A z := ⟨_, by
 have hh : x ^^^ y < 2 ^ 64 := Nat.xor_lt_two_pow (by omega) (by omega)
 rw [show IntKind.u64.bits = 64 from rfl, BitVec.toNat_xor, zCB x hx, zCB y hy, znf, Nat.mod_eq_of_lt hh], h⟩
theorem zC5 (hx : x < 18446744073709551616) (hy : y < 18446744073709551616) (h : A ((x &&& y : Nat) : Int)) : ∃ z, IntKind.u64.wrap ((BitVec.ofInt IntKind.u64.bits (x : Int) &&& BitVec.ofInt IntKind.u64.bits (y : Int)).toNat : Nat) = z ∧ A z := ⟨_, by
 have hh : x &&& y < 2 ^ 64 := Nat.and_lt_two_pow _ (by omega)
 rw [show IntKind.u64.bits = 64 from rfl, BitVec.toNat_and, zCB x hx, zCB y hy, znf, Nat.mod_eq_of_lt hh], h⟩
theorem zqL {x0 y0 : Nat} (ex : x = x0) (ey : y = y0) (hx : x0 < 18446744073709551616) (hy : y0 < 18446744073709551616) (h : A ((x0 ^^^ y0 : Nat) : Int)) : ∃ z, IntKind.u64.wrap ((BitVec.ofInt IntKind.u64.bits (x : Int) ^^^ BitVec.ofInt IntKind.u64.bits (y : Int)).toNat : Nat) = z ∧ A z := by
 subst ex ey
 exact zD6 hx hy h
theorem zxz (hx : x < 18446744073709551616) (hy : y < 18446744073709551616) : x ^^^ y < 18446744073709551616 := Nat.xor_lt_two_pow (n := 64) (by omega) (by omega)
theorem zD7 (hb : b = 0 ∨ b = 1) (h : A ((zy8 b : Nat) : Int)) : ∃ z, IntKind.u64.wrap (0 - (b : Int)) = z ∧ A z := ⟨_, by rcases hb with rfl | rfl <;> decide, h⟩
theorem ztk : zy8 b < 18446744073709551616 := by unfold zy8; split <;> omega
theorem zy9 (hx : x < 18446744073709551616) : 18446744073709551615 &&& x = x := by
 have := Nat.and_two_pow_sub_one_eq_mod x 64
 rw [Nat.and_comm]
 rw [show (18446744073709551615 : Nat) = 2 ^ 64 - 1 by decide, this]
 omega
theorem zpN (hx : x < 18446744073709551616) (hy : y < 18446744073709551616) : zy8 b &&& (x ^^^ y) < 18446744073709551616 := Nat.and_lt_two_pow (n := 64) _ (Nat.xor_lt_two_pow (by omega) (by omega))
theorem zza (hx : x < 18446744073709551616) (hy : y < 18446744073709551616) : x ^^^ (zy8 b &&& (x ^^^ y)) = if b = 1 then y else x := by
 unfold zy8
 by_cases h : b = 1
 ·rw [if_pos h, if_pos h, zy9 (Nat.xor_lt_two_pow (n := 64) (by omega) (by omega)), ← Nat.xor_assoc, Nat.xor_self, Nat.zero_xor]
 ·rw [if_neg h, if_neg h, Nat.zero_and, Nat.xor_zero]
theorem zBF (hx : x < 18446744073709551616) (hy : y < 18446744073709551616) : y ^^^ (zy8 b &&& (x ^^^ y)) = if b = 1 then x else y := by
 rw [Nat.xor_comm x y]
 exact zza hy hx
end
theorem zgB (b n : Nat) (F G : Nat → Nat) : swN b n F G n = F n := by unfold swN; rw [if_neg (by omega)]
theorem zhc {b n v : Nat} {F G : Nat → Nat} (hv : v = zDC b F G n) (j : Nat) : upd (uw (swN b n F G)) n (.int .u64 ((v : Nat) : Int)) j = uw (swN b (n + 1) F G) j := by
 unfold upd uw swN
 by_cases h : j = n
 ·subst h; rw [if_pos rfl, if_pos (by omega), hv]
 ·rw [if_neg h]
  by_cases h2 : j < n
  ·rw [if_pos h2, if_pos (by omega)]
  ·rw [if_neg h2, if_neg (by omega)]
section
variable {X : List Nat} {w : World} {h0 : Hn} {X1 Z1 X2 Z2 : Nat → Nat} {b : Nat}
def zAz (X1 Z1 X2 Z2 : Nat → Nat) : MB := [(0, ptB X1 Z1), (1, ptB X2 Z2)]
theorem ztm (hb : b = 0 ∨ b = 1) (o1 : okF X1 5) (o2 : okF Z1 5) (o3 : okF X2 5) (o4 : okF Z2 5) (hsp : Sp X w (zad h0 [] (zAz X1 Z1 X2 Z2)) []) : CtG Tryz.prog 134 [.int .u64 b, .pointer (some ⟨h0.b 0, 0, none⟩), .pointer (some ⟨h0.b 1, 0, none⟩)] X w h0 (zAz X1 Z1 X2 Z2) [0, 1] (.tup []) (zAz (swN b 5 X1 X2) (swN b 5 Z1 Z2) (swN b 5 X2 X1) (swN b 5 Z2 Z1)) [] := by
 refine zxd (g := 2) (k0 := 2) (bl := []) (ql := []) (svs := [zaH .u64 b, atS 0 0, atS 1 0]) (given := zAz X1 Z1 X2 Z2) (Rg := []) (kb := [0, 1]) Tryz.ntmps134 Tryz.func134 rfl rfl rfl zaw (by kernel_rfl) rfl rfl hsp ?_
 conv => whnf
 refine zD7 hb ?_
 conv => whnf
 refine ⟨Nat, fun k l m R i => ⟨k, (12, zaH .i64 i) :: zbV [1, 2, 6] l, (0, ptB (swN b i X1 X2) (swN b i Z1 Z2)) :: (1, ptB (swN b i X2 X1) (swN b i Z2 Z1)) :: m, R⟩, fun i => i ≤ 5, fun i => 5 - i, ⟨0, [], [0, 1], Nat.zero_le _, zbW⟩, fun i hi => ?_⟩
 conv => whnf
 refine vIf (fun hc => ?_) fun hc => ?_
 ·have hi2 : i < 5 := by
   have : (i : Int) < 5 := of_decide_eq_true hc
   omega
  have b1 : X1 i < 18446744073709551616 := zq8 o1 i hi2
  have b2 : Z1 i < 18446744073709551616 := zq8 o2 i hi2
  have b3 : X2 i < 18446744073709551616 := zq8 o3 i hi2
  have b4 : Z2 i < 18446744073709551616 := zq8 o4 i hi2
  conv => whnf
  refine zbd 31 [] (by kernel_rfl) ?_
  conv => whnf
  refine ⟨i, ⟨rfl, hi2⟩, .inr ?_⟩
  conv => whnf
  refine ⟨hi2, ?_⟩
  conv => whnf
  refine ⟨i, ⟨rfl, hi2⟩, .inr ?_⟩
  conv => whnf
  refine ⟨hi2, ?_⟩
  conv => whnf
  refine zqL (zgB _ _ _ _) (zgB _ _ _ _) b1 b3 ?_
  conv => whnf
  refine zC5 ztk (zxz b1 b3) ?_
  conv => whnf
  refine ⟨i, ⟨rfl, hi2⟩, .inr ?_⟩
  conv => whnf
  refine ⟨hi2, ?_⟩
  conv => whnf
  refine ⟨i, ⟨rfl, hi2⟩, .inr ?_⟩
  conv => whnf
  refine ⟨hi2, ?_⟩
  conv => whnf
  refine zqL (zgB _ _ _ _) (zgB _ _ _ _) b2 b4 ?_
  conv => whnf
  refine zC5 ztk (zxz b2 b4) ?_
  conv => whnf
  refine zbd 26 [0] (by kernel_rfl) ?_
  conv => whnf
  refine ⟨i, ⟨rfl, hi2⟩, .inr ?_⟩
  conv => whnf
  refine zfE rfl (zdI 0 (zsJ rfl rfl rfl (by kernel_rfl) rfl hi2 rfl rfl) (fun _ h => h) rfl) ?_
  conv => whnf
  refine zqL (zgB _ _ _ _) rfl b1 (zpN b1 b3) ?_
  conv => whnf
  refine ⟨i, ⟨rfl, hi2⟩, .inr ?_⟩
  conv => whnf
  refine ⟨hi2, ?_⟩
  conv => whnf
  refine zqL (zgB _ _ _ _) rfl b3 (zpN b1 b3) ?_
  conv => whnf
  refine ⟨i, ⟨rfl, hi2⟩, .inr ?_⟩
  conv => whnf
  refine zfE rfl (zdI 0 (zAy (uw (swN b (i + 1) X1 X2)) rfl rfl rfl rfl rfl rfl hi2 (zhc (zza b1 b3))) (fun _ h => h) rfl) ?_
  conv => whnf
  refine ⟨i, ⟨rfl, hi2⟩, .inr ?_⟩
  conv => whnf
  refine za4 (zAy (uw (swN b (i + 1) X2 X1)) rfl rfl rfl rfl rfl rfl hi2 (zhc (zBF b1 b3))) ?_
  conv => whnf
  refine zbd 26 [0] (by kernel_rfl) ?_
  conv => whnf
  refine ⟨i, ⟨rfl, hi2⟩, .inr ?_⟩
  conv => whnf
  refine zfE rfl (zdI 0 (zsJ rfl rfl rfl (by kernel_rfl) rfl hi2 rfl rfl) (fun _ h => h) rfl) ?_
  conv => whnf
  refine zqL (zgB _ _ _ _) rfl b2 (zpN b2 b4) ?_
  conv => whnf
  refine ⟨i, ⟨rfl, hi2⟩, .inr ?_⟩
  conv => whnf
  refine ⟨hi2, ?_⟩
  conv => whnf
  refine zqL (zgB _ _ _ _) rfl b4 (zpN b2 b4) ?_
  conv => whnf
  refine ⟨i, ⟨rfl, hi2⟩, .inr ?_⟩
  conv => whnf
  refine zfE rfl (zdI 0 (zBj (uw (swN b (i + 1) Z1 Z2)) rfl rfl rfl rfl rfl rfl hi2 (zhc (zza b2 b4))) (fun _ h => h) rfl) ?_
  conv => whnf
  refine ⟨i, ⟨rfl, hi2⟩, .inr ?_⟩
  conv => whnf
  refine za4 (zBj (uw (swN b (i + 1) Z2 Z1)) rfl rfl rfl rfl rfl rfl hi2 (zhc (zBF b2 b4))) ?_
  conv => whnf
  refine zd6 (by omega) (by omega) ?_
  conv => whnf
  exact ⟨i + 1, [], [0, 1], ⟨hi2, Nat.sub_lt_sub_left hi2 (Nat.lt_succ_self i)⟩, zbW⟩
 have hi5 : i = 5 := by
   have : ¬ (i : Int) < 5 := of_decide_eq_false hc
   omega
 subst hi5
 conv => whnf
 exact zdi [(0, 0), (1, 1)] [] [0, 1] (.inl rfl) ⟨.inl rfl, .inl rfl, trivial⟩ rfl trivial ⟨rfl, rfl, trivial⟩
end
end
section
open Go.RowKit
def ztn (X1 Z1 X2 Z2 U : Nat → Nat) : MB := [(0, .blk [.one (.p (.at_ 4 0))] 164), (1, ptB X1 Z1), (2, ptB X2 Z2), (3, .blk [.row 5 (uw U)] 168), (4, .gone)]
section
variable {X : List Nat} {w : World} {h0 : Hn} {X1 Z1 X2 Z2 U : Nat → Nat}
theorem zzb (o1 : okF X1 5) (o2 : okF Z1 5) (o3 : okF X2 5) (o4 : okF Z2 5) (o5 : okF U 5) (hsp : Sp X w (zad h0 [] (ztn X1 Z1 X2 Z2 U)) [rkF (h0.b 4)]) : CtG Tryz.prog 129 [.pointer (some ⟨h0.b 0, 0, none⟩), .pointer (some ⟨h0.b 1, 0, none⟩), .pointer (some ⟨h0.b 2, 0, none⟩), .pointer (some ⟨h0.b 3, 0, none⟩)] X w h0 (ztn X1 Z1 X2 Z2 U) [0, 1, 2, 3, 4] (.tup []) (ztn (sLX X1 Z1) (sLZ X1 Z1) (sHX X1 Z1 X2 Z2) (sHZ X1 Z1 X2 Z2 U) U) [] := by
 refine zxd (g := 5) (k0 := 5) (bl := []) (ql := []) (svs := [atS 0 0, atS 1 0, atS 2 0, atS 3 0]) (given := ztn X1 Z1 X2 Z2 U) (Rg := [.b 4 (hdF [.one (.int .i64 0)] 166)]) (kb := [0, 1, 2, 3, 4]) Tryz.ntmps129 Tryz.func129 rfl rfl rfl zaw (by kernel_rfl) rfl rfl hsp ?_
 conv => whnf
 refine zbd 14 [] (by kernel_rfl) ?_
 conv => whnf
 refine za3 (zaj (rs := []) (Rs := []) rfl rfl rfl (by kernel_rfl) rfl fun h X w H => zj5 o1 o2 H.xk (H.fact 5 rfl)) ?_
 conv => whnf
 refine za3 (zaj (rs := []) (Rs := []) rfl rfl rfl (by kernel_rfl) rfl fun h X w H => zj6 o1 o2 H.xk (H.fact 5 rfl)) ?_
 conv => whnf
 refine ⟨fun _ _ => rfl, ?_⟩
 conv => whnf
 refine ⟨fun _ _ => rfl, ?_⟩
 conv => whnf
 refine zbd 20 [] (by kernel_rfl) ?_
 conv => whnf
 refine za3 (zaj (rs := []) (Rs := []) rfl rfl rfl (by kernel_rfl) rfl fun h X w H => zj6 o3 o4 H.xk (H.fact 5 rfl)) ?_
 conv => whnf
 refine za3 (zaj (rs := []) (Rs := []) rfl rfl rfl (by kernel_rfl) rfl fun h X w H => zfc (zh9 o3) (zCy o1 o2) H.xk (H.fact 5 rfl)) ?_
 conv => whnf
 refine za3 (zaj (rs := []) (Rs := []) rfl rfl rfl (by kernel_rfl) rfl fun h X w H => zj5 o3 o4 H.xk (H.fact 5 rfl)) ?_
 conv => whnf
 refine za3 (zaj (rs := []) (Rs := []) rfl rfl rfl (by kernel_rfl) rfl fun h X w H => zfc (zi4 o3 o4) (zCz o1 o2) H.xk (H.fact 5 rfl)) ?_
 conv => whnf
 refine ⟨fun _ _ => rfl, ?_⟩
 conv => whnf
 refine ⟨fun _ _ => rfl, ?_⟩
 conv => whnf
 refine zbd 14 [] (by kernel_rfl) ?_
 conv => whnf
 refine za3 (zaj (rs := []) (Rs := []) rfl rfl rfl (by kernel_rfl) rfl fun h X w H => zj5 (ztb o1 o2 o3 o4) (zyT o1 o2 o3 o4) H.xk (H.fact 5 rfl)) ?_
 conv => whnf
 refine za3 (zaj (rs := []) (Rs := []) rfl rfl rfl (by kernel_rfl) rfl fun h X w H => zpM (zi4 (ztb o1 o2 o3 o4) (zyT o1 o2 o3 o4)) H.xk (H.fact 5 rfl)) ?_
 conv => whnf
 refine za3 (zaj (rs := []) (Rs := []) rfl rfl rfl (by kernel_rfl) rfl fun h X w H => zj6 (ztb o1 o2 o3 o4) (zyT o1 o2 o3 o4) H.xk (H.fact 5 rfl)) ?_
 conv => whnf
 refine za3 (zaj (rs := []) (Rs := []) rfl rfl rfl (by kernel_rfl) rfl fun h X w H => zpM (zh9 (ztb o1 o2 o3 o4)) H.xk (H.fact 5 rfl)) ?_
 conv => whnf
 refine zak rfl rfl rfl (by kernel_rfl) (fun h X w H => zfc o5 (zh3 _ (zh9 (ztb o1 o2 o3 o4)) 1) H.xk (H.fact 5 rfl)) rfl rfl rfl ?_
 conv => whnf
 refine ⟨fun _ _ => rfl, fun _ _ => rfl, ?_⟩
 conv => whnf
 refine zbd 8 [] (by kernel_rfl) ?_
 conv => whnf
 refine za3 (zaj (rs := []) (Rs := []) rfl rfl rfl (by kernel_rfl) rfl fun h X w H => zpM (zCy o1 o2) H.xk (H.fact 5 rfl)) ?_
 conv => whnf
 refine za3 (zaj (rs := []) (Rs := []) rfl rfl rfl (by kernel_rfl) rfl fun h X w H => zpM (zCz o1 o2) H.xk (H.fact 5 rfl)) ?_
 conv => whnf
 refine ⟨fun _ _ => rfl, ?_⟩
 conv => whnf
 refine ⟨fun _ _ => rfl, ?_⟩
 conv => whnf
 refine zak rfl rfl rfl (by kernel_rfl) (fun h X w H => zj6 (ztc o1 o2) (zBy o1 o2) H.xk (H.fact 5 rfl)) rfl rfl rfl ?_
 conv => whnf
 refine ⟨fun _ _ => rfl, ?_⟩
 conv => whnf
 refine zbd 13 [] (by kernel_rfl) ?_
 conv => whnf
 refine za3 (zaj (rs := []) (Rs := []) rfl rfl rfl (by kernel_rfl) rfl fun h X w H => zfc (ztc o1 o2) (zBy o1 o2) H.xk (H.fact 5 rfl)) ?_
 conv => whnf
 refine ⟨uw (zmX 121665), ⟨rfl, rfl, rfl, rfl, rfl, trivial⟩, ?_⟩
 conv => whnf
 refine za3 (zaj (rs := []) (Rs := []) rfl rfl rfl (by kernel_rfl) rfl fun h X w H => zfc zib (zCA o1 o2) H.xk (H.fact 5 rfl)) ?_
 conv => whnf
 refine za3 (zaj (rs := []) (Rs := []) rfl rfl rfl (by kernel_rfl) rfl fun h X w H => zj5 (ztc o1 o2) (zdL _ _ zib (zCA o1 o2)) H.xk (H.fact 5 rfl)) ?_
 conv => whnf
 refine zak rfl rfl rfl (by kernel_rfl) (fun h X w H => zfc (zCA o1 o2) (zi4 (ztc o1 o2) (zdL _ _ zib (zCA o1 o2))) H.xk (H.fact 5 rfl)) rfl rfl rfl ?_
 conv => whnf
 refine ⟨fun _ _ => rfl, fun _ _ => rfl, ?_⟩
 conv => whnf
 exact zdi [(0, 0), (1, 1), (2, 2), (3, 3), (4, 4)] [] [0, 1, 2, 3, 4] (.inl rfl) ⟨.inl rfl, .inl rfl, .inl rfl, .inl rfl, trivial⟩ rfl trivial ⟨rfl, rfl, rfl, rfl, rfl, trivial⟩
end
end
section
open Go.RowKit
theorem zC6 : ∀ x : Nat, x < 256 → IntKind.u8.wrap ((BitVec.ofInt IntKind.u8.bits (x : Int) &&& ~~~(BitVec.ofInt IntKind.u8.bits 7)).toNat : Nat) = ((x / 8 * 8 : Nat) : Int) := by decide +kernel
theorem zBG : ∀ x : Nat, x < 256 → IntKind.u8.wrap ((BitVec.ofInt IntKind.u8.bits (x : Int) &&& BitVec.ofInt IntKind.u8.bits 63).toNat : Nat) = ((x % 64 : Nat) : Int) := by decide +kernel
theorem zC7 : ∀ x : Nat, x < 64 → IntKind.u8.wrap ((BitVec.ofInt IntKind.u8.bits (x : Int) ||| BitVec.ofInt IntKind.u8.bits 64).toNat : Nat) = ((x + 64 : Nat) : Int) := by decide +kernel
section
variable {P : Program} {N k : Nat} {l : LE} {m : MB} {R : List SF} {o : Oper} {i j t ty : Nat}
theorem zto {S : Nat → Prop} {ws : World} {l : List (Nat × Value)} {t u : TypeId} {x y : Operand} {k : IntKind} {a b z : Int} (ho : o.op = .binOp .andNot t x y u) (hx : ev l x = some (.int k a)) (hy : ev l y = some (.int k b)) (hz : k.wrap ((BitVec.ofInt k.bits a &&& ~~~(BitVec.ofInt k.bits b)).toNat : Nat) = z) : PK P S ws l o (.int k z) := fun w' _ a N E => by
 subst hz
 unfold execOp; rw [ho]
 simp only [E.ev hx, E.ev hy, Sem.run_bind, zbK, Result.andThen_ok]
 simp [binOp, Op.intBits]
theorem ztp {kk : List Nat} {b : Nat} {xop y : Operand} (kk' : List Nat) (hkk : ∀ t, t < 32 → kk'.getD t 0 = if t = j then b else kk.getD t 0) (hm : zaB m i = some (.blk [.key kk] t)) (ho : o.op = .store ty xop y) (hx : evS l xop = some (apS i 0 j 1)) (hy : evS l y = some (zix (bv b))) (hs : zcJ P ty = some 1) (hj : j < 32) : zcK P N k l m R o (zdZ undef) ((i, .blk [.key kk'] t) :: m) R :=
 zss (x := .p (.v (bv b))) hm ho hx hy rfl hs (by simp only [zeL, SC.len]; omega) fun h => by
  show zf2 kk' ++ [] = (zf2 kk ++ []).set (0 + j * 1) (bv b)
  rw [List.append_nil, List.append_nil, Nat.zero_add, Nat.mul_one]
  refine List.ext_getElem? fun t => ?_
  rw [List.getElem?_set]
  by_cases ht : t < 32
  ·simp only [zf2, List.getElem?_map, List.getElem?_range ht, Option.map_some, hkk t ht]
   by_cases e : j = t
   ·subst e; simp [hj]
   ·rw [if_neg e, if_neg (Ne.symm e)]
  ·rw [List.getElem?_eq_none (by simp [zf2]; omega), if_neg (by omega), List.getElem?_eq_none (by simp [zf2]; omega)]
end
section
variable {X : List Nat} {w : World} {kk : List Nat}
def zzc (k : Nat → Nat) (i : Nat) : Nat := if i = 0 then k 0 / 8 * 8 else k i
def zi5 (kk : List Nat) : List Nat := zqJ (zbf fun i => kk.getD i 0)
theorem zwd (hX : ∀ k ∈ X, k < w.heap.size) (hk : ∀ x ∈ kk, x < 256) : Ct Tryz.prog 127 [.agg (ca [.key kk])] X w (.a (.agg [.key (zi5 kk)])) [] [] := by
 refine vFn (k0 := 0) (rs := [.cell 2 23]) (svs := [.a (.agg [.key kk])]) (R0 := []) (hnQ []) Tryz.ntmps127 Tryz.func127 rfl rfl rfl rfl rfl zaw (by kernel_rfl) hX (fun r hr => by cases hr) ?_
 conv => whnf
 refine ⟨0, ⟨rfl, by decide⟩, .inl ?_⟩
 conv => whnf
 refine zCu (zix (bv (kk.getD 0 0 / 8 * 8))) (fun h w => zto rfl rfl rfl (zC6 _ (zcW hk 0))) rfl rfl ?_
 conv => whnf
 refine ⟨0, ⟨rfl, by decide⟩, .inr ?_⟩
 conv => whnf
 refine za4 (ztp (zqJ (zzc fun i => kk.getD i 0)) (fun t ht => zfb _ t ht) rfl rfl rfl rfl (by kernel_rfl) (by decide)) ?_
 conv => whnf
 refine ⟨31, ⟨rfl, by decide⟩, .inl ?_⟩
 conv => whnf
 have h31 : (zqJ (zzc fun i => kk.getD i 0)).getD 31 0 = kk.getD 31 0 := zfb _ 31 (by decide)
 have hb31 := zcW hk 31
 refine ⟨((kk.getD 31 0 % 64 : Nat) : Int), by rw [h31]; exact zBG _ hb31, ?_⟩
 conv => whnf
 refine ⟨((kk.getD 31 0 % 64 + 64 : Nat) : Int), zC7 _ (Nat.mod_lt _ (by decide)), ?_⟩
 conv => whnf
 refine ⟨31, ⟨rfl, by decide⟩, .inr ?_⟩
 conv => whnf
 refine za4 (ztp (zi5 kk) (fun t ht => ?_) rfl rfl rfl rfl (by kernel_rfl) (by decide)) ?_
 ·rw [zi5, zfb _ t ht, zfb _ t ht, zbf, zzc]
  by_cases h0 : t = 0
  ·subst h0; rw [if_pos rfl, if_neg (by decide), if_pos rfl]
  ·rw [if_neg h0, if_neg h0]
 conv => whnf
 exact zaF rfl
end
end
section
open Go.RowKit
theorem ztq (a : Nat) : fM 0 a = 0 := by unfold fM; rw [Nat.zero_mul, Nat.zero_mod]
theorem zzd (a : Nat) (h : a < pN) : fS a a = 0 := by
 unfold fS
 rw [show a + (pN - a) = pN by omega, Nat.mod_self]
theorem zze (a : Nat) (h : a < pN) : fA a 0 = a := by unfold fA; rw [Nat.add_zero, Nat.mod_eq_of_lt h]
theorem zzf (a : Nat) (h : a < pN) : fS a 0 = a := by unfold fS; rw [Nat.sub_zero, Nat.add_mod_right, Nat.mod_eq_of_lt h]
theorem zpO (q s : Pt) : (zpJ 0 q s).z = 0 := ztq _
theorem ztr {q : Pt} (h : q.x < pN) (hz : q.z = 0) : zv8 q = 0 := by
 unfold zv8
 rw [hz, zze _ h, zzf _ h]
 exact zzd _ (zgk _ _)
theorem zwe {q : Pt} (h : zv8 q = 0) : (ztg q).z = 0 := by
 unfold ztg
 dsimp only
 rw [h]
 exact ztq _
theorem zwf : zv8 ⟨0, 1⟩ = 0 := by unfold zv8 fS fM fA pN; decide +kernel
theorem zDD (k : Nat → Nat) : ∀ n, (zeH 0 k (n + 1)).1.z = 0 ∧ (zeH 0 k (n + 1)).2.z = 0
 | 0 => by
  rw [show zeH 0 k (0 + 1) = ziN 0 (zeX k 0) ⟨1, 0⟩ ⟨0, 1⟩ from rfl]
  unfold ziN
  split
  ·exact ⟨zpO _ _, zwe zwf⟩
  ·exact ⟨zwe (ztr zhb rfl), zpO _ _⟩
 | n + 1 => by
  have ih := zDD k n
  have ok := zpK 0 zdz k (n + 1)
  rw [show zeH 0 k (n + 1 + 1) = ziN 0 (zeX k (n + 1)) (zeH 0 k (n + 1)).1 (zeH 0 k (n + 1)).2 from rfl]
  unfold ziN
  split
  ·exact ⟨zpO _ _, zwe (ztr ok.2.1 ih.2)⟩
  ·exact ⟨zwe (ztr ok.1.1 ih.1), zpO _ _⟩
theorem zmw (k : Nat → Nat) : zdO k 0 = 0 := by
 unfold zdO
 rw [(zDD (zbf k) 254).1]
 unfold fM
 rw [Nat.mul_mod, zmr _ pN 0 (by omega) (Nat.zero_mod _), Nat.mul_zero, Nat.zero_mod]
theorem zzg (k : Nat → Nat) (u : Nat) : zdO k u < pN := zgk _ _
theorem zqM (i : Nat) : za2 0 i = 0 := by unfold za2; rw [Nat.zero_div, Nat.zero_mod]
theorem zzh : pN < 57896044618658097711785492504343953926634992332820282019728792003956564819968 := by unfold pN; decide +kernel
theorem zzi : pN < 2 ^ 256 := by unfold pN; decide +kernel
theorem zmx (v : Nat) (h : v < pN) : zmY (za2 v) = v := by
 unfold zmY
 rw [ztf _ (fun i _ => zjS v i), zpo]
 rw [show 8 * 32 = 256 from rfl, Nat.mod_eq_of_lt (Nat.lt_trans h zzi), Nat.mod_eq_of_lt (Nat.lt_trans h zzh), Nat.mod_eq_of_lt h]
theorem zzj (u : Nat → Nat) : zmY u < pN := Nat.mod_lt _ zdz
theorem zqN {u v : Nat → Nat} (h : ∀ i, i < 32 → znI u i = znI v i) : zmY u = zmY v := by
 unfold zmY
 rw [zh0 _ _ 32 h]
theorem zts : zmY (fun i => if i = 0 then 9 else 0) = 9 := by unfold zmY pN; decide +kernel
end
section
open Go.RowKit
def zAA (x s : Nat) : Nat := orW (zAr x s) (zxV x (32 - s))
def ztt (x a b sh : Nat) : Nat := zq6 (zq6 (zAA x (32 - a)) (zAA x (32 - b))) (zxV x sh)
def zi6 (x a b c : Nat) : Nat := zq6 (zq6 (zAA x (32 - a)) (zAA x (32 - b))) (zAA x (32 - c))
theorem zzk : ∀ a : Fin 32, 1 ≤ a.val → IntKind.u64.wrap (((BitVec.ofInt 64 (IntKind.u64.wrap (-((a.val : Nat) : Int))) &&& BitVec.ofInt 64 31).toNat : Nat) : Int) = (((32 - a.val : Nat)) : Int) := by decide
def zzm (l : List Nat) : Nat := orW (orW (orW (zAr (l.getD 0 0 % 4294967296) 24) (zAr (l.getD 1 0 % 4294967296) 16)) (zAr (l.getD 2 0 % 4294967296) 8)) (l.getD 3 0 % 4294967296)
def znR (k : List Nat) (n : Nat) : Nat → Nat := fun i => if i < n then zzm (k.drop (4 * i)) else 0
def zfQ (w : Nat → Nat) (t : Nat) : Nat → Nat := if 16 ≤ t then upd w (t % 16) (zgx (w (t % 16)) (zgx (zgx (ztt (w ((t + 1) % 16)) 7 18 3) (w ((t + 9) % 16))) (ztt (w ((t + 14) % 16)) 17 19 10))) else w
def zzn (gt w v : Nat → Nat) (t : Nat) : Nat := zgx (zgx (zgx (zgx (v 7) (zi6 (v 4) 6 11 25)) (zq6 (v 6) (zu2 (v 4) (zq6 (v 5) (v 6))))) (gt t)) (w (t % 16))
def zAB (v : Nat → Nat) : Nat := zgx (zi6 (v 0) 2 13 22) (orW (zu2 (v 0) (v 1)) (zu2 (v 2) (orW (v 0) (v 1))))
def znS (v : Nat → Nat) (one two : Nat) : Nat → Nat
 | 0 => zgx one two
 | 1 => v 0
 | 2 => v 1
 | 3 => v 2
 | 4 => zgx (v 3) one
 | 5 => v 4
 | 6 => v 5
 | _ => v 6
def ztu (gt : Nat → Nat) (k : List Nat) (h : Nat → Nat) : Nat → (Nat → Nat) × (Nat → Nat)
 | 0 => (znR k 16, h)
 | t + 1 => (zfQ (ztu gt k h t).1 t, znS (ztu gt k h t).2 (zzn gt (zfQ (ztu gt k h t).1 t) (ztu gt k h t).2 t) (zAB (ztu gt k h t).2))
theorem zzo (v : Nat → Nat) (one two : Nat) : znS v one two 0 = zgx one two := rfl
theorem zzp (v : Nat → Nat) (one two : Nat) : znS v one two 4 = zgx (v 3) one := rfl
theorem ztv {gt h w v : Nat → Nat} {k : List Nat} {t : Nat} (hM : (w, v) = ztu gt k h t) : (zfQ w t, znS v (zzn gt (zfQ w t) v t) (zAB v)) = ztu gt k h (t + 1) := by
 rw [ztu, ← hM]
def zxA (h v : Nat → Nat) (n : Nat) : Nat → Nat := fun i => if i < n then zgx (h i) (v i) else h i
def zmy (gt h : Nat → Nat) (k : List Nat) : Nat → Nat := zxA h (ztu gt k h 64).2 8
theorem znT (f : Nat → Nat) (i v j : Nat) : upd (fun i => u32 (f i)) i (u32 v) j = u32 (upd f i v j) := by
 unfold upd; split <;> rfl
theorem zqO (k : List Nat) (n j : Nat) : upd (fun i => u32 (znR k n i)) n (u32 (zzm (k.drop (4 * n)))) j = u32 (znR k (n + 1) j) := by
 rw [znT]
 congr 2
 unfold upd znR
 by_cases h : j = n
 ·subst h; simp
 ·rw [if_neg h]
  by_cases h2 : j < n
  ·rw [if_pos h2, if_pos (by omega)]
  ·rw [if_neg h2, if_neg (by omega)]
theorem ztw (h v : Nat → Nat) (n j : Nat) : upd (fun i => u32 (zxA h v n i)) n (u32 (zgx (h n) (v n))) j = u32 (zxA h v (n + 1) j) := by
 rw [znT]
 congr 2
 unfold upd zxA
 by_cases hj : j = n
 ·subst hj; simp
 ·rw [if_neg hj]
  by_cases h2 : j < n
  ·rw [if_pos h2, if_pos (by omega)]
  ·rw [if_neg h2, if_neg (by omega)]
theorem zzq (h v : Nat → Nat) (n : Nat) : zxA h v n n = h n := by simp [zxA]
theorem zC8 (m : Nat) : (BitVec.ofInt 64 (m : Int) &&& BitVec.ofInt 64 15).toNat = m % 16 := by
 have e : (BitVec.ofInt 64 15).toNat = 15 := rfl
 rw [BitVec.toNat_and, e, BitVec.toNat_ofInt, Nat.and_two_pow_sub_one_eq_mod _ 4]
 omega
def zkp (gt h : Nat → Nat) (l : List Nat) : (Nat → Nat) × List Nat := if 64 ≤ l.length then zkp gt (zmy gt h (l.take 64)) (l.drop 64) else (h, l)
termination_by l.length
decreasing_by simp only [List.length_drop]; omega
theorem zie {gt h : Nat → Nat} {l : List Nat} (hl : 64 ≤ l.length) : zkp gt h l = zkp gt (zmy gt h (l.take 64)) (l.drop 64) := by rw [zkp, if_pos hl]
theorem zfR {gt h : Nat → Nat} {l : List Nat} (hl : ¬ 64 ≤ l.length) : zkp gt h l = (h, l) := by rw [zkp, if_neg hl]
theorem zpP (gt : Nat → Nat) : ∀ (n : Nat) (h : Nat → Nat) (l : List Nat), l.length ≤ n → (zkp gt h l).2.length < 64
 | 0, h, l, hl => by rw [zfR (by omega)]; show l.length < 64; omega
 | n + 1, h, l, hl => by
  by_cases h1 : 64 ≤ l.length
  ·rw [zie h1]; exact zpP gt n _ _ (by rw [List.length_drop]; omega)
  ·rw [zfR h1]; show l.length < 64; omega
def iv0 : Nat → Nat
 | 0 => 1779033703
 | 1 => 3144134277
 | 2 => 1013904242
 | 3 => 2773480762
 | 4 => 1359893119
 | 5 => 2600822924
 | 6 => 528734635
 | _ => 1541459225
def zq9 (n : Nat) : List Nat := 128 :: List.replicate (63 - (n + 8) % 64) 0
def zra (m j : Nat) : List Nat := (List.range j).map fun q => m / 2 ^ (8 * (7 - q)) % 256
def zBH (n : Nat) : List Nat := zq9 n ++ zra (n * 2 ^ 3 % 18446744073709551616) 8
def zqP (x : Nat) : List Nat := [zxV x 24 % 256, zxV x 16 % 256, zxV x 8 % 256, x % 256]
def zgC (h : Nat → Nat) (n : Nat) : List Nat := (List.range n).flatMap fun i => zqP (h i)
def zC9 (gt h : Nat → Nat) (n : Nat) (rest : List Nat) : List Nat := zgC (zkp gt h (rest ++ zBH n)).1 8
def zzr (gt : Nat → Nat) (s : (Nat → Nat) × Nat × List Nat) (b : List Nat) : (Nat → Nat) × Nat × List Nat := ((zkp gt s.1 (s.2.2 ++ b)).1, s.2.1 + b.length, (zkp gt s.1 (s.2.2 ++ b)).2)
def zfS (gt : Nat → Nat) (ps : List (List Nat)) : (Nat → Nat) × Nat × List Nat := ps.foldl (zzr gt) (iv0, 0, [])
def zwg (gt : Nat → Nat) (ps : List (List Nat)) : List Nat := zC9 gt (zfS gt ps).1 (zfS gt ps).2.1 (zfS gt ps).2.2
theorem zif (h : Nat → Nat) (n : Nat) : zgC h (n + 1) = zgC h n ++ zqP (h n) := by
 unfold zgC
 rw [List.range_succ, List.flatMap_append]
 simp
theorem zgo (h : Nat → Nat) : ∀ n, (zgC h n).length = 4 * n
 | 0 => rfl
 | n + 1 => by rw [zif, jQ, zgo h n]; simp [zqP]; omega
theorem zqQ (x : Nat) : ∀ z ∈ zqP x, z < 256 := fun z hz => by
 simp only [zqP, List.mem_cons, List.not_mem_nil, or_false] at hz
 omega
theorem znU (h : Nat → Nat) (n : Nat) : ∀ z ∈ zgC h n, z < 256 := fun z hz => by
 obtain ⟨i, _, hi⟩ := List.mem_flatMap.1 hz
 exact zqQ _ z hi
theorem zj7 (gt : Nat → Nat) (ps : List (List Nat)) : (zwg gt ps).length = 32 := zgo _ 8
theorem zig (gt : Nat → Nat) (ps : List (List Nat)) : ∀ z ∈ zwg gt ps, z < 256 := znU _ 8
theorem zwh (n : Nat) : (zq9 n).length = 64 - (n + 8) % 64 := by
 have : (n + 8) % 64 < 64 := Nat.mod_lt _ (by decide)
 simp only [zq9, List.length_cons, List.length_replicate]
 omega
theorem ztx (n : Nat) : ∀ z ∈ zq9 n, z < 256 := fun z hz => by
 rcases List.mem_cons.1 hz with rfl | h
 ·decide
 ·rw [(List.mem_replicate.1 h).2]; decide
theorem zty (m j : Nat) : zra m (j + 1) = zra m j ++ [m / 2 ^ (8 * (7 - j)) % 256] := by
 unfold zra; rw [List.range_succ, List.map_append]; rfl
theorem zwi (m j : Nat) : (zra m j).length = j := by simp [zra]
theorem ztz (m j : Nat) : ∀ z ∈ zra m j, z < 256 := fun z hz => by
 obtain ⟨q, _, rfl⟩ := List.mem_map.1 hz
 exact Nat.mod_lt _ (by decide)
theorem znV {gt : Nat → Nat} {ps : List (List Nat)} {i : Nat} {b : List Nat} (hi : ps[i]? = some b) : zfS gt (ps.take (i + 1)) = zzr gt (zfS gt (ps.take i)) b := by
 unfold zfS
 rw [List.take_add_one, hi, List.foldl_append]
 rfl
theorem zmz (gt : Nat → Nat) : ∀ (n : Nat) (h : Nat → Nat) (l : List Nat), l.length ≤ n → (∀ x ∈ l, x < 256) → ∀ x ∈ (zkp gt h l).2, x < 256
 | 0, h, l, hl, hb => by rw [zfR (by omega)]; exact hb
 | n + 1, h, l, hl, hb => by
  by_cases h1 : 64 ≤ l.length
  ·rw [zie h1]; exact zmz gt n _ _ (by rw [List.length_drop]; omega) fun x hx => hb x (List.mem_of_mem_drop hx)
  ·rw [zfR h1]; exact hb
end
section
open Go.RowKit
section
variable {x y k : Nat} {j : Int} {A : Int → Prop}
theorem zaW (h : A ((zgx x y : Nat) : Int)) : ∃ z, IntKind.u32.wrap ((x : Int) + (y : Int)) = z ∧ A z := ⟨_, by rw [← Int.natCast_add, zf5]; rfl, h⟩
theorem zxW (h : A ((zq6 x y : Nat) : Int)) : ∃ z, IntKind.u32.wrap ((BitVec.ofInt IntKind.u32.bits (x : Int) ^^^ BitVec.ofInt IntKind.u32.bits (y : Int)).toNat : Nat) = z ∧ A z := ⟨_, zCI x y, h⟩
theorem znW (h : A ((zu2 x y : Nat) : Int)) : ∃ z, IntKind.u32.wrap ((BitVec.ofInt IntKind.u32.bits (x : Int) &&& BitVec.ofInt IntKind.u32.bits (y : Int)).toNat : Nat) = z ∧ A z := ⟨_, zCJ x y, h⟩
theorem zoW (h : A ((orW x y : Nat) : Int)) : ∃ z, IntKind.u32.wrap ((BitVec.ofInt IntKind.u32.bits (x : Int) ||| BitVec.ofInt IntKind.u32.bits (y : Int)).toNat : Nat) = z ∧ A z := ⟨_, zDO x y, h⟩
theorem zlW (hj : j = (k : Int)) (h : A ((zAr x k : Nat) : Int)) : 0 ≤ j ∧ ∃ z, IntKind.u32.wrap ((x : Int) * 2 ^ (min j.toNat IntKind.u32.bits)) = z ∧ A z := ⟨by omega, _, by
 unfold zAr
 rw [← zf5, hj, Int.toNat_natCast]
 have : IntKind.u32.bits = 32 := rfl
 rw [this]
 norm_cast, h⟩
theorem zrW (hj : j = (k : Int)) (h : A ((zxV x k : Nat) : Int)) : 0 ≤ j ∧ ∃ z, ((x : Int)).fdiv (2 ^ (min j.toNat IntKind.u32.bits)) = z ∧ A z := ⟨by omega, _, by
 unfold zxV
 rw [zxX, hj, Int.toNat_natCast]
 rfl, h⟩
theorem ztA (hn : k ≤ 100) (h : A (-((k : Nat) : Int))) : ∃ z, IntKind.i64.wrap (0 - (k : Int)) = z ∧ A z := ⟨_, by rw [zw0 (by omega) (by omega), show (0 : Int) - (k : Int) = -(k : Int) by omega], h⟩
end
def wS (x : Nat) : SV := .a (.s (.p (.v (u32 x))))
section
variable {X : List Nat} {w : World} {x n a b c : Nat}
theorem zmA (hX : ∀ k ∈ X, k < w.heap.size) (h1 : 1 ≤ n) (h2 : n < 32) : Ct Tryz.prog 195 [u32 x, .int .i64 (-((n : Nat) : Int))] X w (wS (zAA x (32 - n))) [] [] := by
 refine vFn (k0 := 0) (rs := [.tmp 4]) (svs := [wS x, zaH .i64 (-((n : Nat) : Int))]) (R0 := []) (hnQ []) Tryz.ntmps195 Tryz.func195 rfl rfl rfl rfl rfl zaw (by kernel_rfl) hX (fun r hr => by cases hr) ?_
 conv => whnf
 refine ⟨_, rfl, ?_⟩
 conv => whnf
 refine ⟨_, zzk ⟨n, h2⟩ h1, ?_⟩
 conv => whnf
 refine zlW rfl ?_
 conv => whnf
 refine ⟨((32 - (32 - n) : Nat) : Int), by rw [show (32 : Int) - ((32 - n : Nat) : Int) = ((32 - (32 - n) : Nat) : Int) by omega]; exact zAq (by omega) (by omega), ?_⟩
 conv => whnf
 refine zrW rfl ?_
 conv => whnf
 refine zoW ?_
 conv => whnf
 refine zaF ?_
 rfl
theorem zpQ (hX : ∀ k ∈ X, k < w.heap.size) (ha : 1 ≤ a ∧ a < 32) (hb : 1 ≤ b ∧ b < 32) (hc : 1 ≤ c ∧ c < 32) : Ct Tryz.prog 178 [u32 x, .int .i64 a, .int .i64 b, .int .i64 c] X w (wS (zi6 x a b c)) [] [] := by
 refine vFn (k0 := 0) (rs := [.tmp 8]) (svs := [wS x, zaH .i64 a, zaH .i64 b, zaH .i64 c]) (R0 := []) (hnQ []) Tryz.ntmps178 Tryz.func178 rfl rfl rfl rfl rfl zaw (by kernel_rfl) hX (fun r hr => by cases hr) ?_
 conv => whnf
 refine ztA (by omega) ?_
 conv => whnf
 refine zak rfl rfl rfl (by kernel_rfl) (fun h X w H => zmA H.xk ha.1 ha.2) rfl rfl rfl ?_
 conv => whnf
 refine ztA (by omega) ?_
 conv => whnf
 refine zak rfl rfl rfl (by kernel_rfl) (fun h X w H => zmA H.xk hb.1 hb.2) rfl rfl rfl ?_
 conv => whnf
 refine zxW ?_
 conv => whnf
 refine ztA (by omega) ?_
 conv => whnf
 refine zak rfl rfl rfl (by kernel_rfl) (fun h X w H => zmA H.xk hc.1 hc.2) rfl rfl rfl ?_
 conv => whnf
 refine zxW ?_
 conv => whnf
 refine zaF ?_
 rfl
theorem zpR (hX : ∀ k ∈ X, k < w.heap.size) (ha : 1 ≤ a ∧ a < 32) (hb : 1 ≤ b ∧ b < 32) : Ct Tryz.prog 177 [u32 x, .int .i64 a, .int .i64 b, .int .i64 c] X w (wS (ztt x a b c)) [] [] := by
 refine vFn (k0 := 0) (rs := [.tmp 8]) (svs := [wS x, zaH .i64 a, zaH .i64 b, zaH .i64 c]) (R0 := []) (hnQ []) Tryz.ntmps177 Tryz.func177 rfl rfl rfl rfl rfl zaw (by kernel_rfl) hX (fun r hr => by cases hr) ?_
 conv => whnf
 refine zbd 12 [] (by kernel_rfl) ?_
 conv => whnf
 refine ztA (by omega) ?_
 conv => whnf
 refine za3 (zaj (rs := []) (Rs := []) rfl rfl rfl (by kernel_rfl) rfl fun h X w H => zmA H.xk ha.1 ha.2) ?_
 conv => whnf
 refine ztA (by omega) ?_
 conv => whnf
 refine za3 (zaj (rs := []) (Rs := []) rfl rfl rfl (by kernel_rfl) rfl fun h X w H => zmA H.xk hb.1 hb.2) ?_
 conv => whnf
 refine zxW ?_
 conv => whnf
 refine zrW rfl ?_
 conv => whnf
 refine zxW ?_
 conv => whnf
 refine zaF ?_
 rfl
theorem zCC {m : Nat} {A : Int → Prop} (h : A ((m % 4294967296 : Nat) : Int)) : ∃ x, IntKind.u32.wrap (m : Int) = x ∧ A x := ⟨_, zf5 m, h⟩
theorem zzs (hX : ∀ k ∈ X, k < w.heap.size) (l : List Nat) (hl : 4 ≤ l.length) (q : Qd) (hq : St (TxQ l q) w X) : Ct Tryz.prog 176 [.slice q.1 l.length q.2] X w (wS (zzm l)) [] [] := by
 refine vFn (k0 := 1) (rs := [.tmp 2]) (svs := [.a (.s (.p (.hd 0 l.length)))]) (R0 := [.sl 0 l.length (TxG l)]) (hnQ [q]) Tryz.ntmps176 Tryz.func176 rfl rfl rfl rfl rfl zaw (by kernel_rfl) hX (fun r hr => by rcases List.mem_singleton.1 hr with rfl; exact hq) ?_
 have hg : ∀ i, i < 4 → l[i]? = some (l.getD i 0) := fun i hi => zhV 0 (by omega)
 conv => whnf
 refine zbd 21 [] (by kernel_rfl) ?_
 conv => whnf
 refine ⟨0, ⟨rfl, by omega, by omega⟩, ?_⟩
 conv => whnf
 refine zd7 (zpb 0 (hg 0 (by omega)) rfl rfl rfl (by kernel_rfl)) ?_
 conv => whnf
 refine zCC ?_
 conv => whnf
 refine zlW (k := 24) rfl ?_
 conv => whnf
 refine ⟨1, ⟨rfl, by omega, by omega⟩, ?_⟩
 conv => whnf
 refine zd7 (zpb 0 (hg 1 (by omega)) rfl rfl rfl (by kernel_rfl)) ?_
 conv => whnf
 refine zCC ?_
 conv => whnf
 refine zlW (k := 16) rfl ?_
 conv => whnf
 refine zoW ?_
 conv => whnf
 refine ⟨2, ⟨rfl, by omega, by omega⟩, ?_⟩
 conv => whnf
 refine zd7 (zpb 0 (hg 2 (by omega)) rfl rfl rfl (by kernel_rfl)) ?_
 conv => whnf
 refine zCC ?_
 conv => whnf
 refine zlW (k := 8) rfl ?_
 conv => whnf
 refine zoW ?_
 conv => whnf
 refine ⟨3, ⟨rfl, by omega, by omega⟩, ?_⟩
 conv => whnf
 refine zd7 (zpb 0 (hg 3 (by omega)) rfl rfl rfl (by kernel_rfl)) ?_
 conv => whnf
 refine zCC ?_
 conv => whnf
 refine zoW ?_
 conv => whnf
 refine zaF ?_
 rfl
end
end
section
open Go.RowKit
def zCD (r : Nat) (h : Nat → Nat) (a : Int) (n : Nat) : RB := .blk [.row 8 fun i => u32 (h i), .one (.p (.v (.int .u64 a))), .one (.p (.hd r n))] 150
abbrev zDa (h : Nat → Nat) (a : Int) (n : Nat) : RB := zCD 1 h a n
def zBI (h : Nat → Nat) (a : Int) (n : Nat) : MB := [(0, zDa h a n), (1, .gone)]
def zc7 (gt : Nat → Nat) (g : Nat) : World → Prop := AtC ⟨g, 0, none⟩ [.row 64 fun i => u32 (gt i)]
theorem z15 {m : Nat} {A : Int → Prop} (h : A ((m % 16 : Nat) : Int)) : ∃ z, IntKind.i64.wrap ((BitVec.ofInt IntKind.i64.bits (m : Int) &&& BitVec.ofInt IntKind.i64.bits 15).toNat : Nat) = z ∧ A z := ⟨_, by
 have := zC8 m
 rw [show IntKind.i64.bits = 64 from rfl, this]
 exact zw0 (by omega) (by omega), h⟩
theorem zDb (gt wr v : Nat → Nat) (t : Nat) : zgx (v 3) (zgx (zgx (zgx (zgx (v 7) (zi6 (v 4) 6 11 25)) (zq6 (v 6) (zu2 (v 4) (zq6 (v 5) (v 6))))) (gt t)) (zfQ wr t (t % 16))) = znS v (zzn gt (zfQ wr t) v t) (zAB v) 4 := by
 rw [zzp, zzn]
theorem zDc (gt wr v : Nat → Nat) (t : Nat) : zgx (zgx (zgx (zgx (zgx (v 7) (zi6 (v 4) 6 11 25)) (zq6 (v 6) (zu2 (v 4) (zq6 (v 5) (v 6))))) (gt t)) (zfQ wr t (t % 16))) (zgx (zi6 (v 0) 2 13 22) (orW (zu2 (v 0) (v 1)) (zu2 (v 2) (orW (v 0) (v 1))))) = znS v (zzn gt (zfQ wr t) v t) (zAB v) 0 := by
 rw [zzo, zzn, zAB]
section
variable {X : List Nat} {w : World} {h0 : Hn} {gt h : Nat → Nat} {bk : List Nat} {a : Int} {n : Nat} {q : Qd}
theorem zBJ (hl : bk.length = 64) (hsp : Sp X w (zad h0 [] (zBI h a n)) [zc7 gt 2, TxQ bk q]) :
  CtG Tryz.prog 153 [.pointer (some ⟨h0.b 0, 0, none⟩), .slice q.1 bk.length q.2] X w h0 (zBI h a n) [0, 1] (.tup []) (zBI (zmy gt h bk) a n) [] := by
 refine zxd (g := 2) (k0 := 3) (bl := []) (ql := [q]) (svs := [atS 0 0, .a (.s (.p (.hd 2 bk.length)))]) (given := zBI h a n) (Rg := [.c (zc7 gt 2), .sl 2 bk.length (TxG bk)]) (kb := [0, 1]) Tryz.ntmps153 Tryz.func153 rfl rfl rfl zaw (by kernel_rfl) rfl rfl hsp ?_
 conv => whnf
 refine ⟨Nat, fun k l m R i => ⟨k, (20, zaH .i64 i) :: zbV [0, 1, 4] l, (3, .blk [.row 16 fun j => u32 (znR bk i j)] 214) :: m, R⟩, fun i => i ≤ 16, fun i => 16 - i, ⟨0, [], [0, 1, 2, 3], Nat.zero_le _, zbW⟩, fun i hi => ?_⟩
 conv => whnf
 refine vIf (fun hc => ?_) fun hc => ?_
 ·have hi2 : i < 16 := by
   have : (i : Int) < 16 := by simpa using hc
   omega
  have hb1 : 4 * i ≤ bk.length := by omega
  conv => whnf
  have e4 : (4 : Int) * (i : Int) = ((4 * i : Nat) : Int) := by omega
  refine zc6 e4 (by omega) (by omega) ?_
  conv => whnf
  refine zcm (zpc (lo := 4 * i) (hi := bk.length) 3 rfl hb1 (jV _) fun h w hf => zhA rfl (by kernel_rfl) rfl rfl rfl hb1) rfl rfl ?_
  conv => whnf
  obtain ⟨b4, hb4⟩ : ∃ b4, b4 = (bk.drop (4 * i)).take (bk.length - 4 * i) := ⟨_, rfl⟩
  have hl4 : bk.length - 4 * i = b4.length := by rw [hb4, List.length_take, List.length_drop]; omega
  rw [← hb4, hl4]
  refine zak rfl rfl rfl (by kernel_rfl) (fun h X w H => zzs H.xk b4 (by omega) _ (H.fact 0 rfl)) rfl rfl rfl ?_
  conv => whnf
  refine ⟨i, ⟨rfl, hi2⟩, .inr ?_⟩
  conv => whnf
  refine za4 (zAy (fun j => u32 (znR bk (i + 1) j)) rfl rfl rfl rfl rfl rfl hi2 (by rw [hb4, List.take_of_length_le (by rw [List.length_drop]; omega)]; exact zqO bk i)) ?_
  conv => whnf
  refine zd6 (by omega) (by omega) ?_
  conv => whnf
  exact ⟨i + 1, [], [1, 2, 3, 4], ⟨hi2, Nat.sub_lt_sub_left hi2 (Nat.lt_succ_self i)⟩, zbW⟩
 have hi16 : i = 16 := by
   have : ¬ (i : Int) < 16 := by simpa using hc
   omega
 subst hi16
 conv => whnf
 refine zbd 39 [] (by kernel_rfl) ?_
 conv => whnf
 refine ⟨0, ⟨rfl, by decide⟩, .inl ?_⟩
 conv => whnf
 refine ⟨1, ⟨rfl, by decide⟩, .inl ?_⟩
 conv => whnf
 refine ⟨2, ⟨rfl, by decide⟩, .inl ?_⟩
 conv => whnf
 refine ⟨3, ⟨rfl, by decide⟩, .inl ?_⟩
 conv => whnf
 refine ⟨4, ⟨rfl, by decide⟩, .inl ?_⟩
 conv => whnf
 refine ⟨5, ⟨rfl, by decide⟩, .inl ?_⟩
 conv => whnf
 refine ⟨6, ⟨rfl, by decide⟩, .inl ?_⟩
 conv => whnf
 refine ⟨7, ⟨rfl, by decide⟩, .inl ?_⟩
 conv => whnf
 refine zbE (zBa (cs := [.row 64 fun i => u32 (gt i)]) 2 _ rfl (fun w hw h => hw) rfl rfl (by kernel_rfl) rfl) rfl rfl ?_
 conv => whnf
 refine ⟨Nat × (Nat → Nat) × (Nat → Nat), fun k l m R g => ⟨k, (64, zaH .i64 g.1) :: (6, wS (g.2.2 0)) :: (7, wS (g.2.2 1)) :: (8, wS (g.2.2 2)) :: (9, wS (g.2.2 3)) :: (10, wS (g.2.2 4)) :: (11, wS (g.2.2 5)) :: (12, wS (g.2.2 6)) :: (13, wS (g.2.2 7)) :: zbV [0, 4, 63] l, (3, .blk [.row 16 fun j => u32 (g.2.1 j)] 214) :: m, R⟩, fun g => g.1 ≤ 64 ∧ g.2 = ztu gt bk h g.1, fun g => 64 - g.1, ⟨(0, znR bk 16, h), [], [0, 1, 2, 3], ⟨Nat.zero_le _, rfl⟩, zbW⟩, fun g hg => ?_⟩
 obtain ⟨t, wr, v⟩ := g
 obtain ⟨ht, hM⟩ : t ≤ 64 ∧ (wr, v) = ztu gt bk h t := hg
 conv => whnf
 refine vIf (fun hc => ?_) fun hc => ?_
 ·have ht2 : t < 64 := by
   have : (t : Int) < 64 := by simpa using hc
   omega
  conv => whnf
  refine ⟨t, ⟨rfl, ht2⟩, ?_⟩
  conv => whnf
  refine .inr ⟨Unit, fun k l m R _ => ⟨k, l, (3, .blk [.row 16 fun j => u32 (zfQ wr t j)] 214) :: m, R⟩, fun _ => True, ?_, fun _ _ => ?_⟩
  ·conv => whnf
   refine vIf (fun hc => ?_) fun hc => ?_
   ·have h16 : 16 ≤ t := by
     have : (16 : Int) ≤ (t : Int) := by simpa using hc
     omega
    conv => whnf
    refine zbd 23 [] (by kernel_rfl) ?_
    conv => whnf
    refine z15 ?_
    conv => whnf
    refine ⟨t % 16, ⟨rfl, by omega⟩, .inr ?_⟩
    conv => whnf
    refine ⟨by omega, ?_⟩
    conv => whnf
    refine zc6 (show (t : Int) + 1 = ((t + 1 : Nat) : Int) by omega) (by omega) (by omega) ?_
    conv => whnf
    refine z15 ?_
    conv => whnf
    refine ⟨(t + 1) % 16, ⟨rfl, by omega⟩, .inr ?_⟩
    conv => whnf
    refine ⟨by omega, ?_⟩
    conv => whnf
    refine za3 (zaj (rs := []) (Rs := []) rfl rfl rfl (by kernel_rfl) rfl fun h X w H => zpR (a := 7) (b := 18) (c := 3) H.xk (by omega) (by omega)) ?_
    conv => whnf
    refine zc6 (show (t : Int) + 9 = ((t + 9 : Nat) : Int) by omega) (by omega) (by omega) ?_
    conv => whnf
    refine z15 ?_
    conv => whnf
    refine ⟨(t + 9) % 16, ⟨rfl, by omega⟩, .inr ?_⟩
    conv => whnf
    refine ⟨by omega, ?_⟩
    conv => whnf
    refine zaW ?_
    conv => whnf
    refine zc6 (show (t : Int) + 14 = ((t + 14 : Nat) : Int) by omega) (by omega) (by omega) ?_
    conv => whnf
    refine z15 ?_
    conv => whnf
    refine ⟨(t + 14) % 16, ⟨rfl, by omega⟩, .inr ?_⟩
    conv => whnf
    refine ⟨by omega, ?_⟩
    conv => whnf
    refine za3 (zaj (rs := []) (Rs := []) rfl rfl rfl (by kernel_rfl) rfl fun h X w H => zpR (a := 17) (b := 19) (c := 10) H.xk (by omega) (by omega)) ?_
    (repeat ((conv => whnf); first | refine zaW ?_ | refine zxW ?_ | refine znW ?_ | refine zoW ?_))
    conv => whnf
    refine ⟨t % 16, ⟨rfl, by omega⟩, .inr ?_⟩
    conv => whnf
    refine za4 (zAy (fun j => u32 (zfQ wr t j)) rfl rfl rfl rfl rfl rfl (by omega) (fun j => by rw [znT, zfQ, if_pos h16])) ?_
    conv => whnf
    exact ⟨(), [], [0, 1, 2, 3], trivial, zbW⟩
   ·have h16 : ¬ 16 ≤ t := fun h => by
     have : ¬ (16 : Int) ≤ (t : Int) := by simpa using hc
     omega
    conv => whnf
    refine ⟨(), [], [0, 1, 2, 3], trivial, ?_⟩
    rw [show zfQ wr t = wr from if_neg h16]
    exact zbW
  conv => whnf
  refine zbd 18 [] (by kernel_rfl) ?_
  conv => whnf
  refine za3 (zaj (rs := []) (Rs := []) rfl rfl rfl (by kernel_rfl) rfl fun h X w H => zpQ (a := 6) (b := 11) (c := 25) H.xk (by omega) (by omega) (by omega)) ?_
  (repeat ((conv => whnf); first | refine zaW ?_ | refine zxW ?_ | refine znW ?_ | refine zoW ?_))
  conv => whnf
  refine z15 ?_
  conv => whnf
  refine ⟨t % 16, ⟨rfl, by omega⟩, .inr ?_⟩
  conv => whnf
  refine ⟨by omega, ?_⟩
  (repeat ((conv => whnf); first | refine zaW ?_ | refine zxW ?_ | refine znW ?_ | refine zoW ?_))
  conv => whnf
  refine zak rfl rfl rfl (by kernel_rfl) (fun h X w H => zpQ (a := 2) (b := 13) (c := 22) H.xk (by omega) (by omega) (by omega)) rfl rfl rfl ?_
  (repeat ((conv => whnf); first | refine zaW ?_ | refine zxW ?_ | refine znW ?_ | refine zoW ?_))
  conv => whnf
  refine zd6 (by omega) (by omega) ?_
  conv => whnf
  refine ⟨(t + 1, zfQ wr t, znS v (zzn gt (zfQ wr t) v t) (zAB v)), [], [0, 1, 2, 3], ⟨⟨ht2, ztv hM⟩, Nat.sub_lt_sub_left ht2 (Nat.lt_succ_self t)⟩, zbW (hl := ?_)⟩
  refine ⟨.inl rfl, .inl (congrArg (fun x => some (wS x)) (zDc gt wr v t)), .inl rfl, .inl rfl, .inl rfl, .inl (congrArg (fun x => some (wS x)) (zDb gt wr v t)), ?_⟩
  repeat (first | exact trivial | refine ⟨.inl rfl, ?_⟩)
 have hi64 : t = 64 := by
   have : ¬ (t : Int) < 64 := by simpa using hc
   omega
 subst hi64
 conv => whnf
 refine ⟨fun i => u32 (v i), ⟨rfl, rfl, rfl, rfl, rfl, rfl, rfl, rfl, trivial⟩, ?_⟩
 conv => whnf
 refine ⟨Nat, fun k l m R i => ⟨k, (148, zaH .i64 i) :: zbV [0, 147] l, (0, zDa (zxA h v i) a n) :: m, R⟩, fun i => i ≤ 8, fun i => 8 - i, ⟨0, [], [0, 1, 2, 3], Nat.zero_le _, zbW⟩, fun i hi => ?_⟩
 conv => whnf
 refine vIf (fun hc => ?_) fun hc => ?_
 ·have hi2 : i < 8 := by
   have : (i : Int) < 8 := by simpa using hc
   omega
  conv => whnf
  refine ⟨i, ⟨rfl, hi2⟩, ?_⟩
  conv => whnf
  refine zbd 8 [] (by kernel_rfl) ?_
  conv => whnf
  refine ⟨i, ⟨rfl, hi2⟩, .inr ?_⟩
  conv => whnf
  refine ⟨hi2, ?_⟩
  (repeat ((conv => whnf); first | refine zaW ?_ | refine zxW ?_ | refine znW ?_ | refine zoW ?_))
  conv => whnf
  refine ⟨i, ⟨rfl, hi2⟩, .inr ?_⟩
  conv => whnf
  refine za4 (zAy (fun j => u32 (zxA h v (i + 1) j)) rfl rfl rfl rfl rfl rfl hi2 (by rw [zzq]; exact ztw h v i)) ?_
  conv => whnf
  refine zd6 (by omega) (by omega) ?_
  conv => whnf
  exact ⟨i + 1, [], [0, 1, 2, 3], ⟨hi2, Nat.sub_lt_sub_left hi2 (Nat.lt_succ_self i)⟩, zbW⟩
 have hi8 : i = 8 := by
   have : ¬ (i : Int) < 8 := by simpa using hc
   omega
 subst hi8
 conv => whnf
 refine zdi [(0, 0), (1, 1)] [] [0, 1] (.inl rfl) ⟨.inl ?_, trivial⟩ rfl trivial ⟨rfl, rfl, trivial⟩
 rw [zmy, ← hM]
 rfl
end
end
section
open Go.RowKit
section
variable {X : List Nat} {w : World}
theorem zmB (hX : ∀ k ∈ X, k < w.heap.size) (xs : List Nat) (q : Qd) (hq : St (SlQ ByT xs q) w X) (hl : xs.length * 1 ≤ 140737488355328) : Ct Tryz.prog 67 [.slice q.1 xs.length q.2] X w (.a (.s (.p (.hd 0 xs.length)))) [zbF ByT xs 5] [.q 0 (zdd ByT xs)] := by
 have hbig := SlQ.big hq
 refine vFn (k0 := 1) (rs := [.tmp 2]) (svs := [.a (.s (.p (.hd 0 xs.length)))]) (R0 := [.sl 0 xs.length (SlF ByT xs), .h 0 fun q' _ => q' = q]) (hnQ [q]) Tryz.ntmps67 Tryz.func67 rfl rfl rfl rfl rfl zaw (by kernel_rfl) hX (fun r hr => by
  rcases List.mem_cons.1 hr with rfl | hr
  ·exact hq
  ·rcases List.mem_singleton.1 hr with rfl; exact fun _ _ => rfl) ?_
 conv => whnf
 refine zbE (zvD 1 rfl rfl rfl rfl (by kernel_rfl)) rfl rfl ?_
 conv => whnf
 refine vIf (fun h => ?_) fun h => ?_
 ·obtain rfl : xs = [] := List.eq_nil_of_length_eq_zero (hq.now.1 (Option.isNone_iff_eq_none.1 h))
  conv => whnf
  exact zaY [(0, 1)] [0] (.inr rfl) ⟨.inr ⟨rfl, rfl, fun _ => rfl⟩, trivial⟩ rfl ⟨.inr fun _ _ _ _ => zfq, trivial⟩
 ·conv => whnf
  refine zcm (zvE (T := ByT) (e := 5) rfl (by kernel_rfl) (by kernel_rfl)) rfl rfl ?_
  conv => whnf
  refine za0 (zk1 (.q 1 (zdd ByT [])) (fun _ _ _ => zfq) rfl (zyy (T := ByT) (e := 5) (xs := []) (ys := xs) (r := 1) (by_ := 1) zBg rfl rfl rfl rfl rfl ⟨by kernel_rfl, by kernel_rfl⟩ (by simp; exact hbig) (by simpa using hl) rfl rfl (.head _))) ?_
  rw [List.nil_append]
  conv => whnf
  exact zaY [(0, 2)] [0] (.inl rfl) ⟨.inl rfl, trivial⟩ rfl ⟨.inl rfl, trivial⟩
end
end
section
open Go.RowKit
section
variable {x k : Nat} {j : Int} {A : Int → Prop}
theorem zlU (hj : j = (k : Int)) (hk : k ≤ 64) (h : A ((x * 2 ^ k % 18446744073709551616 : Nat) : Int)) : 0 ≤ j ∧ ∃ z, IntKind.u64.wrap ((x : Int) * 2 ^ (min j.toNat IntKind.u64.bits)) = z ∧ A z := ⟨by omega, _, by
 rw [← znf, hj, Int.toNat_natCast, show IntKind.u64.bits = 64 from rfl, Nat.min_eq_left hk]
 norm_cast, h⟩
theorem zrU (hj : j = (k : Int)) (hk : k ≤ 64) (h : A ((x / 2 ^ k : Nat) : Int)) : 0 ≤ j ∧ ∃ z, ((x : Int)).fdiv (2 ^ (min j.toNat IntKind.u64.bits)) = z ∧ A z := ⟨by omega, _, by
 rw [zxX, hj, Int.toNat_natCast, show IntKind.u64.bits = 64 from rfl, Nat.min_eq_left hk], h⟩
theorem zDd {z z' : Int} (e : z = z') (h1 : 0 ≤ z) (h2 : z ≤ 18446744073709551615) (h : A z') : ∃ x, IntKind.u64.wrap z = x ∧ A x := ⟨z', by rw [zAq h1 h2, e], h⟩
theorem zb8 (h : A ((x % 256 : Nat) : Int)) : ∃ z, IntKind.u8.wrap (x : Int) = z ∧ A z := ⟨_, zAP x, h⟩
theorem zDe {c : Nat} (hc : j = (c : Int)) (h0 : c ≠ 0) (h : A ((x % c : Nat) : Int)) : j ≠ 0 ∧ ∃ z, ((x : Int)).tmod j = z ∧ A z := ⟨by omega, _, by
 rw [hc, Int.tmod_eq_emod_of_nonneg (by omega)]
 norm_cast, h⟩
end
def ztB (h : Nat → Nat) (n : Nat) (rest : List Nat) : MB := [(0, zDa h n rest.length), (1, ziz rest 5)]
section
variable {X : List Nat} {w : World} {h0 : Hn} {gt h h2 : Nat → Nat} {rest bs r2 : List Nat} {n : Nat} {q : Qd}
theorem ztC (hF : zkp gt h (rest ++ bs) = (h2, r2)) (hN : n + bs.length ≤ 4611686018427387904) (hrl : rest.length ≤ 64) (hbl : bs.length ≤ 100000000) (hrb : ∀ x ∈ rest, x < 256) (hbb : ∀ x ∈ bs, x < 256) (hsp : Sp X w (zad h0 [] (ztB h n rest)) [zc7 gt 2, TxQ bs q]) :
  CtG Tryz.prog 115 [.pointer (some ⟨h0.b 0, 0, none⟩), .slice q.1 bs.length q.2] X w h0 (ztB h n rest) [0] (.tup []) [(0, zCD 2 h2 ((n + bs.length : Nat) : Int) r2.length), (2, ziz r2 5)] [] := by
 refine zxd (g := 2) (k0 := 3) (bl := []) (ql := [q]) (svs := [atS 0 0, .a (.s (.p (.hd 2 bs.length)))]) (given := ztB h n rest) (Rg := [.c (zc7 gt 2), .sl 2 bs.length (TxG bs)]) (kb := [0]) Tryz.ntmps115 Tryz.func115 rfl rfl rfl zaw (by kernel_rfl) rfl rfl hsp ?_
 have hall : ∀ x ∈ rest ++ bs, x < 256 := fun x hx => (List.mem_append.1 hx).elim (hrb x) (hbb x)
 have hal : (rest ++ bs).length ≤ 140737488355328 := by rw [jQ]; omega
 conv => whnf
 refine zCR (by omega) (by show ((bs.length : Nat) : Int) ≤ _; omega) ?_
 conv => whnf
 refine ⟨((n + bs.length : Nat) : Int), by show IntKind.u64.wrap ((n : Int) + ((bs.length : Nat) : Int)) = _; rw [zAq (by omega) (by omega)]; omega, ?_⟩
 conv => whnf
 refine za0 (zqx 3 (zsC (xs := rest) (ys := bs) (r := 2) (e := 5) rfl rfl rfl rfl rfl rfl ⟨by kernel_rfl, by kernel_rfl⟩ (by rw [jQ] at hal; exact hal) rfl rfl) rfl hal hall) ?_
 conv => whnf
 refine ⟨(Nat → Nat) × List Nat, fun k l m R g => ⟨k, (4, .a (.s (.p (.hd 3 g.2.length)))) :: zbV [0] l, (0, zCD 1 g.1 ((n + bs.length : Nat) : Int) rest.length) :: m, .sl 3 g.2.length (TxG g.2) :: R.drop 1⟩, fun g => zkp gt g.1 g.2 = (h2, r2) ∧ g.2.length ≤ (rest ++ bs).length ∧ ∀ x ∈ g.2, x < 256, fun g => g.2.length, ⟨(h, rest ++ bs), [], [0, 1, 2, 3], ⟨hF, jV _, hall⟩, zbW⟩, fun g hg => ?_⟩
 obtain ⟨hh, rs⟩ := g
 obtain ⟨hf, hlen, hby⟩ : zkp gt hh rs = (h2, r2) ∧ rs.length ≤ (rest ++ bs).length ∧ ∀ x ∈ rs, x < 256 := hg
 conv => whnf
 refine vIf (fun hc => ?_) fun hc => ?_
 ·have h64 : 64 ≤ rs.length := by
   have : (64 : Int) ≤ ((rs.length : Nat) : Int) := by simpa [Sl.len] using hc
   omega
  obtain ⟨bk, hbk⟩ : ∃ bk, bk = (rs.drop 0).take (64 - 0) := ⟨_, rfl⟩
  have hbl : bk.length = 64 := by rw [hbk]; simp; omega
  have hbk2 : bk = rs.take 64 := by rw [hbk]; simp
  obtain ⟨r3, hr3⟩ : ∃ r3, r3 = (rs.drop 64).take (rs.length - 64) := ⟨_, rfl⟩
  have hr32 : r3 = rs.drop 64 := by rw [hr3, List.take_of_length_le (by rw [List.length_drop]; omega)]
  have hrl : r3.length < rs.length := by rw [hr32, List.length_drop]; omega
  conv => whnf
  refine zbd 5 [] (by kernel_rfl) ?_
  conv => whnf
  refine za3 (zk4 bk (lo := 0) (hi := 64) 0 hbk rfl (Nat.zero_le _) h64 fun h w hf => zkz rfl (by kernel_rfl) rfl rfl rfl (by have := hf.cap; omega)) ?_
  conv => whnf
  refine za4 (zaQ [0, 1] 0 rfl rfl rfl (by kernel_rfl) (fs := fun _ => []) (cs := fun _ => []) (fun h => rfl) rfl rfl (given := zBI hh ((n + bs.length : Nat) : Int) rest.length) ⟨rfl, rfl, trivial⟩ rfl rfl rfl rfl rfl rfl fun h X w L2 H => zBJ hbl (H.pick [3, 0] rfl)) ?_
  conv => whnf
  refine zcm (zk4 r3 (lo := 64) (hi := rs.length) 1 hr3 rfl h64 (jV _) fun h w hf => zhA rfl (by kernel_rfl) rfl rfl rfl h64) rfl rfl ?_
  conv => whnf
  exact ⟨(zmy gt hh bk, r3), [(3, 5), (0, 0), (1, 1)], [0, 3, 4, 5], ⟨⟨by rw [hbk2, hr32, ← zie h64]; exact hf, jU (Nat.le_of_lt hrl) hlen, fun x hx => hby x (by rw [hr32] at hx; exact List.mem_of_mem_drop hx)⟩, hrl⟩, zbW⟩
 have h64 : ¬ 64 ≤ rs.length := fun h => by
   have : ¬ (64 : Int) ≤ ((rs.length : Nat) : Int) := by simpa [Sl.len] using hc
   omega
 obtain ⟨rfl, rfl⟩ := Prod.mk.inj ((zfR h64).symm.trans hf)
 conv => whnf
 refine zak rfl rfl rfl (by kernel_rfl) (fun h X w H => zmB H.xk rs _ (zxg (H.fact 0 rfl)) (by omega)) rfl rfl rfl ?_
 conv => whnf
 exact zdi [(0, 0), (2, 4)] [] [2] (.inl rfl) ⟨.inl rfl, .inl rfl, trivial⟩ rfl trivial ⟨rfl, trivial⟩
theorem zBK (hX : ∀ k ∈ X, k < w.heap.size) : Ct Tryz.prog 114 [] X w (.a (.agg [.row 8 fun i => u32 (iv0 i), .one (.p (.v (.int .u64 0))), .one (.p (.v (.slice none 0 0)))])) [] [] := by
 refine vFn (k0 := 0) (rs := [.cell 0 150]) (svs := []) (R0 := []) (hnQ []) Tryz.ntmps114 Tryz.func114 rfl rfl rfl rfl rfl zaw (by kernel_rfl) hX (fun r hr => by cases hr) ?_
 conv => whnf
 refine ⟨fun i => u32 (iv0 i), ⟨rfl, rfl, rfl, rfl, rfl, rfl, rfl, rfl, trivial⟩, ?_⟩
 conv => whnf
 refine ⟨fun i _ => rfl, ?_⟩
 conv => whnf
 exact zaF rfl
theorem ztD (hX : ∀ k ∈ X, k < w.heap.size) (hn : n ≤ 1000000000000000000) (hrl : rest.length ≤ 64) (hq : St (TxQ rest q) w X) (hG : St (zc7 gt 2) w X) : Ct Tryz.prog 116 [.agg (ca [.row 8 fun i => u32 (h i), .one (.int .u64 ((n : Nat) : Int)), .one (.slice q.1 rest.length q.2)])] X w (.a (.agg [.key (zC9 gt h n rest)])) [] [] := by
 have hrb : ∀ x ∈ rest, x < 256 := hq.now.2.byt
 have hP : (n + 8) % 64 < 64 := Nat.mod_lt _ (by decide)
 refine vFn (k0 := 1) (rs := [.cell 2 23]) (svs := [.a (.agg [.row 8 fun i => u32 (h i), .one (.p (.v (.int .u64 ((n : Nat) : Int)))), .one (.p (.hd 0 rest.length))])]) (R0 := [.c (zc7 gt 2), .sl 0 rest.length (TxG rest)]) (hnQ [q]) Tryz.ntmps116 Tryz.func116 rfl rfl rfl rfl rfl zaw (by kernel_rfl) hX (fun r hr => by
  rcases List.mem_cons.1 hr with rfl | hr
  ·exact hG
  ·rcases List.mem_singleton.1 hr with rfl; exact hq) ?_
 conv => whnf
 refine zlU (k := 3) rfl (by decide) ?_
 conv => whnf
 have e1 : (n : Int) + 8 = ((n + 8 : Nat) : Int) := by omega
 refine zDd e1 (by omega) (by omega) ?_
 conv => whnf
 refine zDe (c := 64) rfl (by decide) ?_
 conv => whnf
 refine zd6 (by omega) (by omega) ?_
 conv => whnf
 have e2 : (64 : Int) - (((n + 8) % 64 : Nat) : Int) = ((64 - (n + 8) % 64 : Nat) : Int) := by omega
 refine zc6 e2 (by omega) (by omega) ?_
 conv => whnf
 obtain ⟨pl, hpl⟩ : ∃ pl, pl = 64 - (n + 8) % 64 := ⟨_, rfl⟩
 rw [← hpl]
 refine zcm (zxf (e := 5) pl ⟨by kernel_rfl, by kernel_rfl, by kernel_rfl⟩ rfl rfl rfl rfl rfl (c := 128) (by omega) (by decide)) rfl rfl ?_
 conv => whnf
 refine ⟨0, ⟨rfl, by omega, by simp; omega⟩, ?_⟩
 conv => whnf
 refine za4 (zBe (zq9 n) ?_ zaw rfl (by simp; omega) rfl rfl rfl rfl) ?_
 ·rw [hpl, show 64 - (n + 8) % 64 = (63 - (n + 8) % 64) + 1 by omega]
  rfl
 have hpl2 : pl = (zq9 n).length := by rw [zwh, hpl]
 have hplb : pl ≤ 64 := by omega
 clear hpl
 subst hpl2
 conv => whnf
 refine ⟨Nat × List Nat, fun k l m R g => ⟨k, (5, zaH .i64 (7 - (g.1 : Int))) :: (4, .a (.s (.p (.hd 3 g.2.length)))) :: zbV [1, 2, 3] l, (3, ziz g.2 5) :: m, R⟩, fun g => g.1 ≤ 8 ∧ g.2 = zq9 n ++ zra (n * 2 ^ 3 % 18446744073709551616) g.1, fun g => 8 - g.1, ⟨(0, zq9 n), [], [0, 1], ⟨Nat.zero_le _, by simp [zra]⟩, zbW⟩, fun g hg => ?_⟩
 obtain ⟨j, tl⟩ := g
 obtain ⟨hj8, htl⟩ : j ≤ 8 ∧ tl = zq9 n ++ zra (n * 2 ^ 3 % 18446744073709551616) j := hg
 have htll : tl.length = (zq9 n).length + j := by rw [htl, jQ, zwi]
 conv => whnf
 refine vIf (fun hc => ?_) fun hc => ?_
 ·have hj : j < 8 := by
   have : (0 : Int) ≤ 7 - (j : Int) := by simpa using hc
   omega
  conv => whnf
  have e3 : (8 : Int) * (7 - (j : Int)) = ((8 * (7 - j) : Nat) : Int) := by omega
  refine zc6 e3 (by show (-9223372036854775808 : Int) ≤ 8 * (7 - (j : Int)); omega) (by show 8 * (7 - (j : Int)) ≤ _; omega) ?_
  conv => whnf
  refine zrU (k := 8 * (7 - j)) rfl (by omega) ?_
  conv => whnf
  refine zb8 ?_
  conv => whnf
  refine za0 (zyx (b := n * 2 ^ 3 % 18446744073709551616 / 2 ^ (8 * (7 - j)) % 256) (zq9 n ++ zra (n * 2 ^ 3 % 18446744073709551616) (j + 1)) (by rw [zty, htl, List.append_assoc]) rfl rfl rfl rfl rfl rfl ⟨by kernel_rfl, by kernel_rfl⟩ (by show tl.length + 1 ≤ _; omega) rfl rfl rfl) ?_
  conv => whnf
  have e4 : (7 : Int) - (j : Int) - 1 = 7 - ((j + 1 : Nat) : Int) := by omega
  refine zc6 e4 (by show (-9223372036854775808 : Int) ≤ 7 - (j : Int) - 1; omega) (by show 7 - (j : Int) - 1 ≤ _; omega) ?_
  conv => whnf
  exact ⟨(j + 1, zq9 n ++ zra (n * 2 ^ 3 % 18446744073709551616) (j + 1)), [(1, 1), (2, 2), (3, 5)], [0, 1], ⟨⟨hj, rfl⟩, Nat.sub_lt_sub_left hj (Nat.lt_succ_self j)⟩, zbW⟩
 have hj8' : j = 8 := by
   have : ¬ (0 : Int) ≤ 7 - (j : Int) := by simpa using hc
   omega
 subst hj8'
 obtain ⟨⟨h2, r2⟩, hF⟩ : ∃ hr, zkp gt h (rest ++ tl) = hr := ⟨_, rfl⟩
 have hA : tl.length ≤ 72 := by omega
 have htb : ∀ x ∈ tl, x < 256 := fun x hx => by
  rw [htl] at hx
  exact (List.mem_append.1 hx).elim (ztx n x) (ztz _ _ x)
 conv => whnf
 refine zak rfl rfl rfl (by kernel_rfl) (fun h X w H => zmB H.xk rest _ (zxg (H.fact 1 rfl)) (by omega)) rfl rfl rfl ?_
 conv => whnf
 refine za0 (zhW (xs := tl) 3 rfl (by omega) htb rfl (zaQ [1, 4] 1 rfl rfl rfl (by kernel_rfl) (fs := fun _ => []) (cs := fun _ => []) (fun h => rfl) rfl rfl (given := ztB h n rest) ⟨rfl, rfl, trivial⟩ rfl rfl rfl rfl rfl rfl fun h X w L2 H => ztC (bs := tl) hF (by omega) hrl (by omega) hrb htb (H.pick [2, 0] rfl))) ?_
 conv => whnf
 refine ⟨Nat, fun k l m R i => ⟨k, (40, zaH .i64 i) :: zbV [2, 39] l, (2, .blk [.key (zgC h2 i)] 23) :: m, []⟩, fun i => i ≤ 8, fun i => 8 - i, ⟨0, [], [], Nat.zero_le _, zbW⟩, fun i hi => ?_⟩
 conv => whnf
 refine vIf (fun hc => ?_) fun hc => ?_
 ·have hi2 : i < 8 := by
   have : (i : Int) < 8 := by simpa using hc
   omega
  conv => whnf
  refine ⟨i, ⟨rfl, hi2⟩, ?_⟩
  conv => whnf
  have e5 : (4 : Int) * (i : Int) = ((4 * i : Nat) : Int) := by omega
  refine zc6 e5 (by omega) (by omega) ?_
  conv => whnf
  refine zCu (slS 2 (4 * i) (32 - 4 * i) (32 - 4 * i)) (zBf rfl (by kernel_rfl) rfl rfl rfl (by omega)) rfl rfl ?_
  conv => whnf
  refine zrW (k := 24) rfl ?_
  conv => whnf
  refine zb8 ?_
  conv => whnf
  refine zrW (k := 16) rfl ?_
  conv => whnf
  refine zb8 ?_
  conv => whnf
  refine zrW (k := 8) rfl ?_
  conv => whnf
  refine zb8 ?_
  conv => whnf
  refine zb8 ?_
  conv => whnf
  refine za4 (zvC (ys := zqP (h2 i)) (zgC h2 (i + 1)) (zif h2 i).symm rfl rfl (fun _ => rfl) rfl rfl rfl rfl (zgo h2 i).symm (by kernel_rfl) (by omega) (by omega)) ?_
  conv => whnf
  refine zd6 (by omega) (by omega) ?_
  conv => whnf
  exact ⟨i + 1, [], [], ⟨hi2, Nat.sub_lt_sub_left hi2 (Nat.lt_succ_self i)⟩, zbW⟩
 have hi8 : i = 8 := by
   have : ¬ (i : Int) < 8 := by simpa using hc
   omega
 subst hi8
 conv => whnf
 refine zaF ?_
 rw [zC9, show zBH n = tl from htl.symm, hF]
 rfl
theorem ztE {ps : List (List Nat)} (hX : ∀ k ∈ X, k < w.heap.size) (hp : ∀ p ∈ ps, p.length ≤ 100000000) (hP : ps.length ≤ 1000000) (hq : St (SlQ zax ps q) w X) (hG : St (zc7 gt 2) w X) : Ct Tryz.prog 91 [.slice q.1 ps.length q.2] X w (.a (.agg [.key (zwg gt ps)])) [] [] := by
 refine vFn (k0 := 1) (rs := [.cell 2 23]) (svs := [.a (.s (.p (.hd 0 ps.length)))]) (R0 := [.c (zc7 gt 2), .sl 0 ps.length (SlF zax ps)]) (hnQ [q]) Tryz.ntmps91 Tryz.func91 rfl rfl rfl rfl rfl zaw (by kernel_rfl) hX (fun r hr => by
  rcases List.mem_cons.1 hr with rfl | hr
  ·exact hG
  ·rcases List.mem_singleton.1 hr with rfl; exact hq) ?_
 have hpb : ∀ p ∈ ps, ∀ x ∈ p, x < 256 := fun p hpm => by
  obtain ⟨mm, hm⟩ := zqv zjN hq
  obtain ⟨i, hi⟩ := List.mem_iff_getElem?.1 hpm
  obtain ⟨ad, _, _, h2⟩ := LiF.get hm hi
  exact h2.now.byt
 conv => whnf
 refine zak rfl rfl rfl (by kernel_rfl) (fun h X w H => zBK H.xk) rfl rfl rfl ?_
 conv => whnf
 refine ⟨fun i _ => rfl, ?_⟩
 conv => whnf
 refine ⟨Nat × (Nat → Nat) × Nat × List Nat, fun k l m R g => ⟨4, (9, zaH .i64 g.1) :: zbV [2, 3, 7, 8] l, (2, zCD 3 g.2.1 ((g.2.2.1 : Nat) : Int) g.2.2.2.length) :: (3, ziz g.2.2.2 5) :: m, R⟩, fun g => g.1 ≤ ps.length ∧ g.2 = zfS gt (ps.take g.1) ∧ g.2.2.1 ≤ g.1 * 100000000 ∧ g.2.2.2.length < 64 ∧ ∀ x ∈ g.2.2.2, x < 256, fun g => ps.length - g.1, ⟨(0, iv0, 0, []), [], [0, 1], ⟨Nat.zero_le _, rfl, jV _, by simp, by simp⟩, zbW⟩, fun g hg => ?_⟩
 obtain ⟨i, h, n, rest⟩ := g
 obtain ⟨hi, hS, hn, hrl, hrb⟩ : i ≤ ps.length ∧ (h, n, rest) = zfS gt (ps.take i) ∧ n ≤ i * 100000000 ∧ rest.length < 64 ∧ ∀ x ∈ rest, x < 256 := hg
 conv => whnf
 refine vIf (fun hc => ?_) fun hc => ?_
 ·have hi2 : i < ps.length := by
   have : (i : Int) < ((ps.length : Nat) : Int) := by simpa [Sl.len] using hc
   omega
  obtain ⟨p, hpi⟩ : ∃ p, ps[i]? = some p := ⟨_, jP hi2⟩
  have hpl := hp p (List.mem_of_getElem? hpi)
  obtain ⟨⟨h2, r2⟩, hF⟩ : ∃ hr, zkp gt h (rest ++ p) = hr := ⟨_, rfl⟩
  conv => whnf
  refine ⟨i, ⟨rfl, hi2, hi2⟩, ?_⟩
  conv => whnf
  refine zcm (zBh (x := p) 1 hpi rfl rfl rfl (by kernel_rfl)) rfl rfl ?_
  conv => whnf
  refine za0 (zaQ [2, 3] 1 rfl rfl rfl (by kernel_rfl) (fs := fun _ => []) (cs := fun _ => []) (fun h => rfl) rfl rfl (given := ztB h n rest) ⟨rfl, rfl, trivial⟩ rfl rfl rfl rfl rfl rfl fun h X w L2 H => ztC hF (by omega) (by omega) hpl hrb (hpb p (List.mem_of_getElem? hpi)) (H.pick [1, 0] rfl)) ?_
  conv => whnf
  refine zd6 (by omega) (by omega) ?_
  conv => whnf
  have h3 : (h2, n + p.length, r2) = zfS gt (ps.take (i + 1)) := by
   rw [znV hpi, ← hS, zzr]
   show _ = ((zkp gt h (rest ++ p)).1, n + p.length, (zkp gt h (rest ++ p)).2)
   rw [hF]
  have h4 := zpP gt _ h (rest ++ p) (jV _)
  have h5 := zmz gt _ h (rest ++ p) (jV _) fun x hx => (List.mem_append.1 hx).elim (hrb x) (hpb p (List.mem_of_getElem? hpi) x)
  rw [hF] at h4 h5
  exact ⟨(i + 1, h2, n + p.length, r2), [(0, 0), (1, 1), (2, 2), (3, 5)], [1, 2], ⟨⟨hi2, h3, by show n + p.length ≤ (i + 1) * 100000000; omega, h4, h5⟩, Nat.sub_lt_sub_left hi2 (Nat.lt_succ_self i)⟩, zbW⟩
 have hi8 : i = ps.length := by
   have : ¬ (i : Int) < ((ps.length : Nat) : Int) := by simpa [Sl.len] using hc
   omega
 subst hi8
 conv => whnf
 refine za4 (zhW (xs := rest) 3 rfl (by omega) hrb rfl (zaI (rs := []) (Rs := []) (zaj (rs := []) (Rs := []) rfl rfl rfl (by kernel_rfl) rfl fun h X w H => ztD (n := n) (rest := rest) H.xk (by omega) (by omega) (H.fact 0 rfl) (H.fact 1 rfl)) rfl rfl)) ?_
 conv => whnf
 refine zaF ?_
 rw [zwg, ← List.take_length (l := ps), ← hS]
 rfl
end
end
section
open Go.RowKit
theorem znX {F G : Nat → Nat} {v : Nat} (h : ∀ i, i < 5 → F i = G i) (hF : za5 F v) : za5 G v := ⟨fun i hi => by rw [← h i hi]; exact hF.1 i hi, by rw [← zmo F G 5 h]; exact hF.2⟩
theorem zgD {F G : Nat → Nat} {v : Nat} (h : za5 G v) : za5 (swN 1 5 F G) v := znX (fun i hi => by rw [swN, if_pos hi]; rfl) h
theorem zee {F G : Nat → Nat} {v : Nat} (h : za5 F v) : za5 (swN 0 5 F G) v := znX (fun i hi => by rw [swN, if_pos hi]; rfl) h
def zgU (b : Nat) (p : Pt × Pt) : Pt × Pt := if b = 1 then (p.2, p.1) else p
theorem ztF (u : Nat) (k : Nat → Nat) (n : Nat) : zgU (zeX k n) (zeH u k (n + 1)) = (ztg (zgU (zeX k n) (zeH u k n)).1, zpJ u (zgU (zeX k n) (zeH u k n)).1 (zgU (zeX k n) (zeH u k n)).2) := by
 rw [show zeH u k (n + 1) = ziN u (zeX k n) (zeH u k n).1 (zeH u k n).2 from rfl]
 unfold ziN zgU
 rcases zgm k n with h | h <;> simp [h]
def zpS (k : Nat → Nat) : Nat → Nat
 | 0 => 0
 | n + 1 => zeX k n
theorem zih (k : Nat → Nat) : ∀ n, zpS k n = 0 ∨ zpS k n = 1
 | 0 => .inl rfl
 | n + 1 => zgm k n
theorem zzt {p : Pt × Pt} (b : Nat) (h : zgT p.1 ∧ zgT p.2) : zgT (zgU b p).1 ∧ zgT (zgU b p).2 := by unfold zgU; split; exact ⟨h.2, h.1⟩; exact h
def znY (a b : Nat) : Nat := if a = b then 0 else 1
theorem zzu (a b : Nat) : znY a b = 0 ∨ znY a b = 1 := by unfold znY; split; exact .inl rfl; exact .inr rfl
structure Fit4 (X1 Z1 X2 Z2 : Nat → Nat) (p : Pt × Pt) : Prop where
 a : za5 X1 p.1.x
 b : za5 Z1 p.1.z
 c : za5 X2 p.2.x
 d : za5 Z2 p.2.z
theorem ztG {X1 Z1 X2 Z2 : Nat → Nat} {p : Pt × Pt} {a b : Nat} (ha : a = 0 ∨ a = 1) (hb : b = 0 ∨ b = 1) (h : Fit4 X1 Z1 X2 Z2 (zgU a p)) : Fit4 (swN (znY a b) 5 X1 X2) (swN (znY a b) 5 Z1 Z2) (swN (znY a b) 5 X2 X1) (swN (znY a b) 5 Z2 Z1) (zgU b p) := by
 rcases ha with rfl | rfl <;> rcases hb with rfl | rfl
 ·exact ⟨zee h.a, zee h.b, zee h.c, zee h.d⟩
 ·exact ⟨zgD h.c, zgD h.d, zgD h.a, zgD h.b⟩
 ·exact ⟨zgD h.c, zgD h.d, zgD h.a, zgD h.b⟩
 ·exact ⟨zee h.a, zee h.b, zee h.c, zee h.d⟩
theorem zwj {X1 Z1 X2 Z2 U : Nat → Nat} {p : Pt × Pt} {u : Nat} (h : Fit4 X1 Z1 X2 Z2 p) (hU : za5 U u) (hp : zgT p.1 ∧ zgT p.2) : Fit4 (sLX X1 Z1) (sLZ X1 Z1) (sHX X1 Z1 X2 Z2) (sHZ X1 Z1 X2 Z2 U) (ztg p.1, zpJ u p.1 p.2) :=
 ⟨zy3 h.a h.b hp.1, zy4 h.a h.b hp.1, zy5 h.a h.b h.c h.d hp.1 hp.2, zy6 h.a h.b h.c h.d hp.1 hp.2 hU⟩
theorem zzv (u : Nat → Nat) (hu : ∀ i, i < 32 → u i < 256) : za5 (ofN u) (zmY u) := ⟨zBx u, by unfold zmY; rw [Nat.mod_mod]; exact zy2 u hu⟩
theorem wsm {y : Nat} (h : y < 256) : IntKind.u64.wrap ((y : Nat) : Int) = ((y : Nat) : Int) := zAq (by omega) (by omega)
section
variable {x k : Nat} {j : Int} {A : Int → Prop}
theorem zrG {K : IntKind} (hj : j = (k : Int)) (hk : k ≤ K.bits) (h : A ((x / 2 ^ k : Nat) : Int)) : 0 ≤ j ∧ ∃ z, ((x : Int)).fdiv (2 ^ (min j.toNat K.bits)) = z ∧ A z := ⟨by omega, _, by
 rw [zxX, hj, Int.toNat_natCast, Nat.min_eq_left hk], h⟩
theorem z7 {m : Nat} (h : A ((m % 8 : Nat) : Int)) : ∃ z, IntKind.i64.wrap ((BitVec.ofInt IntKind.i64.bits (m : Int) &&& BitVec.ofInt IntKind.i64.bits 7).toNat : Nat) = z ∧ A z := ⟨_, by
 have e : (BitVec.ofInt 64 7).toNat = 7 := rfl
 rw [show IntKind.i64.bits = 64 from rfl, BitVec.toNat_and, e, BitVec.toNat_ofInt, Nat.and_two_pow_sub_one_eq_mod _ 3]
 have : (((m : Int) % ((2 ^ 64 : Nat) : Int)).toNat % 2 ^ 3) = m % 8 := by omega
 rw [this]
 exact zw0 (by omega) (by omega), h⟩
end
section
variable {X : List Nat} {w : World} {kk uu : List Nat}
theorem zzw (hX : ∀ k ∈ X, k < w.heap.size) (hk : ∀ x ∈ kk, x < 256) (hu : ∀ x ∈ uu, x < 256) : Ct Tryz.prog 103 [.agg (ca [.key kk]), .agg (ca [.key uu])] X w (.a (.agg [.key (zqJ (za2 (zdO (fun i => kk.getD i 0) (zmY fun i => uu.getD i 0))))])) [] [] := by
 obtain ⟨K, hK⟩ : ∃ K : Nat → Nat, K = zbf fun i => kk.getD i 0 := ⟨_, rfl⟩
 obtain ⟨u, hue⟩ : ∃ u : Nat, u = zmY fun i => uu.getD i 0 := ⟨_, rfl⟩
 have huf : za5 (ofN fun i => uu.getD i 0) u := by rw [hue]; exact zzv _ fun i _ => zcW hu i
 have hup : u < pN := by rw [hue]; exact zzj _
 have hKb : ∀ i, i < 32 → K i < 256 := fun i hi => by
  rw [hK]
  have h0 := zcW hk 0
  have h1 := zcW hk 31
  have h2 := zcW hk i
  unfold zbf
  dsimp only
  split
  ·omega
  ·split <;> omega
 have hKk : ∀ i, i < 32 → (zi5 kk).getD i 0 = K i := fun i hi => by rw [zi5, zfb _ i hi, hK]
 refine vFn (k0 := 0) (rs := [.cell 4 23]) (svs := [.a (.agg [.key kk]), .a (.agg [.key uu])]) (R0 := []) (hnQ []) Tryz.ntmps103 Tryz.func103 rfl rfl rfl rfl rfl zaw (by kernel_rfl) hX (fun r hr => by cases hr) ?_
 conv => whnf
 refine zak rfl rfl rfl (by kernel_rfl) (fun h X w H => zwd H.xk hk) rfl rfl rfl ?_
 conv => whnf
 refine za4 (zsK (cs0 := [.one (.int .i64 0)]) 3 rfl (fun _ => rfl) rfl (zaI (rs := []) (Rs := []) (zaj (rs := []) (Rs := []) rfl rfl rfl (by kernel_rfl) rfl fun h X w H => zy7 H.xk hu) rfl rfl)) ?_
 conv => whnf
 refine ⟨fun _ _ => rfl, ?_⟩
 conv => whnf
 refine zbd 8 [1005] (by kernel_rfl) ?_
 conv => whnf
 refine ⟨uw (zmX 1), ⟨rfl, rfl, rfl, rfl, rfl, trivial⟩, ?_⟩
 conv => whnf
 refine ⟨uw (zmX 1), ⟨rfl, rfl, rfl, rfl, rfl, trivial⟩, ?_⟩
 conv => whnf
 refine zfE rfl (zi0 (z := [.row 5 (uw fun _ => 0), .row 5 (uw fun _ => 0)]) (fun hn => by kernel_rfl) rfl rfl) ?_
 conv => whnf
 refine ⟨fun _ _ => rfl, fun _ _ => rfl, ?_⟩
 conv => whnf
 refine ⟨fun _ _ => rfl, fun _ _ => rfl, ?_⟩
 conv => whnf
 refine ⟨Nat × (Nat → Nat) × (Nat → Nat) × (Nat → Nat) × (Nat → Nat), fun k l m R g => ⟨k, (28, zaH .i64 g.1) :: (10, zaH .u64 (zpS K g.1)) :: zbV [2, 4, 5, 7, 8, 9] l, (6, ptB g.2.1 g.2.2.1) :: (7, ptB g.2.2.2.1 g.2.2.2.2) :: m, R⟩, fun g => g.1 ≤ 255 ∧ Fit4 g.2.1 g.2.2.1 g.2.2.2.1 g.2.2.2.2 (zgU (zpS K g.1) (zeH u K g.1)), fun g => 255 - g.1, ⟨(0, zmX 1, fun _ => 0, ofN fun i => uu.getD i 0, zmX 1), [], [0, 1], ⟨Nat.zero_le _, zha (by decide), ?_, huf, zha (by decide)⟩, zbW⟩, fun g hg => ?_⟩
 ·exact znX (F := zmX 0) (fun i _ => by unfold zmX; split <;> rfl) (zha (by decide))
 obtain ⟨i, X1, Z1, X2, Z2⟩ := g
 obtain ⟨hi, hfit⟩ : i ≤ 255 ∧ Fit4 X1 Z1 X2 Z2 (zgU (zpS K i) (zeH u K i)) := hg
 conv => whnf
 refine vIf (fun hc => ?_) fun hc => ?_
 ·have hi2 : i < 255 := by
   have : (i : Int) < 255 := of_decide_eq_true hc
   omega
  have hf2 := ztG (zih K i) (zgm K i) hfit
  have hf3 := zwj hf2 huf (zzt (zeX K i) (zpK u hup K i))
  rw [← ztF] at hf3
  conv => whnf
  have e1 : (254 : Int) - (i : Int) = ((254 - i : Nat) : Int) := by omega
  refine zc6 e1 (by show (-9223372036854775808 : Int) ≤ 254 - (i : Int); omega) (by show 254 - (i : Int) ≤ _; omega) ?_
  conv => whnf
  refine zrG (k := 3) rfl (by decide) ?_
  conv => whnf
  refine ⟨(254 - i) / 2 ^ 3, ⟨rfl, by omega⟩, .inr ?_⟩
  conv => whnf
  refine ⟨by omega, ?_⟩
  conv => whnf
  refine z7 ?_
  conv => whnf
  refine zrG (K := .u8) (k := (254 - i) % 8) rfl (by show _ ≤ 8; omega) ?_
  conv => whnf
  have hb : (zi5 kk).getD ((254 - i) / 2 ^ 3) 0 = K ((254 - i) / 2 ^ 3) := hKk _ (by omega)
  have hb2 : K ((254 - i) / 2 ^ 3) < 256 := hKb _ (by omega)
  have hb3 : K ((254 - i) / 2 ^ 3) / 2 ^ ((254 - i) % 8) < 256 := Nat.lt_of_le_of_lt (Nat.div_le_self _ _) hb2
  refine ⟨((K ((254 - i) / 2 ^ 3) / 2 ^ ((254 - i) % 8) : Nat) : Int), by rw [hb]; exact wsm hb3, ?_⟩
  conv => whnf
  refine zC5 (x := K ((254 - i) / 2 ^ 3) / 2 ^ ((254 - i) % 8)) (y := 1) (by omega) (by decide) ?_
  have e2 : K ((254 - i) / 2 ^ 3) / 2 ^ ((254 - i) % 8) &&& 1 = zeX K i := by rw [Nat.and_one_is_mod]; rfl
  rw [e2]
  conv => whnf
  refine ⟨((znY (zpS K i) (zeX K i) : Nat) : Int), ?_, ?_⟩
  ·rcases zih K i with h | h <;> rcases zgm K i with h' | h' <;> rw [h, h'] <;> decide
  conv => whnf
  refine za4 (zaQ [6, 7] 0 rfl rfl rfl (by kernel_rfl) (fs := fun _ => []) (cs := fun _ => []) (fun h => rfl) rfl rfl (given := zAz X1 Z1 X2 Z2) ⟨rfl, rfl, trivial⟩ rfl rfl rfl rfl rfl rfl fun h X w L2 H => ztm (zzu _ _) hfit.a.1 hfit.b.1 hfit.c.1 hfit.d.1 (H.pick [] rfl)) ?_
  conv => whnf
  refine za4 (zaQ [4, 6, 7, 5, 3] 0 rfl rfl rfl (by kernel_rfl) (fs := fun _ => []) (cs := fun h => ziw h [.at_ 4 0, .at_ 6 0, .at_ 7 0, .at_ 5 0]) (fun h => rfl) rfl rfl (given := ztn (swN (znY (zpS K i) (zeX K i)) 5 X1 X2) (swN (znY (zpS K i) (zeX K i)) 5 Z1 Z2) (swN (znY (zpS K i) (zeX K i)) 5 X2 X1) (swN (znY (zpS K i) (zeX K i)) 5 Z2 Z1) (ofN fun i => uu.getD i 0)) ⟨rfl, rfl, rfl, rfl, rfl, trivial⟩ rfl rfl rfl rfl rfl rfl fun h X w L2 H => zzb hf2.a.1 hf2.b.1 hf2.c.1 hf2.d.1 huf.1 (H.pick [0] rfl)) ?_
  conv => whnf
  refine zd6 (by omega) (by omega) ?_
  conv => whnf
  exact ⟨(i + 1, _, _, _, _), [], [0, 1], ⟨⟨hi2, hf3⟩, Nat.sub_lt_sub_left hi2 (Nat.lt_succ_self i)⟩, zbW⟩
 have hi5 : i = 255 := by
   have : ¬ (i : Int) < 255 := of_decide_eq_false hc
   omega
 subst hi5
 have hf2 := ztG (b := 0) (zih K 255) (.inl rfl) hfit
 obtain ⟨Y1, hY1⟩ : ∃ Y, Y = swN (znY (zpS K 255) 0) 5 X1 X2 := ⟨_, rfl⟩
 obtain ⟨Y2, hY2⟩ : ∃ Y, Y = swN (znY (zpS K 255) 0) 5 Z1 Z2 := ⟨_, rfl⟩
 have ew : znY (zpS K 255) 0 = zpS K 255 := by rcases zih K 255 with h | h <;> rw [h] <;> rfl
 have f1 : za5 Y1 (zeH u K 255).1.x := by rw [hY1]; exact hf2.a
 have f2 : za5 Y2 (zeH u K 255).1.z := by rw [hY2]; exact hf2.b
 have f3 := zid f1 (zpI f2)
 have o3 : okF (zs9 Y2) 5 := (zpI f2).1
 conv => whnf
 refine za4 (zaQ [6, 7] 0 rfl rfl rfl (by kernel_rfl) (fs := fun _ => []) (cs := fun _ => []) (fun h => rfl) rfl rfl (given := zAz X1 Z1 X2 Z2) ⟨rfl, rfl, trivial⟩ rfl rfl rfl rfl rfl rfl fun h X w L2 H => ztm (zih K 255) hfit.a.1 hfit.b.1 hfit.c.1 hfit.d.1 (H.pick [] rfl)) ?_
 rw [← ew, ← hY1, ← hY2]
 conv => whnf
 refine zbd 17 [1015] (by kernel_rfl) ?_
 conv => whnf
 refine za3 (zaj (rs := []) (Rs := []) rfl rfl rfl (by kernel_rfl) rfl fun h X w H => znQ H.xk f2.1) ?_
 conv => whnf
 refine za3 (zaj (rs := []) (Rs := []) rfl rfl rfl (by kernel_rfl) rfl fun h X w H => zgn H.xk (H.fact 0 rfl)) ?_
 conv => whnf
 refine za3 (zaj (rs := []) (Rs := []) rfl rfl rfl (by kernel_rfl) rfl fun h X w H => zfc f1.1 o3 H.xk (H.fact 0 rfl)) ?_
 conv => whnf
 refine za3 (zaj (rs := []) (Rs := []) rfl rfl rfl (by kernel_rfl) rfl fun h X w H => zqK H.xk f3.1) ?_
 conv => whnf
 refine zfE rfl (zi0 (z := [.key []]) (fun hn => by kernel_rfl) rfl rfl) ?_
 conv => whnf
 refine zak rfl rfl rfl (by kernel_rfl) (fun h X w H => zgn (F := fun _ => 0) H.xk (H.fact 0 rfl)) rfl rfl rfl ?_
 conv => whnf
 refine zaF ?_
 rw [show zqJ (za2 (zdO (fun i => kk.getD i 0) (zmY fun i => uu.getD i 0))) = zqJ (zdh (zbX Y1 (zs9 Y2))) from List.map_congr_left fun i _ => ?_]
 ·rfl
 ·have h1 := znL f3.1 (f3.2.trans (Nat.mod_eq_of_lt (zgk _ _))) i
  rw [zdO, ← hue, ← hK]
  omega
end
end
section
open Go.RowKit
theorem BT : ByteT Tryz.prog 72 5 := ⟨Tryz.underlying72, Tryz.underlying5, by kernel_rfl⟩
def zBL (w : World) (l : List Nat) (e : Ending) (w' : World) : Prop := ∃ v, e = .returned v ∧ Own w' w.heap.size 5 v l ∧ Below w.heap.size w w'
theorem ztH (w : World) (e : TypeId) : Own (w.alloc (.cells #[] e)) w.heap.size e (.slice (some ⟨w.heap.size, 0, none⟩) 0 0) [] :=
 ⟨rfl, .inr ⟨w.heap.size, 0, #[], rfl, jV _, heap_alloc_new w _, jV _, Nat.zero_le _, rfl, rfl⟩⟩
def beK (w n k : Nat) : List Nat := (List.range k).map fun i => n / 2 ^ (8 * (w - 1 - i)) % 256
def beL (w n : Nat) : List Nat := beK w n w
theorem zzx (w n k : Nat) : (beK w n k).length = k := by unfold beK; simp
theorem zwk (w n k : Nat) : beK w n (k + 1) = beK w n k ++ [n / 2 ^ (8 * (w - 1 - k)) % 256] := by unfold beK; rw [List.range_succ, List.map_append]; rfl
theorem ztI (w n : Nat) : ∀ x ∈ beL w n, x < 256 := fun x hx => by
 unfold beL beK at hx
 obtain ⟨i, _, rfl⟩ := List.mem_map.1 hx
 exact Nat.mod_lt _ (by omega)
attribute [local irreducible] beK
theorem zzy (w : World) (e : TypeId) (x : Nat) : Txt (w.alloc (.cells #[bv x] e)) (w.heap.size + 1) (some ⟨w.heap.size, 0, none⟩) 1 1 [x] :=
 ⟨rfl, (fun e => by cases e), fun _ => ⟨_, rfl, Nat.lt_succ_self _, fun i y hy => by
  cases i with
  | zero =>
   simp only [jD, Option.some.injEq] at hy
   subst hy
   rw [zbS, cell_of_row _ _ _ _ _ _ (heap_alloc_new w (.cells #[bv x] e))]
   rfl
  | succ i => simp at hy⟩⟩
end
section
open Go.RowKit
def zgp (key : List Nat) (by_ : Nat) : List Nat := (List.range 64).map fun i => (key.getD i 0 % 256) ^^^ (by_ % 256)
def zrb (gt : Nat → Nat) (key : List Nat) (ps : List (List Nat)) : List Nat := zwg gt [zgp key 92, zwg gt (zgp key 54 :: ps)]
theorem zef (key : List Nat) (by_ : Nat) : (zgp key by_).length = 64 := by simp [zgp]
theorem zqR (key : List Nat) (by_ : Nat) : ∀ z ∈ zgp key by_, z < 256 := fun z hz => by
 obtain ⟨i, _, rfl⟩ := List.mem_map.1 hz
 exact Nat.xor_lt_two_pow (n := 8) (by omega) (by omega)
theorem zhd (gt : Nat → Nat) (key : List Nat) (ps : List (List Nat)) : (zrb gt key ps).length = 32 := zj7 _ _
theorem zmC (gt : Nat → Nat) (key : List Nat) (ps : List (List Nat)) : ∀ z ∈ zrb gt key ps, z < 256 := zig _ _
theorem zwm (n : Nat) (k : List Nat) (h : k.length ≤ n) : (List.range n).map (fun i => bv (k.getD i 0)) = ((List.range n).map fun _ => bv 0).take 0 ++ k.map bv ++ ((List.range n).map fun _ => bv 0).drop (0 + k.length) := by
 apply List.ext_getElem?
 intro i
 rw [jI, List.nil_append, Nat.zero_add]
 by_cases hi : i < n
 ·rcases Nat.lt_or_ge i k.length with h1 | h1
  ·rw [List.getElem?_append_left (by simpa using h1)]
   simp [hi, jR, jP h1]
  ·rw [List.getElem?_append_right (by simpa using h1), List.getElem?_drop]
   simp [hi, jR, List.getElem?_eq_none h1, show k.length + (i - k.length) = i by omega]
 ·rw [List.getElem?_eq_none (by simp; omega), List.getElem?_eq_none (by simp; omega)]
def zpT (key : List Nat) (by_ i j : Nat) : Nat := if j < i then (key.getD j 0 % 256) ^^^ (by_ % 256) else key.getD j 0
theorem ztJ (key : List Nat) (by_ i j : Nat) : upd (fun j => bv (zpT key by_ i j)) i (bv ((key.getD i 0 % 256) ^^^ (by_ % 256))) j = bv (zpT key by_ (i + 1) j) := by
 unfold upd zpT
 by_cases h : j = i
 ·subst h; simp
 ·rw [if_neg h]
  show bv (if j < i then _ else _) = _
  by_cases h2 : j < i
  ·rw [if_pos h2, if_pos (by omega)]
  ·rw [if_neg h2, if_neg (by omega)]
theorem zzz (key : List Nat) (by_ i : Nat) : zpT key by_ i i = key.getD i 0 := by simp [zpT]
theorem zzA (key : List Nat) (by_ : Nat) : cl [.row 64 (fun j => bv (zpT key by_ 64 j))] = (zgp key by_).map bv := by
 simp only [cl, Chunk.cells, List.append_nil, zgp, List.map_map]
 apply List.map_congr_left
 intro i hi
 simp only [Function.comp, zpT, if_pos (List.mem_range.1 hi)]
def exT (gt : Nat → Nat) (k info : List Nat) : Nat → List Nat × List Nat
 | 0 => ([], [])
 | j + 1 => (zrb gt k [(exT gt k info j).1, info, [j + 1]], (exT gt k info j).2 ++ zrb gt k [(exT gt k info j).1, info, [j + 1]])
def zxB (gt : Nat → Nat) (k info : List Nat) (n : Nat) : List Nat := (exT gt k info ((n + 31) / 32)).2.take n
theorem zwn {gt : Nat → Nat} {k info last out : List Nat} {j : Nat} (h : exT gt k info j = (last, out)) : exT gt k info (j + 1) = (zrb gt k [last, info, [j + 1]], out ++ zrb gt k [last, info, [j + 1]]) := by rw [exT, h]
theorem zj8 (gt : Nat → Nat) (k info : List Nat) : ∀ j, (exT gt k info j).2.length = 32 * j ∧ (exT gt k info j).1.length ≤ 32 ∧ (∀ x ∈ (exT gt k info j).2, x < 256)
 | 0 => ⟨rfl, by show 0 ≤ 32; decide, fun x hx => by cases hx⟩
 | j + 1 => by
  obtain ⟨h1, _, h3⟩ := zj8 gt k info j
  refine ⟨?_, ?_, ?_⟩
  ·rw [exT, jQ, h1, zhd]; omega
  ·rw [exT]; show (zrb _ _ _).length ≤ 32; rw [zhd]; omega
  ·rw [exT]
   intro x hx
   rcases List.mem_append.1 hx with h | h
   ·exact h3 x h
   ·exact zmC _ _ _ x h
theorem zj9 (gt : Nat → Nat) (k info : List Nat) (n : Nat) : (zxB gt k info n).length = n := by
 unfold zxB
 rw [List.length_take, (zj8 gt k info _).1]
 omega
theorem ztK (gt : Nat → Nat) (k info : List Nat) (n : Nat) : ∀ x ∈ zxB gt k info n, x < 256 := fun x hx => (zj8 gt k info _).2.2 x (List.mem_of_mem_take hx)
end
section
open Go.RowKit
theorem zx8 {x y : Nat} {A : Int → Prop} (h : A (((x % 256) ^^^ (y % 256) : Nat) : Int)) : ∃ z, IntKind.u8.wrap ((BitVec.ofInt IntKind.u8.bits (x : Int) ^^^ BitVec.ofInt IntKind.u8.bits (y : Int)).toNat : Nat) = z ∧ A z := ⟨_, zDP x y, h⟩
section
variable {X : List Nat} {w : World} {gt : Nat → Nat} {key : List Nat} {ps : List (List Nat)} {q q2 : Qd}
theorem ztL (by_ : Nat) (h64 : key.length ≤ 64) (hX : ∀ k ∈ X, k < w.heap.size) (hq : St (TxQ key q) w X) : Ct Tryz.prog 126 [.slice q.1 key.length q.2, bv by_] X w (slS 0 0 64 64) [.blk [.row 64 fun j => bv (zpT key by_ 64 j)] 5] [] := by
 refine vFn (k0 := 1) (rs := [.tmp 4]) (svs := [.a (.s (.p (.hd 0 key.length))), zix (bv by_)]) (R0 := [.sl 0 key.length (TxG key)]) (hnQ [q]) Tryz.ntmps126 Tryz.func126 rfl rfl rfl rfl rfl zaw (by kernel_rfl) hX (fun r hr => by rcases List.mem_singleton.1 hr with rfl; exact hq) ?_
 conv => whnf
 refine .inl ?_
 conv => whnf
 refine vF (by simp [Sl.len]; omega) ?_
 conv => whnf
 refine zcm (zBi (e := 5) 64 ⟨by kernel_rfl, by kernel_rfl, by kernel_rfl⟩ rfl rfl rfl rfl rfl (by decide)) rfl rfl ?_
 conv => whnf
 refine za4 (zvA (cs' := [.row 64 fun j => bv (zpT key by_ 0 j)]) (ys := key) (r := 0) key.length rfl rfl rfl rfl rfl (by kernel_rfl) (by omega) (by show 0 + key.length ≤ 64; omega) fun h => by
  simp only [zay, SC.den, cl, Chunk.cells, List.append_nil, List.take_length]
  have := zwm 64 key h64
  simpa [zpT] using this) ?_
 conv => whnf
 refine ⟨Nat, fun k l m R i => ⟨k, (21, zaH .i64 i) :: zbV [1, 6, 20] l, (1, .blk [.row 64 fun j => bv (zpT key by_ i j)] 5) :: m, R⟩, fun i => i ≤ 64, fun i => 64 - i, ⟨0, [], [0], Nat.zero_le _, zbW⟩, fun i hi => ?_⟩
 conv => whnf
 refine vIf (fun hc => ?_) fun hc => ?_
 ·have hi2 : i < 64 := by
   have : (i : Int) < 64 := of_decide_eq_true hc
   omega
  conv => whnf
  refine ⟨i, ⟨rfl, hi2⟩, .inr ?_⟩
  conv => whnf
  refine ⟨hi2, ?_⟩
  conv => whnf
  refine zx8 ?_
  conv => whnf
  refine ⟨i, ⟨rfl, hi2⟩, .inr ?_⟩
  conv => whnf
  refine za4 (zAy (fun j => bv (zpT key by_ (i + 1) j)) rfl rfl rfl rfl rfl rfl hi2 (by rw [zzz]; exact ztJ key by_ i)) ?_
  conv => whnf
  refine zd6 (by omega) (by omega) ?_
  conv => whnf
  exact ⟨i + 1, [], [0], ⟨hi2, Nat.sub_lt_sub_left hi2 (Nat.lt_succ_self i)⟩, zbW⟩
 have hi8 : i = 64 := by
   have : ¬ (i : Int) < 64 := of_decide_eq_false hc
   omega
 subst hi8
 conv => whnf
 exact zaY [(0, 1)] [] (.inl rfl) ⟨.inl rfl, trivial⟩ rfl trivial
theorem zpU {by_ : Nat} {h : Hn} {i : Nat} {Y : List Nat} {w : World} (hb : St (AtC ⟨h.b i, 0, none⟩ (zay h [.row 64 fun j => bv (zpT key by_ 64 j)])) w Y) : St (TxF (some ⟨h.b i, 0, none⟩) 64 (zgp key by_)) w Y :=
 zhC hb (zzA key by_) (Nat.le_of_eq (zef key by_)) (by rw [zef]; decide) (zqR key by_)
theorem zka {kk : List Nat} {h : Hn} {i : Nat} {Y : List Nat} {w : World} (hk : kk.length = 32) (hbk : ∀ x ∈ kk, x < 256) (hb : St (AtC ⟨h.b i, 0, none⟩ (zay h [.key kk])) w Y) : St (TxF (some ⟨h.b i, 0, none⟩) 32 kk) w Y :=
 zhC hb (by rw [show zay h [.key kk] = [.key kk] from rfl, zoC, zhD hk]) (by omega) (by omega) hbk
theorem zBM (h64 : key.length ≤ 64) (hp : ∀ p ∈ ps, p.length ≤ 100000000) (hP : ps.length ≤ 900000) (hX : ∀ k ∈ X, k < w.heap.size) (hq : St (TxQ key q) w X) (hL : St (SlQ zax ps q2) w X) (hG : St (zc7 gt 2) w X) : Ct Tryz.prog 102 [.slice q.1 key.length q.2, .slice q2.1 ps.length q2.2] X w (.a (.agg [.key (zrb gt key ps)])) [] [] := by
 refine vFn (k0 := 2) (rs := [.cell 4 23]) (svs := [.a (.s (.p (.hd 0 key.length))), .a (.s (.p (.hd 1 ps.length)))]) (R0 := [.sl 0 key.length (TxG key), .sl 1 ps.length (SlF zax ps), .c (zc7 gt 2)]) (hnQ [q, q2]) Tryz.ntmps102 Tryz.func102 rfl rfl rfl rfl rfl zaw (by kernel_rfl) hX (fun r hr => by
  rcases List.mem_cons.1 hr with rfl | hr
  ·exact hq
  rcases List.mem_cons.1 hr with rfl | hr
  ·exact hL
  ·rcases List.mem_singleton.1 hr with rfl; exact hG) ?_
 conv => whnf
 refine zak rfl rfl rfl (by kernel_rfl) (fun h X w H => ztL 54 h64 H.xk (H.fact 0 rfl)) rfl rfl rfl ?_
 conv => whnf
 refine za0 (zbe [3] rfl rfl (zvF (e := 72) (xs := [zgp key 54]) (ys := ps) (r := 2) (by_ := 24) (fun h => [(some ⟨h.b 3, 0, none⟩, 64)]) rfl (fun h => by rfl) (fun h => rfl) (fun h X w H t x hx => by
  cases t with
  | zero => obtain rfl := Option.some.inj hx; exact zpU (H.fact 0 rfl)
  | succ t => simp at hx) rfl rfl rfl rfl rfl ⟨by kernel_rfl, by kernel_rfl⟩ (by simp; omega) (by simp; omega) rfl rfl)) ?_
 conv => whnf
 refine za4 (zsG (T := zax) (zs := [zgp key 54] ++ ps) 5 rfl (.head _) rfl (zaI (rs := []) (Rs := []) (zaj (rs := []) (Rs := []) rfl rfl rfl (by kernel_rfl) rfl fun h X w H => ztE H.xk (fun p hpm => by
  rcases List.mem_cons.1 hpm with rfl | hpm
  ·rw [zef]; decide
  ·exact hp p hpm) (by simp; omega) (H.fact 0 rfl) (H.fact 5 rfl)) rfl rfl)) ?_
 conv => whnf
 obtain ⟨ink, hink⟩ : ∃ ink, ink = zwg gt ([zgp key 54] ++ ps) := ⟨_, rfl⟩
 have hil : ink.length = 32 := by rw [hink]; exact zj7 _ _
 have hib : ∀ x ∈ ink, x < 256 := by rw [hink]; exact zig _ _
 rw [← hink]
 conv => whnf
 refine zbd 3 [] (by kernel_rfl) ?_
 conv => whnf
 refine za3 (zaj (rs := [.blk [.row 64 fun j => bv (zpT key 92 64 j)] 5]) (Rs := []) rfl rfl rfl (by kernel_rfl) rfl fun h X w H => ztL 92 h64 H.xk (H.fact 3 rfl)) ?_
 conv => whnf
 refine za4 (zbe [8, 7, 6] rfl rfl (zaI (rs := []) (Rs := []) (zaj (rs := []) (Rs := []) rfl rfl rfl (by kernel_rfl) rfl fun h X w H => ztE (ps := [zgp key 92, ink]) (q := (some ⟨h.b 8, 0, none⟩, 2)) H.xk (fun p hpm => by
  rcases List.mem_cons.1 hpm with rfl | hpm
  ·rw [zef]; decide
  ·rcases List.mem_singleton.1 hpm with rfl; omega) (by simp) (zdJ (ql := [(some ⟨h.b 7, 0, none⟩, 64), (some ⟨h.b 6, 0, none⟩, 32)]) rfl (by simp) (by
   have := H.fact 2 rfl
   have e : zay h [.one (.p (.sl 7 0 64 64)), .one (.p (.sl 6 0 32 32))] = zdf [zgp key 92, ink] [(some ⟨h.b 7, 0, none⟩, 64), (some ⟨h.b 6, 0, none⟩, 32)] := by
    simp only [zdf, zef, hil]
    rfl
   rw [← e]
   exact this) fun t x hx => by
   match t with
   | 0 => obtain rfl := Option.some.inj hx; exact zpU (H.fact 1 rfl)
   | 1 => obtain rfl := Option.some.inj hx; exact zka hil hib (H.fact 0 rfl)
   | t + 2 => simp at hx) (H.fact 8 rfl)) rfl rfl)) ?_
 conv => whnf
 refine zaF ?_
 rw [hink]
 rfl
def zwo (j : Nat) (kk : List Nat) (ln il : Nat) : MB := [(0, .blk [.one (.p (.v (bv j)))] 5), (1, .blk [.key kk] 23), (2, .blk [.one (.p (.hd 4 ln))] 72), (3, .blk [.one (.p (.hd 5 il))] 72), (4, .gone), (5, .gone)]
def TxN (n : Nat) (t : List Nat) (q : Qd) : World → Prop := fun w => (q.1 = none → n = 0) ∧ TxG t q w
theorem zzB {kk last info : List Nat} {j ln : Nat} {h0 : Hn} (hln : ln = last.length) (hj : j ≤ 254) (hk32 : kk.length = 32) (hkb : ∀ x ∈ kk, x < 256) (hll : last.length ≤ 100000000) (hil : info.length ≤ 100000000) (hsp : Sp X w (zad h0 [] (zwo j kk ln info.length)) [TxN ln last (h0.r 4), TxQ info (h0.r 5), zc7 gt 2]) :
  CtG Tryz.prog 101 [.pointer (some ⟨h0.b 0, 0, none⟩), .pointer (some ⟨h0.b 1, 0, none⟩), .pointer (some ⟨h0.b 2, 0, none⟩), .pointer (some ⟨h0.b 3, 0, none⟩)] X w h0 (zwo j kk ln info.length) [0, 1, 2, 3, 5] (.a (.s (.p (.hd 6 32)))) [(0, .blk [.one (.p (.v (bv (j + 1))))] 5), (1, .blk [.key kk] 23), (2, .blk [.one (.p (.hd 6 32))] 72), (3, .blk [.one (.p (.hd 5 info.length))] 72), (5, .gone)] [.sl 6 32 (TxG (zrb gt kk [last, info, [j + 1]]))] := by
 subst hln
 refine zxd (g := 6) (k0 := 6) (bl := []) (ql := []) (svs := [atS 0 0, atS 1 0, atS 2 0, atS 3 0]) (given := zwo j kk last.length info.length) (Rg := [.sl 4 last.length (TxG last), .sl 5 info.length (TxG info), .c (zc7 gt 2)]) (kb := [0, 1, 2, 3, 5]) Tryz.ntmps101 Tryz.func101 rfl rfl rfl zaw (by kernel_rfl) rfl rfl hsp ?_
 conv => whnf
 refine ⟨((j + 1 : Nat) : Int), by rw [wU8 (by omega) (by omega)]; omega, ?_⟩
 conv => whnf
 refine zbd 8 [] (by kernel_rfl) ?_
 conv => whnf
 refine za3 (zk6 [7, 6, 1] rfl (zaj (sv := .a (.agg [.key (zrb gt kk [last, info, [j + 1]])])) (rs := []) (Rs := []) rfl rfl rfl (by kernel_rfl) rfl fun h X w H => ?_)) ?_
 ·have h1 := H.fact 0 rfl
  have h7 := H.fact 2 rfl
  have h6 := H.fact 1 rfl
  have := zBM (gt := gt) (key := kk) (ps := [last, info, [j + 1]]) (q := (some ⟨h.b 1, 0, none⟩, 32)) (q2 := (some ⟨h.b 7, 0, none⟩, 3)) (by omega) (fun p hp => by
   rcases List.mem_cons.1 hp with rfl | hp
   ·exact hll
   rcases List.mem_cons.1 hp with rfl | hp
   ·exact hil
   ·rcases List.mem_singleton.1 hp with rfl; simp) (by simp) H.xk (zo3 (zka hk32 hkb h1)) (zdJ (ql := [h.r 4, h.r 5, (some ⟨h.b 6, 0, none⟩, 1)]) rfl (by simp) h7 fun t x hx => by
    match t with
    | 0 => obtain rfl := Option.some.inj hx; exact zgy (H.fact 8 rfl)
    | 1 => obtain rfl := Option.some.inj hx; exact zgy (H.fact 9 rfl)
    | 2 => obtain rfl := Option.some.inj hx; exact zhC h6 rfl (jV _) (by simp) (fun x hx => by rcases List.mem_singleton.1 hx with rfl; omega)
    | t + 3 => simp at hx) (H.fact 10 rfl)
  rw [hk32] at this
  exact this
 conv => whnf
 refine zvH [7, 6] rfl ?_
 refine zvG (kk := zrb gt kk [last, info, [j + 1]]) (sv' := .a (.s (.p (.hd 9 32)))) (m' := [(2, .blk [.one (.p (.hd 9 32))] 72), (8, .gone), (7, .gone), (6, .gone), (0, .blk [.one (.p (.v (bv (j + 1))))] 5), (1, .blk [.key kk] 23), (3, .blk [.one (.p (.hd 5 info.length))] 72), (4, .gone), (5, .gone)]) 8 rfl (zhd _ _ _) (zmC _ _ _) (fun h hr => ⟨?_, ?_⟩) rfl ?_
 ·show Value.slice (h.r 9).1 32 (h.r 9).2 = _
  rw [hr]
  rfl
 ·have e : zay h [.one (.p (.hd 9 32))] = zay h [.one (.p (.sl 8 0 32 32))] := by
   show [Chunk.one (Value.slice (h.r 9).1 32 (h.r 9).2)] = _
   rw [hr]
   rfl
  show Res.blk (h.b 2) (ca (zay h [.one (.p (.hd 9 32))])) _ :: _ = _
  rw [e]
  rfl
 exact zdi [(0, 0), (1, 1), (2, 2), (3, 3), (5, 5), (6, 9)] [0] [3, 4, 5, 6, 7] (.inl rfl) ⟨.inl rfl, .inl rfl, .inl rfl, .inl rfl, trivial⟩ rfl ⟨.inl rfl, trivial⟩ ⟨rfl, rfl, rfl, rfl, rfl, trivial⟩
theorem ztM {kk info : List Nat} {n : Nat} (hk32 : kk.length = 32) (hkb : ∀ x ∈ kk, x < 256) (hn : n ≤ 8160) (hi20 : info.length ≤ 1048576) (hX : ∀ k ∈ X, k < w.heap.size) (hq : St (TxQ info q) w X) (hG : St (zc7 gt 2) w X) : Ct Tryz.prog 70 [.agg (ca [.key kk]), .slice q.1 info.length q.2, .int .i64 n] X w (.tup [.s (.p (.hd 0 n)), .s (.p (.v (.int .i64 0)))]) [.gone] [.sl 0 n (TxG (zxB gt kk info n))] := by
 refine vFn (k0 := 1) (rs := [.tmp 6, .tmp 7]) (svs := [.a (.agg [.key kk]), .a (.s (.p (.hd 0 info.length))), zaH .i64 n]) (R0 := [.sl 0 info.length (TxG info), .c (zc7 gt 2)]) (hnQ [q]) Tryz.ntmps70 Tryz.func70 rfl rfl rfl rfl rfl zaw (by kernel_rfl) hX (fun r hr => by
  rcases List.mem_cons.1 hr with rfl | hr
  ·exact hq
  ·rcases List.mem_singleton.1 hr with rfl; exact hG) ?_
 conv => whnf
 refine vF (decide_eq_false (by omega)) ?_
 conv => whnf
 refine vF (decide_eq_false (by show ¬ (((info.length : Nat) : Int) > 1048576); omega)) ?_
 conv => whnf
 have e1 : (n : Int) + 64 = ((n + 64 : Nat) : Int) := by omega
 refine zc6 e1 (by omega) (by omega) ?_
 conv => whnf
 refine zcm (zxf (e := 5) 0 ⟨by kernel_rfl, by kernel_rfl, by kernel_rfl⟩ rfl rfl rfl rfl rfl (c := n + 64) (by omega) (by omega)) rfl rfl ?_
 conv => whnf
 refine ⟨Nat × Nat × List Nat × List Nat, fun k l m R g => ⟨7, (11, .a (.s (.p (.hd 5 g.2.2.2.length)))) :: zbV [2, 10] l, (3, .blk [.one (.p (.hd 6 g.2.1))] 72) :: (4, .blk [.one (.p (.v (bv g.1)))] 5) :: (5, ziz g.2.2.2 5) :: (6, .gone) :: (0, .gone) :: m, .sl 6 g.2.1 (TxG g.2.2.1) :: R⟩, fun g => g.2.1 = g.2.2.1.length ∧ exT gt kk info g.1 = (g.2.2.1, g.2.2.2) ∧ 32 * g.1 < n + 32, fun g => n - g.2.2.2.length, ⟨(0, 0, [], []), [], [2, 0, 1], ⟨rfl, rfl, by omega⟩, zbW (hR := ⟨.inr (zyA rfl), .inl rfl, .inl rfl, trivial⟩)⟩, fun g hg => ?_⟩
 obtain ⟨j, ln, last, out⟩ := g
 obtain ⟨hln, hex, hj⟩ : ln = last.length ∧ exT gt kk info j = (last, out) ∧ 32 * j < n + 32 := hg
 have hel := zj8 gt kk info j
 rw [hex] at hel
 obtain ⟨hol, hll, hob⟩ : out.length = 32 * j ∧ last.length ≤ 32 ∧ ∀ x ∈ out, x < 256 := hel
 conv => whnf
 refine vIf (fun hc => ?_) fun hc => ?_
 ·have hlt : out.length < n := by
   have : ((out.length : Nat) : Int) < (n : Int) := of_decide_eq_true hc
   omega
  obtain ⟨mc, hmc⟩ : ∃ mc, mc = zrb gt kk [last, info, [j + 1]] := ⟨_, rfl⟩
  have hml : mc.length = 32 := by rw [hmc]; exact zhd _ _ _
  conv => whnf
  refine za0 (zaQ [4, 1, 3, 2, 6, 0] 1 rfl rfl rfl (by kernel_rfl) (fs := fun _ => []) (cs := fun h => ziw h [.at_ 4 0, .at_ 1 0, .at_ 3 0, .at_ 2 0]) (fun h => rfl) rfl rfl (given := zwo j kk ln info.length) ⟨rfl, rfl, rfl, rfl, rfl, rfl, trivial⟩ rfl rfl rfl rfl rfl rfl fun h X w L2 H => zzB hln (by omega) hk32 hkb (by omega) (by omega) (H.pick [0, 1, 2] rfl)) ?_
  rw [← hmc]
  conv => whnf
  refine za0 (zsC (xs := out) (ys := mc) (r := 0) (e := 5) rfl rfl hml.symm rfl rfl rfl ⟨by kernel_rfl, by kernel_rfl⟩ (by omega) rfl rfl) ?_
  conv => whnf
  exact ⟨(j + 1, 32, mc, out ++ mc), [(0, 0), (1, 1), (2, 2), (3, 3), (4, 4), (5, 8), (6, 7)], [0, 2, 3], ⟨⟨hml.symm, by rw [hmc]; exact zwn hex, by show 32 * (j + 1) < n + 32; omega⟩, by show n - (out ++ mc).length < n - out.length; rw [jQ]; omega⟩, zbW⟩
 have hge : n ≤ out.length := by
   have : ¬ ((out.length : Nat) : Int) < (n : Int) := of_decide_eq_false hc
   omega
 have hjn : j = (n + 31) / 32 := by omega
 have hys : zxB gt kk info n = out.take n := by rw [zxB, ← hjn, hex]
 conv => whnf
 refine za0 (zhW (xs := out) 5 rfl (by omega) hob rfl (zaI (rs := [.gone]) (zsI (n0 := out.length) (i := 5) (zxB gt kk info n) 0 hys rfl hge rfl (by kernel_rfl) rfl rfl rfl rfl rfl) rfl rfl)) ?_
 conv => whnf
 exact zaY [(0, 7)] [0] (.inl rfl) trivial rfl ⟨.inl rfl, trivial⟩
end
end
section
open Go.RowKit
theorem ztN (A : Option Addr) (n c : Nat) (l : List Nat) (w : World) (h : Txt w w.heap.size A n c l) (hn : n ≤ 140737488355328) :
  Calls Tryz.prog 67 #[.slice A n c] w (zBL w l) := by
 cases A with
 | none =>
  obtain ⟨rfl, rfl⟩ := h.nil rfl
  obtain rfl : l = [] := List.eq_nil_of_length_eq_zero h.len
  have he := fun w => Lib.run_eql_slice_nil (P := Tryz.prog) w 72 5 none 0 0 0 0 Tryz.underlying72
  go_enter Tryz.func67, Tryz.ntmps67
  go_wp2
  go_ret
  exact ⟨_, rfl, Own.nil_, Below.refl _ _⟩
 | some ad =>
  have he := fun w => Lib.run_eql_slice_nil (P := Tryz.prog) w 72 5 (some ad) n c 0 0 Tryz.underlying72
  have ho := ztH w 5
  have hb : Below w.heap.size w (w.alloc (.cells #[] 5)) := (Below.refl _ _).alloc (jV _) _
  go_enter Tryz.func67, Tryz.ntmps67
  go_wp2_with (refine zdq rfl rfl BT (l := []) rfl rfl ho (h.below hb) (by simpa using hn) (by simp) ?_; intro v1 w1 hown hg hat)
  go_ret
  exact ⟨v1, rfl, by simpa using hown, zkt hb ho hg (jV _) (by simp)⟩
theorem ztO (v : Value) (l : List Nat) (base : Nat) (W n : Nat) (hW : W ≤ 8) (hn : n < 18446744073709551616) (hl : l.length + 8 ≤ 140737488355328) (w : World) (hown : Own w base 5 v l) (hbase : base ≤ w.heap.size) :
  Calls Tryz.prog 68 #[v, .int .i64 W, .int .u64 n] w fun e w' => (∃ v', e = .returned v' ∧ Own w' base 5 v' (l ++ beL W n)) ∧ Below base w w' := by
 go_enter Tryz.func68, Tryz.ntmps68
 go_wp2
 have hown' := Lib.hid hown
 clear hown
 go_loopg [0, 7] W (fun k v i wr => i = .int .i64 ((k : Int) - 1) ∧ k ≤ W ∧ Own wr base 5 v (l ++ beK W n (W - k)) ∧ Below base w wr ∧ base ≤ wr.heap.size)
 case atStart => exact ⟨rfl, jV _, (by rw [Nat.sub_self]; unfold beK; simpa using hown'.out), Below.refl _ _, hbase⟩
 case round =>
  obtain ⟨rfl, hk, ho, hB, hs⟩ := hrel
  have ho' := Lib.hid ho
  clear ho
  rcases Nat.eq_zero_or_pos gk with hz | hz
  ·subst hz
   go_wp2
   go_ret
   refine ⟨⟨_, rfl, ?_⟩, hB⟩
   exact ho'.out
  ·obtain ⟨k, rfl⟩ : ∃ k, gk = k + 1 := ⟨gk - 1, by omega⟩
   have ek : ((k + 1 : Nat) : Int) - 1 = (k : Int) := by omega
   rw [ek]
   obtain ⟨x, hx⟩ : ∃ x, x = n / 2 ^ (8 * k) % 256 := ⟨_, rfl⟩
   have ex : (n : Int) / 2 ^ (8 * k) % 256 = (x : Int) := by rw [hx, Int.natCast_emod, Int.natCast_ediv, Int.natCast_pow]; rfl
   have en : beK W n (W - (k + 1)) ++ [x] = beK W n (W - k) := by
    rw [show W - k = (W - (k + 1)) + 1 from by omega, zwk, hx, show W - 1 - (W - (k + 1)) = k from by omega]
   have EN := Lib.hid en
   have bl := zzx W n (W - (k + 1))
   have BL := Lib.hid bl
   clear hz ek hx en bl
   go_wp2_with (refine zdq rfl rfl BT rfl rfl (ho'.out.alloc (.cells #[bv x] 5)) (zzy wr 5 x) (by have := BL.out; simp; omega) (by simp; omega) ?_; intro v1 w1 hown hg hat)
   have hb1 := zkt (hB.alloc hs (.cells #[bv x] 5)) (ho'.out.alloc (.cells #[bv x] 5)) hg (jV _) (by simp; omega)
   go_roundg k
   case measure => omega
   case rel => exact ⟨by go_num, by omega, (by rw [← EN.out, ← List.append_assoc]; exact hown), hb1, jU hs (jU (by simp) hg.size)⟩
end
section
open Go.RowKit
theorem zzC : ∀ i : Fin 256, 0 ≤ Lib.len8 (i.val : Int) ∧ Lib.len8 (i.val : Int) ≤ 8 ∧ (i.val ≠ 0 → 1 ≤ Lib.len8 (i.val : Int)) ∧ (i.val = 0 → Lib.len8 (i.val : Int) = 0) := by decide +kernel
theorem zzD (n r k : Nat) (h1 : k = 0 ∨ 256 ^ k ≤ n) (h2 : n < 256 ^ (k + 1)) (h3 : (8 * k + 1 ≤ r ∧ 1 ≤ n) ∨ (n = 0 ∧ r = 0)) (h4 : r ≤ 8 * k + 8) (W : Nat) : r ≤ 8 * W ↔ n < 256 ^ W := by
 have hp : 0 < 256 ^ W := Nat.pow_pos (by omega)
 rcases h3 with ⟨h3, h5⟩ | ⟨rfl, rfl⟩
 ·rcases Nat.lt_or_ge k W with h | h
  ·have := Nat.pow_le_pow_right (n := 256) (by omega) h
   constructor
   ·intro _; exact jT h2 this
   ·intro _; omega
  ·have hle := Nat.pow_le_pow_right (n := 256) (by omega) h
   constructor
   ·intro hr; omega
   ·intro hn
    rcases h1 with rfl | h1
    ·obtain rfl : W = 0 := by omega
     rw [Nat.pow_zero] at hn
     omega
    ·omega
 ·exact ⟨fun _ => hp, fun _ => Nat.zero_le _⟩
theorem zeg (n k : Nat) (hk : k < 8) (h1 : k = 0 ∨ 256 ^ k ≤ n) (h2 : n < 256 ^ (k + 1)) (h0 : n = 0 ∨ 1 ≤ n / 256 ^ k) (W : Nat) :
  (8 * k + (Lib.len8 ((n / 256 ^ k : Nat) : Int)).toNat ≤ 8 * W ↔ n < 256 ^ W) ∧ 0 ≤ Lib.len8 ((n / 256 ^ k : Nat) : Int) ∧ Lib.len8 ((n / 256 ^ k : Nat) : Int) ≤ 8 := by
 have hlt : n / 256 ^ k < 256 := by
  rw [Nat.pow_succ] at h2
  exact Nat.div_lt_of_lt_mul h2
 obtain ⟨a, b, c, d⟩ := zzC ⟨n / 256 ^ k, hlt⟩
 simp only at a b c d
 refine ⟨zzD n _ k h1 h2 ?_ (by omega) W, a, b⟩
 rcases h0 with rfl | h0
 ·rcases h1 with rfl | h1
  ·rw [Nat.zero_div] at d
   have := d rfl
   rw [Nat.zero_div, this]
   exact .inr ⟨rfl, rfl⟩
  ·have : 0 < 256 ^ k := Nat.pow_pos (by omega)
   omega
 ·have := c (by omega)
  refine .inl ⟨by omega, ?_⟩
  rcases Nat.eq_zero_or_pos n with hz | hz
  ·rw [hz, Nat.zero_div] at h0; omega
  ·exact hz
theorem zzE (x : Int) (h0 : 0 ≤ x) (h1 : x < 256) (w : World) :
  Calls Tryz.prog 98 #[.int .u64 x] w fun e w' => (∃ r : Nat, e = .returned (.int .i64 r) ∧ ∀ W, r ≤ 8 * W ↔ x.toNat < 256 ^ W) ∧ w = w' := by
 have d_x1 : decide ((4294967296 : Int) ≤ x) = false := decide_eq_false (by omega)
 have d_x2 : decide ((65536 : Int) ≤ x) = false := decide_eq_false (by omega)
 have d_x3 : decide ((256 : Int) ≤ x) = false := decide_eq_false (by omega)
 have q0 : 0 ≤ x := by omega
 have q1 : x ≤ 255 := by omega
 have q2 : x = ((x.toNat / 256 ^ 0 : Nat) : Int) := by rw [show (256 : Nat) ^ 0 = 1 from rfl]; omega
 have rm := zeg x.toNat 0 (by omega) (.inl rfl) (by rw [show (256 : Nat) ^ (0 + 1) = 256 from rfl]; omega) (by rw [show (256 : Nat) ^ 0 = 1 from rfl]; omega)
 rw [← q2] at rm
 have bd := (rm 0).2
 obtain ⟨l, hl⟩ := Int.eq_ofNat_of_zero_le bd.1
 have tb := fun (w : World) => Lib.run_index_len8tab (P := Tryz.prog) (w := w) 9 .u8 x Tryz.underlying9 q0 q1
 rw [hl] at tb bd
 have bl : l ≤ 8 := by omega
 have RM := Lib.hid (fun W => (rm W).1)
 rw [hl, Int.toNat_natCast] at RM
 clear rm q2 hl bd
 go_enter Tryz.func98, Tryz.ntmps98
 go_wp2
 go_ret
 refine ⟨⟨0 + l, ?_, RM.out⟩, rfl⟩
 first | rfl | (congr 2; omega) | (show Ending.returned (Value.int .i64 _) = Ending.returned (Value.int .i64 _); congr 2; omega)
theorem zzF (x : Int) (h0 : 256 ≤ x) (h1 : x < 65536) (w : World) :
  Calls Tryz.prog 98 #[.int .u64 x] w fun e w' => (∃ r : Nat, e = .returned (.int .i64 r) ∧ ∀ W, r ≤ 8 * W ↔ x.toNat < 256 ^ W) ∧ w = w' := by
 have d_x1 : decide ((4294967296 : Int) ≤ x) = false := decide_eq_false (by omega)
 have d_x2 : decide ((65536 : Int) ≤ x) = false := decide_eq_false (by omega)
 have d_x3 : decide ((256 : Int) ≤ x) = true := decide_eq_true (by omega)
 obtain ⟨x3, hx3⟩ : ∃ y, y = x / 256 := ⟨_, rfl⟩
 have e_x3 : x / 256 = x3 := hx3.symm
 have q0 : 0 ≤ x3 := by omega
 have q1 : x3 ≤ 255 := by omega
 have q2 : x3 = ((x.toNat / 256 ^ 1 : Nat) : Int) := by rw [show (256 : Nat) ^ 1 = 256 from rfl]; omega
 have rm := zeg x.toNat 1 (by omega) (.inr (by rw [show (256 : Nat) ^ 1 = 256 from rfl]; omega)) (by rw [show (256 : Nat) ^ (1 + 1) = 65536 from rfl]; omega) (by rw [show (256 : Nat) ^ 1 = 256 from rfl]; omega)
 rw [← q2] at rm
 have bd := (rm 0).2
 obtain ⟨l, hl⟩ := Int.eq_ofNat_of_zero_le bd.1
 have tb := fun (w : World) => Lib.run_index_len8tab (P := Tryz.prog) (w := w) 9 .u8 x3 Tryz.underlying9 q0 q1
 rw [hl] at tb bd
 have bl : l ≤ 8 := by omega
 have RM := Lib.hid (fun W => (rm W).1)
 rw [hl, Int.toNat_natCast] at RM
 clear rm q2 hl bd hx3
 go_enter Tryz.func98, Tryz.ntmps98
 go_wp2
 go_ret
 refine ⟨⟨8 + l, ?_, RM.out⟩, rfl⟩
 first | rfl | (congr 2; omega) | (show Ending.returned (Value.int .i64 _) = Ending.returned (Value.int .i64 _); congr 2; omega)
theorem zzG (x : Int) (h0 : 65536 ≤ x) (h1 : x < 16777216) (w : World) :
  Calls Tryz.prog 98 #[.int .u64 x] w fun e w' => (∃ r : Nat, e = .returned (.int .i64 r) ∧ ∀ W, r ≤ 8 * W ↔ x.toNat < 256 ^ W) ∧ w = w' := by
 have d_x1 : decide ((4294967296 : Int) ≤ x) = false := decide_eq_false (by omega)
 have d_x2 : decide ((65536 : Int) ≤ x) = true := decide_eq_true (by omega)
 obtain ⟨x2, hx2⟩ : ∃ y, y = x / 65536 := ⟨_, rfl⟩
 have e_x2 : x / 65536 = x2 := hx2.symm
 have d_x3 : decide ((256 : Int) ≤ x2) = false := decide_eq_false (by omega)
 have q0 : 0 ≤ x2 := by omega
 have q1 : x2 ≤ 255 := by omega
 have q2 : x2 = ((x.toNat / 256 ^ 2 : Nat) : Int) := by rw [show (256 : Nat) ^ 2 = 65536 from rfl]; omega
 have rm := zeg x.toNat 2 (by omega) (.inr (by rw [show (256 : Nat) ^ 2 = 65536 from rfl]; omega)) (by rw [show (256 : Nat) ^ (2 + 1) = 16777216 from rfl]; omega) (by rw [show (256 : Nat) ^ 2 = 65536 from rfl]; omega)
 rw [← q2] at rm
 have bd := (rm 0).2
 obtain ⟨l, hl⟩ := Int.eq_ofNat_of_zero_le bd.1
 have tb := fun (w : World) => Lib.run_index_len8tab (P := Tryz.prog) (w := w) 9 .u8 x2 Tryz.underlying9 q0 q1
 rw [hl] at tb bd
 have bl : l ≤ 8 := by omega
 have RM := Lib.hid (fun W => (rm W).1)
 rw [hl, Int.toNat_natCast] at RM
 clear rm q2 hl bd hx2
 go_enter Tryz.func98, Tryz.ntmps98
 go_wp2
 go_ret
 refine ⟨⟨16 + l, ?_, RM.out⟩, rfl⟩
 first | rfl | (congr 2; omega) | (show Ending.returned (Value.int .i64 _) = Ending.returned (Value.int .i64 _); congr 2; omega)
theorem zzH (x : Int) (h0 : 16777216 ≤ x) (h1 : x < 4294967296) (w : World) :
  Calls Tryz.prog 98 #[.int .u64 x] w fun e w' => (∃ r : Nat, e = .returned (.int .i64 r) ∧ ∀ W, r ≤ 8 * W ↔ x.toNat < 256 ^ W) ∧ w = w' := by
 have d_x1 : decide ((4294967296 : Int) ≤ x) = false := decide_eq_false (by omega)
 have d_x2 : decide ((65536 : Int) ≤ x) = true := decide_eq_true (by omega)
 obtain ⟨x2, hx2⟩ : ∃ y, y = x / 65536 := ⟨_, rfl⟩
 have e_x2 : x / 65536 = x2 := hx2.symm
 have d_x3 : decide ((256 : Int) ≤ x2) = true := decide_eq_true (by omega)
 obtain ⟨x3, hx3⟩ : ∃ y, y = x2 / 256 := ⟨_, rfl⟩
 have e_x3 : x2 / 256 = x3 := hx3.symm
 have q0 : 0 ≤ x3 := by omega
 have q1 : x3 ≤ 255 := by omega
 have q2 : x3 = ((x.toNat / 256 ^ 3 : Nat) : Int) := by rw [show (256 : Nat) ^ 3 = 16777216 from rfl]; omega
 have rm := zeg x.toNat 3 (by omega) (.inr (by rw [show (256 : Nat) ^ 3 = 16777216 from rfl]; omega)) (by rw [show (256 : Nat) ^ (3 + 1) = 4294967296 from rfl]; omega) (by rw [show (256 : Nat) ^ 3 = 16777216 from rfl]; omega)
 rw [← q2] at rm
 have bd := (rm 0).2
 obtain ⟨l, hl⟩ := Int.eq_ofNat_of_zero_le bd.1
 have tb := fun (w : World) => Lib.run_index_len8tab (P := Tryz.prog) (w := w) 9 .u8 x3 Tryz.underlying9 q0 q1
 rw [hl] at tb bd
 have bl : l ≤ 8 := by omega
 have RM := Lib.hid (fun W => (rm W).1)
 rw [hl, Int.toNat_natCast] at RM
 clear rm q2 hl bd hx2 hx3
 go_enter Tryz.func98, Tryz.ntmps98
 go_wp2
 go_ret
 refine ⟨⟨24 + l, ?_, RM.out⟩, rfl⟩
 first | rfl | (congr 2; omega) | (show Ending.returned (Value.int .i64 _) = Ending.returned (Value.int .i64 _); congr 2; omega)
theorem zzI (x : Int) (h0 : 4294967296 ≤ x) (h1 : x < 1099511627776) (w : World) :
  Calls Tryz.prog 98 #[.int .u64 x] w fun e w' => (∃ r : Nat, e = .returned (.int .i64 r) ∧ ∀ W, r ≤ 8 * W ↔ x.toNat < 256 ^ W) ∧ w = w' := by
 have d_x1 : decide ((4294967296 : Int) ≤ x) = true := decide_eq_true (by omega)
 obtain ⟨x1, hx1⟩ : ∃ y, y = x / 4294967296 := ⟨_, rfl⟩
 have e_x1 : x / 4294967296 = x1 := hx1.symm
 have d_x2 : decide ((65536 : Int) ≤ x1) = false := decide_eq_false (by omega)
 have d_x3 : decide ((256 : Int) ≤ x1) = false := decide_eq_false (by omega)
 have q0 : 0 ≤ x1 := by omega
 have q1 : x1 ≤ 255 := by omega
 have q2 : x1 = ((x.toNat / 256 ^ 4 : Nat) : Int) := by rw [show (256 : Nat) ^ 4 = 4294967296 from rfl]; omega
 have rm := zeg x.toNat 4 (by omega) (.inr (by rw [show (256 : Nat) ^ 4 = 4294967296 from rfl]; omega)) (by rw [show (256 : Nat) ^ (4 + 1) = 1099511627776 from rfl]; omega) (by rw [show (256 : Nat) ^ 4 = 4294967296 from rfl]; omega)
 rw [← q2] at rm
 have bd := (rm 0).2
 obtain ⟨l, hl⟩ := Int.eq_ofNat_of_zero_le bd.1
 have tb := fun (w : World) => Lib.run_index_len8tab (P := Tryz.prog) (w := w) 9 .u8 x1 Tryz.underlying9 q0 q1
 rw [hl] at tb bd
 have bl : l ≤ 8 := by omega
 have RM := Lib.hid (fun W => (rm W).1)
 rw [hl, Int.toNat_natCast] at RM
 clear rm q2 hl bd hx1
 go_enter Tryz.func98, Tryz.ntmps98
 go_wp2
 go_ret
 refine ⟨⟨32 + l, ?_, RM.out⟩, rfl⟩
 first | rfl | (congr 2; omega) | (show Ending.returned (Value.int .i64 _) = Ending.returned (Value.int .i64 _); congr 2; omega)
theorem zzJ (x : Int) (h0 : 1099511627776 ≤ x) (h1 : x < 281474976710656) (w : World) :
  Calls Tryz.prog 98 #[.int .u64 x] w fun e w' => (∃ r : Nat, e = .returned (.int .i64 r) ∧ ∀ W, r ≤ 8 * W ↔ x.toNat < 256 ^ W) ∧ w = w' := by
 have d_x1 : decide ((4294967296 : Int) ≤ x) = true := decide_eq_true (by omega)
 obtain ⟨x1, hx1⟩ : ∃ y, y = x / 4294967296 := ⟨_, rfl⟩
 have e_x1 : x / 4294967296 = x1 := hx1.symm
 have d_x2 : decide ((65536 : Int) ≤ x1) = false := decide_eq_false (by omega)
 have d_x3 : decide ((256 : Int) ≤ x1) = true := decide_eq_true (by omega)
 obtain ⟨x3, hx3⟩ : ∃ y, y = x1 / 256 := ⟨_, rfl⟩
 have e_x3 : x1 / 256 = x3 := hx3.symm
 have q0 : 0 ≤ x3 := by omega
 have q1 : x3 ≤ 255 := by omega
 have q2 : x3 = ((x.toNat / 256 ^ 5 : Nat) : Int) := by rw [show (256 : Nat) ^ 5 = 1099511627776 from rfl]; omega
 have rm := zeg x.toNat 5 (by omega) (.inr (by rw [show (256 : Nat) ^ 5 = 1099511627776 from rfl]; omega)) (by rw [show (256 : Nat) ^ (5 + 1) = 281474976710656 from rfl]; omega) (by rw [show (256 : Nat) ^ 5 = 1099511627776 from rfl]; omega)
 rw [← q2] at rm
 have bd := (rm 0).2
 obtain ⟨l, hl⟩ := Int.eq_ofNat_of_zero_le bd.1
 have tb := fun (w : World) => Lib.run_index_len8tab (P := Tryz.prog) (w := w) 9 .u8 x3 Tryz.underlying9 q0 q1
 rw [hl] at tb bd
 have bl : l ≤ 8 := by omega
 have RM := Lib.hid (fun W => (rm W).1)
 rw [hl, Int.toNat_natCast] at RM
 clear rm q2 hl bd hx1 hx3
 go_enter Tryz.func98, Tryz.ntmps98
 go_wp2
 go_ret
 refine ⟨⟨40 + l, ?_, RM.out⟩, rfl⟩
 first | rfl | (congr 2; omega) | (show Ending.returned (Value.int .i64 _) = Ending.returned (Value.int .i64 _); congr 2; omega)
theorem zzK (x : Int) (h0 : 281474976710656 ≤ x) (h1 : x < 72057594037927936) (w : World) :
  Calls Tryz.prog 98 #[.int .u64 x] w fun e w' => (∃ r : Nat, e = .returned (.int .i64 r) ∧ ∀ W, r ≤ 8 * W ↔ x.toNat < 256 ^ W) ∧ w = w' := by
 have d_x1 : decide ((4294967296 : Int) ≤ x) = true := decide_eq_true (by omega)
 obtain ⟨x1, hx1⟩ : ∃ y, y = x / 4294967296 := ⟨_, rfl⟩
 have e_x1 : x / 4294967296 = x1 := hx1.symm
 have d_x2 : decide ((65536 : Int) ≤ x1) = true := decide_eq_true (by omega)
 obtain ⟨x2, hx2⟩ : ∃ y, y = x1 / 65536 := ⟨_, rfl⟩
 have e_x2 : x1 / 65536 = x2 := hx2.symm
 have d_x3 : decide ((256 : Int) ≤ x2) = false := decide_eq_false (by omega)
 have q0 : 0 ≤ x2 := by omega
 have q1 : x2 ≤ 255 := by omega
 have q2 : x2 = ((x.toNat / 256 ^ 6 : Nat) : Int) := by rw [show (256 : Nat) ^ 6 = 281474976710656 from rfl]; omega
 have rm := zeg x.toNat 6 (by omega) (.inr (by rw [show (256 : Nat) ^ 6 = 281474976710656 from rfl]; omega)) (by rw [show (256 : Nat) ^ (6 + 1) = 72057594037927936 from rfl]; omega) (by rw [show (256 : Nat) ^ 6 = 281474976710656 from rfl]; omega)
 rw [← q2] at rm
 have bd := (rm 0).2
 obtain ⟨l, hl⟩ := Int.eq_ofNat_of_zero_le bd.1
 have tb := fun (w : World) => Lib.run_index_len8tab (P := Tryz.prog) (w := w) 9 .u8 x2 Tryz.underlying9 q0 q1
 rw [hl] at tb bd
 have bl : l ≤ 8 := by omega
 have RM := Lib.hid (fun W => (rm W).1)
 rw [hl, Int.toNat_natCast] at RM
 clear rm q2 hl bd hx1 hx2
 go_enter Tryz.func98, Tryz.ntmps98
 go_wp2
 go_ret
 refine ⟨⟨48 + l, ?_, RM.out⟩, rfl⟩
 first | rfl | (congr 2; omega) | (show Ending.returned (Value.int .i64 _) = Ending.returned (Value.int .i64 _); congr 2; omega)
theorem zzL (x : Int) (h0 : 72057594037927936 ≤ x) (h1 : x ≤ 18446744073709551615) (w : World) :
  Calls Tryz.prog 98 #[.int .u64 x] w fun e w' => (∃ r : Nat, e = .returned (.int .i64 r) ∧ ∀ W, r ≤ 8 * W ↔ x.toNat < 256 ^ W) ∧ w = w' := by
 have d_x1 : decide ((4294967296 : Int) ≤ x) = true := decide_eq_true (by omega)
 obtain ⟨x1, hx1⟩ : ∃ y, y = x / 4294967296 := ⟨_, rfl⟩
 have e_x1 : x / 4294967296 = x1 := hx1.symm
 have d_x2 : decide ((65536 : Int) ≤ x1) = true := decide_eq_true (by omega)
 obtain ⟨x2, hx2⟩ : ∃ y, y = x1 / 65536 := ⟨_, rfl⟩
 have e_x2 : x1 / 65536 = x2 := hx2.symm
 have d_x3 : decide ((256 : Int) ≤ x2) = true := decide_eq_true (by omega)
 obtain ⟨x3, hx3⟩ : ∃ y, y = x2 / 256 := ⟨_, rfl⟩
 have e_x3 : x2 / 256 = x3 := hx3.symm
 have q0 : 0 ≤ x3 := by omega
 have q1 : x3 ≤ 255 := by omega
 have q2 : x3 = ((x.toNat / 256 ^ 7 : Nat) : Int) := by rw [show (256 : Nat) ^ 7 = 72057594037927936 from rfl]; omega
 have rm := zeg x.toNat 7 (by omega) (.inr (by rw [show (256 : Nat) ^ 7 = 72057594037927936 from rfl]; omega)) (by rw [show (256 : Nat) ^ (7 + 1) = 18446744073709551616 from rfl]; omega) (by rw [show (256 : Nat) ^ 7 = 72057594037927936 from rfl]; omega)
 rw [← q2] at rm
 have bd := (rm 0).2
 obtain ⟨l, hl⟩ := Int.eq_ofNat_of_zero_le bd.1
 have tb := fun (w : World) => Lib.run_index_len8tab (P := Tryz.prog) (w := w) 9 .u8 x3 Tryz.underlying9 q0 q1
 rw [hl] at tb bd
 have bl : l ≤ 8 := by omega
 have RM := Lib.hid (fun W => (rm W).1)
 rw [hl, Int.toNat_natCast] at RM
 clear rm q2 hl bd hx1 hx2 hx3
 go_enter Tryz.func98, Tryz.ntmps98
 go_wp2
 go_ret
 refine ⟨⟨56 + l, ?_, RM.out⟩, rfl⟩
 first | rfl | (congr 2; omega) | (show Ending.returned (Value.int .i64 _) = Ending.returned (Value.int .i64 _); congr 2; omega)
theorem ztP (x : Int) (h0 : 0 ≤ x) (h1 : x ≤ 18446744073709551615) (w : World) :
  Calls Tryz.prog 98 #[.int .u64 x] w fun e w' => (∃ r : Nat, e = .returned (.int .i64 r) ∧ ∀ W, r ≤ 8 * W ↔ x.toNat < 256 ^ W) ∧ w = w' := by
 by_cases g0 : x < 256
 ·exact zzE x (by omega) g0 w
 by_cases g1 : x < 65536
 ·exact zzF x (by omega) g1 w
 by_cases g2 : x < 16777216
 ·exact zzG x (by omega) g2 w
 by_cases g3 : x < 4294967296
 ·exact zzH x (by omega) g3 w
 by_cases g4 : x < 1099511627776
 ·exact zzI x (by omega) g4 w
 by_cases g5 : x < 281474976710656
 ·exact zzJ x (by omega) g5 w
 by_cases g6 : x < 72057594037927936
 ·exact zzK x (by omega) g6 w
 exact zzL x (by omega) h1 w
end
section
open Go.RowKit
attribute [local irreducible] beL beK
theorem ztQ (w : World) (v : Value) (t : TypeId) : (w.alloc (.cells #[v] t)).cell? ⟨w.heap.size, 0, none⟩ = some v := by
 rw [cell_of_row _ _ _ _ _ _ (heap_alloc_new w (.cells #[v] t))]; rfl
theorem zdA {B : Nat} {w w' : World} {g o : Nat} {v : Value} (hb : Below B w w') (hg : g < B) (h : w.cell? ⟨g, o, none⟩ = some v) : w'.cell? ⟨g, o, none⟩ = some v := (hb.cell (p := ⟨g, o, none⟩) hg).trans h
end
section
open Go.RowKit
attribute [local irreducible] beL beK
theorem zwp (W n : Nat) (hW : W ≤ 8) (hn : n < 18446744073709551616) (w : World) :
  Calls Tryz.prog 66 #[.int .i64 W, .int .u64 n] w fun e w' => e = .returned (.bool (decide (n < 256 ^ W))) ∧ w = w' := by
 have hx : ((n : Int)) ≤ 18446744073709551615 := by omega
 have c := ztP (n : Int) (by omega) hx
 rw [Int.toNat_natCast] at c
 have C := Lib.hid c
 clear c hx hn
 go_enter Tryz.func66, Tryz.ntmps66
 go_wp2_with (go_at_call 98; fail)
 refine (C.out _).mono ?_
 rintro e w' ⟨⟨r, rfl, hr⟩, rfl⟩
 have HR := Lib.hid (hr W)
 clear hr
 go_wp2
 go_ret
 refine ⟨?_, rfl⟩
 have e1 : decide ((r : Int) ≤ 8 * (W : Int)) = decide (n < 256 ^ W) := decide_eq_decide.2 ⟨fun h => HR.out.1 (by omega), fun h => by have := HR.out.2 h; omega⟩
 rw [← e1]
 rfl
theorem zwq (W n : Nat) (hW : W ≤ 8) (hn : n < 18446744073709551616) (g : Nat) (w : World) (hc : w.cell? ⟨g, 0, none⟩ = some (.int .i64 W)) :
  Calls Tryz.prog 65 #[.int .u64 n, .pointer (some ⟨g, 0, none⟩)] w fun e w' => e = .returned (.bool (!decide (n < 256 ^ W))) ∧ w = w' := by
 have HN := Lib.hid hn
 clear hn
 go_enter Tryz.func65, Tryz.ntmps65
 go_wp2_with (go_at_call 66; fail)
 refine (zwp W n hW HN.out _).mono ?_
 rintro e w' ⟨rfl, rfl⟩
 go_wp2
 go_ret
 exact ⟨rfl, rfl⟩
theorem zwr (W n : Nat) (hW : W ≤ 8) (hn : n < 18446744073709551616) (g h : Nat) (w : World) (hc : w.cell? ⟨g, 0, none⟩ = some (.int .i64 W)) (hx : w.cell? ⟨h, 0, none⟩ = some (.int .u64 n)) :
  Calls Tryz.prog 97 #[.slice (some ⟨h, 0, none⟩) 1 1, .func (.func 65) #[] #[.pointer (some ⟨g, 0, none⟩)]] w fun e w' => e = .returned (.int .i64 (if n < 256 ^ W then -1 else 0)) ∧ w = w' := by
 have HN := Lib.hid hn
 clear hn
 go_enter Tryz.func97, Tryz.ntmps97
 go_wp2
 go_loopg [8] 1 (fun k i wr => (k = 1 ∧ i = .int .i64 0 ∨ k = 0 ∧ i = .int .i64 1 ∧ n < 256 ^ W) ∧ w = wr)
 case atStart => exact ⟨.inl ⟨rfl, rfl⟩, rfl⟩
 case round =>
  obtain ⟨hr, rfl⟩ := hrel
  rcases hr with ⟨rfl, rfl⟩ | ⟨rfl, rfl, hlt⟩
  ·go_wp2_with (go_at_call 65; fail)
   refine (zwq W n hW HN.out g _ hc).mono ?_
   rintro e w' ⟨rfl, rfl⟩
   by_cases hf : n < 256 ^ W
   ·rw [decide_eq_true hf]
    have HF := Lib.hid hf
    clear hf
    go_wp2
    go_roundg 0
    case measure => omega
    case rel => exact ⟨.inr ⟨rfl, rfl, HF.out⟩, rfl⟩
   ·rw [decide_eq_false hf]
    have HF := Lib.hid hf
    clear hf
    go_wp2
    go_ret
    refine ⟨?_, rfl⟩
    first | rfl | (rw [if_neg HF.out]; rfl)
  ·have HF := Lib.hid hlt
   clear hlt
   go_wp2
   go_ret
   refine ⟨?_, rfl⟩
   first | rfl | (rw [if_pos HF.out]; rfl)
theorem znZ (W n : Nat) (hW : W ≤ 8) (hn : n < 18446744073709551616) (g h : Nat) (w : World) (hc : w.cell? ⟨g, 0, none⟩ = some (.int .i64 W)) (hx : w.cell? ⟨h, 0, none⟩ = some (.int .u64 n)) :
  Calls Tryz.prog 64 #[.slice (some ⟨h, 0, none⟩) 1 1, .func (.func 65) #[] #[.pointer (some ⟨g, 0, none⟩)]] w fun e w' => e = .returned (.bool (!decide (n < 256 ^ W))) ∧ w = w' := by
 have c := Lib.hid (zwr W n hW hn g h w hc hx)
 by_cases hf : n < 256 ^ W
 ·rw [decide_eq_true hf]
  rw [if_pos hf] at c
  clear hf hn
  go_enter Tryz.func64, Tryz.ntmps64
  go_wp2_with (go_at_call 97; fail)
  refine c.out.mono ?_
  rintro e w' ⟨rfl, rfl⟩
  go_wp2
  go_ret
  exact ⟨rfl, rfl⟩
 ·rw [decide_eq_false hf]
  rw [if_neg hf] at c
  clear hf hn
  go_enter Tryz.func64, Tryz.ntmps64
  go_wp2_with (go_at_call 97; fail)
  refine c.out.mono ?_
  rintro e w' ⟨rfl, rfl⟩
  go_wp2
  go_ret
  exact ⟨rfl, rfl⟩
end
section
open Go.RowKit
attribute [local irreducible] beL beK
theorem zzM (A : Option Addr) (n0 c : Nat) (l0 : List Nat) (hl0 : n0 ≤ 100000000000) (W n : Nat) (h1 : 1 ≤ W) (h8 : W ≤ 8) (hn : n < 18446744073709551616) (hf : n < 256 ^ W) (h : Nat) (w : World) (hh : h < w.heap.size) (hx : w.cell? ⟨h, 0, none⟩ = some (.int .u64 n)) (ht : Txt w w.heap.size A n0 c l0) :
  Calls Tryz.prog 40 #[.slice A n0 c, .int .i64 W, .slice (some ⟨h, 0, none⟩) 1 1] w (fun e w' => ∃ v, e = .returned (.tuple #[v, .int .i64 0]) ∧ Own w' w.heap.size 5 v (l0 ++ beL W n) ∧ Below w.heap.size w w') := by
 have HN := Lib.hid hn
 have HF := Lib.hid hf
 clear hn hf
 go_enter Tryz.func40, Tryz.ntmps40
 have hb : Below w.heap.size w (w.alloc (.cells #[.int .i64 W] 3)) := (Below.refl _ _).alloc (jV _) _
 have c0 := ztQ w (.int .i64 (W : Int)) 3
 have cx := zdA hb hh hx
 have ht2 := ((ht.below hb).more (B' := (w.alloc (.cells #[.int .i64 W] 3)).heap.size) hb.size)
 have hln := ht.len
 go_wp2_with (go_at_call 64; fail)
 refine (znZ W n h8 HN.out w.heap.size h _ c0 cx).mono ?_
 rintro e w1 ⟨rfl, hw1⟩
 subst hw1
 rw [decide_eq_true HF.out]
 go_wp2_with (go_at_call 67; fail)
 refine (ztN A n0 c l0 _ ht2 (by omega)).mono ?_
 rintro e w2 ⟨v2, rfl, hown, b2⟩
 rw [World.size_alloc] at hown
 have hs := b2.size
 rw [World.size_alloc] at hs b2
 have hB := hb.trans (b2.mono (by omega))
 replace c0 := zdA b2 (by omega) c0
 replace cx := zdA b2 (by omega) cx
 clear b2 hb
 go_wp2
 go_loopg [8, 26] 1 (fun k v i wr => (k = 1 ∧ i = .int .i64 0 ∧ Own wr (w.heap.size + 1) 5 v l0 ∨ k = 0 ∧ i = .int .i64 1 ∧ Own wr (w.heap.size + 1) 5 v (l0 ++ beL W n)) ∧ wr.cell? ⟨w.heap.size, 0, none⟩ = some (.int .i64 W) ∧ wr.cell? ⟨h, 0, none⟩ = some (.int .u64 n) ∧ w.heap.size + 1 ≤ wr.heap.size ∧ Below w.heap.size w wr)
 case atStart => exact ⟨.inl ⟨rfl, rfl, hown⟩, c0, cx, hs, hB⟩
 case round =>
  clear c0 cx hs hB hown
  obtain ⟨hr, c0, cx, hs, hB⟩ := hrel
  rcases hr with ⟨rfl, rfl, ho⟩ | ⟨rfl, rfl, ho⟩
  ·have HO := Lib.hid ho
   clear ho
   go_wp2_with (go_at_call 68; fail)
   refine (ztO _ l0 (w.heap.size + 1) W n h8 HN.out (by omega) _ HO.out hs).mono ?_
   rintro e w3 ⟨⟨v3, rfl, ho3⟩, b3⟩
   have HO3 := Lib.hid ho3
   replace c0 := zdA b3 (by omega) c0
   replace cx := zdA b3 (by omega) cx
   have hs3 := jU hs b3.size
   have hB3 := hB.trans (b3.mono (by omega))
   clear b3 hB hs HO ho3
   go_wp2
   go_roundg 0
   case measure => omega
   case rel => exact ⟨.inr ⟨rfl, rfl, HO3.out⟩, c0, cx, hs3, hB3⟩
  ·have HO := Lib.hid ho
   clear ho
   go_wp2
   go_ret2
   exact ⟨_, rfl, HO.out.mono (by omega), hB⟩
end
section
open Go.RowKit
section
variable {P : Program} {Tb : Tab} {N k k0 ix : Nat} {l : LE} {m : MB} {R : List SF} {o : Oper} {sv : SV} {K : KS} {rs : List RB}
variable {i j n0 n e : Nat}
theorem zmD {xs : List (List Nat)} {x : List Nat} {ty : Nat} {xop : Operand} (r : Nat) (hj : xs[j]? = some x) (hr : R[r]? = some (.sl i n0 (SlF zeQ xs))) (h32 : x.length = 32) (hb : ∀ y ∈ x, y < 256) (ho : o.op = .slice ty xop none none none) (ht : arK P ty = some (32, 1)) (hx : evS l xop = some (hpS i j 32 0)) : ze3 P N k l m R o (.a (.s (.p (.hd k 32)))) [.gone] [.sl k 32 (TxG x)] := fun Q h X a w E H Kk hK => by
 have hfact : St (SlQ zeQ xs (h.r i)) w (X ++ zab (zad h [] m)) := fun w' hk => by
  have h1 : ((h.r i).1 = none → n0 = 0) ∧ SlF zeQ xs (h.r i) w' := H.facts _ (zaO.2 ⟨_, List.mem_of_getElem? hr, rfl⟩) w' hk
  obtain ⟨mm, hm⟩ := h1.2
  exact ⟨fun e => (hm.nil e).1, h1.2⟩
 obtain ⟨mm, hm⟩ := zqv zyi hfact
 obtain ⟨ad, hA, h1, -⟩ := LiF.get hm hj
 let q : Qd := (some (ad.add (j * 32)), 32)
 let h1' : Hn := ⟨h.b, fun t => if t = k then q else h.r t, h.q⟩
 have er : h1'.r k = q := if_pos rfl
 have hx' : ev (zcu h l) xop = some (.pointer (some (ad.add (j * 32)))) := by
  rw [zaf (h := h) hx]
  show some (Value.pointer (some ((((h.r i).1.getD ⟨0, 0, none⟩).add (j * 32)).add 0))) = _
  rw [hA, zau]
  rfl
 have hrun := zng (P := P) (S := ze0) (ws := w) ho ht hx' w (CanB.Keep.refl _ _) a N E
 unfold Oper.wp
 rw [hrun]
 have := hK h1' w (fun t ht => ⟨rfl, if_neg (by simp at ht; omega), rfl⟩) (Frm.refl _ _) (by
  show Sep (X ++ zab (zad h [] m)) [] w w [] (zaN h1' [_])
  refine (Sep.none_ H.xk).refacts fun r hr => ?_
  rcases List.mem_singleton.1 hr with rfl
  rw [show (X ++ zab (zad h [] m)) ++ zab ([] : List Res) = X ++ zab (zad h [] m) by simp [zab]]
  have h2 : St (TxF (some (ad.add (j * 32))) 32 x) w (X ++ zab (zad h [] m)) := zhC h1 (by show cl [.key x] = _; rw [zoC, zhD h32]) (by omega) (by omega) hb
  refine h2.imp fun w' hw => ?_
  show ((h1'.r k).1 = none → 32 = 0) ∧ TxF (h1'.r k).1 (h1'.r k).2 x w'
  rw [er]
  exact ⟨fun e => (by cases e), hw⟩)
 rw [show SV.den h1' (.a (.s (.p (.hd k 32)))) = .slice (some (ad.add (j * 32))) 32 32 by show Value.slice (h1'.r k).1 32 (h1'.r k).2 = _; rw [er]] at this
 exact this
end
end
end Go.Proofs.YtcmmpiaogfnmoaaGreatDoor
