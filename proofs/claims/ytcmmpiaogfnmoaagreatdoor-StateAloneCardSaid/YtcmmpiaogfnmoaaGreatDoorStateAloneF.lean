/- The walks of layer 5: what a number is divided by. Plain law of layer 5: what the law FeBytes asks; no walk. Plain law of layer 5: what numbers that may be stand for. Plain law of layer 6: a step's numbers. Plain: the prime of layer 5, and its powers; no program is in sight. Plain law of layer 5: what a number is divided by is it, to the power of the prime less 2. The ladder's numbers (plain): sums, differences, products by the prime; twice a point, two points together; what the program's steps stand for. Layer 6's reckoner, by computing. Two points change places, or none, by computing. A step -/
import Derived.Test.YtcmmpiaogfnmoaaGreatDoorStateAloneE
import Derived.Lib.Tables
import Derived.Lib.BitFns
set_option linter.unusedSimpArgs false
set_option linter.unusedVariables false
set_option maxRecDepth 200000
set_option maxHeartbeats 6000000
namespace Go.Proofs.YtcmmpiaogfnmoaaGreatDoor
section
open Go.RowKit
attribute [local irreducible] zdH zdA zbc zb9 zcU zcN sqN
def zoG (F H : Nat → Nat) (i : Nat) : Nat := if okF F 5 then H i else 0
theorem zna {F : Nat → Nat} (h : okF F 5) (H : Nat → Nat) : zoG F H = H := by funext i; unfold zoG; rw [if_pos h]
theorem zqC {F : Nat → Nat} (h : ¬ okF F 5) (H : Nat → Nat) : zoG F H = fun _ => 0 := by funext i; unfold zoG; rw [if_neg h]
def zkK (F : Nat → Nat) : Nat → Nat := sqN F 1
def zf6 (F : Nat → Nat) : Nat → Nat := zfv (zkK F) 2 F
def zco (F : Nat → Nat) : Nat → Nat := zb9 (zf6 F) (zkK F)
def zf7 (F : Nat → Nat) : Nat → Nat := zb9 (sqN (zco F) 1) (zf6 F)
def ziF (F : Nat → Nat) : Nat → Nat := zfv (zf7 F) 5 (zf7 F)
def zc1 (F : Nat → Nat) : Nat → Nat := zfv (ziF F) 10 (ziF F)
def zfx (F : Nat → Nat) : Nat → Nat := zfv (zc1 F) 20 (zc1 F)
def zdj (F : Nat → Nat) : Nat → Nat := zfv (zfx F) 10 (ziF F)
def zcp (F : Nat → Nat) : Nat → Nat := zfv (zdj F) 50 (zdj F)
def zd8 (F : Nat → Nat) : Nat → Nat := zfv (zcp F) 100 (zcp F)
def ziG (F : Nat → Nat) : Nat → Nat := zfv (zd8 F) 50 (zdj F)
def zuj (F : Nat → Nat) : Nat → Nat := zfv (ziG F) 5 (zco F)
theorem zqD {F : Nat → Nat} (h : okF F 5) : okF (zkK F) 5 := ziB F h 1
theorem zkL {F : Nat → Nat} (h : okF F 5) : okF (zf6 F) 5 := zeA _ _ _ (zqD h) h
theorem zf8 {F : Nat → Nat} (h : okF F 5) : okF (zco F) 5 := zd7 _ _ (zkL h) (zqD h)
theorem zkM {F : Nat → Nat} (h : okF F 5) : okF (zf7 F) 5 := zd7 _ _ (ziB _ (zf8 h) 1) (zkL h)
theorem zjI {F : Nat → Nat} (h : okF F 5) : okF (ziF F) 5 := zeA _ _ _ (zkM h) (zkM h)
theorem zf9 {F : Nat → Nat} (h : okF F 5) : okF (zc1 F) 5 := zeA _ _ _ (zjI h) (zjI h)
theorem zqE {F : Nat → Nat} (h : okF F 5) : okF (zfx F) 5 := zeA _ _ _ (zf9 h) (zf9 h)
theorem ze3 {F : Nat → Nat} (h : okF F 5) : okF (zdj F) 5 := zeA _ _ _ (zqE h) (zjI h)
theorem ze4 {F : Nat → Nat} (h : okF F 5) : okF (zcp F) 5 := zeA _ _ _ (ze3 h) (ze3 h)
theorem znb {F : Nat → Nat} (h : okF F 5) : okF (zd8 F) 5 := zeA _ _ _ (ze4 h) (ze4 h)
theorem zz7 {F : Nat → Nat} (h : okF F 5) : okF (ziG F) 5 := zeA _ _ _ (znb h) (ze3 h)
attribute [local irreducible] zkK zf6 zco zf7 ziF zc1 zfx zdj zcp zd8 ziG zfv
def zyG (F : Nat → Nat) (n : Int) (w : World) (e : Ending) (w' : World) : Prop :=
 (if okF F 5 ∧ 0 ≤ n ∧ n ≤ 300 then e = .returned (.tuple #[.agg (arr .u64 5 fun k => ((sqN F n.toNat k : Nat) : Int)), .int .i64 0]) else e = .returned (.tuple #[.agg (arr .u64 5 fun _ => 0), .int .i64 1])) ∧ Below w.heap.size w w'
theorem zrJ (F : Nat → Nat) (hF : ∀ i, i < 5 → F i < 18446744073709551616) (n : Int) (hn : -9223372036854775808 ≤ n ∧ n < 9223372036854775808) (w : World) :
  Calls Tryz.prog 163 #[.agg (arr .u64 5 fun i => ((F i : Nat) : Int)), .int .i64 n] w (zyG F n w) := by
 go_enter Tryz.func163, Tryz.ntmps163
 obtain ⟨h0, h1, hsz, hb⟩ := zgT w (.cells (arr .u64 5 fun i => ((F i : Nat) : Int)) 168) (.cells (arr .u64 5 fun _ => 0) 168)
 go_upto_region 1 with (refine zat rfl rfl zv5 ?_)
 generalize (w.alloc (.cells (arr .u64 5 fun i => ((F i : Nat) : Int)) 168)).alloc (.cells (arr .u64 5 fun _ => 0) 168) = wa at *
 (try simp only [Act.put, jA, jB, jC])
 try simp only [World.size_alloc]
 obtain ⟨g3, hz2, bl⟩ := zgS wa (.cells (arr .u64 5 fun i => ((F i : Nat) : Int)) 168)
 rw [hsz] at g3
 go_wp2_with (first | (refine zac rfl rfl rfl zbZ h0 ?_) | (refine zcm rfl rfl Tryz.underlying217 (by simp [Act.eval, Act.put]) (zmZ fun i => ((F i : Nat) : Int)) ?_) | (go_at_call 164; fail))
 refine (zgC 1 5 rfl (by omega) F hF _ _ _ g3).mono ?_
 rintro e w2 ⟨rfl, b2⟩
 have b3 := bl.trans (b2.mono (by omega))
 replace h0 := zak b3 (by omega) h0
 replace h1 := zak b3 (by omega) h1
 replace hb := hb.trans (b3.mono (by omega))
 clear b2 b3 bl g3 hz2 hsz
 by_cases hq : okF F 5
 ·rw [show decide (okF F 5) = true from decide_eq_true hq]
  have hq' := Lib.hid hq
  by_cases h2 : n < 0
  ·go_wp2_with (first | (refine zbL rfl (zbQ rfl (by simp [Act.eval, Act.put]) ze2) ?_) | (refine zaf rfl rfl rfl rfl zbZ h1 ?_))
   refine bodyPost_ret (zaI rfl rfl rfl zbZ (zaC h1)) rfl ⟨?_, zaD hb (by omega) _⟩
   rw [if_neg (by omega)]; rfl
  ·by_cases h3 : 300 < n
   ·go_wp2_with (first | (refine zbL rfl (zbQ rfl (by simp [Act.eval, Act.put]) ze2) ?_) | (refine zaf rfl rfl rfl rfl zbZ h1 ?_))
    refine bodyPost_ret (zaI rfl rfl rfl zbZ (zaC h1)) rfl ⟨?_, zaD hb (by omega) _⟩
    rw [if_neg (by omega)]; rfl
   ·obtain ⟨m, rfl⟩ := Int.eq_ofNat_of_zero_le (show 0 ≤ n by omega)
    go_wp2_with (first | (refine zac rfl rfl rfl zbZ h0 ?_) | (go_at_call 168; fail))
    refine (zgG F hq'.out m (by omega) _).mono ?_
    rintro e w4 ⟨rfl, b4⟩
    replace h1 := zak b4 (jM h1) h1
    replace hb := hb.trans (b4.mono hb.size)
    go_wp2_with (refine zaf rfl rfl rfl rfl zbZ h1 ?_)
    refine bodyPost_ret (zaI rfl rfl rfl zbZ (zaC h1)) rfl ⟨?_, zaD hb (by omega) _⟩
    rw [if_pos ⟨hq'.out, by omega, by omega⟩]; rfl
 ·rw [show decide (okF F 5) = false from decide_eq_false hq]
  go_wp2_with (first | (refine zbL rfl (zbQ rfl (by simp [Act.eval, Act.put]) ze2) ?_) | (refine zaf rfl rfl rfl rfl zbZ h1 ?_))
  refine bodyPost_ret (zaI rfl rfl rfl zbZ (zaC h1)) rfl ⟨?_, zaD hb (by omega) _⟩
  rw [if_neg (fun h => hq h.1)]; rfl
theorem zrK (F : Nat → Nat) (hF : okF F 5) (n : Nat) (hn : n ≤ 300) (w : World) :
  Calls Tryz.prog 163 #[.agg (arr .u64 5 fun i => ((F i : Nat) : Int)), .int .i64 n] w fun e w' => e = .returned (.tuple #[.agg (arr .u64 5 fun k => ((sqN F n k : Nat) : Int)), .int .i64 0]) ∧ Below w.heap.size w w' :=
 (zrJ F (fun i hi => by have := hF i hi; omega) n (by omega) w).mono fun e w' h => by
  unfold zyG at h
  rw [if_pos ⟨hF, by omega, by omega⟩] at h
  exact h
section
variable {X : List Nat} {w0 : World} {F G : Nat → Nat}
theorem zyH (V : Nat → Nat) (hv : V = sqN F 1) (hX : ∀ i ∈ X, i < w0.heap.size) (hF : okF F 5) : Calls Tryz.prog 168 #[.agg (ca [.row 5 (uw F)]), .int .i64 1] w0 fun e w' => e = .returned (.agg (ca [.row 5 (uw V)])) ∧ Sep X [] w0 w' [] [] := by
 subst hv
 rw [← zbR, ← zbR]
 exact (zgG F hF 1 (by omega) w0).mono fun e w' h => ⟨h.1, zfk hX h.2⟩
theorem zyI (V : Nat → Nat) (hv : V = zb9 F G) (hX : ∀ i ∈ X, i < w0.heap.size) (hF : okF F 5) (hG : okF G 5) : Calls Tryz.prog 167 #[.agg (ca [.row 5 (uw F)]), .agg (ca [.row 5 (uw G)])] w0 fun e w' => e = .returned (.agg (ca [.row 5 (uw V)])) ∧ Sep X [] w0 w' [] [] := by
 subst hv
 rw [← zbR, ← zbR, ← zbR]
 exact (zkF F G hF hG w0).mono fun e w' h => ⟨h.1, zfk hX h.2⟩
theorem zga (n : Nat) (V : Nat → Nat) (hv : V = zfv F n G) (hX : ∀ i ∈ X, i < w0.heap.size) (hF : okF F 5) (hG : okF G 5) (hn : n < 1000) : Calls Tryz.prog 166 #[.agg (ca [.row 5 (uw F)]), .int .i64 (n : Int), .agg (ca [.row 5 (uw G)])] w0 fun e w' => e = .returned (.agg (ca [.row 5 (uw V)])) ∧ Sep X [] w0 w' [] [] := by
 subst hv
 rw [← zbR, ← zbR, ← zbR]
 exact (zxf F G hF hG n hn w0).mono fun e w' h => ⟨h.1, zfk hX h.2⟩
end
theorem zEe : ca [.row 5 fun _ => .int .u64 0] = ca [.row 5 (uw fun _ => 0)] := rfl
theorem zrL {F : Nat → Nat} (hF : ∀ i, i < 5 → F i < 18446744073709551616) {X : List Nat} {w0 : World} (hX : ∀ k ∈ X, k < w0.heap.size) :
  Calls Tryz.prog 137 #[.agg (ca [.row 5 (uw F)])] w0 fun e w' => e = .returned (.tuple #[.agg (ca [.row 5 (uw (zoG F (zuj F)))]), .int .i64 (if okF F 5 then 0 else 1)]) ∧ Sep X [] w0 w' [] [] := by
 refine zep Tryz.ntmps137 Tryz.func137 rfl rfl fun a E => ?_; replace E : Env a _ [(0, _)] := E
 have H : Sep X [] w0 w0 [] [] := Sep.start hX (fun _ h => by cases h)
 refine Vr ?_; refine Wb E H fun b1 w a H E => ?_; refine Wa (z := [.row 5 fun _ => .int .u64 0]) E H fun b2 w a H E => ?_; refine Vv E pka fun a E => ?_; refine Vn ?_; refine wp_seq_k fun K1 hK1 => ?_; refine Vr ?_; refine Vv E (pkl 5 H 1) fun a E => ?_; refine Ve E ?_
 refine zrm (sz := 5) (z := [.row 5 fun _ => .int .u64 0]) E H rfl Tryz.underlying217 (by kernel_rfl) (by decide) (by kernel_rfl) ⟨_, _, 0, _, rfl, rfl, rfl, rfl, rfl⟩ ?_; clear H; intro b16 w H _; refine Vp E fun a E => ?_; refine Ve E ?_; refine Vc E ?_; refine (zgC 1 5 rfl (by omega) F hF _ _ _ (by rw [zbR]; exact H.holds _ (List.mem_of_getElem? (i := 0) rfl))).mono ?_; rintro e w ⟨rfl, hb⟩
 have F := (Frm.of_below hb : Frm [] _ _)
 replace H := H.grow F
 refine Vp E fun a E => ?_; clear F; clear hb; refine Vv E (zsy rfl rfl) fun a E => ?_; refine Vn ?_; refine zhZ (d := 18) E rfl ?_ ?_
 ·skip
  clear E; intro c18 E
  have hq : ¬ okF F 5 := by simpa using c18
  refine zps E rfl ?_; refine Vr ?_; refine Vv E (zh7 (n := 5) (z := [.row 5 fun _ => .int .u64 0]) [.row 5 (uw fun _ => 0)] rfl (by kernel_rfl) (by kernel_rfl) rfl zEe) fun a E => ?_; refine Ws 1 E H fun w H => ?_; replace H : Sep _ _ _ _ [_, _, _] _ := H; refine Vv E pka fun a E => ?_; refine Vn ?_; refine wp_ret ?_
  repeat (first | refine zeM ?_ | refine zdO ?_)
  refine zy7 rfl E (by exact zEO (n := 5) H 1 rfl rfl rfl (by kernel_rfl)) (zvX rfl) ?_
  first | rw [if_pos hq, zna hq] | rw [if_neg hq, zqC hq]
  exact ⟨by with_unfolding_all rfl, H.keepLR (L := []) (R := [])⟩
 ·skip
  clear E; intro c18 E
  have hq : okF F 5 := by simpa using c18
  refine zpt E rfl ?_; refine wp_skip ?_; refine hK1 _ _ ?_; refine Vr ?_; refine Vv E pka fun a E => ?_; refine Vn ?_; refine Vr ?_; refine Vv E (pkl 5 H 2) fun a E => ?_; refine Ve E ?_; refine Vc E ?_; refine (zyH (F := F) (zkK F) (by unfold zkK; rfl) H.xk hq).mono ?_; rintro e w ⟨rfl, H1⟩
  replace H := H.call H1
  clear H1; replace H : Sep _ _ _ _ [_, _, _] [] := H; refine Vp E fun a E => ?_; refine Wa (z := [.row 5 fun _ => .int .u64 0]) E H fun b5 w a H E => ?_; refine Ws 0 E H fun w H => ?_; replace H : Sep _ _ _ _ [_, _, _, _] _ := H; refine Vn ?_; refine Vr ?_; refine Vv E pkm fun a E => ?_
  refine Vv E (pkl 5 H 0) fun a E => ?_; refine Vv E (pkl 5 H 3) fun a E => ?_; refine Ve E ?_; refine Vc E ?_; refine (zga (F := zkK F) (G := F) 2 (zf6 F) (by unfold zf6; rfl) H.xk (zqD hq) hq (by decide)).mono ?_; rintro e w ⟨rfl, H1⟩
  replace H := H.call H1
  clear H1; replace H : Sep _ _ _ _ [_, _, _, _] [] := H; refine Vp E fun a E => ?_; refine Wa (z := [.row 5 fun _ => .int .u64 0]) E H fun b6 w a H E => ?_; refine Ws 0 E H fun w H => ?_; replace H : Sep _ _ _ _ [_, _, _, _, _] _ := H; refine Vn ?_; refine Vr ?_; refine Vv E (pkl 5 H 0) fun a E => ?_
  refine Vv E (pkl 5 H 1) fun a E => ?_; refine Ve E ?_; refine Vc E ?_; refine (zyI (F := zf6 F) (G := zkK F) (zco F) (by unfold zco; rfl) H.xk (zkL hq) (zqD hq)).mono ?_; rintro e w ⟨rfl, H1⟩
  replace H := H.call H1
  clear H1; replace H : Sep _ _ _ _ [_, _, _, _, _] [] := H; refine Vp E fun a E => ?_; refine Wa (z := [.row 5 fun _ => .int .u64 0]) E H fun b7 w a H E => ?_; refine Ws 0 E H fun w H => ?_; replace H : Sep _ _ _ _ [_, _, _, _, _, _] _ := H; refine Vn ?_; refine wp_seq_k fun K8 hK8 => ?_
  apply zm9 E H 5 [.v _, .v _, .v _, .v _, .n _ _] [[], [0], [], [1, 2], []] [] [some 29, some 30, some 31, some 32, some 8] (by kernel_rfl) (by kernel_rfl) (by kernel_rfl) rfl rfl rfl rfl ?fo7b1 ?fe7b1
  case fo7b1 =>
   refine' Fv (fun w H => pkl 5 H 0) ?_
   refine' Fw rfl rfl rfl (fun w H => zyH (F := zco F) (sqN (zco F) 1) rfl H.xk (zf8 hq)) ?_
   refine' Fv (fun w H => pkl 5 H 1) ?_
   refine' Fw rfl rfl rfl (fun w H => zyI (F := sqN (zco F) 1) (G := zf6 F) (zf7 F) (by unfold zf7; rfl) H.xk (ziB _ (zf8 hq) 1) (zkL hq)) ?_
   refine' zyE (z := [.row 5 fun _ => .int .u64 0]) rfl (by kernel_rfl) rfl ?_
   exact zqx
  case fe7b1 =>
   try clear E a H
   intro B a w E H
   simp only [zfw, zqB, zyF, List.cons_append, List.nil_append] at E H
   generalize B 4 = b8 at E H
   clear B; replace H : Sep _ _ _ _ [_, _, _, _, _, _, _] [] := H
   try (simp only [jH, jI, jF, jG])
   refine Ws 0 E H fun w H => ?_; replace H : Sep _ _ _ _ [_, _, _, _, _, _, _] _ := H; refine hK8 _ _ ?_; refine Vr ?_; refine Vv E pkm fun a E => ?_; refine Vv E (pkl 5 H 0) fun a E => ?_; refine Vv E (pkl 5 H 0) fun a E => ?_; refine Ve E ?_; refine Vc E ?_
   refine (zga (F := zf7 F) (G := zf7 F) 5 (ziF F) (by unfold ziF; rfl) H.xk (zkM hq) (zkM hq) (by decide)).mono ?_; rintro e w ⟨rfl, H1⟩
   replace H := H.call H1
   clear H1; replace H : Sep _ _ _ _ [_, _, _, _, _, _, _] [] := H; refine Vp E fun a E => ?_; refine Wa (z := [.row 5 fun _ => .int .u64 0]) E H fun b9 w a H E => ?_; refine Ws 0 E H fun w H => ?_; replace H : Sep _ _ _ _ [_, _, _, _, _, _, _, _] _ := H; refine Vn ?_; refine Vr ?_; refine Vv E pkm fun a E => ?_
   refine Vv E (pkl 5 H 0) fun a E => ?_; refine Vv E (pkl 5 H 0) fun a E => ?_; refine Ve E ?_; refine Vc E ?_; refine (zga (F := ziF F) (G := ziF F) 10 (zc1 F) (by unfold zc1; rfl) H.xk (zjI hq) (zjI hq) (by decide)).mono ?_; rintro e w ⟨rfl, H1⟩
   replace H := H.call H1
   clear H1; replace H : Sep _ _ _ _ [_, _, _, _, _, _, _, _] [] := H; refine Vp E fun a E => ?_; refine Wa (z := [.row 5 fun _ => .int .u64 0]) E H fun b10 w a H E => ?_; refine Ws 0 E H fun w H => ?_; replace H : Sep _ _ _ _ [_, _, _, _, _, _, _, _, _] _ := H; refine Vn ?_; refine Vr ?_; refine Vv E pkm fun a E => ?_
   refine Vv E (pkl 5 H 0) fun a E => ?_; refine Vv E (pkl 5 H 0) fun a E => ?_; refine Ve E ?_; refine Vc E ?_; refine (zga (F := zc1 F) (G := zc1 F) 20 (zfx F) (by unfold zfx; rfl) H.xk (zf9 hq) (zf9 hq) (by decide)).mono ?_; rintro e w ⟨rfl, H1⟩
   replace H := H.call H1
   clear H1; replace H : Sep _ _ _ _ [_, _, _, _, _, _, _, _, _] [] := H; refine Vp E fun a E => ?_; refine Wa (z := [.row 5 fun _ => .int .u64 0]) E H fun b11 w a H E => ?_; refine Ws 0 E H fun w H => ?_; replace H : Sep _ _ _ _ [_, _, _, _, _, _, _, _, _, _] _ := H; refine Vn ?_; refine Vr ?_; refine Vv E pkm fun a E => ?_
   refine Vv E (pkl 5 H 0) fun a E => ?_; refine Vv E (pkl 5 H 2) fun a E => ?_; refine Ve E ?_; refine Vc E ?_; refine (zga (F := zfx F) (G := ziF F) 10 (zdj F) (by unfold zdj; rfl) H.xk (zqE hq) (zjI hq) (by decide)).mono ?_; rintro e w ⟨rfl, H1⟩
   replace H := H.call H1
   clear H1; replace H : Sep _ _ _ _ [_, _, _, _, _, _, _, _, _, _] [] := H; refine Vp E fun a E => ?_; refine Wa (z := [.row 5 fun _ => .int .u64 0]) E H fun b12 w a H E => ?_; refine Ws 0 E H fun w H => ?_; replace H : Sep _ _ _ _ [_, _, _, _, _, _, _, _, _, _, _] _ := H; refine Vn ?_; refine Vr ?_; refine Vv E pkm fun a E => ?_
   refine Vv E (pkl 5 H 0) fun a E => ?_; refine Vv E (pkl 5 H 0) fun a E => ?_; refine Ve E ?_; refine Vc E ?_; refine (zga (F := zdj F) (G := zdj F) 50 (zcp F) (by unfold zcp; rfl) H.xk (ze3 hq) (ze3 hq) (by decide)).mono ?_; rintro e w ⟨rfl, H1⟩
   replace H := H.call H1
   clear H1; replace H : Sep _ _ _ _ [_, _, _, _, _, _, _, _, _, _, _] [] := H; refine Vp E fun a E => ?_; refine Wa (z := [.row 5 fun _ => .int .u64 0]) E H fun b13 w a H E => ?_; refine Ws 0 E H fun w H => ?_; replace H : Sep _ _ _ _ [_, _, _, _, _, _, _, _, _, _, _, _] _ := H; refine Vn ?_; refine wp_seq_k fun K14 hK14 => ?_
   apply zm9 E H 8 [.v _, .v _, .v _, .v _, .v _, .v _, .v _, .n _ _] [[], [], [], [], [1, 2, 3], [], [0, 4, 5], []] [] [some 53, some 54, some 55, some 56, some 57, some 58, some 59, some 14] (by kernel_rfl) (by kernel_rfl) (by kernel_rfl) rfl rfl rfl rfl ?fo13c2 ?fe13c2
   case fo13c2 =>
    refine' Fv (fun w H => zj1 rfl rfl) ?_
    refine' Fv (fun w H => zj1 rfl rfl) ?_
    refine' Fv (fun w H => pkl 5 H 0) ?_
    refine' Fv (fun w H => pkl 5 H 0) ?_
    refine' Fw rfl rfl rfl (fun w H => zga (F := zcp F) (G := zcp F) 100 (zd8 F) (by unfold zd8; rfl) H.xk (ze4 hq) (ze4 hq) (by decide)) ?_
    refine' Fv (fun w H => pkl 5 H 1) ?_
    refine' Fw rfl rfl rfl (fun w H => zga (F := zd8 F) (G := zdj F) 50 (ziG F) (by unfold ziG; rfl) H.xk (znb hq) (ze3 hq) (by decide)) ?_
    refine' zyE (z := [.row 5 fun _ => .int .u64 0]) rfl (by kernel_rfl) rfl ?_
    exact zqx
   case fe13c2 =>
    try clear E a H
    intro B a w E H
    simp only [zfw, zqB, zyF, List.cons_append, List.nil_append] at E H
    generalize B 7 = b14 at E H
    clear B; replace H : Sep _ _ _ _ [_, _, _, _, _, _, _, _, _, _, _, _, _] [] := H
    try (simp only [jH, jI, jF, jG])
    refine Ws 0 E H fun w H => ?_; replace H : Sep _ _ _ _ [_, _, _, _, _, _, _, _, _, _, _, _, _] _ := H; refine hK14 _ _ ?_; refine Vr ?_; refine Vv E pkm fun a E => ?_; refine Vv E (pkl 5 H 0) fun a E => ?_; refine Vv E (pkl 5 H 7) fun a E => ?_; refine Ve E ?_; refine Vc E ?_
    refine (zga (F := ziG F) (G := zco F) 5 (zuj F) (by unfold zuj; rfl) H.xk (zz7 hq) (zf8 hq) (by decide)).mono ?_; rintro e w ⟨rfl, H1⟩
    replace H := H.call H1
    clear H1; replace H : Sep _ _ _ _ [_, _, _, _, _, _, _, _, _, _, _, _, _] [] := H; refine Vp E fun a E => ?_; refine Ws 11 E H fun w H => ?_; replace H : Sep _ _ _ _ [_, _, _, _, _, _, _, _, _, _, _, _, _] _ := H; refine Vv E pka fun a E => ?_; refine Vn ?_; refine wp_ret ?_
    repeat (first | refine zeM ?_ | refine zdO ?_)
    refine zy7 rfl E (by exact zEO (n := 5) H 11 rfl rfl rfl (by kernel_rfl)) (zvX rfl) ?_
    first | rw [if_pos hq, zna hq] | rw [if_neg hq, zqC hq]
    exact ⟨by with_unfolding_all rfl, H.keepLR (L := []) (R := [])⟩
theorem zrM (F : Nat → Nat) (hF : ∀ i, i < 5 → F i < 18446744073709551616) (w : World) :
  Calls Tryz.prog 137 #[.agg (arr .u64 5 fun i => ((F i : Nat) : Int))] w fun e w' => e = .returned (.tuple #[.agg (arr .u64 5 fun k => ((zoG F (zuj F) k : Nat) : Int)), .int .i64 (if okF F 5 then 0 else 1)]) ∧ Below w.heap.size w w' := by
 rw [zbR, zbR]
 exact (zrL (X := []) hF (fun _ h => by cases h)).mono fun e w' h => ⟨h.1, h.2.frm.below⟩
end
section
open Go.RowKit
theorem znc (X Y : Nat → Nat) : ∀ n, (∀ i, i < n → X i = Y i) → zbp X n = zbp Y n
 | 0, _ => rfl
 | n + 1, h => by rw [zdT, zdT, znc X Y n (fun i hi => h i (by omega)), h n (by omega)]
theorem zuk (F : Nat → Nat) (hF : okF F 5) (k : Nat) : zdB F k = zbc (zbp (zdA F) 5) k := by unfold zdB; rw [if_pos hF]
def zoH (k : Nat → Nat) (i : Nat) : Nat := if i = 31 then k 31 % 128 else k i
theorem zCN (k : Nat → Nat) : okF (ofN k) 5 := fun i _ => by have : ofN k i < 2251799813685248 := Nat.mod_lt _ (by omega); omega
end
section
open Go.RowKit
attribute [local irreducible] zdH zbc zb9 zcU zcN sqN
def zbd (X : Nat → Nat) (v : Nat) : Prop := okF X 5 ∧ zbp X 5 % pN = v % pN
def zqF (F G : Nat → Nat) : Nat → Nat := zcU fun i => F i + G i
def zqG (F G : Nat → Nat) : Nat → Nat := zcU (zcN F G)
theorem zjJ {F G : Nat → Nat} (hF : okF F 5) (hG : okF G 5) : okF (zqF F G) 5 := zyD _ fun i hi => by have := hF i hi; have := hG i hi; show F i + G i < _; omega
theorem ziH {F G : Nat → Nat} (hF : okF F 5) : okF (zqG F G) 5 := zyD _ fun i hi => zue F G hF i hi
theorem zxi {F G : Nat → Nat} {a b : Nat} (hF : zbd F a) (hG : zbd G b) : zbd (zqF F G) (a + b) :=
 ⟨zjJ hF.1 hG.1, by unfold zqF; rw [zz2, Nat.add_mod, hF.2, hG.2, ← Nat.add_mod]⟩
theorem ziI {F G : Nat → Nat} {a b : Nat} (hF : zbd F a) (hG : zbd G b) : zbd (zb9 F G) (a * b) :=
 ⟨zd7 F G hF.1 hG.1, by rw [zxd, Nat.mul_mod, hF.2, hG.2, ← Nat.mul_mod]⟩
theorem zxj {F G : Nat → Nat} {a b c : Nat} (hF : zbd F a) (hG : zbd G b) (h : (c + b) % pN = a % pN) : zbd (zqG F G) c := by
 refine ⟨ziH hF.1, ?_⟩
 have h1 := zz1 F G hG.1
 have e : zbp (zqG F G) 5 = zbp (zcU (zcN F G)) 5 := rfl
 rw [e]
 generalize zbp (zcU (zcN F G)) 5 = x at *
 have h2 : (x + b) % pN = (c + b) % pN := by
  rw [h, ← hF.2, ← h1, Nat.add_mod, ← hG.2, ← Nat.add_mod]
 generalize hp : pN = p at h2 ⊢
 have hp0 : 0 < p := by rw [← hp]; unfold pN; omega
 clear h1 e h hF hG
 have h3 : (x + b + (p - b % p)) % p = (c + b + (p - b % p)) % p := by rw [Nat.add_mod, h2, ← Nat.add_mod]
 have e1 : ∀ y, (y + b + (p - b % p)) % p = y % p := by
  intro y
  have hb := Nat.div_add_mod b p
  have hl := Nat.mod_lt b hp0
  have : y + b + (p - b % p) = y + p * (b / p + 1) := by rw [Nat.mul_add]; omega
  rw [this, Nat.add_mul_mod_self_left]
 rwa [e1, e1] at h3
theorem zkN {F : Nat → Nat} {a : Nat} (hF : zbd F a) : ∀ n, zbd (sqN F n) (a ^ 2 ^ n)
 | 0 => by unfold sqN; simpa using hF
 | n + 1 => by
  rw [zqs, Nat.pow_succ, Nat.mul_two, Nat.pow_add]
  exact ziI (zkN hF n) (zkN hF n)
def znV (x : Nat) (i : Nat) : Nat := if i = 0 then x else 0
theorem zyJ {x : Nat} (h : x < 4503599627370496) : okF (znV x) 5 := fun i _ => by unfold znV; split <;> omega
theorem zz8 (x : Nat) : zbp (znV x) 5 = x := by rw [zaN]; unfold znV; simp
theorem zhD {x : Nat} (h : x < 4503599627370496) : zbd (znV x) x := ⟨zyJ h, by rw [zz8]⟩
end
section
open Go.RowKit
attribute [local irreducible] zdH zbc zb9 zcU zcN sqN zqF zqG znV zbp zdB zuj ofN
def sA (X Z : Nat → Nat) := zqF X Z
def sB (X Z : Nat → Nat) := zqG X Z
def sDA (X Z X' Z' : Nat → Nat) := zb9 (zqG X' Z') (sA X Z)
def sCB (X Z X' Z' : Nat → Nat) := zb9 (zqF X' Z') (sB X Z)
def sHX (X Z X' Z' : Nat → Nat) := sqN (zqF (sDA X Z X' Z') (sCB X Z X' Z')) 1
def sHZ (X Z X' Z' U : Nat → Nat) := zb9 U (sqN (zqG (sDA X Z X' Z') (sCB X Z X' Z')) 1)
def sAA (X Z : Nat → Nat) := sqN (sA X Z) 1
def sBB (X Z : Nat → Nat) := sqN (sB X Z) 1
def sE (X Z : Nat → Nat) := zqG (sAA X Z) (sBB X Z)
def sLX (X Z : Nat → Nat) := zb9 (sAA X Z) (sBB X Z)
def sLZ (X Z : Nat → Nat) := zb9 (sE X Z) (zqF (sAA X Z) (zb9 (znV 121665) (sE X Z)))
section
variable {X Z X' Z' U : Nat → Nat}
theorem zDO (h : okF X 5) (h' : okF Z 5) : okF (sA X Z) 5 := zjJ h h'
theorem zDP (h : okF X 5) (h' : okF Z 5) : okF (sB X Z) 5 := ziH h
theorem zum (h1 : okF X 5) (h2 : okF Z 5) (h3 : okF X' 5) (h4 : okF Z' 5) : okF (sDA X Z X' Z') 5 := zd7 _ _ (ziH h3) (zDO h1 h2)
theorem zz9 (h1 : okF X 5) (h2 : okF Z 5) (h3 : okF X' 5) (h4 : okF Z' 5) : okF (sCB X Z X' Z') 5 := zd7 _ _ (zjJ h3 h4) (zDP h1 h2)
theorem zun (h : okF X 5) (h' : okF Z 5) : okF (sAA X Z) 5 := ziB _ (zDO h h') 1
theorem zCO (h : okF X 5) (h' : okF Z 5) : okF (sBB X Z) 5 := ziB _ (zDP h h') 1
theorem zDQ (h : okF X 5) (h' : okF Z 5) : okF (sE X Z) 5 := ziH (zun h h')
theorem ziJ : okF (znV 121665) 5 := zyJ (by omega)
end
end
section
def IsP (p : Nat) : Prop := 2 ≤ p ∧ ∀ d, d ∣ p → d = 1 ∨ d = p
theorem znd {p a b : Nat} (hp : IsP p) (h : p ∣ a * b) : p ∣ a ∨ p ∣ b := by
 rcases hp.2 (Nat.gcd p a) (Nat.gcd_dvd_left p a) with h1 | h1
 ·exact .inr (Nat.Coprime.dvd_of_dvd_mul_left h1 h)
 ·exact .inl (by rw [← h1]; exact Nat.gcd_dvd_right p a)
theorem zuo (m : Nat) (h : 2 ≤ m) : ∃ q, IsP q ∧ q ∣ m := by
 induction m using Nat.strongRecOn with
 | _ m ih =>
  by_cases hm : ∃ d, d ∣ m ∧ d ≠ 1 ∧ d ≠ m
  ·obtain ⟨d, hd, h1, h2⟩ := hm
   have hle := Nat.le_of_dvd (by omega) hd
   have h0 : d ≠ 0 := fun e => by rw [e] at hd; have := Nat.eq_zero_of_zero_dvd hd; omega
   obtain ⟨q, hq, hqd⟩ := ih d (by omega) (by omega)
   exact ⟨q, hq, Nat.dvd_trans hqd hd⟩
  ·refine ⟨m, ⟨h, fun d hd => ?_⟩, Nat.dvd_refl m⟩
   by_cases h1 : d = 1
   ·exact .inl h1
   ·by_cases h2 : d = m
    ·exact .inr h2
    ·exact absurd ⟨d, hd, h1, h2⟩ hm
def zAa : List Nat → Nat
 | [] => 1
 | q :: l => q * zAa l
theorem zup {q : Nat} (hq : IsP q) : ∀ (l : List Nat), (∀ x ∈ l, IsP x) → q ∣ zAa l → q ∈ l
 | [], _, h => by have := Nat.le_of_dvd (by unfold zAa; omega) h; unfold zAa at this; have := hq.1; omega
 | x :: l, hl, h => by
  rcases znd hq h with h1 | h1
  ·rcases (hl x (by simp)).2 q h1 with h2 | h2
   ·have := hq.1; omega
   ·simp [h2]
  ·simp [zup hq l (fun y hy => hl y (by simp [hy])) h1]
theorem zyK : ∀ (N : Nat) (f : Nat → Nat), (∀ i, i < N + 1 → f i < N) → ∃ i j, i < j ∧ j < N + 1 ∧ f i = f j
 | 0, f, h => absurd (h 0 (by omega)) (by omega)
 | N + 1, f, h => by
  by_cases hv : ∃ i, i < N + 1 ∧ f i = f (N + 1)
  ·obtain ⟨i, hi, e⟩ := hv
   exact ⟨i, N + 1, hi, by omega, e⟩
  ·have hne : ∀ i, i < N + 1 → f i ≠ f (N + 1) := fun i hi e => hv ⟨i, hi, e⟩
   have hlast := h (N + 1) (by omega)
   obtain ⟨i, j, hij, hj, e⟩ := zyK N (fun i => if f i = N then f (N + 1) else f i) (fun i hi => by
    have h1 := h i (by omega)
    have h2 := hne i hi
    try dsimp only
    split <;> omega)
   refine ⟨i, j, hij, by omega, ?_⟩
   have hi1 := hne i (by omega)
   have hj1 := hne j hj
   try dsimp only at e
   split at e <;> split at e <;> omega
theorem zFd (N : Nat) (f : Nat → Nat) (h : ∀ i, i < N → f i < N) (inj : ∀ i j, i < j → j < N → f i ≠ f j) (y : Nat) (hy : y < N) : ∃ i, i < N ∧ f i = y := by
 refine Classical.byContradiction fun hno => ?_
 have hn : ∀ i, i < N → f i ≠ y := fun i hi e => hno ⟨i, hi, e⟩
 obtain ⟨M, rfl⟩ : ∃ M, N = M + 1 := ⟨N - 1, by omega⟩
 obtain ⟨i, j, hij, hj, e⟩ := zyK M (fun i => if f i = M then y else f i) (fun i hi => by
  have h1 := h i hi
  have h2 := hn i hi
  try dsimp only
  split <;> omega)
 have hi1 := hn i (by omega)
 have hj1 := hn j hj
 refine inj i j hij hj ?_
 try dsimp only at e
 split at e <;> split at e <;> omega
theorem zd9 {n g k : Nat} (h : g ^ k % n = 1 % n) (t : Nat) : g ^ (k * t) % n = 1 % n := by
 rw [Nat.pow_mul, Nat.pow_mod, h, ← Nat.pow_mod, Nat.one_pow]
theorem zCP {n g N x y : Nat} (hN : 0 < N) (h : g ^ N % n = 1 % n) (k : Nat) (e : g ^ k * x % n = g ^ k * y % n) : x % n = y % n := by
 have key : ∀ z, (g ^ (N - 1)) ^ k * (g ^ k * z) % n = z % n := by
  intro z
  rw [← Nat.mul_assoc, ← Nat.mul_pow, ← Nat.pow_succ, show (N - 1).succ = N from by omega, Nat.mul_mod, Nat.pow_mod, h, ← Nat.pow_mod, Nat.one_pow, ← Nat.mul_mod, Nat.one_mul]
 rw [← key x, ← key y, Nat.mul_mod, e, ← Nat.mul_mod]
theorem zEf {p : Nat → Prop} : ∀ k, p k → ∃ e, p e ∧ ∀ d, d < e → ¬ p d := by
 intro k
 induction k using Nat.strongRecOn with
 | _ k ih =>
  intro hk
  by_cases hm : ∃ d, d < k ∧ p d
  ·obtain ⟨d, hd, hp⟩ := hm
   exact ih d hd hp
  ·exact ⟨k, hk, fun d hd hp => hm ⟨d, hd, hp⟩⟩
theorem zAb {n g N : Nat} {qs : List Nat} (hN : 0 < N) (hqs : ∀ q ∈ qs, IsP q) (hm : zAa qs = N) (h1 : g ^ N % n = 1 % n) (h2 : ∀ q ∈ qs, g ^ (N / q) % n ≠ 1 % n) (k : Nat) (hk0 : 0 < k) (hk : k < N) : g ^ k % n ≠ 1 % n := by
 intro hk1
 obtain ⟨e, ⟨he0, he1⟩, hmin⟩ := zEf (p := fun e => 0 < e ∧ g ^ e % n = 1 % n) k ⟨hk0, hk1⟩
 have hek : e ≤ k := by
  rcases Nat.lt_or_ge k e with h | h
  ·exact absurd ⟨hk0, hk1⟩ (hmin k h)
  ·exact h
 have hdv : e ∣ N := by
  have hr := Nat.div_add_mod N e
  have hl := Nat.mod_lt N he0
  have h3 : g ^ (N % e) % n = 1 % n := by
   have h4 := zd9 he1 (N / e)
   rw [← hr, Nat.pow_add, Nat.mul_mod, h4, ← Nat.mul_mod, Nat.one_mul] at h1
   exact h1
  rcases Nat.eq_zero_or_pos (N % e) with h | h
  ·exact Nat.dvd_of_mod_eq_zero h
  ·exact absurd ⟨h, h3⟩ (hmin _ hl)
 obtain ⟨t, ht⟩ := hdv
 have ht2 : 2 ≤ t := by
  rcases Nat.lt_or_ge t 2 with h | h
  ·have : t = 0 ∨ t = 1 := by omega
   rcases this with rfl | rfl <;> omega
  ·exact h
 obtain ⟨q, hq, hqt⟩ := zuo t ht2
 have hqm : q ∈ qs := zup hq qs hqs (by rw [hm, ht]; exact Nat.dvd_trans hqt (Nat.dvd_mul_left t e))
 obtain ⟨s, hs⟩ := hqt
 refine h2 q hqm ?_
 have : N / q = e * s := by
  rw [ht, hs, Nat.mul_left_comm]
  exact Nat.mul_div_cancel_left _ (by have := hq.1; omega)
 rw [this]
 exact zd9 he1 s
theorem zxk {n g : Nat} {qs : List Nat} (hn : 2 ≤ n) (hqs : ∀ q ∈ qs, IsP q) (hm : zAa qs = n - 1) (h1 : g ^ (n - 1) % n = 1) (h2 : ∀ q ∈ qs, g ^ ((n - 1) / q) % n ≠ 1) :
  IsP n ∧ ∀ a, a % n ≠ 0 → a ^ (n - 1) % n = 1 := by
 have e1 : 1 % n = 1 := Nat.mod_eq_of_lt (by omega)
 have hN : 0 < n - 1 := by omega
 have h1' : g ^ (n - 1) % n = 1 % n := by rw [h1, e1]
 have hless := zAb hN hqs hm h1' (fun q hq => by rw [e1]; exact h2 q hq)
 have all : ∀ a, a % n ≠ 0 → a ^ (n - 1) % n = 1 := by
  intro a ha
  have hlt := Nat.mod_lt a (show n > 0 by omega)
  have nz : ∀ i, g ^ i % n ≠ 0 := by
   intro i hi
   have h3 := zd9 h1' i
   rw [Nat.mul_comm, Nat.pow_mul, Nat.pow_mod, hi, e1] at h3
   rw [Nat.zero_pow hN, Nat.zero_mod] at h3
   omega
  obtain ⟨k, _, hk⟩ := zFd (n - 1) (fun i => g ^ i % n - 1) (fun i hi => by
    have := nz i
    have := Nat.mod_lt (g ^ i) (show n > 0 by omega)
    try dsimp only
    omega) (fun i j hij hj e => by
    have a1 := nz i
    have a2 := nz j
    try dsimp only at e
    have e3 : g ^ i * 1 % n = g ^ i * g ^ (j - i) % n := by
     rw [Nat.mul_one, ← Nat.pow_add, show i + (j - i) = j from by omega]
     omega
    exact hless (j - i) (by omega) (by omega) (zCP hN h1' i e3).symm) (a % n - 1) (by omega)
  have hka : g ^ k % n = a % n := by have := nz k; omega
  have h4 := zd9 h1' k
  rw [Nat.mul_comm, Nat.pow_mul, Nat.pow_mod, hka, ← Nat.pow_mod, e1] at h4
  exact h4
 refine ⟨⟨hn, fun d hd => ?_⟩, all⟩
 by_cases hd1 : d = 1
 ·exact .inl hd1
 by_cases hdn : d = n
 ·exact .inr hdn
 exfalso
 have hle := Nat.le_of_dvd (by omega) hd
 have hd0 : d ≠ 0 := fun e => by rw [e] at hd; have := Nat.eq_zero_of_zero_dvd hd; omega
 have h3 := all d (by rw [Nat.mod_eq_of_lt (by omega)]; exact hd0)
 have h4 : d ∣ d ^ (n - 1) % n := by
  rw [Nat.dvd_mod_iff hd]
  exact Nat.dvd_trans (by rw [Nat.pow_one]; exact Nat.dvd_refl d) (Nat.pow_dvd_pow d (show 1 ≤ n - 1 by omega))
 rw [h3] at h4
 have := Nat.le_of_dvd (by omega) h4
 omega
def pw (n : Nat) : Nat → Nat → Nat → Nat
 | 0, _, _ => 1 % n
 | f + 1, b, e => if e % 2 = 1 then b * pw n f (b * b % n) (e / 2) % n else pw n f (b * b % n) (e / 2)
theorem zxm (n : Nat) : ∀ f b e, e < 2 ^ f → pw n f b e = b ^ e % n
 | 0, b, e, h => by
  have : e = 0 := by simpa using h
  subst this
  simp [pw]
 | f + 1, b, e, h => by
  have ih := zxm n f (b * b % n) (e / 2) (by rw [Nat.pow_succ] at h; omega)
  have e2 : (b * b % n) ^ (e / 2) % n = b ^ (2 * (e / 2)) % n := by rw [← Nat.pow_mod, ← Nat.pow_two, ← Nat.pow_mul]
  unfold pw
  rw [ih, e2]
  split
  ·rw [Nat.mul_mod_mod, ← Nat.pow_succ']
   congr 2
   omega
  ·congr 2
   omega
def zyL (n g : Nat) (qs : List Nat) : Bool := decide (2 ≤ n) && decide (n < 2 ^ 256) && decide (zAa qs = n - 1) && decide (pw n 256 g (n - 1) = 1) && qs.all fun q => decide (pw n 256 g ((n - 1) / q) ≠ 1)
def zc2 (v e : Nat) : Nat := v ^ e
def IsL (n : Nat) : Prop := IsP n ∧ ∀ a, a % n ≠ 0 → zc2 a (n - 1) % n = 1
theorem za7 (n g : Nat) (qs : List Nat) (h : zyL n g qs = true) (hqs : ∀ q ∈ qs, IsP q) : IsL n := by
 unfold IsL zc2
 simp only [zyL, Bool.and_eq_true, jS, List.all_eq_true] at h
 obtain ⟨⟨⟨⟨h1, h2⟩, h3⟩, h4⟩, h5⟩ := h
 refine zxk h1 hqs h3 (by rw [← zxm n 256 g (n - 1) (Nat.lt_of_le_of_lt (Nat.sub_le _ _) h2)]; exact h4) (fun q hq => ?_)
 have := h5 q hq
 rwa [zxm n 256 g _ (Nat.lt_of_le_of_lt (Nat.div_le_self _ _) (Nat.lt_of_le_of_lt (Nat.sub_le _ _) h2))] at this
def zyM (n : Nat) : Bool := decide (2 ≤ n) && (List.range n).all fun d => decide (d < 2) || decide (n % d ≠ 0)
theorem small {n : Nat} (h : zyM n = true) : IsP n := by
 simp only [zyM, Bool.and_eq_true, jS, List.all_eq_true, Bool.or_eq_true, List.mem_range] at h
 refine ⟨h.1, fun d hd => ?_⟩
 by_cases hdn : d = n
 ·exact .inr hdn
 have hle := Nat.le_of_dvd (by omega) hd
 rcases h.2 d (by omega) with h2 | h2
 ·have : d ≠ 0 := fun e => by rw [e] at hd; have := Nat.eq_zero_of_zero_dvd hd; omega
  omega
 ·exact absurd (Nat.mod_eq_zero_of_dvd hd) h2
theorem zaq : ∀ q ∈ ([] : List Nat), IsP q := fun _ h => by cases h
theorem all_cons {x : Nat} {l : List Nat} (h : IsP x) (hl : ∀ q ∈ l, IsP q) : ∀ q ∈ x :: l, IsP q := fun q hq => by
 rcases List.mem_cons.1 hq with rfl | hq
 ·exact h
 ·exact hl q hq
theorem p2 : IsP 2 := small (by decide +kernel)
theorem p3 : IsP 3 := small (by decide +kernel)
theorem p5 : IsP 5 := small (by decide +kernel)
theorem p7 : IsP 7 := small (by decide +kernel)
theorem p13 : IsP 13 := small (by decide +kernel)
theorem p17 : IsP 17 := small (by decide +kernel)
theorem p19 : IsP 19 := small (by decide +kernel)
theorem p23 : IsP 23 := small (by decide +kernel)
theorem p29 : IsP 29 := small (by decide +kernel)
theorem p31 : IsP 31 := small (by decide +kernel)
theorem p41 : IsP 41 := small (by decide +kernel)
theorem p43 : IsP 43 := small (by decide +kernel)
theorem p47 : IsP 47 := small (by decide +kernel)
theorem p59 : IsP 59 := small (by decide +kernel)
theorem p83 : IsP 83 := small (by decide +kernel)
theorem p97 : IsP 97 := small (by decide +kernel)
theorem zFe : IsP 103 := small (by decide +kernel)
theorem zFf : IsP 107 := small (by decide +kernel)
theorem zFg : IsP 127 := small (by decide +kernel)
theorem zFh : IsP 131 := small (by decide +kernel)
theorem zFi : IsP 173 := small (by decide +kernel)
theorem zFj : IsP 223 := small (by decide +kernel)
theorem zFk : IsP 353 := small (by decide +kernel)
theorem zFm : IsP 419 := small (by decide +kernel)
theorem zFn : IsP 479 := small (by decide +kernel)
theorem zFo : IsP 487 := small (by decide +kernel)
theorem zFp : IsP 991 := small (by decide +kernel)
theorem zEg : IsL 1723 := za7 1723 3 [2, 3, 7, 41] (by decide +kernel) (all_cons p2 (all_cons p3 (all_cons p7 (all_cons p41 zaq))))
theorem zEh : IsL 2437 := za7 2437 2 [2, 2, 3, 7, 29] (by decide +kernel) (all_cons p2 (all_cons p2 (all_cons p3 (all_cons p7 (all_cons p29 zaq)))))
theorem zEi : IsL 3727 := za7 3727 3 [2, 3, 3, 3, 3, 23] (by decide +kernel) (all_cons p2 (all_cons p3 (all_cons p3 (all_cons p3 (all_cons p3 (all_cons p23 zaq))))))
theorem zEj : IsL 4153 := za7 4153 5 [2, 2, 2, 3, 173] (by decide +kernel) (all_cons p2 (all_cons p2 (all_cons p2 (all_cons p3 (all_cons zFi zaq)))))
theorem zEk : IsL 9463 := za7 9463 3 [2, 3, 19, 83] (by decide +kernel) (all_cons p2 (all_cons p3 (all_cons p19 (all_cons p83 zaq))))
theorem zCQ : IsL 32573 := za7 32573 2 [2, 2, 17, 479] (by decide +kernel) (all_cons p2 (all_cons p2 (all_cons p17 (all_cons zFn zaq))))
theorem zCR : IsL 37853 := za7 37853 2 [2, 2, 9463] (by decide +kernel) (all_cons p2 (all_cons p2 (all_cons zEk.1 zaq)))
theorem zCS : IsL 57467 := za7 57467 2 [2, 59, 487] (by decide +kernel) (all_cons p2 (all_cons p59 (all_cons zFo zaq)))
theorem zCT : IsL 65147 := za7 65147 2 [2, 32573] (by decide +kernel) (all_cons p2 (all_cons zCQ.1 zaq))
theorem zCU : IsL 75707 := za7 75707 2 [2, 37853] (by decide +kernel) (all_cons p2 (all_cons zCR.1 zaq))
theorem zAc : IsL 132049 := za7 132049 26 [2, 2, 2, 2, 3, 3, 7, 131] (by decide +kernel) (all_cons p2 (all_cons p2 (all_cons p2 (all_cons p2 (all_cons p3 (all_cons p3 (all_cons p7 (all_cons zFh zaq))))))))
theorem zAd : IsL 430751 := za7 430751 17 [2, 5, 5, 5, 1723] (by decide +kernel) (all_cons p2 (all_cons p5 (all_cons p5 (all_cons p5 (all_cons zEg.1 zaq)))))
theorem zAe : IsL 569003 := za7 569003 2 [2, 7, 97, 419] (by decide +kernel) (all_cons p2 (all_cons p7 (all_cons p97 (all_cons zFm zaq))))
theorem zxn : IsL 1923133 := za7 1923133 2 [2, 2, 3, 43, 3727] (by decide +kernel) (all_cons p2 (all_cons p2 (all_cons p3 (all_cons p43 (all_cons zEi.1 zaq)))))
theorem zxo : IsL 8574133 := za7 8574133 2 [2, 2, 3, 7, 103, 991] (by decide +kernel) (all_cons p2 (all_cons p2 (all_cons p3 (all_cons p7 (all_cons zFe (all_cons zFp zaq))))))
theorem zoI : IsL 2773320623 := za7 2773320623 5 [2, 2437, 569003] (by decide +kernel) (all_cons p2 (all_cons zEh.1 (all_cons zAe.1 zaq)))
theorem zne : IsL 72106336199 := za7 72106336199 7 [2, 13, 2773320623] (by decide +kernel) (all_cons p2 (all_cons p13 (all_cons zoI.1 zaq)))
theorem zgI : IsL 1919519569386763 := za7 1919519569386763 2 [2, 3, 7, 19, 47, 47, 127, 8574133] (by decide +kernel) (all_cons p2 (all_cons p3 (all_cons p7 (all_cons p19 (all_cons p47 (all_cons p47 (all_cons zFg (all_cons zxo.1 zaq))))))))
theorem zgb : IsL 31757755568855353 := za7 31757755568855353 10 [2, 2, 2, 3, 31, 107, 223, 4153, 430751] (by decide +kernel) (all_cons p2 (all_cons p2 (all_cons p2 (all_cons p3 (all_cons p31 (all_cons zFf (all_cons zFj (all_cons zEj.1 (all_cons zAd.1 zaq)))))))))
theorem zb2 : IsL 75445702479781427272750846543864801 := za7 75445702479781427272750846543864801 7 [2, 2, 2, 2, 2, 3, 3, 5, 5, 75707, 72106336199, 1919519569386763] (by decide +kernel) (all_cons p2 (all_cons p2 (all_cons p2 (all_cons p2 (all_cons p2 (all_cons p3 (all_cons p3 (all_cons p5 (all_cons p5 (all_cons zCU.1 (all_cons zne.1 (all_cons zgI.1 zaq))))))))))))
theorem zaQ : IsL 74058212732561358302231226437062788676166966415465897661863160754340907 := za7 74058212732561358302231226437062788676166966415465897661863160754340907 2 [2, 3, 353, 57467, 132049, 1923133, 31757755568855353, 75445702479781427272750846543864801] (by decide +kernel) (all_cons p2 (all_cons p3 (all_cons zFk (all_cons zCS.1 (all_cons zAc.1 (all_cons zxn.1 (all_cons zgb.1 (all_cons zb2.1 zaq))))))))
theorem zao : IsL 57896044618658097711785492504343953926634992332820282019728792003956564819949 := za7 57896044618658097711785492504343953926634992332820282019728792003956564819949 2 [2, 2, 3, 65147, 74058212732561358302231226437062788676166966415465897661863160754340907] (by decide +kernel) (all_cons p2 (all_cons p2 (all_cons p3 (all_cons zCT.1 (all_cons zaQ.1 zaq)))))
end
section
attribute [local irreducible] zdH zbc zb9 zcU zcN zqF zqG zbp
theorem zqH (v : Nat) : zc2 v 1 = v := Nat.pow_one v
theorem zAf (v e n : Nat) : zc2 v e ^ 2 ^ n = zc2 v (e * 2 ^ n) := (Nat.pow_mul v e _).symm
theorem zqI (v e f : Nat) : zc2 v e * zc2 v f = zc2 v (e + f) := (Nat.pow_add v e f).symm
theorem zAg (v e k : Nat) (h : e + 1 = k) : v * zc2 v e = zc2 v k := by subst h; exact (Nat.pow_succ' ..).symm
theorem zxp (v w e n : Nat) (h : v % n = w % n) : zc2 v e % n = zc2 w e % n := by unfold zc2; rw [Nat.pow_mod, h, ← Nat.pow_mod]
theorem znf (e n : Nat) (v : Nat) (he : e ≠ 0) (h : v % n = 0) : zc2 v e % n = 0 := by
 unfold zc2
 rw [Nat.pow_mod, h, Nat.zero_pow (Nat.pos_of_ne_zero he), Nat.zero_mod]
attribute [local irreducible] zc2
theorem zng (v : Nat) (h : v % pN ≠ 0) : zc2 v 57896044618658097711785492504343953926634992332820282019728792003956564819948 % pN = 1 := by
 have h1 := zao.2 v
 unfold pN at h ⊢
 exact h1 h
theorem zoJ {F : Nat → Nat} {v e : Nat} (hF : zbd F (zc2 v e)) (n k : Nat) (h : e * 2 ^ n = k) : zbd (sqN F n) (zc2 v k) := by
 have := zkN hF n
 rwa [zAf, h] at this
theorem ziK {F G : Nat → Nat} {v e f k : Nat} (hF : zbd F (zc2 v e)) (hG : zbd G (zc2 v f)) (h : e + f = k) : zbd (zb9 F G) (zc2 v k) := by
 have := ziI hF hG
 rwa [zqI, h] at this
theorem zcq {F G : Nat → Nat} {v e f k : Nat} (n : Nat) (hF : zbd F (zc2 v e)) (hG : zbd G (zc2 v f)) (h : e * 2 ^ n + f = k) : zbd (zfv F n G) (zc2 v k) :=
 ziK (zoJ hF n _ rfl) hG h
theorem zqJ {F : Nat → Nat} {v : Nat} (hF : zbd F v) : zbd (zuj F) (zc2 v 57896044618658097711785492504343953926634992332820282019728792003956564819947) := by
 have h1 : zbd F (zc2 v 1) := by rw [zqH]; exact hF
 have h2 : zbd (zkK F) (zc2 v 2) := zoJ h1 1 _ rfl
 have h9 : zbd (zf6 F) (zc2 v 9) := zcq 2 h2 h1 rfl
 have h11 : zbd (zco F) (zc2 v 11) := ziK h9 h2 rfl
 have h5 : zbd (zf7 F) (zc2 v 31) := ziK (zoJ h11 1 22 rfl) h9 rfl
 have h10 : zbd (ziF F) (zc2 v 1023) := zcq 5 h5 h5 rfl
 have h20 : zbd (zc1 F) (zc2 v 1048575) := zcq 10 h10 h10 rfl
 have h40 : zbd (zfx F) (zc2 v 1099511627775) := zcq 20 h20 h20 rfl
 have h50 : zbd (zdj F) (zc2 v 1125899906842623) := zcq 10 h40 h10 rfl
 have h100 : zbd (zcp F) (zc2 v 1267650600228229401496703205375) := zcq 50 h50 h50 rfl
 have h200 : zbd (zd8 F) (zc2 v 1606938044258990275541962092341162602522202993782792835301375) := zcq 100 h100 h100 rfl
 have h250 : zbd (ziG F) (zc2 v 1809251394333065553493296640760748560207343510400633813116524750123642650623) := zcq 50 h200 h50 rfl
 exact zcq 5 h250 h11 rfl
theorem zAh (v : Nat) (h : v % pN ≠ 0) : v * zc2 v 57896044618658097711785492504343953926634992332820282019728792003956564819947 % pN = 1 % pN := by
 rw [zAg v _ 57896044618658097711785492504343953926634992332820282019728792003956564819948 rfl, zng v h]
 rfl
end
section
open Go.RowKit
theorem zuq (k : Nat → Nat) (hk : ∀ i, i < 32 → k i < 256) : kvN (zoH k) 32 = kvN k 32 % 57896044618658097711785492504343953926634992332820282019728792003956564819968 := by
 have e1 : kvN (zoH k) 31 = kvN k 31 := ziy _ _ 31 (fun i hi => by unfold zoH; rw [if_neg (by omega)])
 have e2 : kvN (zoH k) 32 = kvN (zoH k) 31 + zoH k 31 * 2 ^ (8 * 31) := rfl
 have e3 : kvN k 32 = kvN k 31 + k 31 * 2 ^ (8 * 31) := rfl
 have h1 := zjG k 31 (fun i hi => hk i (by omega)) 31 (jV _)
 have h2 : zoH k 31 = k 31 % 128 := by unfold zoH; rw [if_pos rfl]
 rw [e2, e3, e1, h2]
 generalize kvN k 31 = v at *
 generalize k 31 = x at *
 rw [show (2 : Nat) ^ (8 * 31) = 452312848583266388373324160190187140051835877600158453279131187530910662656 from rfl] at *
 omega
theorem zAi (k : Nat → Nat) (hk : ∀ i, i < 32 → k i < 256) : zbp (ofN k) 5 % pN = kvN (zoH k) 32 % pN := by
 have e : zbp (ofN k) 5 = zbp (zDM (kvN k 32)) 5 := by
  rw [zaN, zaN]
  simp only [zzY]
 rw [e, zzX, zuq k hk]
theorem zoK {F : Nat → Nat} (hF : okF F 5) {v : Nat} (h : zbp F 5 % pN = v) (i : Nat) : ((zdB F i : Nat) : Int) = ((zbc v i : Nat) : Int) := by
 rw [zuk F hF i, zua F (fun i hi => zqo hF i hi), h]
attribute [local irreducible] zdH zbc zb9 zcU zcN sqN zqF zqG znV zbp zdB zuj ofN
def fA (a b : Nat) : Nat := (a + b) % pN
def fS (a b : Nat) : Nat := (a + (pN - b)) % pN
def fM (a b : Nat) : Nat := a * b % pN
structure Pt where
 x : Nat
 z : Nat
def zhm (q : Pt) : Prop := q.x < pN ∧ q.z < pN
def zxq (q : Pt) : Nat := fS (fM (fA q.x q.z) (fA q.x q.z)) (fM (fS q.x q.z) (fS q.x q.z))
def zur (q : Pt) : Pt := ⟨fM (fM (fA q.x q.z) (fA q.x q.z)) (fM (fS q.x q.z) (fS q.x q.z)), fM (zxq q) (fA (fM (fA q.x q.z) (fA q.x q.z)) (fM 121665 (zxq q)))⟩
def zoL (q s : Pt) : Nat := fM (fS s.x s.z) (fA q.x q.z)
def zoM (q s : Pt) : Nat := fM (fA s.x s.z) (fS q.x q.z)
def zqK (u : Nat) (q s : Pt) : Pt := ⟨fM (fA (zoL q s) (zoM q s)) (fA (zoL q s) (zoM q s)), fM u (fM (fS (zoL q s) (zoM q s)) (fS (zoL q s) (zoM q s)))⟩
def zjm (u b : Nat) (q s : Pt) : Pt × Pt := if b = 1 then (zqK u s q, zur s) else (zur q, zqK u q s)
def zfm (k : Nat → Nat) (n : Nat) : Nat := k ((254 - n) / 8) / 2 ^ ((254 - n) % 8) % 2
def ze5 (u : Nat) (k : Nat → Nat) : Nat → Pt × Pt
 | 0 => (⟨1, 0⟩, ⟨u, 1⟩)
 | n + 1 => zjm u (zfm k n) (ze5 u k n).1 (ze5 u k n).2
def zbk (k : Nat → Nat) (i : Nat) : Nat := if i = 0 then k 0 / 8 * 8 else if i = 31 then k 31 % 64 + 64 else k i
def zea (k : Nat → Nat) (u : Nat) : Nat := fM (ze5 u (zbk k) 255).1.x (zc2 (ze5 u (zbk k) 255).1.z 57896044618658097711785492504343953926634992332820282019728792003956564819947)
def znX (u : Nat → Nat) : Nat := kvN (zoH u) 32 % pN
theorem zdU : 0 < pN := by unfold pN; decide +kernel
theorem zgJ (a b : Nat) : fM a b < pN := Nat.mod_lt _ zdU
theorem zyN (q : Pt) : zhm (zur q) := ⟨zgJ _ _, zgJ _ _⟩
theorem zyO (u : Nat) (q s : Pt) : zhm (zqK u q s) := ⟨zgJ _ _, zgJ _ _⟩
theorem zhE : 1 < pN := by unfold pN; decide +kernel
theorem zqL (u : Nat) (hu : u < pN) (k : Nat → Nat) : ∀ n, zhm (ze5 u k n).1 ∧ zhm (ze5 u k n).2
 | 0 => ⟨⟨zhE, zdU⟩, ⟨hu, zhE⟩⟩
 | n + 1 => by
  unfold ze5 zjm
  split
  ·exact ⟨zyO _ _ _, zyN _⟩
  ·exact ⟨zyN _, zyO _ _ _⟩
theorem zgK (k : Nat → Nat) (n : Nat) : zfm k n = 0 ∨ zfm k n = 1 := by unfold zfm; omega
theorem zkO {F : Nat → Nat} {a : Nat} (h : zbd F a) : zbd F (a % pN) := ⟨h.1, by rw [h.2, Nat.mod_mod]⟩
theorem znh {F G : Nat → Nat} {a b : Nat} (hF : zbd F a) (hG : zbd G b) : zbd (zqF F G) (fA a b) := zkO (zxi hF hG)
theorem zni {F G : Nat → Nat} {a b : Nat} (hF : zbd F a) (hG : zbd G b) (hb : b < pN) : zbd (zqG F G) (fS a b) := by
 refine zxj hF hG ?_
 unfold fS
 rw [Nat.mod_add_mod, show a + (pN - b) + b = a + pN by omega, Nat.add_mod_right]
theorem ziL {F G : Nat → Nat} {a b : Nat} (hF : zbd F a) (hG : zbd G b) : zbd (zb9 F G) (fM a b) := zkO (ziI hF hG)
theorem zqM {F : Nat → Nat} {a : Nat} (hF : zbd F a) : zbd (sqN F 1) (fM a a) := by
 have h := zkO (zkN hF 1)
 rw [show a ^ 2 ^ 1 = a * a from by rw [Nat.pow_one]; exact Nat.pow_two a] at h
 exact h
section
variable {X Z X' Z' U : Nat → Nat} {q s : Pt} {u : Nat}
theorem zoN (hX : zbd X q.x) (hZ : zbd Z q.z) : zbd (sAA X Z) (fM (fA q.x q.z) (fA q.x q.z)) := zqM (znh hX hZ)
theorem zus (hX : zbd X q.x) (hZ : zbd Z q.z) (hq : zhm q) : zbd (sBB X Z) (fM (fS q.x q.z) (fS q.x q.z)) := zqM (zni hX hZ hq.2)
theorem zyP (hX : zbd X q.x) (hZ : zbd Z q.z) (hq : zhm q) : zbd (sE X Z) (zxq q) := zni (zoN hX hZ) (zus hX hZ hq) (zgJ _ _)
theorem zAj (hX : zbd X q.x) (hZ : zbd Z q.z) (hq : zhm q) : zbd (sLX X Z) (zur q).x := ziL (zoN hX hZ) (zus hX hZ hq)
theorem zAk (hX : zbd X q.x) (hZ : zbd Z q.z) (hq : zhm q) : zbd (sLZ X Z) (zur q).z := ziL (zyP hX hZ hq) (znh (zoN hX hZ) (ziL (zhD (by omega)) (zyP hX hZ hq)))
theorem zut (hX : zbd X q.x) (hZ : zbd Z q.z) (hX' : zbd X' s.x) (hZ' : zbd Z' s.z) (hs : zhm s) : zbd (sDA X Z X' Z') (zoL q s) := ziL (zni hX' hZ' hs.2) (znh hX hZ)
theorem zuu (hX : zbd X q.x) (hZ : zbd Z q.z) (hX' : zbd X' s.x) (hZ' : zbd Z' s.z) (hq : zhm q) : zbd (sCB X Z X' Z') (zoM q s) := ziL (znh hX' hZ') (zni hX hZ hq.2)
theorem zAm (hX : zbd X q.x) (hZ : zbd Z q.z) (hX' : zbd X' s.x) (hZ' : zbd Z' s.z) (hq : zhm q) (hs : zhm s) : zbd (sHX X Z X' Z') (zqK u q s).x := zqM (znh (zut hX hZ hX' hZ' hs) (zuu hX hZ hX' hZ' hq))
theorem zAn (hX : zbd X q.x) (hZ : zbd Z q.z) (hX' : zbd X' s.x) (hZ' : zbd Z' s.z) (hq : zhm q) (hs : zhm s) (hU : zbd U u) : zbd (sHZ X Z X' Z' U) (zqK u q s).z := ziL hU (zqM (zni (zut hX hZ hX' hZ' hs) (zuu hX hZ hX' hZ' hq) (zgJ _ _)))
end
end
section
open Go.RowKit
def feS (F : Nat → Nat) : SA := .agg [.row 5 (uw F)]
def okI : SA := .s (.p (.v (.int .i64 0)))
theorem zsj {F : Nat → Nat} (hF : okF F 5) (i : Nat) (hi : i < 5) : F i < 18446744073709551616 := by have := hF i hi; omega
theorem zkP {n : Nat} {F : Nat → Nat} {f : Nat → Int} (h : ∀ i, i < n → f i = ((F i : Nat) : Int)) : arr .u64 n f = ca [.row n (uw F)] := by rw [zc5 h, zbR]
section
variable {X : List Nat} {w : World} {F G : Nat → Nat} {h0 : Hn}
theorem zxr (hX : ∀ k ∈ X, k < w.heap.size) (hF : okF F 5) (hG : okF G 5) : Ct Tryz.prog 160 [.agg (ca [.row 5 (uw F)]), .agg (ca [.row 5 (uw G)])] X w (.tup [feS (zqF F G), okI]) [] [] := by
 have h := zzW F G (zsj hF) (zsj hG) w
 rw [zbR, zbR, if_pos ⟨hF, hG⟩, zkP (F := zqF F G) fun i _ => by unfold addN; rw [if_pos ⟨hF, hG⟩]; rfl] at h
 exact h.mono fun e w' h => ⟨hnQ [], h.1, zfk hX h.2⟩
theorem zxs (hX : ∀ k ∈ X, k < w.heap.size) (hF : okF F 5) (hG : okF G 5) : Ct Tryz.prog 161 [.agg (ca [.row 5 (uw F)]), .agg (ca [.row 5 (uw G)])] X w (.tup [feS (zqG F G), okI]) [] [] := by
 have h := zz6 F G (zsj hF) (zsj hG) w
 rw [zbR, zbR, if_pos ⟨hF, hG⟩, zkP (F := zqG F G) fun i _ => by unfold zDN zm4; rw [if_pos ⟨hF, hG⟩]; rfl] at h
 exact h.mono fun e w' h => ⟨hnQ [], h.1, zfk hX h.2⟩
theorem zxt (hX : ∀ k ∈ X, k < w.heap.size) (hF : okF F 5) (hG : okF G 5) : Ct Tryz.prog 162 [.agg (ca [.row 5 (uw F)]), .agg (ca [.row 5 (uw G)])] X w (.tup [feS (zb9 F G), okI]) [] [] := by
 have h := zz5 F G (zsj hF) (zsj hG) w
 rw [zbR, zbR, if_pos ⟨hF, hG⟩, zkP (F := zb9 F G) fun i _ => by unfold mulN zm4; rw [if_pos ⟨hF, hG⟩]] at h
 exact h.mono fun e w' h => ⟨hnQ [], h.1, zfk hX h.2⟩
theorem zoO (hX : ∀ k ∈ X, k < w.heap.size) (hF : okF F 5) : Ct Tryz.prog 163 [.agg (ca [.row 5 (uw F)]), .int .i64 1] X w (.tup [feS (sqN F 1), okI]) [] [] := by
 have h := zrK F hF 1 (by omega) w
 rw [zbR, zbR] at h
 exact h.mono fun e w' h => ⟨hnQ [], h.1, zfk hX h.2⟩
theorem zoP (hX : ∀ k ∈ X, k < w.heap.size) (hF : okF F 5) : Ct Tryz.prog 137 [.agg (ca [.row 5 (uw F)])] X w (.tup [feS (zuj F), okI]) [] [] := by
 have h := zrM F (zsj hF) w
 rw [zbR, if_pos hF, zkP (F := zuj F) fun i _ => by unfold zoG; rw [if_pos hF]] at h
 exact h.mono fun e w' h => ⟨hnQ [], h.1, zfk hX h.2⟩
theorem zAo {kk : List Nat} (hX : ∀ k ∈ X, k < w.heap.size) (hk : ∀ x ∈ kk, x < 256) : Ct Tryz.prog 128 [.agg (ca [.key kk])] X w (.a (feS (ofN fun i => kk.getD i 0))) [] [] := by
 have h := zCE (fun i => kk.getD i 0) (fun i _ => zdb hk i) w
 rw [← zcc, zbR] at h
 exact h.mono fun e w' h => ⟨hnQ [], h.1, zfk hX h.2⟩
def zrN (f : Nat → Nat) : List Nat := (List.range 32).map f
theorem zxu (f : Nat → Nat) : (zrN f).length = 32 := by simp [zrN]
theorem zfy (f : Nat → Nat) (i : Nat) (hi : i < 32) : (zrN f).getD i 0 = f i := by simp [zrN, hi]
theorem zrO (hX : ∀ k ∈ X, k < w.heap.size) (hF : okF F 5) : Ct Tryz.prog 135 [.agg (ca [.row 5 (uw F)])] X w (.tup [.agg [.key (zrN (zdB F))], okI]) [] [] := by
 have h := zoC F (zsj hF) w
 rw [zbR, if_pos hF, show (arr .u8 32 fun k => ((zdB F k : Nat) : Int)) = ca [.key (zrN (zdB F))] from by rw [zcc]; exact zc5 fun i hi => by rw [zfy _ i hi]] at h
 exact h.mono fun e w' h => ⟨hnQ [], h.1, zfk hX h.2⟩
def rkF (b : Nat) (w : World) : Prop := hdF [.one (.int .i64 0)] 166 b w
def hnB (bl : List Nat) (ql : List Qd) : Hn := ⟨zjj bl, qs ql, fun _ _ => []⟩
def rkR : List SF := [.b 0 (hdF [.one (.int .i64 0)] 166), .blk 0 [.one (.p (.v (.int .i64 0)))]]
theorem znj {b : Nat} (hr : St (rkF b) w X) : ∀ r ∈ zaO (hnB [b] []) rkR, St r w X := fun r h => by
 rcases List.mem_cons.1 h with rfl | h
 ·exact hr
 ·rcases List.mem_singleton.1 h with rfl
  exact hr.imp fun w' hw => zyz hw
theorem zgL {b : Nat} (hX : ∀ k ∈ X, k < w.heap.size) (hr : St (rkF b) w X) : Ct Tryz.prog 136 [.pointer (some ⟨b, 0, none⟩), .agg (ca [.row 5 (uw F)]), .int .i64 0] X w (.a (feS F)) [] [] := by
 refine vFn (k0 := 1) (rs := [.cell 6 168]) (svs := [atS 0 0, .a (feS F), zaG .i64 0]) (R0 := rkR) (hnB [b] []) Tryz.ntmps136 Tryz.func136 rfl rfl rfl rfl rfl zap (by kernel_rfl) hX (znj hr) ?_
 conv => whnf
 refine .inl ?_
 conv => whnf
 refine za8 (ztV 0 rfl rfl rfl rfl rfl (by kernel_rfl)) ?_
 conv => whnf
 refine ⟨fun _ _ => rfl, ?_⟩
 conv => whnf
 exact zan rfl
theorem zkQ {b : Nat} (hF : okF F 5) (hG : okF G 5) (hX : ∀ k ∈ X, k < w.heap.size) (hr : St (rkF b) w X) : Ct Tryz.prog 130 [.pointer (some ⟨b, 0, none⟩), .agg (ca [.row 5 (uw F)]), .agg (ca [.row 5 (uw G)])] X w (.a (feS (zqF F G))) [] [] := by
 refine vFn (k0 := 1) (rs := [.cell 6 168]) (svs := [atS 0 0, .a (feS F), .a (feS G)]) (R0 := rkR) (hnB [b] []) Tryz.ntmps130 Tryz.func130 rfl rfl rfl rfl rfl zap (by kernel_rfl) hX (znj hr) ?_
 conv => whnf
 refine zah rfl rfl rfl (by kernel_rfl) (fun h X w H => zxr H.xk hF hG) rfl rfl rfl ?_
 conv => whnf
 refine zah rfl rfl rfl (by kernel_rfl) (fun h X w H => zgL H.xk (H.fact 0 rfl)) rfl rfl rfl ?_
 conv => whnf
 refine ⟨fun _ _ => rfl, ?_⟩
 conv => whnf
 exact zan rfl
theorem zkR {b : Nat} (hF : okF F 5) (hG : okF G 5) (hX : ∀ k ∈ X, k < w.heap.size) (hr : St (rkF b) w X) : Ct Tryz.prog 131 [.pointer (some ⟨b, 0, none⟩), .agg (ca [.row 5 (uw F)]), .agg (ca [.row 5 (uw G)])] X w (.a (feS (zqG F G))) [] [] := by
 refine vFn (k0 := 1) (rs := [.cell 6 168]) (svs := [atS 0 0, .a (feS F), .a (feS G)]) (R0 := rkR) (hnB [b] []) Tryz.ntmps131 Tryz.func131 rfl rfl rfl rfl rfl zap (by kernel_rfl) hX (znj hr) ?_
 conv => whnf
 refine zah rfl rfl rfl (by kernel_rfl) (fun h X w H => zxs H.xk hF hG) rfl rfl rfl ?_
 conv => whnf
 refine zah rfl rfl rfl (by kernel_rfl) (fun h X w H => zgL H.xk (H.fact 0 rfl)) rfl rfl rfl ?_
 conv => whnf
 refine ⟨fun _ _ => rfl, ?_⟩
 conv => whnf
 exact zan rfl
theorem zfz {b : Nat} (hF : okF F 5) (hG : okF G 5) (hX : ∀ k ∈ X, k < w.heap.size) (hr : St (rkF b) w X) : Ct Tryz.prog 132 [.pointer (some ⟨b, 0, none⟩), .agg (ca [.row 5 (uw F)]), .agg (ca [.row 5 (uw G)])] X w (.a (feS (zb9 F G))) [] [] := by
 refine vFn (k0 := 1) (rs := [.cell 6 168]) (svs := [atS 0 0, .a (feS F), .a (feS G)]) (R0 := rkR) (hnB [b] []) Tryz.ntmps132 Tryz.func132 rfl rfl rfl rfl rfl zap (by kernel_rfl) hX (znj hr) ?_
 conv => whnf
 refine zah rfl rfl rfl (by kernel_rfl) (fun h X w H => zxt H.xk hF hG) rfl rfl rfl ?_
 conv => whnf
 refine zah rfl rfl rfl (by kernel_rfl) (fun h X w H => zgL H.xk (H.fact 0 rfl)) rfl rfl rfl ?_
 conv => whnf
 refine ⟨fun _ _ => rfl, ?_⟩
 conv => whnf
 exact zan rfl
theorem zqN {b : Nat} (hF : okF F 5) (hX : ∀ k ∈ X, k < w.heap.size) (hr : St (rkF b) w X) : Ct Tryz.prog 133 [.pointer (some ⟨b, 0, none⟩), .agg (ca [.row 5 (uw F)])] X w (.a (feS (sqN F 1))) [] [] := by
 refine vFn (k0 := 1) (rs := [.cell 4 168]) (svs := [atS 0 0, .a (feS F)]) (R0 := rkR) (hnB [b] []) Tryz.ntmps133 Tryz.func133 rfl rfl rfl rfl rfl zap (by kernel_rfl) hX (znj hr) ?_
 conv => whnf
 refine zah rfl rfl rfl (by kernel_rfl) (fun h X w H => zoO H.xk hF) rfl rfl rfl ?_
 conv => whnf
 refine zah rfl rfl rfl (by kernel_rfl) (fun h X w H => zgL H.xk (H.fact 0 rfl)) rfl rfl rfl ?_
 conv => whnf
 refine ⟨fun _ _ => rfl, ?_⟩
 conv => whnf
 exact zan rfl
end
end
section
open Go.RowKit
def ptB (X Z : Nat → Nat) : RB := .blk [.row 5 (uw X), .row 5 (uw Z)] 171
def zET (b : Nat) (F G : Nat → Nat) (i : Nat) : Nat := if b = 1 then G i else F i
def swN (b n : Nat) (F G : Nat → Nat) (i : Nat) : Nat := if i < n then zET b F G i else F i
def zAp (b : Nat) : Nat := if b = 1 then 18446744073709551615 else 0
theorem zDR (x : Nat) (h : x < 18446744073709551616) : (BitVec.ofInt 64 (x : Int)).toNat = x := by
 rw [BitVec.toNat_ofInt]; omega
section
variable {x y b : Nat} {A : Int → Prop}
theorem zFq (hx : x < 18446744073709551616) (hy : y < 18446744073709551616) (h : A ((x ^^^ y : Nat) : Int)) : ∃ z, IntKind.u64.wrap ((BitVec.ofInt IntKind.u64.bits (x : Int) ^^^ BitVec.ofInt IntKind.u64.bits (y : Int)).toNat : Nat) = z ∧ A z := ⟨_, by
 have hh : x ^^^ y < 2 ^ 64 := Nat.xor_lt_two_pow (by omega) (by omega)
 rw [show IntKind.u64.bits = 64 from rfl, BitVec.toNat_xor, zDR x hx, zDR y hy, zog, Nat.mod_eq_of_lt hh], h⟩
theorem zEm (hx : x < 18446744073709551616) (hy : y < 18446744073709551616) (h : A ((x &&& y : Nat) : Int)) : ∃ z, IntKind.u64.wrap ((BitVec.ofInt IntKind.u64.bits (x : Int) &&& BitVec.ofInt IntKind.u64.bits (y : Int)).toNat : Nat) = z ∧ A z := ⟨_, by
 have hh : x &&& y < 2 ^ 64 := Nat.and_lt_two_pow _ (by omega)
 rw [show IntKind.u64.bits = 64 from rfl, BitVec.toNat_and, zDR x hx, zDR y hy, zog, Nat.mod_eq_of_lt hh], h⟩
theorem zrP {x0 y0 : Nat} (ex : x = x0) (ey : y = y0) (hx : x0 < 18446744073709551616) (hy : y0 < 18446744073709551616) (h : A ((x0 ^^^ y0 : Nat) : Int)) : ∃ z, IntKind.u64.wrap ((BitVec.ofInt IntKind.u64.bits (x : Int) ^^^ BitVec.ofInt IntKind.u64.bits (y : Int)).toNat : Nat) = z ∧ A z := by
 subst ex ey
 exact zFq hx hy h
theorem zyQ (hx : x < 18446744073709551616) (hy : y < 18446744073709551616) : x ^^^ y < 18446744073709551616 := Nat.xor_lt_two_pow (n := 64) (by omega) (by omega)
theorem zFr (hb : b = 0 ∨ b = 1) (h : A ((zAp b : Nat) : Int)) : ∃ z, IntKind.u64.wrap (0 - (b : Int)) = z ∧ A z := ⟨_, by rcases hb with rfl | rfl <;> decide, h⟩
theorem zuv : zAp b < 18446744073709551616 := by unfold zAp; split <;> omega
theorem zAq (hx : x < 18446744073709551616) : 18446744073709551615 &&& x = x := by
 have := Nat.and_two_pow_sub_one_eq_mod x 64
 rw [Nat.and_comm]
 rw [show (18446744073709551615 : Nat) = 2 ^ 64 - 1 by decide, this]
 omega
theorem zqO (hx : x < 18446744073709551616) (hy : y < 18446744073709551616) : zAp b &&& (x ^^^ y) < 18446744073709551616 := Nat.and_lt_two_pow (n := 64) _ (Nat.xor_lt_two_pow (by omega) (by omega))
theorem zAr (hx : x < 18446744073709551616) (hy : y < 18446744073709551616) : x ^^^ (zAp b &&& (x ^^^ y)) = if b = 1 then y else x := by
 unfold zAp
 by_cases h : b = 1
 ·rw [if_pos h, if_pos h, zAq (Nat.xor_lt_two_pow (n := 64) (by omega) (by omega)), ← Nat.xor_assoc, Nat.xor_self, Nat.zero_xor]
 ·rw [if_neg h, if_neg h, Nat.zero_and, Nat.xor_zero]
theorem zCV (hx : x < 18446744073709551616) (hy : y < 18446744073709551616) : y ^^^ (zAp b &&& (x ^^^ y)) = if b = 1 then x else y := by
 rw [Nat.xor_comm x y]
 exact zAr hy hx
end
theorem zg0 (b n : Nat) (F G : Nat → Nat) : swN b n F G n = F n := by unfold swN; rw [if_neg (by omega)]
theorem zhF {b n v : Nat} {F G : Nat → Nat} (hv : v = zET b F G n) (j : Nat) : upd (uw (swN b n F G)) n (.int .u64 ((v : Nat) : Int)) j = uw (swN b (n + 1) F G) j := by
 unfold upd uw swN
 by_cases h : j = n
 ·subst h; rw [if_pos rfl, if_pos (by omega), hv]
 ·rw [if_neg h]
  by_cases h2 : j < n
  ·rw [if_pos h2, if_pos (by omega)]
  ·rw [if_neg h2, if_neg (by omega)]
section
variable {X : List Nat} {w : World} {h0 : Hn} {X1 Z1 X2 Z2 : Nat → Nat} {b : Nat}
def zBO (X1 Z1 X2 Z2 : Nat → Nat) : MB := [(0, ptB X1 Z1), (1, ptB X2 Z2)]
theorem zuw (hb : b = 0 ∨ b = 1) (o1 : okF X1 5) (o2 : okF Z1 5) (o3 : okF X2 5) (o4 : okF Z2 5) (hsp : Sp X w (zad h0 [] (zBO X1 Z1 X2 Z2)) []) : CtG Tryz.prog 134 [.int .u64 b, .pointer (some ⟨h0.b 0, 0, none⟩), .pointer (some ⟨h0.b 1, 0, none⟩)] X w h0 (zBO X1 Z1 X2 Z2) [0, 1] (.tup []) (zBO (swN b 5 X1 X2) (swN b 5 Z1 Z2) (swN b 5 X2 X1) (swN b 5 Z2 Z1)) [] := by
 refine zyv (g := 2) (k0 := 2) (bl := []) (ql := []) (svs := [zaG .u64 b, atS 0 0, atS 1 0]) (given := zBO X1 Z1 X2 Z2) (Rg := []) (kb := [0, 1]) Tryz.ntmps134 Tryz.func134 rfl rfl rfl zap (by kernel_rfl) rfl rfl hsp ?_
 conv => whnf
 refine zFr hb ?_
 conv => whnf
 refine ⟨Nat, fun k l m R i => ⟨k, (12, zaG .i64 i) :: zbP [1, 2, 6] l, (0, ptB (swN b i X1 X2) (swN b i Z1 Z2)) :: (1, ptB (swN b i X2 X1) (swN b i Z2 Z1)) :: m, R⟩, fun i => i ≤ 5, fun i => 5 - i, ⟨0, [], [0, 1], Nat.zero_le _, zbX⟩, fun i hi => ?_⟩
 conv => whnf
 refine vIf (fun hc => ?_) fun hc => ?_
 ·have hi2 : i < 5 := by
   have : (i : Int) < 5 := of_decide_eq_true hc
   omega
  have b1 : X1 i < 18446744073709551616 := zsj o1 i hi2
  have b2 : Z1 i < 18446744073709551616 := zsj o2 i hi2
  have b3 : X2 i < 18446744073709551616 := zsj o3 i hi2
  have b4 : Z2 i < 18446744073709551616 := zsj o4 i hi2
  conv => whnf
  refine zaY 31 [] (by kernel_rfl) ?_
  conv => whnf
  refine ⟨i, ⟨rfl, hi2⟩, .inr ?_⟩
  conv => whnf
  refine ⟨hi2, ?_⟩
  conv => whnf
  refine ⟨i, ⟨rfl, hi2⟩, .inr ?_⟩
  conv => whnf
  refine ⟨hi2, ?_⟩
  conv => whnf
  refine zrP (zg0 _ _ _ _) (zg0 _ _ _ _) b1 b3 ?_
  conv => whnf
  refine zEm zuv (zyQ b1 b3) ?_
  conv => whnf
  refine ⟨i, ⟨rfl, hi2⟩, .inr ?_⟩
  conv => whnf
  refine ⟨hi2, ?_⟩
  conv => whnf
  refine ⟨i, ⟨rfl, hi2⟩, .inr ?_⟩
  conv => whnf
  refine ⟨hi2, ?_⟩
  conv => whnf
  refine zrP (zg0 _ _ _ _) (zg0 _ _ _ _) b2 b4 ?_
  conv => whnf
  refine zEm zuv (zyQ b2 b4) ?_
  conv => whnf
  refine zaY 26 [0] (by kernel_rfl) ?_
  conv => whnf
  refine ⟨i, ⟨rfl, hi2⟩, .inr ?_⟩
  conv => whnf
  refine zf0 rfl (zd4 0 (ztT rfl rfl rfl (by kernel_rfl) rfl hi2 rfl rfl) (fun _ h => h) rfl) ?_
  conv => whnf
  refine zrP (zg0 _ _ _ _) rfl b1 (zqO b1 b3) ?_
  conv => whnf
  refine ⟨i, ⟨rfl, hi2⟩, .inr ?_⟩
  conv => whnf
  refine ⟨hi2, ?_⟩
  conv => whnf
  refine zrP (zg0 _ _ _ _) rfl b3 (zqO b1 b3) ?_
  conv => whnf
  refine ⟨i, ⟨rfl, hi2⟩, .inr ?_⟩
  conv => whnf
  refine zf0 rfl (zd4 0 (zBN (uw (swN b (i + 1) X1 X2)) rfl rfl rfl rfl rfl rfl hi2 (zhF (zAr b1 b3))) (fun _ h => h) rfl) ?_
  conv => whnf
  refine ⟨i, ⟨rfl, hi2⟩, .inr ?_⟩
  conv => whnf
  refine za8 (zBN (uw (swN b (i + 1) X2 X1)) rfl rfl rfl rfl rfl rfl hi2 (zhF (zCV b1 b3))) ?_
  conv => whnf
  refine zaY 26 [0] (by kernel_rfl) ?_
  conv => whnf
  refine ⟨i, ⟨rfl, hi2⟩, .inr ?_⟩
  conv => whnf
  refine zf0 rfl (zd4 0 (ztT rfl rfl rfl (by kernel_rfl) rfl hi2 rfl rfl) (fun _ h => h) rfl) ?_
  conv => whnf
  refine zrP (zg0 _ _ _ _) rfl b2 (zqO b2 b4) ?_
  conv => whnf
  refine ⟨i, ⟨rfl, hi2⟩, .inr ?_⟩
  conv => whnf
  refine ⟨hi2, ?_⟩
  conv => whnf
  refine zrP (zg0 _ _ _ _) rfl b4 (zqO b2 b4) ?_
  conv => whnf
  refine ⟨i, ⟨rfl, hi2⟩, .inr ?_⟩
  conv => whnf
  refine zf0 rfl (zd4 0 (zCA (uw (swN b (i + 1) Z1 Z2)) rfl rfl rfl rfl rfl rfl hi2 (zhF (zAr b2 b4))) (fun _ h => h) rfl) ?_
  conv => whnf
  refine ⟨i, ⟨rfl, hi2⟩, .inr ?_⟩
  conv => whnf
  refine za8 (zCA (uw (swN b (i + 1) Z2 Z1)) rfl rfl rfl rfl rfl rfl hi2 (zhF (zCV b2 b4))) ?_
  conv => whnf
  refine zei (by omega) (by omega) ?_
  conv => whnf
  exact ⟨i + 1, [], [0, 1], ⟨hi2, Nat.sub_lt_sub_left hi2 (Nat.lt_succ_self i)⟩, zbX⟩
 have hi5 : i = 5 := by
   have : ¬ (i : Int) < 5 := of_decide_eq_false hc
   omega
 subst hi5
 conv => whnf
 exact zdD [(0, 0), (1, 1)] [] [0, 1] (.inl rfl) ⟨.inl rfl, .inl rfl, trivial⟩ rfl trivial ⟨rfl, rfl, trivial⟩
end
end
section
open Go.RowKit
def zux (X1 Z1 X2 Z2 U : Nat → Nat) : MB := [(0, .blk [.one (.p (.at_ 4 0))] 164), (1, ptB X1 Z1), (2, ptB X2 Z2), (3, .blk [.row 5 (uw U)] 168), (4, .gone)]
section
variable {X : List Nat} {w : World} {h0 : Hn} {X1 Z1 X2 Z2 U : Nat → Nat}
theorem zAs (o1 : okF X1 5) (o2 : okF Z1 5) (o3 : okF X2 5) (o4 : okF Z2 5) (o5 : okF U 5) (hsp : Sp X w (zad h0 [] (zux X1 Z1 X2 Z2 U)) [rkF (h0.b 4)]) : CtG Tryz.prog 129 [.pointer (some ⟨h0.b 0, 0, none⟩), .pointer (some ⟨h0.b 1, 0, none⟩), .pointer (some ⟨h0.b 2, 0, none⟩), .pointer (some ⟨h0.b 3, 0, none⟩)] X w h0 (zux X1 Z1 X2 Z2 U) [0, 1, 2, 3, 4] (.tup []) (zux (sLX X1 Z1) (sLZ X1 Z1) (sHX X1 Z1 X2 Z2) (sHZ X1 Z1 X2 Z2 U) U) [] := by
 refine zyv (g := 5) (k0 := 5) (bl := []) (ql := []) (svs := [atS 0 0, atS 1 0, atS 2 0, atS 3 0]) (given := zux X1 Z1 X2 Z2 U) (Rg := [.b 4 (hdF [.one (.int .i64 0)] 166)]) (kb := [0, 1, 2, 3, 4]) Tryz.ntmps129 Tryz.func129 rfl rfl rfl zap (by kernel_rfl) rfl rfl hsp ?_
 conv => whnf
 refine zaY 14 [] (by kernel_rfl) ?_
 conv => whnf
 refine zaT (zae (rs := []) (Rs := []) rfl rfl rfl (by kernel_rfl) rfl fun h X w H => zkQ o1 o2 H.xk (H.fact 5 rfl)) ?_
 conv => whnf
 refine zaT (zae (rs := []) (Rs := []) rfl rfl rfl (by kernel_rfl) rfl fun h X w H => zkR o1 o2 H.xk (H.fact 5 rfl)) ?_
 conv => whnf
 refine ⟨fun _ _ => rfl, ?_⟩
 conv => whnf
 refine ⟨fun _ _ => rfl, ?_⟩
 conv => whnf
 refine zaY 20 [] (by kernel_rfl) ?_
 conv => whnf
 refine zaT (zae (rs := []) (Rs := []) rfl rfl rfl (by kernel_rfl) rfl fun h X w H => zkR o3 o4 H.xk (H.fact 5 rfl)) ?_
 conv => whnf
 refine zaT (zae (rs := []) (Rs := []) rfl rfl rfl (by kernel_rfl) rfl fun h X w H => zfz (ziH o3) (zDO o1 o2) H.xk (H.fact 5 rfl)) ?_
 conv => whnf
 refine zaT (zae (rs := []) (Rs := []) rfl rfl rfl (by kernel_rfl) rfl fun h X w H => zkQ o3 o4 H.xk (H.fact 5 rfl)) ?_
 conv => whnf
 refine zaT (zae (rs := []) (Rs := []) rfl rfl rfl (by kernel_rfl) rfl fun h X w H => zfz (zjJ o3 o4) (zDP o1 o2) H.xk (H.fact 5 rfl)) ?_
 conv => whnf
 refine ⟨fun _ _ => rfl, ?_⟩
 conv => whnf
 refine ⟨fun _ _ => rfl, ?_⟩
 conv => whnf
 refine zaY 14 [] (by kernel_rfl) ?_
 conv => whnf
 refine zaT (zae (rs := []) (Rs := []) rfl rfl rfl (by kernel_rfl) rfl fun h X w H => zkQ (zum o1 o2 o3 o4) (zz9 o1 o2 o3 o4) H.xk (H.fact 5 rfl)) ?_
 conv => whnf
 refine zaT (zae (rs := []) (Rs := []) rfl rfl rfl (by kernel_rfl) rfl fun h X w H => zqN (zjJ (zum o1 o2 o3 o4) (zz9 o1 o2 o3 o4)) H.xk (H.fact 5 rfl)) ?_
 conv => whnf
 refine zaT (zae (rs := []) (Rs := []) rfl rfl rfl (by kernel_rfl) rfl fun h X w H => zkR (zum o1 o2 o3 o4) (zz9 o1 o2 o3 o4) H.xk (H.fact 5 rfl)) ?_
 conv => whnf
 refine zaT (zae (rs := []) (Rs := []) rfl rfl rfl (by kernel_rfl) rfl fun h X w H => zqN (ziH (zum o1 o2 o3 o4)) H.xk (H.fact 5 rfl)) ?_
 conv => whnf
 refine zah rfl rfl rfl (by kernel_rfl) (fun h X w H => zfz o5 (ziB _ (ziH (zum o1 o2 o3 o4)) 1) H.xk (H.fact 5 rfl)) rfl rfl rfl ?_
 conv => whnf
 refine ⟨fun _ _ => rfl, fun _ _ => rfl, ?_⟩
 conv => whnf
 refine zaY 8 [] (by kernel_rfl) ?_
 conv => whnf
 refine zaT (zae (rs := []) (Rs := []) rfl rfl rfl (by kernel_rfl) rfl fun h X w H => zqN (zDO o1 o2) H.xk (H.fact 5 rfl)) ?_
 conv => whnf
 refine zaT (zae (rs := []) (Rs := []) rfl rfl rfl (by kernel_rfl) rfl fun h X w H => zqN (zDP o1 o2) H.xk (H.fact 5 rfl)) ?_
 conv => whnf
 refine ⟨fun _ _ => rfl, ?_⟩
 conv => whnf
 refine ⟨fun _ _ => rfl, ?_⟩
 conv => whnf
 refine zah rfl rfl rfl (by kernel_rfl) (fun h X w H => zkR (zun o1 o2) (zCO o1 o2) H.xk (H.fact 5 rfl)) rfl rfl rfl ?_
 conv => whnf
 refine ⟨fun _ _ => rfl, ?_⟩
 conv => whnf
 refine zaY 13 [] (by kernel_rfl) ?_
 conv => whnf
 refine zaT (zae (rs := []) (Rs := []) rfl rfl rfl (by kernel_rfl) rfl fun h X w H => zfz (zun o1 o2) (zCO o1 o2) H.xk (H.fact 5 rfl)) ?_
 conv => whnf
 refine ⟨uw (znV 121665), ⟨rfl, rfl, rfl, rfl, rfl, trivial⟩, ?_⟩
 conv => whnf
 refine zaT (zae (rs := []) (Rs := []) rfl rfl rfl (by kernel_rfl) rfl fun h X w H => zfz ziJ (zDQ o1 o2) H.xk (H.fact 5 rfl)) ?_
 conv => whnf
 refine zaT (zae (rs := []) (Rs := []) rfl rfl rfl (by kernel_rfl) rfl fun h X w H => zkQ (zun o1 o2) (zd7 _ _ ziJ (zDQ o1 o2)) H.xk (H.fact 5 rfl)) ?_
 conv => whnf
 refine zah rfl rfl rfl (by kernel_rfl) (fun h X w H => zfz (zDQ o1 o2) (zjJ (zun o1 o2) (zd7 _ _ ziJ (zDQ o1 o2))) H.xk (H.fact 5 rfl)) rfl rfl rfl ?_
 conv => whnf
 refine ⟨fun _ _ => rfl, fun _ _ => rfl, ?_⟩
 conv => whnf
 exact zdD [(0, 0), (1, 1), (2, 2), (3, 3), (4, 4)] [] [0, 1, 2, 3, 4] (.inl rfl) ⟨.inl rfl, .inl rfl, .inl rfl, .inl rfl, trivial⟩ rfl trivial ⟨rfl, rfl, rfl, rfl, rfl, trivial⟩
end
end
section
open Go.RowKit
theorem zEn : ∀ x : Nat, x < 256 → IntKind.u8.wrap ((BitVec.ofInt IntKind.u8.bits (x : Int) &&& ~~~(BitVec.ofInt IntKind.u8.bits 7)).toNat : Nat) = ((x / 8 * 8 : Nat) : Int) := by decide +kernel
theorem zCW : ∀ x : Nat, x < 256 → IntKind.u8.wrap ((BitVec.ofInt IntKind.u8.bits (x : Int) &&& BitVec.ofInt IntKind.u8.bits 63).toNat : Nat) = ((x % 64 : Nat) : Int) := by decide +kernel
theorem zEo : ∀ x : Nat, x < 64 → IntKind.u8.wrap ((BitVec.ofInt IntKind.u8.bits (x : Int) ||| BitVec.ofInt IntKind.u8.bits 64).toNat : Nat) = ((x + 64 : Nat) : Int) := by decide +kernel
section
variable {P : Program} {N k : Nat} {l : LE} {m : MB} {R : List SF} {o : Oper} {i j t ty : Nat}
theorem zuy {S : Nat → Prop} {ws : World} {l : List (Nat × Value)} {t u : TypeId} {x y : Operand} {k : IntKind} {a b z : Int} (ho : o.op = .binOp .andNot t x y u) (hx : ev l x = some (.int k a)) (hy : ev l y = some (.int k b)) (hz : k.wrap ((BitVec.ofInt k.bits a &&& ~~~(BitVec.ofInt k.bits b)).toNat : Nat) = z) : PK P S ws l o (.int k z) := fun w' _ a N E => by
 subst hz
 unfold execOp; rw [ho]
 simp only [E.ev hx, E.ev hy, Sem.run_bind, zbV, Result.andThen_ok]
 simp [binOp, Op.intBits]
theorem zuz {kk : List Nat} {b : Nat} {xop y : Operand} (kk' : List Nat) (hkk : ∀ t, t < 32 → kk'.getD t 0 = if t = j then b else kk.getD t 0) (hm : zaB m i = some (.blk [.key kk] t)) (ho : o.op = .store ty xop y) (hx : evS l xop = some (apS i 0 j 1)) (hy : evS l y = some (zi4 (bv b))) (hs : zcY P ty = some 1) (hj : j < 32) : zcZ P N k l m R o (zek undef) ((i, .blk [.key kk'] t) :: m) R :=
 ztD (x := .p (.v (bv b))) hm ho hx hy rfl hs (by simp only [zeN, SC.len]; omega) fun h => by
  show zgp kk' ++ [] = (zgp kk ++ []).set (0 + j * 1) (bv b)
  rw [List.append_nil, List.append_nil, Nat.zero_add, Nat.mul_one]
  refine List.ext_getElem? fun t => ?_
  rw [List.getElem?_set]
  by_cases ht : t < 32
  ·simp only [zgp, List.getElem?_map, List.getElem?_range ht, Option.map_some, hkk t ht]
   by_cases e : j = t
   ·subst e; simp [hj]
   ·rw [if_neg e, if_neg (Ne.symm e)]
  ·rw [List.getElem?_eq_none (by simp [zgp]; omega), if_neg (by omega), List.getElem?_eq_none (by simp [zgp]; omega)]
end
section
variable {X : List Nat} {w : World} {kk : List Nat}
def zAt (k : Nat → Nat) (i : Nat) : Nat := if i = 0 then k 0 / 8 * 8 else k i
def zjK (kk : List Nat) : List Nat := zrN (zbk fun i => kk.getD i 0)
theorem zxv (hX : ∀ k ∈ X, k < w.heap.size) (hk : ∀ x ∈ kk, x < 256) : Ct Tryz.prog 127 [.agg (ca [.key kk])] X w (.a (.agg [.key (zjK kk)])) [] [] := by
 refine vFn (k0 := 0) (rs := [.cell 2 23]) (svs := [.a (.agg [.key kk])]) (R0 := []) (hnQ []) Tryz.ntmps127 Tryz.func127 rfl rfl rfl rfl rfl zap (by kernel_rfl) hX (fun r hr => by cases hr) ?_
 conv => whnf
 refine ⟨0, ⟨rfl, by decide⟩, .inl ?_⟩
 conv => whnf
 refine zyp (zi4 (bv (kk.getD 0 0 / 8 * 8))) (fun h w => zuy rfl rfl rfl (zEn _ (zdb hk 0))) rfl rfl ?_
 conv => whnf
 refine ⟨0, ⟨rfl, by decide⟩, .inr ?_⟩
 conv => whnf
 refine za8 (zuz (zrN (zAt fun i => kk.getD i 0)) (fun t ht => zfy _ t ht) rfl rfl rfl rfl (by kernel_rfl) (by decide)) ?_
 conv => whnf
 refine ⟨31, ⟨rfl, by decide⟩, .inl ?_⟩
 conv => whnf
 have h31 : (zrN (zAt fun i => kk.getD i 0)).getD 31 0 = kk.getD 31 0 := zfy _ 31 (by decide)
 have hb31 := zdb hk 31
 refine ⟨((kk.getD 31 0 % 64 : Nat) : Int), by rw [h31]; exact zCW _ hb31, ?_⟩
 conv => whnf
 refine ⟨((kk.getD 31 0 % 64 + 64 : Nat) : Int), zEo _ (Nat.mod_lt _ (by decide)), ?_⟩
 conv => whnf
 refine ⟨31, ⟨rfl, by decide⟩, .inr ?_⟩
 conv => whnf
 refine za8 (zuz (zjK kk) (fun t ht => ?_) rfl rfl rfl rfl (by kernel_rfl) (by decide)) ?_
 ·rw [zjK, zfy _ t ht, zfy _ t ht, zbk, zAt]
  by_cases h0 : t = 0
  ·subst h0; rw [if_pos rfl, if_neg (by decide), if_pos rfl]
  ·rw [if_neg h0, if_neg h0]
 conv => whnf
 exact zan rfl
end
end
section
open Go.RowKit
theorem zuA (a : Nat) : fM 0 a = 0 := by unfold fM; rw [Nat.zero_mul, Nat.zero_mod]
theorem zAu (a : Nat) (h : a < pN) : fS a a = 0 := by
 unfold fS
 rw [show a + (pN - a) = pN by omega, Nat.mod_self]
theorem zAv (a : Nat) (h : a < pN) : fA a 0 = a := by unfold fA; rw [Nat.add_zero, Nat.mod_eq_of_lt h]
theorem zAw (a : Nat) (h : a < pN) : fS a 0 = a := by unfold fS; rw [Nat.sub_zero, Nat.add_mod_right, Nat.mod_eq_of_lt h]
theorem zqP (q s : Pt) : (zqK 0 q s).z = 0 := zuA _
theorem zuB {q : Pt} (h : q.x < pN) (hz : q.z = 0) : zxq q = 0 := by
 unfold zxq
 rw [hz, zAv _ h, zAw _ h]
 exact zAu _ (zgJ _ _)
theorem zxw {q : Pt} (h : zxq q = 0) : (zur q).z = 0 := by
 unfold zur
 dsimp only
 rw [h]
 exact zuA _
theorem zxx : zxq ⟨0, 1⟩ = 0 := by unfold zxq fS fM fA pN; decide +kernel
theorem zEU (k : Nat → Nat) : ∀ n, (ze5 0 k (n + 1)).1.z = 0 ∧ (ze5 0 k (n + 1)).2.z = 0
 | 0 => by
  rw [show ze5 0 k (0 + 1) = zjm 0 (zfm k 0) ⟨1, 0⟩ ⟨0, 1⟩ from rfl]
  unfold zjm
  split
  ·exact ⟨zqP _ _, zxw zxx⟩
  ·exact ⟨zxw (zuB zhE rfl), zqP _ _⟩
 | n + 1 => by
  have ih := zEU k n
  have ok := zqL 0 zdU k (n + 1)
  rw [show ze5 0 k (n + 1 + 1) = zjm 0 (zfm k (n + 1)) (ze5 0 k (n + 1)).1 (ze5 0 k (n + 1)).2 from rfl]
  unfold zjm
  split
  ·exact ⟨zqP _ _, zxw (zuB ok.2.1 ih.2)⟩
  ·exact ⟨zxw (zuB ok.1.1 ih.1), zqP _ _⟩
theorem znk (k : Nat → Nat) : zea k 0 = 0 := by
 unfold zea
 rw [(zEU (zbk k) 254).1]
 unfold fM
 rw [Nat.mul_mod, znf _ pN 0 (by omega) (Nat.zero_mod _), Nat.mul_zero, Nat.zero_mod]
theorem zAx (k : Nat → Nat) (u : Nat) : zea k u < pN := zgJ _ _
theorem zrQ (i : Nat) : zbc 0 i = 0 := by unfold zbc; rw [Nat.zero_div, Nat.zero_mod]
theorem zAy : pN < 57896044618658097711785492504343953926634992332820282019728792003956564819968 := by unfold pN; decide +kernel
theorem zAz : pN < 2 ^ 256 := by unfold pN; decide +kernel
theorem znm (v : Nat) (h : v < pN) : znX (zbc v) = v := by
 unfold znX
 rw [zuq _ (fun i _ => zkD v i), zqp]
 rw [show 8 * 32 = 256 from rfl, Nat.mod_eq_of_lt (Nat.lt_trans h zAz), Nat.mod_eq_of_lt (Nat.lt_trans h zAy), Nat.mod_eq_of_lt h]
theorem zAA (u : Nat → Nat) : znX u < pN := Nat.mod_lt _ zdU
theorem zrR {u v : Nat → Nat} (h : ∀ i, i < 32 → zoH u i = zoH v i) : znX u = znX v := by
 unfold znX
 rw [ziy _ _ 32 h]
theorem zuC : znX (fun i => if i = 0 then 9 else 0) = 9 := by unfold znX pN; decide +kernel
end
section
open Go.RowKit
def zBP (x s : Nat) : Nat := orW (zBG x s) (zzg x (32 - s))
def zuD (x a b sh : Nat) : Nat := zsg (zsg (zBP x (32 - a)) (zBP x (32 - b))) (zzg x sh)
def zjL (x a b c : Nat) : Nat := zsg (zsg (zBP x (32 - a)) (zBP x (32 - b))) (zBP x (32 - c))
theorem zAB : ∀ a : Fin 32, 1 ≤ a.val → IntKind.u64.wrap (((BitVec.ofInt 64 (IntKind.u64.wrap (-((a.val : Nat) : Int))) &&& BitVec.ofInt 64 31).toNat : Nat) : Int) = (((32 - a.val : Nat)) : Int) := by decide
def zAC (l : List Nat) : Nat := orW (orW (orW (zBG (l.getD 0 0 % 4294967296) 24) (zBG (l.getD 1 0 % 4294967296) 16)) (zBG (l.getD 2 0 % 4294967296) 8)) (l.getD 3 0 % 4294967296)
def zoQ (k : List Nat) (n : Nat) : Nat → Nat := fun i => if i < n then zAC (k.drop (4 * i)) else 0
def zgc (w : Nat → Nat) (t : Nat) : Nat → Nat := if 16 ≤ t then upd w (t % 16) (zgW (w (t % 16)) (zgW (zgW (zuD (w ((t + 1) % 16)) 7 18 3) (w ((t + 9) % 16))) (zuD (w ((t + 14) % 16)) 17 19 10))) else w
def zAD (gt w v : Nat → Nat) (t : Nat) : Nat := zgW (zgW (zgW (zgW (v 7) (zjL (v 4) 6 11 25)) (zsg (v 6) (zwm (v 4) (zsg (v 5) (v 6))))) (gt t)) (w (t % 16))
def zBQ (v : Nat → Nat) : Nat := zgW (zjL (v 0) 2 13 22) (orW (zwm (v 0) (v 1)) (zwm (v 2) (orW (v 0) (v 1))))
def zoR (v : Nat → Nat) (one two : Nat) : Nat → Nat
 | 0 => zgW one two
 | 1 => v 0
 | 2 => v 1
 | 3 => v 2
 | 4 => zgW (v 3) one
 | 5 => v 4
 | 6 => v 5
 | _ => v 6
def zuE (gt : Nat → Nat) (k : List Nat) (h : Nat → Nat) : Nat → (Nat → Nat) × (Nat → Nat)
 | 0 => (zoQ k 16, h)
 | t + 1 => (zgc (zuE gt k h t).1 t, zoR (zuE gt k h t).2 (zAD gt (zgc (zuE gt k h t).1 t) (zuE gt k h t).2 t) (zBQ (zuE gt k h t).2))
theorem zAE (v : Nat → Nat) (one two : Nat) : zoR v one two 0 = zgW one two := rfl
theorem zAF (v : Nat → Nat) (one two : Nat) : zoR v one two 4 = zgW (v 3) one := rfl
theorem zuF {gt h w v : Nat → Nat} {k : List Nat} {t : Nat} (hM : (w, v) = zuE gt k h t) : (zgc w t, zoR v (zAD gt (zgc w t) v t) (zBQ v)) = zuE gt k h (t + 1) := by
 rw [zuE, ← hM]
def zyR (h v : Nat → Nat) (n : Nat) : Nat → Nat := fun i => if i < n then zgW (h i) (v i) else h i
def znn (gt h : Nat → Nat) (k : List Nat) : Nat → Nat := zyR h (zuE gt k h 64).2 8
theorem zoS (f : Nat → Nat) (i v j : Nat) : upd (fun i => u32 (f i)) i (u32 v) j = u32 (upd f i v j) := by
 unfold upd; split <;> rfl
theorem zrS (k : List Nat) (n j : Nat) : upd (fun i => u32 (zoQ k n i)) n (u32 (zAC (k.drop (4 * n)))) j = u32 (zoQ k (n + 1) j) := by
 rw [zoS]
 congr 2
 unfold upd zoQ
 by_cases h : j = n
 ·subst h; simp
 ·rw [if_neg h]
  by_cases h2 : j < n
  ·rw [if_pos h2, if_pos (by omega)]
  ·rw [if_neg h2, if_neg (by omega)]
theorem zuG (h v : Nat → Nat) (n j : Nat) : upd (fun i => u32 (zyR h v n i)) n (u32 (zgW (h n) (v n))) j = u32 (zyR h v (n + 1) j) := by
 rw [zoS]
 congr 2
 unfold upd zyR
 by_cases hj : j = n
 ·subst hj; simp
 ·rw [if_neg hj]
  by_cases h2 : j < n
  ·rw [if_pos h2, if_pos (by omega)]
  ·rw [if_neg h2, if_neg (by omega)]
theorem zAG (h v : Nat → Nat) (n : Nat) : zyR h v n n = h n := by simp [zyR]
theorem zEp (m : Nat) : (BitVec.ofInt 64 (m : Int) &&& BitVec.ofInt 64 15).toNat = m % 16 := by
 have e : (BitVec.ofInt 64 15).toNat = 15 := rfl
 rw [BitVec.toNat_and, e, BitVec.toNat_ofInt, Nat.and_two_pow_sub_one_eq_mod _ 4]
 omega
def zme (gt h : Nat → Nat) (l : List Nat) : (Nat → Nat) × List Nat := if 64 ≤ l.length then zme gt (znn gt h (l.take 64)) (l.drop 64) else (h, l)
termination_by l.length
decreasing_by simp only [List.length_drop]; omega
theorem ziM {gt h : Nat → Nat} {l : List Nat} (hl : 64 ≤ l.length) : zme gt h l = zme gt (znn gt h (l.take 64)) (l.drop 64) := by rw [zme, if_pos hl]
theorem zgd {gt h : Nat → Nat} {l : List Nat} (hl : ¬ 64 ≤ l.length) : zme gt h l = (h, l) := by rw [zme, if_neg hl]
theorem zqQ (gt : Nat → Nat) : ∀ (n : Nat) (h : Nat → Nat) (l : List Nat), l.length ≤ n → (zme gt h l).2.length < 64
 | 0, h, l, hl => by rw [zgd (by omega)]; show l.length < 64; omega
 | n + 1, h, l, hl => by
  by_cases h1 : 64 ≤ l.length
  ·rw [ziM h1]; exact zqQ gt n _ _ (by rw [List.length_drop]; omega)
  ·rw [zgd h1]; show l.length < 64; omega
def iv0 : Nat → Nat
 | 0 => 1779033703
 | 1 => 3144134277
 | 2 => 1013904242
 | 3 => 2773480762
 | 4 => 1359893119
 | 5 => 2600822924
 | 6 => 528734635
 | _ => 1541459225
def zsk (n : Nat) : List Nat := 128 :: List.replicate (63 - (n + 8) % 64) 0
def zsm (m j : Nat) : List Nat := (List.range j).map fun q => m / 2 ^ (8 * (7 - q)) % 256
def zCX (n : Nat) : List Nat := zsk n ++ zsm (n * 2 ^ 3 % 18446744073709551616) 8
def zrT (x : Nat) : List Nat := [zzg x 24 % 256, zzg x 16 % 256, zzg x 8 % 256, x % 256]
def zg1 (h : Nat → Nat) (n : Nat) : List Nat := (List.range n).flatMap fun i => zrT (h i)
def zEq (gt h : Nat → Nat) (n : Nat) (rest : List Nat) : List Nat := zg1 (zme gt h (rest ++ zCX n)).1 8
def zAH (gt : Nat → Nat) (s : (Nat → Nat) × Nat × List Nat) (b : List Nat) : (Nat → Nat) × Nat × List Nat := ((zme gt s.1 (s.2.2 ++ b)).1, s.2.1 + b.length, (zme gt s.1 (s.2.2 ++ b)).2)
def zge (gt : Nat → Nat) (ps : List (List Nat)) : (Nat → Nat) × Nat × List Nat := ps.foldl (zAH gt) (iv0, 0, [])
def zxy (gt : Nat → Nat) (ps : List (List Nat)) : List Nat := zEq gt (zge gt ps).1 (zge gt ps).2.1 (zge gt ps).2.2
theorem ziN (h : Nat → Nat) (n : Nat) : zg1 h (n + 1) = zg1 h n ++ zrT (h n) := by
 unfold zg1
 rw [List.range_succ, List.flatMap_append]
 simp
theorem zgM (h : Nat → Nat) : ∀ n, (zg1 h n).length = 4 * n
 | 0 => rfl
 | n + 1 => by rw [ziN, jQ, zgM h n]; simp [zrT]; omega
theorem zrV (x : Nat) : ∀ z ∈ zrT x, z < 256 := fun z hz => by
 simp only [zrT, List.mem_cons, List.not_mem_nil, or_false] at hz
 omega
theorem zoT (h : Nat → Nat) (n : Nat) : ∀ z ∈ zg1 h n, z < 256 := fun z hz => by
 obtain ⟨i, _, hi⟩ := List.mem_flatMap.1 hz
 exact zrV _ z hi
theorem zkS (gt : Nat → Nat) (ps : List (List Nat)) : (zxy gt ps).length = 32 := zgM _ 8
theorem ziO (gt : Nat → Nat) (ps : List (List Nat)) : ∀ z ∈ zxy gt ps, z < 256 := zoT _ 8
theorem zxz (n : Nat) : (zsk n).length = 64 - (n + 8) % 64 := by
 have : (n + 8) % 64 < 64 := Nat.mod_lt _ (by decide)
 simp only [zsk, List.length_cons, List.length_replicate]
 omega
theorem zuH (n : Nat) : ∀ z ∈ zsk n, z < 256 := fun z hz => by
 rcases List.mem_cons.1 hz with rfl | h
 ·decide
 ·rw [(List.mem_replicate.1 h).2]; decide
theorem zuI (m j : Nat) : zsm m (j + 1) = zsm m j ++ [m / 2 ^ (8 * (7 - j)) % 256] := by
 unfold zsm; rw [List.range_succ, List.map_append]; rfl
theorem zxA (m j : Nat) : (zsm m j).length = j := by simp [zsm]
theorem zuJ (m j : Nat) : ∀ z ∈ zsm m j, z < 256 := fun z hz => by
 obtain ⟨q, _, rfl⟩ := List.mem_map.1 hz
 exact Nat.mod_lt _ (by decide)
theorem zoU {gt : Nat → Nat} {ps : List (List Nat)} {i : Nat} {b : List Nat} (hi : ps[i]? = some b) : zge gt (ps.take (i + 1)) = zAH gt (zge gt (ps.take i)) b := by
 unfold zge
 rw [List.take_add_one, hi, List.foldl_append]
 rfl
theorem zno (gt : Nat → Nat) : ∀ (n : Nat) (h : Nat → Nat) (l : List Nat), l.length ≤ n → (∀ x ∈ l, x < 256) → ∀ x ∈ (zme gt h l).2, x < 256
 | 0, h, l, hl, hb => by rw [zgd (by omega)]; exact hb
 | n + 1, h, l, hl, hb => by
  by_cases h1 : 64 ≤ l.length
  ·rw [ziM h1]; exact zno gt n _ _ (by rw [List.length_drop]; omega) fun x hx => hb x (List.mem_of_mem_drop hx)
  ·rw [zgd h1]; exact hb
end
section
open Go.RowKit
section
variable {x y k : Nat} {j : Int} {A : Int → Prop}
theorem zaW (h : A ((zgW x y : Nat) : Int)) : ∃ z, IntKind.u32.wrap ((x : Int) + (y : Int)) = z ∧ A z := ⟨_, by rw [← Int.natCast_add, zgs]; rfl, h⟩
theorem zxW (h : A ((zsg x y : Nat) : Int)) : ∃ z, IntKind.u32.wrap ((BitVec.ofInt IntKind.u32.bits (x : Int) ^^^ BitVec.ofInt IntKind.u32.bits (y : Int)).toNat : Nat) = z ∧ A z := ⟨_, zDY x y, h⟩
theorem znW (h : A ((zwm x y : Nat) : Int)) : ∃ z, IntKind.u32.wrap ((BitVec.ofInt IntKind.u32.bits (x : Int) &&& BitVec.ofInt IntKind.u32.bits (y : Int)).toNat : Nat) = z ∧ A z := ⟨_, zDZ x y, h⟩
theorem zoW (h : A ((orW x y : Nat) : Int)) : ∃ z, IntKind.u32.wrap ((BitVec.ofInt IntKind.u32.bits (x : Int) ||| BitVec.ofInt IntKind.u32.bits (y : Int)).toNat : Nat) = z ∧ A z := ⟨_, zE7 x y, h⟩
theorem zlW (hj : j = (k : Int)) (h : A ((zBG x k : Nat) : Int)) : 0 ≤ j ∧ ∃ z, IntKind.u32.wrap ((x : Int) * 2 ^ (min j.toNat IntKind.u32.bits)) = z ∧ A z := ⟨by omega, _, by
 unfold zBG
 rw [← zgs, hj, Int.toNat_natCast]
 have : IntKind.u32.bits = 32 := rfl
 rw [this]
 norm_cast, h⟩
theorem zrW (hj : j = (k : Int)) (h : A ((zzg x k : Nat) : Int)) : 0 ≤ j ∧ ∃ z, ((x : Int)).fdiv (2 ^ (min j.toNat IntKind.u32.bits)) = z ∧ A z := ⟨by omega, _, by
 unfold zzg
 rw [zzh, hj, Int.toNat_natCast]
 rfl, h⟩
theorem zuK (hn : k ≤ 100) (h : A (-((k : Nat) : Int))) : ∃ z, IntKind.i64.wrap (0 - (k : Int)) = z ∧ A z := ⟨_, by rw [zym (by omega) (by omega), show (0 : Int) - (k : Int) = -(k : Int) by omega], h⟩
end
def wS (x : Nat) : SV := .a (.s (.p (.v (u32 x))))
section
variable {X : List Nat} {w : World} {x n a b c : Nat}
theorem znp (hX : ∀ k ∈ X, k < w.heap.size) (h1 : 1 ≤ n) (h2 : n < 32) : Ct Tryz.prog 195 [u32 x, .int .i64 (-((n : Nat) : Int))] X w (wS (zBP x (32 - n))) [] [] := by
 refine vFn (k0 := 0) (rs := [.tmp 4]) (svs := [wS x, zaG .i64 (-((n : Nat) : Int))]) (R0 := []) (hnQ []) Tryz.ntmps195 Tryz.func195 rfl rfl rfl rfl rfl zap (by kernel_rfl) hX (fun r hr => by cases hr) ?_
 conv => whnf
 refine ⟨_, rfl, ?_⟩
 conv => whnf
 refine ⟨_, zAB ⟨n, h2⟩ h1, ?_⟩
 conv => whnf
 refine zlW rfl ?_
 conv => whnf
 refine ⟨((32 - (32 - n) : Nat) : Int), by rw [show (32 : Int) - ((32 - n : Nat) : Int) = ((32 - (32 - n) : Nat) : Int) by omega]; exact zBF (by omega) (by omega), ?_⟩
 conv => whnf
 refine zrW rfl ?_
 conv => whnf
 refine zoW ?_
 conv => whnf
 refine zan ?_
 rfl
theorem zqR (hX : ∀ k ∈ X, k < w.heap.size) (ha : 1 ≤ a ∧ a < 32) (hb : 1 ≤ b ∧ b < 32) (hc : 1 ≤ c ∧ c < 32) : Ct Tryz.prog 178 [u32 x, .int .i64 a, .int .i64 b, .int .i64 c] X w (wS (zjL x a b c)) [] [] := by
 refine vFn (k0 := 0) (rs := [.tmp 8]) (svs := [wS x, zaG .i64 a, zaG .i64 b, zaG .i64 c]) (R0 := []) (hnQ []) Tryz.ntmps178 Tryz.func178 rfl rfl rfl rfl rfl zap (by kernel_rfl) hX (fun r hr => by cases hr) ?_
 conv => whnf
 refine zuK (by omega) ?_
 conv => whnf
 refine zah rfl rfl rfl (by kernel_rfl) (fun h X w H => znp H.xk ha.1 ha.2) rfl rfl rfl ?_
 conv => whnf
 refine zuK (by omega) ?_
 conv => whnf
 refine zah rfl rfl rfl (by kernel_rfl) (fun h X w H => znp H.xk hb.1 hb.2) rfl rfl rfl ?_
 conv => whnf
 refine zxW ?_
 conv => whnf
 refine zuK (by omega) ?_
 conv => whnf
 refine zah rfl rfl rfl (by kernel_rfl) (fun h X w H => znp H.xk hc.1 hc.2) rfl rfl rfl ?_
 conv => whnf
 refine zxW ?_
 conv => whnf
 refine zan ?_
 rfl
theorem zqS (hX : ∀ k ∈ X, k < w.heap.size) (ha : 1 ≤ a ∧ a < 32) (hb : 1 ≤ b ∧ b < 32) : Ct Tryz.prog 177 [u32 x, .int .i64 a, .int .i64 b, .int .i64 c] X w (wS (zuD x a b c)) [] [] := by
 refine vFn (k0 := 0) (rs := [.tmp 8]) (svs := [wS x, zaG .i64 a, zaG .i64 b, zaG .i64 c]) (R0 := []) (hnQ []) Tryz.ntmps177 Tryz.func177 rfl rfl rfl rfl rfl zap (by kernel_rfl) hX (fun r hr => by cases hr) ?_
 conv => whnf
 refine zaY 12 [] (by kernel_rfl) ?_
 conv => whnf
 refine zuK (by omega) ?_
 conv => whnf
 refine zaT (zae (rs := []) (Rs := []) rfl rfl rfl (by kernel_rfl) rfl fun h X w H => znp H.xk ha.1 ha.2) ?_
 conv => whnf
 refine zuK (by omega) ?_
 conv => whnf
 refine zaT (zae (rs := []) (Rs := []) rfl rfl rfl (by kernel_rfl) rfl fun h X w H => znp H.xk hb.1 hb.2) ?_
 conv => whnf
 refine zxW ?_
 conv => whnf
 refine zrW rfl ?_
 conv => whnf
 refine zxW ?_
 conv => whnf
 refine zan ?_
 rfl
theorem zDS {m : Nat} {A : Int → Prop} (h : A ((m % 4294967296 : Nat) : Int)) : ∃ x, IntKind.u32.wrap (m : Int) = x ∧ A x := ⟨_, zgs m, h⟩
theorem zAI (hX : ∀ k ∈ X, k < w.heap.size) (l : List Nat) (hl : 4 ≤ l.length) (q : Qd) (hq : St (TxQ l q) w X) : Ct Tryz.prog 176 [.slice q.1 l.length q.2] X w (wS (zAC l)) [] [] := by
 refine vFn (k0 := 1) (rs := [.tmp 2]) (svs := [.a (.s (.p (.hd 0 l.length)))]) (R0 := [.sl 0 l.length (TxG l)]) (hnQ [q]) Tryz.ntmps176 Tryz.func176 rfl rfl rfl rfl rfl zap (by kernel_rfl) hX (fun r hr => by rcases List.mem_singleton.1 hr with rfl; exact hq) ?_
 have hg : ∀ i, i < 4 → l[i]? = some (l.getD i 0) := fun i hi => zir 0 (by omega)
 conv => whnf
 refine zaY 21 [] (by kernel_rfl) ?_
 conv => whnf
 refine ⟨0, ⟨rfl, by omega, by omega⟩, ?_⟩
 conv => whnf
 refine zb1 (zqc 0 (hg 0 (by omega)) rfl rfl rfl (by kernel_rfl)) ?_
 conv => whnf
 refine zDS ?_
 conv => whnf
 refine zlW (k := 24) rfl ?_
 conv => whnf
 refine ⟨1, ⟨rfl, by omega, by omega⟩, ?_⟩
 conv => whnf
 refine zb1 (zqc 0 (hg 1 (by omega)) rfl rfl rfl (by kernel_rfl)) ?_
 conv => whnf
 refine zDS ?_
 conv => whnf
 refine zlW (k := 16) rfl ?_
 conv => whnf
 refine zoW ?_
 conv => whnf
 refine ⟨2, ⟨rfl, by omega, by omega⟩, ?_⟩
 conv => whnf
 refine zb1 (zqc 0 (hg 2 (by omega)) rfl rfl rfl (by kernel_rfl)) ?_
 conv => whnf
 refine zDS ?_
 conv => whnf
 refine zlW (k := 8) rfl ?_
 conv => whnf
 refine zoW ?_
 conv => whnf
 refine ⟨3, ⟨rfl, by omega, by omega⟩, ?_⟩
 conv => whnf
 refine zb1 (zqc 0 (hg 3 (by omega)) rfl rfl rfl (by kernel_rfl)) ?_
 conv => whnf
 refine zDS ?_
 conv => whnf
 refine zoW ?_
 conv => whnf
 refine zan ?_
 rfl
end
end
section
open Go.RowKit
def zDT (r : Nat) (h : Nat → Nat) (a : Int) (n : Nat) : RB := .blk [.row 8 fun i => u32 (h i), .one (.p (.v (.int .u64 a))), .one (.p (.hd r n))] 150
abbrev zEr (h : Nat → Nat) (a : Int) (n : Nat) : RB := zDT 1 h a n
def zCY (h : Nat → Nat) (a : Int) (n : Nat) : MB := [(0, zEr h a n), (1, .gone)]
def zcG (gt : Nat → Nat) (g : Nat) : World → Prop := AtC ⟨g, 0, none⟩ [.row 64 fun i => u32 (gt i)]
theorem z15 {m : Nat} {A : Int → Prop} (h : A ((m % 16 : Nat) : Int)) : ∃ z, IntKind.i64.wrap ((BitVec.ofInt IntKind.i64.bits (m : Int) &&& BitVec.ofInt IntKind.i64.bits 15).toNat : Nat) = z ∧ A z := ⟨_, by
 have := zEp m
 rw [show IntKind.i64.bits = 64 from rfl, this]
 exact zym (by omega) (by omega), h⟩
theorem zEs (gt wr v : Nat → Nat) (t : Nat) : zgW (v 3) (zgW (zgW (zgW (zgW (v 7) (zjL (v 4) 6 11 25)) (zsg (v 6) (zwm (v 4) (zsg (v 5) (v 6))))) (gt t)) (zgc wr t (t % 16))) = zoR v (zAD gt (zgc wr t) v t) (zBQ v) 4 := by
 rw [zAF, zAD]
theorem zEt (gt wr v : Nat → Nat) (t : Nat) : zgW (zgW (zgW (zgW (zgW (v 7) (zjL (v 4) 6 11 25)) (zsg (v 6) (zwm (v 4) (zsg (v 5) (v 6))))) (gt t)) (zgc wr t (t % 16))) (zgW (zjL (v 0) 2 13 22) (orW (zwm (v 0) (v 1)) (zwm (v 2) (orW (v 0) (v 1))))) = zoR v (zAD gt (zgc wr t) v t) (zBQ v) 0 := by
 rw [zAE, zAD, zBQ]
section
variable {X : List Nat} {w : World} {h0 : Hn} {gt h : Nat → Nat} {bk : List Nat} {a : Int} {n : Nat} {q : Qd}
theorem zCZ (hl : bk.length = 64) (hsp : Sp X w (zad h0 [] (zCY h a n)) [zcG gt 2, TxQ bk q]) :
  CtG Tryz.prog 153 [.pointer (some ⟨h0.b 0, 0, none⟩), .slice q.1 bk.length q.2] X w h0 (zCY h a n) [0, 1] (.tup []) (zCY (znn gt h bk) a n) [] := by
 refine zyv (g := 2) (k0 := 3) (bl := []) (ql := [q]) (svs := [atS 0 0, .a (.s (.p (.hd 2 bk.length)))]) (given := zCY h a n) (Rg := [.c (zcG gt 2), .sl 2 bk.length (TxG bk)]) (kb := [0, 1]) Tryz.ntmps153 Tryz.func153 rfl rfl rfl zap (by kernel_rfl) rfl rfl hsp ?_
 conv => whnf
 refine ⟨Nat, fun k l m R i => ⟨k, (20, zaG .i64 i) :: zbP [0, 1, 4] l, (3, .blk [.row 16 fun j => u32 (zoQ bk i j)] 214) :: m, R⟩, fun i => i ≤ 16, fun i => 16 - i, ⟨0, [], [0, 1, 2, 3], Nat.zero_le _, zbX⟩, fun i hi => ?_⟩
 conv => whnf
 refine vIf (fun hc => ?_) fun hc => ?_
 ·have hi2 : i < 16 := by
   have : (i : Int) < 16 := by simpa using hc
   omega
  have hb1 : 4 * i ≤ bk.length := by omega
  conv => whnf
  have e4 : (4 : Int) * (i : Int) = ((4 * i : Nat) : Int) := by omega
  refine zdq e4 (by omega) (by omega) ?_
  conv => whnf
  refine zbC (zqd (lo := 4 * i) (hi := bk.length) 3 rfl hb1 (jV _) fun h w hf => zh3 rfl (by kernel_rfl) rfl rfl rfl hb1) rfl rfl ?_
  conv => whnf
  obtain ⟨b4, hb4⟩ : ∃ b4, b4 = (bk.drop (4 * i)).take (bk.length - 4 * i) := ⟨_, rfl⟩
  have hl4 : bk.length - 4 * i = b4.length := by rw [hb4, List.length_take, List.length_drop]; omega
  rw [← hb4, hl4]
  refine zah rfl rfl rfl (by kernel_rfl) (fun h X w H => zAI H.xk b4 (by omega) _ (H.fact 0 rfl)) rfl rfl rfl ?_
  conv => whnf
  refine ⟨i, ⟨rfl, hi2⟩, .inr ?_⟩
  conv => whnf
  refine za8 (zBN (fun j => u32 (zoQ bk (i + 1) j)) rfl rfl rfl rfl rfl rfl hi2 (by rw [hb4, List.take_of_length_le (by rw [List.length_drop]; omega)]; exact zrS bk i)) ?_
  conv => whnf
  refine zei (by omega) (by omega) ?_
  conv => whnf
  exact ⟨i + 1, [], [1, 2, 3, 4], ⟨hi2, Nat.sub_lt_sub_left hi2 (Nat.lt_succ_self i)⟩, zbX⟩
 have hi16 : i = 16 := by
   have : ¬ (i : Int) < 16 := by simpa using hc
   omega
 subst hi16
 conv => whnf
 refine zaY 39 [] (by kernel_rfl) ?_
 conv => whnf
 refine ⟨0, ⟨rfl, by decide⟩, .inl ?_⟩
 conv => whnf
 refine ⟨1, ⟨rfl, by decide⟩, .inl ?_⟩
 conv => whnf
 refine ⟨2, ⟨rfl, by decide⟩, .inl ?_⟩
 conv => whnf
 refine ⟨3, ⟨rfl, by decide⟩, .inl ?_⟩
 conv => whnf
 refine ⟨4, ⟨rfl, by decide⟩, .inl ?_⟩
 conv => whnf
 refine ⟨5, ⟨rfl, by decide⟩, .inl ?_⟩
 conv => whnf
 refine ⟨6, ⟨rfl, by decide⟩, .inl ?_⟩
 conv => whnf
 refine ⟨7, ⟨rfl, by decide⟩, .inl ?_⟩
 conv => whnf
 refine zbz (zCr (cs := [.row 64 fun i => u32 (gt i)]) 2 _ rfl (fun w hw h => hw) rfl rfl (by kernel_rfl) rfl) rfl rfl ?_
 conv => whnf
 refine ⟨Nat × (Nat → Nat) × (Nat → Nat), fun k l m R g => ⟨k, (64, zaG .i64 g.1) :: (6, wS (g.2.2 0)) :: (7, wS (g.2.2 1)) :: (8, wS (g.2.2 2)) :: (9, wS (g.2.2 3)) :: (10, wS (g.2.2 4)) :: (11, wS (g.2.2 5)) :: (12, wS (g.2.2 6)) :: (13, wS (g.2.2 7)) :: zbP [0, 4, 63] l, (3, .blk [.row 16 fun j => u32 (g.2.1 j)] 214) :: m, R⟩, fun g => g.1 ≤ 64 ∧ g.2 = zuE gt bk h g.1, fun g => 64 - g.1, ⟨(0, zoQ bk 16, h), [], [0, 1, 2, 3], ⟨Nat.zero_le _, rfl⟩, zbX⟩, fun g hg => ?_⟩
 obtain ⟨t, wr, v⟩ := g
 obtain ⟨ht, hM⟩ : t ≤ 64 ∧ (wr, v) = zuE gt bk h t := hg
 conv => whnf
 refine vIf (fun hc => ?_) fun hc => ?_
 ·have ht2 : t < 64 := by
   have : (t : Int) < 64 := by simpa using hc
   omega
  conv => whnf
  refine ⟨t, ⟨rfl, ht2⟩, ?_⟩
  conv => whnf
  refine .inr ⟨Unit, fun k l m R _ => ⟨k, l, (3, .blk [.row 16 fun j => u32 (zgc wr t j)] 214) :: m, R⟩, fun _ => True, ?_, fun _ _ => ?_⟩
  ·conv => whnf
   refine vIf (fun hc => ?_) fun hc => ?_
   ·have h16 : 16 ≤ t := by
     have : (16 : Int) ≤ (t : Int) := by simpa using hc
     omega
    conv => whnf
    refine zaY 23 [] (by kernel_rfl) ?_
    conv => whnf
    refine z15 ?_
    conv => whnf
    refine ⟨t % 16, ⟨rfl, by omega⟩, .inr ?_⟩
    conv => whnf
    refine ⟨by omega, ?_⟩
    conv => whnf
    refine zdq (show (t : Int) + 1 = ((t + 1 : Nat) : Int) by omega) (by omega) (by omega) ?_
    conv => whnf
    refine z15 ?_
    conv => whnf
    refine ⟨(t + 1) % 16, ⟨rfl, by omega⟩, .inr ?_⟩
    conv => whnf
    refine ⟨by omega, ?_⟩
    conv => whnf
    refine zaT (zae (rs := []) (Rs := []) rfl rfl rfl (by kernel_rfl) rfl fun h X w H => zqS (a := 7) (b := 18) (c := 3) H.xk (by omega) (by omega)) ?_
    conv => whnf
    refine zdq (show (t : Int) + 9 = ((t + 9 : Nat) : Int) by omega) (by omega) (by omega) ?_
    conv => whnf
    refine z15 ?_
    conv => whnf
    refine ⟨(t + 9) % 16, ⟨rfl, by omega⟩, .inr ?_⟩
    conv => whnf
    refine ⟨by omega, ?_⟩
    conv => whnf
    refine zaW ?_
    conv => whnf
    refine zdq (show (t : Int) + 14 = ((t + 14 : Nat) : Int) by omega) (by omega) (by omega) ?_
    conv => whnf
    refine z15 ?_
    conv => whnf
    refine ⟨(t + 14) % 16, ⟨rfl, by omega⟩, .inr ?_⟩
    conv => whnf
    refine ⟨by omega, ?_⟩
    conv => whnf
    refine zaT (zae (rs := []) (Rs := []) rfl rfl rfl (by kernel_rfl) rfl fun h X w H => zqS (a := 17) (b := 19) (c := 10) H.xk (by omega) (by omega)) ?_
    (repeat ((conv => whnf); first | refine zaW ?_ | refine zxW ?_ | refine znW ?_ | refine zoW ?_))
    conv => whnf
    refine ⟨t % 16, ⟨rfl, by omega⟩, .inr ?_⟩
    conv => whnf
    refine za8 (zBN (fun j => u32 (zgc wr t j)) rfl rfl rfl rfl rfl rfl (by omega) (fun j => by rw [zoS, zgc, if_pos h16])) ?_
    conv => whnf
    exact ⟨(), [], [0, 1, 2, 3], trivial, zbX⟩
   ·have h16 : ¬ 16 ≤ t := fun h => by
     have : ¬ (16 : Int) ≤ (t : Int) := by simpa using hc
     omega
    conv => whnf
    refine ⟨(), [], [0, 1, 2, 3], trivial, ?_⟩
    rw [show zgc wr t = wr from if_neg h16]
    exact zbX
  conv => whnf
  refine zaY 18 [] (by kernel_rfl) ?_
  conv => whnf
  refine zaT (zae (rs := []) (Rs := []) rfl rfl rfl (by kernel_rfl) rfl fun h X w H => zqR (a := 6) (b := 11) (c := 25) H.xk (by omega) (by omega) (by omega)) ?_
  (repeat ((conv => whnf); first | refine zaW ?_ | refine zxW ?_ | refine znW ?_ | refine zoW ?_))
  conv => whnf
  refine z15 ?_
  conv => whnf
  refine ⟨t % 16, ⟨rfl, by omega⟩, .inr ?_⟩
  conv => whnf
  refine ⟨by omega, ?_⟩
  (repeat ((conv => whnf); first | refine zaW ?_ | refine zxW ?_ | refine znW ?_ | refine zoW ?_))
  conv => whnf
  refine zah rfl rfl rfl (by kernel_rfl) (fun h X w H => zqR (a := 2) (b := 13) (c := 22) H.xk (by omega) (by omega) (by omega)) rfl rfl rfl ?_
  (repeat ((conv => whnf); first | refine zaW ?_ | refine zxW ?_ | refine znW ?_ | refine zoW ?_))
  conv => whnf
  refine zei (by omega) (by omega) ?_
  conv => whnf
  refine ⟨(t + 1, zgc wr t, zoR v (zAD gt (zgc wr t) v t) (zBQ v)), [], [0, 1, 2, 3], ⟨⟨ht2, zuF hM⟩, Nat.sub_lt_sub_left ht2 (Nat.lt_succ_self t)⟩, zbX (hl := ?_)⟩
  refine ⟨.inl rfl, .inl (congrArg (fun x => some (wS x)) (zEt gt wr v t)), .inl rfl, .inl rfl, .inl rfl, .inl (congrArg (fun x => some (wS x)) (zEs gt wr v t)), ?_⟩
  repeat (first | exact trivial | refine ⟨.inl rfl, ?_⟩)
 have hi64 : t = 64 := by
   have : ¬ (t : Int) < 64 := by simpa using hc
   omega
 subst hi64
 conv => whnf
 refine ⟨fun i => u32 (v i), ⟨rfl, rfl, rfl, rfl, rfl, rfl, rfl, rfl, trivial⟩, ?_⟩
 conv => whnf
 refine ⟨Nat, fun k l m R i => ⟨k, (148, zaG .i64 i) :: zbP [0, 147] l, (0, zEr (zyR h v i) a n) :: m, R⟩, fun i => i ≤ 8, fun i => 8 - i, ⟨0, [], [0, 1, 2, 3], Nat.zero_le _, zbX⟩, fun i hi => ?_⟩
 conv => whnf
 refine vIf (fun hc => ?_) fun hc => ?_
 ·have hi2 : i < 8 := by
   have : (i : Int) < 8 := by simpa using hc
   omega
  conv => whnf
  refine ⟨i, ⟨rfl, hi2⟩, ?_⟩
  conv => whnf
  refine zaY 8 [] (by kernel_rfl) ?_
  conv => whnf
  refine ⟨i, ⟨rfl, hi2⟩, .inr ?_⟩
  conv => whnf
  refine ⟨hi2, ?_⟩
  (repeat ((conv => whnf); first | refine zaW ?_ | refine zxW ?_ | refine znW ?_ | refine zoW ?_))
  conv => whnf
  refine ⟨i, ⟨rfl, hi2⟩, .inr ?_⟩
  conv => whnf
  refine za8 (zBN (fun j => u32 (zyR h v (i + 1) j)) rfl rfl rfl rfl rfl rfl hi2 (by rw [zAG]; exact zuG h v i)) ?_
  conv => whnf
  refine zei (by omega) (by omega) ?_
  conv => whnf
  exact ⟨i + 1, [], [0, 1, 2, 3], ⟨hi2, Nat.sub_lt_sub_left hi2 (Nat.lt_succ_self i)⟩, zbX⟩
 have hi8 : i = 8 := by
   have : ¬ (i : Int) < 8 := by simpa using hc
   omega
 subst hi8
 conv => whnf
 refine zdD [(0, 0), (1, 1)] [] [0, 1] (.inl rfl) ⟨.inl ?_, trivial⟩ rfl trivial ⟨rfl, rfl, trivial⟩
 rw [znn, ← hM]
 rfl
end
end
section
open Go.RowKit
section
variable {X : List Nat} {w : World}
theorem znq (hX : ∀ k ∈ X, k < w.heap.size) (xs : List Nat) (q : Qd) (hq : St (SlQ ByT xs q) w X) (hl : xs.length * 1 ≤ 140737488355328) : Ct Tryz.prog 67 [.slice q.1 xs.length q.2] X w (.a (.s (.p (.hd 0 xs.length)))) [zbh ByT xs 5] [.q 0 (zbY ByT xs)] := by
 have hbig := SlQ.big hq
 refine vFn (k0 := 1) (rs := [.tmp 2]) (svs := [.a (.s (.p (.hd 0 xs.length)))]) (R0 := [.sl 0 xs.length (SlF ByT xs), .h 0 fun q' _ => q' = q]) (hnQ [q]) Tryz.ntmps67 Tryz.func67 rfl rfl rfl rfl rfl zap (by kernel_rfl) hX (fun r hr => by
  rcases List.mem_cons.1 hr with rfl | hr
  ·exact hq
  ·rcases List.mem_singleton.1 hr with rfl; exact fun _ _ => rfl) ?_
 conv => whnf
 refine zbz (ze0 1 rfl rfl rfl rfl (by kernel_rfl)) rfl rfl ?_
 conv => whnf
 refine vIf (fun h => ?_) fun h => ?_
 ·obtain rfl : xs = [] := List.eq_nil_of_length_eq_zero (hq.now.1 (Option.isNone_iff_eq_none.1 h))
  conv => whnf
  exact zaK [(0, 1)] [0] (.inr rfl) ⟨.inr ⟨rfl, rfl, fun _ => rfl⟩, trivial⟩ rfl ⟨.inr fun _ _ _ _ => zbE, trivial⟩
 ·conv => whnf
  refine zbC (ze1 (T := ByT) (e := 5) rfl (by kernel_rfl) (by kernel_rfl)) rfl rfl ?_
  conv => whnf
  refine zaZ (zdi (.q 1 (zbY ByT [])) (fun _ _ _ => zbE) rfl (zgz (T := ByT) (e := 5) (xs := []) (ys := xs) (r := 1) (by_ := 1) zCx rfl rfl rfl rfl rfl ⟨by kernel_rfl, by kernel_rfl⟩ (by simp; exact hbig) (by simpa using hl) rfl rfl (.head _))) ?_
  rw [List.nil_append]
  conv => whnf
  exact zaK [(0, 2)] [0] (.inl rfl) ⟨.inl rfl, trivial⟩ rfl ⟨.inl rfl, trivial⟩
theorem znr (hX : ∀ k ∈ X, k < w.heap.size) (xs : List Int) (q : Qd) (hq : St (SlQ zaz xs q) w X) (hl : xs.length * 8 ≤ 140737488355328) : Ct Tryz.prog 75 [.slice q.1 xs.length q.2] X w (.a (.s (.p (.hd 0 xs.length)))) [zbh zaz xs 3] [.q 0 (zbY zaz xs)] := by
 have hbig := SlQ.big hq
 refine vFn (k0 := 1) (rs := [.tmp 2]) (svs := [.a (.s (.p (.hd 0 xs.length)))]) (R0 := [.sl 0 xs.length (SlF zaz xs), .h 0 fun q' _ => q' = q]) (hnQ [q]) Tryz.ntmps75 Tryz.func75 rfl rfl rfl rfl rfl zap (by kernel_rfl) hX (fun r hr => by
  rcases List.mem_cons.1 hr with rfl | hr
  ·exact hq
  ·rcases List.mem_singleton.1 hr with rfl; exact fun _ _ => rfl) ?_
 conv => whnf
 refine zbz (ze0 1 rfl rfl rfl rfl (by kernel_rfl)) rfl rfl ?_
 conv => whnf
 refine vIf (fun h => ?_) fun h => ?_
 ·obtain rfl : xs = [] := List.eq_nil_of_length_eq_zero (hq.now.1 (Option.isNone_iff_eq_none.1 h))
  conv => whnf
  exact zaK [(0, 1)] [0] (.inr rfl) ⟨.inr ⟨rfl, rfl, fun _ => rfl⟩, trivial⟩ rfl ⟨.inr fun _ _ _ _ => zbE, trivial⟩
 ·conv => whnf
  refine zbC (ze1 (T := zaz) (e := 3) rfl (by kernel_rfl) (by kernel_rfl)) rfl rfl ?_
  conv => whnf
  refine zaZ (zdi (.q 1 (zbY zaz [])) (fun _ _ _ => zbE) rfl (zgz (T := zaz) (e := 3) (xs := []) (ys := xs) (r := 1) (by_ := 8) zzC rfl rfl rfl rfl rfl ⟨by kernel_rfl, by kernel_rfl⟩ (by simp; exact hbig) (by simpa using hl) rfl rfl (.head _))) ?_
  rw [List.nil_append]
  conv => whnf
  exact zaK [(0, 2)] [0] (.inl rfl) ⟨.inl rfl, trivial⟩ rfl ⟨.inl rfl, trivial⟩
theorem zns (hX : ∀ k ∈ X, k < w.heap.size) (xs : List (List Nat)) (q : Qd) (hq : St (SlQ zbU xs q) w X) (hl : xs.length * 32 ≤ 140737488355328) : Ct Tryz.prog 77 [.slice q.1 xs.length q.2] X w (.a (.s (.p (.hd 0 xs.length)))) [zbh zbU xs 23] [.q 0 (zbY zbU xs)] := by
 have hbig := SlQ.big hq
 refine vFn (k0 := 1) (rs := [.tmp 2]) (svs := [.a (.s (.p (.hd 0 xs.length)))]) (R0 := [.sl 0 xs.length (SlF zbU xs), .h 0 fun q' _ => q' = q]) (hnQ [q]) Tryz.ntmps77 Tryz.func77 rfl rfl rfl rfl rfl zap (by kernel_rfl) hX (fun r hr => by
  rcases List.mem_cons.1 hr with rfl | hr
  ·exact hq
  ·rcases List.mem_singleton.1 hr with rfl; exact fun _ _ => rfl) ?_
 conv => whnf
 refine zbz (ze0 1 rfl rfl rfl rfl (by kernel_rfl)) rfl rfl ?_
 conv => whnf
 refine vIf (fun h => ?_) fun h => ?_
 ·obtain rfl : xs = [] := List.eq_nil_of_length_eq_zero (hq.now.1 (Option.isNone_iff_eq_none.1 h))
  conv => whnf
  exact zaK [(0, 1)] [0] (.inr rfl) ⟨.inr ⟨rfl, rfl, fun _ => rfl⟩, trivial⟩ rfl ⟨.inr fun _ _ _ _ => zbE, trivial⟩
 ·conv => whnf
  refine zbC (ze1 (T := zbU) (e := 23) rfl (by kernel_rfl) (by kernel_rfl)) rfl rfl ?_
  conv => whnf
  refine zaZ (zdi (.q 1 (zbY zbU [])) (fun _ _ _ => zbE) rfl (zgz (T := zbU) (e := 23) (xs := []) (ys := xs) (r := 1) (by_ := 32) ztu rfl rfl rfl rfl rfl ⟨by kernel_rfl, by kernel_rfl⟩ (by simp; exact hbig) (by simpa using hl) rfl rfl (.head _))) ?_
  rw [List.nil_append]
  conv => whnf
  exact zaK [(0, 2)] [0] (.inl rfl) ⟨.inl rfl, trivial⟩ rfl ⟨.inl rfl, trivial⟩
end
end
section
open Go.RowKit
section
variable {x k : Nat} {j : Int} {A : Int → Prop}
theorem zlU (hj : j = (k : Int)) (hk : k ≤ 64) (h : A ((x * 2 ^ k % 18446744073709551616 : Nat) : Int)) : 0 ≤ j ∧ ∃ z, IntKind.u64.wrap ((x : Int) * 2 ^ (min j.toNat IntKind.u64.bits)) = z ∧ A z := ⟨by omega, _, by
 rw [← zog, hj, Int.toNat_natCast, show IntKind.u64.bits = 64 from rfl, Nat.min_eq_left hk]
 norm_cast, h⟩
theorem zrU (hj : j = (k : Int)) (hk : k ≤ 64) (h : A ((x / 2 ^ k : Nat) : Int)) : 0 ≤ j ∧ ∃ z, ((x : Int)).fdiv (2 ^ (min j.toNat IntKind.u64.bits)) = z ∧ A z := ⟨by omega, _, by
 rw [zzh, hj, Int.toNat_natCast, show IntKind.u64.bits = 64 from rfl, Nat.min_eq_left hk], h⟩
theorem zEu {z z' : Int} (e : z = z') (h1 : 0 ≤ z) (h2 : z ≤ 18446744073709551615) (h : A z') : ∃ x, IntKind.u64.wrap z = x ∧ A x := ⟨z', by rw [zBF h1 h2, e], h⟩
theorem zb8 (h : A ((x % 256 : Nat) : Int)) : ∃ z, IntKind.u8.wrap (x : Int) = z ∧ A z := ⟨_, zB4 x, h⟩
theorem zEv {c : Nat} (hc : j = (c : Int)) (h0 : c ≠ 0) (h : A ((x % c : Nat) : Int)) : j ≠ 0 ∧ ∃ z, ((x : Int)).tmod j = z ∧ A z := ⟨by omega, _, by
 rw [hc, Int.tmod_eq_emod_of_nonneg (by omega)]
 norm_cast, h⟩
end
def zuL (h : Nat → Nat) (n : Nat) (rest : List Nat) : MB := [(0, zEr h n rest.length), (1, zi6 rest 5)]
section
variable {X : List Nat} {w : World} {h0 : Hn} {gt h h2 : Nat → Nat} {rest bs r2 : List Nat} {n : Nat} {q : Qd}
theorem zuM (hF : zme gt h (rest ++ bs) = (h2, r2)) (hN : n + bs.length ≤ 4611686018427387904) (hrl : rest.length ≤ 64) (hbl : bs.length ≤ 100000000) (hrb : ∀ x ∈ rest, x < 256) (hbb : ∀ x ∈ bs, x < 256) (hsp : Sp X w (zad h0 [] (zuL h n rest)) [zcG gt 2, TxQ bs q]) :
  CtG Tryz.prog 115 [.pointer (some ⟨h0.b 0, 0, none⟩), .slice q.1 bs.length q.2] X w h0 (zuL h n rest) [0] (.tup []) [(0, zDT 2 h2 ((n + bs.length : Nat) : Int) r2.length), (2, zi6 r2 5)] [] := by
 refine zyv (g := 2) (k0 := 3) (bl := []) (ql := [q]) (svs := [atS 0 0, .a (.s (.p (.hd 2 bs.length)))]) (given := zuL h n rest) (Rg := [.c (zcG gt 2), .sl 2 bs.length (TxG bs)]) (kb := [0]) Tryz.ntmps115 Tryz.func115 rfl rfl rfl zap (by kernel_rfl) rfl rfl hsp ?_
 have hall : ∀ x ∈ rest ++ bs, x < 256 := fun x hx => (List.mem_append.1 hx).elim (hrb x) (hbb x)
 have hal : (rest ++ bs).length ≤ 140737488355328 := by rw [jQ]; omega
 conv => whnf
 refine zD7 (by omega) (by show ((bs.length : Nat) : Int) ≤ _; omega) ?_
 conv => whnf
 refine ⟨((n + bs.length : Nat) : Int), by show IntKind.u64.wrap ((n : Int) + ((bs.length : Nat) : Int)) = _; rw [zBF (by omega) (by omega)]; omega, ?_⟩
 conv => whnf
 refine zaZ (zrA 3 (ztN (xs := rest) (ys := bs) (r := 2) (e := 5) rfl rfl rfl rfl rfl rfl ⟨by kernel_rfl, by kernel_rfl⟩ (by rw [jQ] at hal; exact hal) rfl rfl) rfl hal hall) ?_
 conv => whnf
 refine ⟨(Nat → Nat) × List Nat, fun k l m R g => ⟨k, (4, .a (.s (.p (.hd 3 g.2.length)))) :: zbP [0] l, (0, zDT 1 g.1 ((n + bs.length : Nat) : Int) rest.length) :: m, .sl 3 g.2.length (TxG g.2) :: R.drop 1⟩, fun g => zme gt g.1 g.2 = (h2, r2) ∧ g.2.length ≤ (rest ++ bs).length ∧ ∀ x ∈ g.2, x < 256, fun g => g.2.length, ⟨(h, rest ++ bs), [], [0, 1, 2, 3], ⟨hF, jV _, hall⟩, zbX⟩, fun g hg => ?_⟩
 obtain ⟨hh, rs⟩ := g
 obtain ⟨hf, hlen, hby⟩ : zme gt hh rs = (h2, r2) ∧ rs.length ≤ (rest ++ bs).length ∧ ∀ x ∈ rs, x < 256 := hg
 conv => whnf
 refine vIf (fun hc => ?_) fun hc => ?_
 ·have h64 : 64 ≤ rs.length := by
   have : (64 : Int) ≤ ((rs.length : Nat) : Int) := by simpa [Sl.len] using hc
   omega
  obtain ⟨bk, hbk⟩ : ∃ bk, bk = (rs.drop 0).take (64 - 0) := ⟨_, rfl⟩
  have hbl : bk.length = 64 := by rw [hbk]; simp; omega
  have hbk2 : bk = rs.take 64 := by rw [hbk]; simp
  obtain ⟨r3, hr3⟩ : ∃ r3, r3 = (rs.drop 64).take (rs.length - 64) := ⟨_, rfl⟩
  have hr32 : r3 = rs.drop 64 := by rw [hr3, List.take_of_length_le (by rw [List.length_drop]; omega)]
  have hrl : r3.length < rs.length := by rw [hr32, List.length_drop]; omega
  conv => whnf
  refine zaY 5 [] (by kernel_rfl) ?_
  conv => whnf
  refine zaT (zmT bk (lo := 0) (hi := 64) 0 hbk rfl (Nat.zero_le _) h64 fun h w hf => zmq rfl (by kernel_rfl) rfl rfl rfl (by have := hf.cap; omega)) ?_
  conv => whnf
  refine za8 (za0 [0, 1] 0 rfl rfl rfl (by kernel_rfl) (fs := fun _ => []) (cs := fun _ => []) (fun h => rfl) rfl rfl (given := zCY hh ((n + bs.length : Nat) : Int) rest.length) ⟨rfl, rfl, trivial⟩ rfl rfl rfl rfl rfl rfl fun h X w L2 H => zCZ hbl (H.pick [3, 0] rfl)) ?_
  conv => whnf
  refine zbC (zmT r3 (lo := 64) (hi := rs.length) 1 hr3 rfl h64 (jV _) fun h w hf => zh3 rfl (by kernel_rfl) rfl rfl rfl h64) rfl rfl ?_
  conv => whnf
  exact ⟨(znn gt hh bk, r3), [(3, 5), (0, 0), (1, 1)], [0, 3, 4, 5], ⟨⟨by rw [hbk2, hr32, ← ziM h64]; exact hf, jU (Nat.le_of_lt hrl) hlen, fun x hx => hby x (by rw [hr32] at hx; exact List.mem_of_mem_drop hx)⟩, hrl⟩, zbX⟩
 have h64 : ¬ 64 ≤ rs.length := fun h => by
   have : ¬ (64 : Int) ≤ ((rs.length : Nat) : Int) := by simpa [Sl.len] using hc
   omega
 obtain ⟨rfl, rfl⟩ := Prod.mk.inj ((zgd h64).symm.trans hf)
 conv => whnf
 refine zah rfl rfl rfl (by kernel_rfl) (fun h X w H => znq H.xk rs _ (zyy (H.fact 0 rfl)) (by omega)) rfl rfl rfl ?_
 conv => whnf
 exact zdD [(0, 0), (2, 4)] [] [2] (.inl rfl) ⟨.inl rfl, .inl rfl, trivial⟩ rfl trivial ⟨rfl, trivial⟩
theorem zC0 (hX : ∀ k ∈ X, k < w.heap.size) : Ct Tryz.prog 114 [] X w (.a (.agg [.row 8 fun i => u32 (iv0 i), .one (.p (.v (.int .u64 0))), .one (.p (.v (.slice none 0 0)))])) [] [] := by
 refine vFn (k0 := 0) (rs := [.cell 0 150]) (svs := []) (R0 := []) (hnQ []) Tryz.ntmps114 Tryz.func114 rfl rfl rfl rfl rfl zap (by kernel_rfl) hX (fun r hr => by cases hr) ?_
 conv => whnf
 refine ⟨fun i => u32 (iv0 i), ⟨rfl, rfl, rfl, rfl, rfl, rfl, rfl, rfl, trivial⟩, ?_⟩
 conv => whnf
 refine ⟨fun i _ => rfl, ?_⟩
 conv => whnf
 exact zan rfl
theorem zuN (hX : ∀ k ∈ X, k < w.heap.size) (hn : n ≤ 1000000000000000000) (hrl : rest.length ≤ 64) (hq : St (TxQ rest q) w X) (hG : St (zcG gt 2) w X) : Ct Tryz.prog 116 [.agg (ca [.row 8 fun i => u32 (h i), .one (.int .u64 ((n : Nat) : Int)), .one (.slice q.1 rest.length q.2)])] X w (.a (.agg [.key (zEq gt h n rest)])) [] [] := by
 have hrb : ∀ x ∈ rest, x < 256 := hq.now.2.byt
 have hP : (n + 8) % 64 < 64 := Nat.mod_lt _ (by decide)
 refine vFn (k0 := 1) (rs := [.cell 2 23]) (svs := [.a (.agg [.row 8 fun i => u32 (h i), .one (.p (.v (.int .u64 ((n : Nat) : Int)))), .one (.p (.hd 0 rest.length))])]) (R0 := [.c (zcG gt 2), .sl 0 rest.length (TxG rest)]) (hnQ [q]) Tryz.ntmps116 Tryz.func116 rfl rfl rfl rfl rfl zap (by kernel_rfl) hX (fun r hr => by
  rcases List.mem_cons.1 hr with rfl | hr
  ·exact hG
  ·rcases List.mem_singleton.1 hr with rfl; exact hq) ?_
 conv => whnf
 refine zlU (k := 3) rfl (by decide) ?_
 conv => whnf
 have e1 : (n : Int) + 8 = ((n + 8 : Nat) : Int) := by omega
 refine zEu e1 (by omega) (by omega) ?_
 conv => whnf
 refine zEv (c := 64) rfl (by decide) ?_
 conv => whnf
 refine zei (by omega) (by omega) ?_
 conv => whnf
 have e2 : (64 : Int) - (((n + 8) % 64 : Nat) : Int) = ((64 - (n + 8) % 64 : Nat) : Int) := by omega
 refine zdq e2 (by omega) (by omega) ?_
 conv => whnf
 obtain ⟨pl, hpl⟩ : ∃ pl, pl = 64 - (n + 8) % 64 := ⟨_, rfl⟩
 rw [← hpl]
 refine zbC (zyx (e := 5) pl ⟨by kernel_rfl, by kernel_rfl, by kernel_rfl⟩ rfl rfl rfl rfl rfl (c := 128) (by omega) (by decide)) rfl rfl ?_
 conv => whnf
 refine ⟨0, ⟨rfl, by omega, by simp; omega⟩, ?_⟩
 conv => whnf
 refine za8 (zCv (zsk n) ?_ zap rfl (by simp; omega) rfl rfl rfl rfl) ?_
 ·rw [hpl, show 64 - (n + 8) % 64 = (63 - (n + 8) % 64) + 1 by omega]
  rfl
 have hpl2 : pl = (zsk n).length := by rw [zxz, hpl]
 have hplb : pl ≤ 64 := by omega
 clear hpl
 subst hpl2
 conv => whnf
 refine ⟨Nat × List Nat, fun k l m R g => ⟨k, (5, zaG .i64 (7 - (g.1 : Int))) :: (4, .a (.s (.p (.hd 3 g.2.length)))) :: zbP [1, 2, 3] l, (3, zi6 g.2 5) :: m, R⟩, fun g => g.1 ≤ 8 ∧ g.2 = zsk n ++ zsm (n * 2 ^ 3 % 18446744073709551616) g.1, fun g => 8 - g.1, ⟨(0, zsk n), [], [0, 1], ⟨Nat.zero_le _, by simp [zsm]⟩, zbX⟩, fun g hg => ?_⟩
 obtain ⟨j, tl⟩ := g
 obtain ⟨hj8, htl⟩ : j ≤ 8 ∧ tl = zsk n ++ zsm (n * 2 ^ 3 % 18446744073709551616) j := hg
 have htll : tl.length = (zsk n).length + j := by rw [htl, jQ, zxA]
 conv => whnf
 refine vIf (fun hc => ?_) fun hc => ?_
 ·have hj : j < 8 := by
   have : (0 : Int) ≤ 7 - (j : Int) := by simpa using hc
   omega
  conv => whnf
  have e3 : (8 : Int) * (7 - (j : Int)) = ((8 * (7 - j) : Nat) : Int) := by omega
  refine zdq e3 (by show (-9223372036854775808 : Int) ≤ 8 * (7 - (j : Int)); omega) (by show 8 * (7 - (j : Int)) ≤ _; omega) ?_
  conv => whnf
  refine zrU (k := 8 * (7 - j)) rfl (by omega) ?_
  conv => whnf
  refine zb8 ?_
  conv => whnf
  refine zaZ (zzO (b := n * 2 ^ 3 % 18446744073709551616 / 2 ^ (8 * (7 - j)) % 256) (zsk n ++ zsm (n * 2 ^ 3 % 18446744073709551616) (j + 1)) (by rw [zuI, htl, List.append_assoc]) rfl rfl rfl rfl rfl rfl ⟨by kernel_rfl, by kernel_rfl⟩ (by show tl.length + 1 ≤ _; omega) rfl rfl rfl) ?_
  conv => whnf
  have e4 : (7 : Int) - (j : Int) - 1 = 7 - ((j + 1 : Nat) : Int) := by omega
  refine zdq e4 (by show (-9223372036854775808 : Int) ≤ 7 - (j : Int) - 1; omega) (by show 7 - (j : Int) - 1 ≤ _; omega) ?_
  conv => whnf
  exact ⟨(j + 1, zsk n ++ zsm (n * 2 ^ 3 % 18446744073709551616) (j + 1)), [(1, 1), (2, 2), (3, 5)], [0, 1], ⟨⟨hj, rfl⟩, Nat.sub_lt_sub_left hj (Nat.lt_succ_self j)⟩, zbX⟩
 have hj8' : j = 8 := by
   have : ¬ (0 : Int) ≤ 7 - (j : Int) := by simpa using hc
   omega
 subst hj8'
 obtain ⟨⟨h2, r2⟩, hF⟩ : ∃ hr, zme gt h (rest ++ tl) = hr := ⟨_, rfl⟩
 have hA : tl.length ≤ 72 := by omega
 have htb : ∀ x ∈ tl, x < 256 := fun x hx => by
  rw [htl] at hx
  exact (List.mem_append.1 hx).elim (zuH n x) (zuJ _ _ x)
 conv => whnf
 refine zah rfl rfl rfl (by kernel_rfl) (fun h X w H => znq H.xk rest _ (zyy (H.fact 1 rfl)) (by omega)) rfl rfl rfl ?_
 conv => whnf
 refine zaZ (zit (xs := tl) 3 rfl (by omega) htb rfl (za0 [1, 4] 1 rfl rfl rfl (by kernel_rfl) (fs := fun _ => []) (cs := fun _ => []) (fun h => rfl) rfl rfl (given := zuL h n rest) ⟨rfl, rfl, trivial⟩ rfl rfl rfl rfl rfl rfl fun h X w L2 H => zuM (bs := tl) hF (by omega) hrl (by omega) hrb htb (H.pick [2, 0] rfl))) ?_
 conv => whnf
 refine ⟨Nat, fun k l m R i => ⟨k, (40, zaG .i64 i) :: zbP [2, 39] l, (2, .blk [.key (zg1 h2 i)] 23) :: m, []⟩, fun i => i ≤ 8, fun i => 8 - i, ⟨0, [], [], Nat.zero_le _, zbX⟩, fun i hi => ?_⟩
 conv => whnf
 refine vIf (fun hc => ?_) fun hc => ?_
 ·have hi2 : i < 8 := by
   have : (i : Int) < 8 := by simpa using hc
   omega
  conv => whnf
  refine ⟨i, ⟨rfl, hi2⟩, ?_⟩
  conv => whnf
  have e5 : (4 : Int) * (i : Int) = ((4 * i : Nat) : Int) := by omega
  refine zdq e5 (by omega) (by omega) ?_
  conv => whnf
  refine zyp (slS 2 (4 * i) (32 - 4 * i) (32 - 4 * i)) (zCw rfl (by kernel_rfl) rfl rfl rfl (by omega)) rfl rfl ?_
  conv => whnf
  refine zrW (k := 24) rfl ?_
  conv => whnf
  refine zb8 ?_
  conv => whnf
  refine zrW (k := 16) rfl ?_
  conv => whnf
  refine zb8 ?_
  conv => whnf
  refine zrW (k := 8) rfl ?_
  conv => whnf
  refine zb8 ?_
  conv => whnf
  refine zb8 ?_
  conv => whnf
  refine za8 (zwV (ys := zrT (h2 i)) (zg1 h2 (i + 1)) (ziN h2 i).symm rfl rfl (fun _ => rfl) rfl rfl rfl rfl (zgM h2 i).symm (by kernel_rfl) (by omega) (by omega)) ?_
  conv => whnf
  refine zei (by omega) (by omega) ?_
  conv => whnf
  exact ⟨i + 1, [], [], ⟨hi2, Nat.sub_lt_sub_left hi2 (Nat.lt_succ_self i)⟩, zbX⟩
 have hi8 : i = 8 := by
   have : ¬ (i : Int) < 8 := by simpa using hc
   omega
 subst hi8
 conv => whnf
 refine zan ?_
 rw [zEq, show zCX n = tl from htl.symm, hF]
 rfl
theorem zuO {ps : List (List Nat)} (hX : ∀ k ∈ X, k < w.heap.size) (hp : ∀ p ∈ ps, p.length ≤ 100000000) (hP : ps.length ≤ 1000000) (hq : St (SlQ zaA ps q) w X) (hG : St (zcG gt 2) w X) : Ct Tryz.prog 91 [.slice q.1 ps.length q.2] X w (.a (.agg [.key (zxy gt ps)])) [] [] := by
 refine vFn (k0 := 1) (rs := [.cell 2 23]) (svs := [.a (.s (.p (.hd 0 ps.length)))]) (R0 := [.c (zcG gt 2), .sl 0 ps.length (SlF zaA ps)]) (hnQ [q]) Tryz.ntmps91 Tryz.func91 rfl rfl rfl rfl rfl zap (by kernel_rfl) hX (fun r hr => by
  rcases List.mem_cons.1 hr with rfl | hr
  ·exact hG
  ·rcases List.mem_singleton.1 hr with rfl; exact hq) ?_
 have hpb : ∀ p ∈ ps, ∀ x ∈ p, x < 256 := fun p hpm => by
  obtain ⟨mm, hm⟩ := zry zky hq
  obtain ⟨i, hi⟩ := List.mem_iff_getElem?.1 hpm
  obtain ⟨ad, _, _, h2⟩ := LiF.get hm hi
  exact h2.now.byt
 conv => whnf
 refine zah rfl rfl rfl (by kernel_rfl) (fun h X w H => zC0 H.xk) rfl rfl rfl ?_
 conv => whnf
 refine ⟨fun i _ => rfl, ?_⟩
 conv => whnf
 refine ⟨Nat × (Nat → Nat) × Nat × List Nat, fun k l m R g => ⟨4, (9, zaG .i64 g.1) :: zbP [2, 3, 7, 8] l, (2, zDT 3 g.2.1 ((g.2.2.1 : Nat) : Int) g.2.2.2.length) :: (3, zi6 g.2.2.2 5) :: m, R⟩, fun g => g.1 ≤ ps.length ∧ g.2 = zge gt (ps.take g.1) ∧ g.2.2.1 ≤ g.1 * 100000000 ∧ g.2.2.2.length < 64 ∧ ∀ x ∈ g.2.2.2, x < 256, fun g => ps.length - g.1, ⟨(0, iv0, 0, []), [], [0, 1], ⟨Nat.zero_le _, rfl, jV _, by simp, by simp⟩, zbX⟩, fun g hg => ?_⟩
 obtain ⟨i, h, n, rest⟩ := g
 obtain ⟨hi, hS, hn, hrl, hrb⟩ : i ≤ ps.length ∧ (h, n, rest) = zge gt (ps.take i) ∧ n ≤ i * 100000000 ∧ rest.length < 64 ∧ ∀ x ∈ rest, x < 256 := hg
 conv => whnf
 refine vIf (fun hc => ?_) fun hc => ?_
 ·have hi2 : i < ps.length := by
   have : (i : Int) < ((ps.length : Nat) : Int) := by simpa [Sl.len] using hc
   omega
  obtain ⟨p, hpi⟩ : ∃ p, ps[i]? = some p := ⟨_, jP hi2⟩
  have hpl := hp p (List.mem_of_getElem? hpi)
  obtain ⟨⟨h2, r2⟩, hF⟩ : ∃ hr, zme gt h (rest ++ p) = hr := ⟨_, rfl⟩
  conv => whnf
  refine ⟨i, ⟨rfl, hi2, hi2⟩, ?_⟩
  conv => whnf
  refine zbC (zCy (x := p) 1 hpi rfl rfl rfl (by kernel_rfl)) rfl rfl ?_
  conv => whnf
  refine zaZ (za0 [2, 3] 1 rfl rfl rfl (by kernel_rfl) (fs := fun _ => []) (cs := fun _ => []) (fun h => rfl) rfl rfl (given := zuL h n rest) ⟨rfl, rfl, trivial⟩ rfl rfl rfl rfl rfl rfl fun h X w L2 H => zuM hF (by omega) (by omega) hpl hrb (hpb p (List.mem_of_getElem? hpi)) (H.pick [1, 0] rfl)) ?_
  conv => whnf
  refine zei (by omega) (by omega) ?_
  conv => whnf
  have h3 : (h2, n + p.length, r2) = zge gt (ps.take (i + 1)) := by
   rw [zoU hpi, ← hS, zAH]
   show _ = ((zme gt h (rest ++ p)).1, n + p.length, (zme gt h (rest ++ p)).2)
   rw [hF]
  have h4 := zqQ gt _ h (rest ++ p) (jV _)
  have h5 := zno gt _ h (rest ++ p) (jV _) fun x hx => (List.mem_append.1 hx).elim (hrb x) (hpb p (List.mem_of_getElem? hpi) x)
  rw [hF] at h4 h5
  exact ⟨(i + 1, h2, n + p.length, r2), [(0, 0), (1, 1), (2, 2), (3, 5)], [1, 2], ⟨⟨hi2, h3, by show n + p.length ≤ (i + 1) * 100000000; omega, h4, h5⟩, Nat.sub_lt_sub_left hi2 (Nat.lt_succ_self i)⟩, zbX⟩
 have hi8 : i = ps.length := by
   have : ¬ (i : Int) < ((ps.length : Nat) : Int) := by simpa [Sl.len] using hc
   omega
 subst hi8
 conv => whnf
 refine za8 (zit (xs := rest) 3 rfl (by omega) hrb rfl (zaF (rs := []) (Rs := []) (zae (rs := []) (Rs := []) rfl rfl rfl (by kernel_rfl) rfl fun h X w H => zuN (n := n) (rest := rest) H.xk (by omega) (by omega) (H.fact 0 rfl) (H.fact 1 rfl)) rfl rfl)) ?_
 conv => whnf
 refine zan ?_
 rw [zxy, ← List.take_length (l := ps), ← hS]
 rfl
end
end
section
open Go.RowKit
theorem zoV {F G : Nat → Nat} {v : Nat} (h : ∀ i, i < 5 → F i = G i) (hF : zbd F v) : zbd G v := ⟨fun i hi => by rw [← h i hi]; exact hF.1 i hi, by rw [← znc F G 5 h]; exact hF.2⟩
theorem zg2 {F G : Nat → Nat} {v : Nat} (h : zbd G v) : zbd (swN 1 5 F G) v := zoV (fun i hi => by rw [swN, if_pos hi]; rfl) h
theorem zeC {F G : Nat → Nat} {v : Nat} (h : zbd F v) : zbd (swN 0 5 F G) v := zoV (fun i hi => by rw [swN, if_pos hi]; rfl) h
def zhn (b : Nat) (p : Pt × Pt) : Pt × Pt := if b = 1 then (p.2, p.1) else p
theorem zuP (u : Nat) (k : Nat → Nat) (n : Nat) : zhn (zfm k n) (ze5 u k (n + 1)) = (zur (zhn (zfm k n) (ze5 u k n)).1, zqK u (zhn (zfm k n) (ze5 u k n)).1 (zhn (zfm k n) (ze5 u k n)).2) := by
 rw [show ze5 u k (n + 1) = zjm u (zfm k n) (ze5 u k n).1 (ze5 u k n).2 from rfl]
 unfold zjm zhn
 rcases zgK k n with h | h <;> simp [h]
def zqT (k : Nat → Nat) : Nat → Nat
 | 0 => 0
 | n + 1 => zfm k n
theorem ziP (k : Nat → Nat) : ∀ n, zqT k n = 0 ∨ zqT k n = 1
 | 0 => .inl rfl
 | n + 1 => zgK k n
theorem zAJ {p : Pt × Pt} (b : Nat) (h : zhm p.1 ∧ zhm p.2) : zhm (zhn b p).1 ∧ zhm (zhn b p).2 := by unfold zhn; split; exact ⟨h.2, h.1⟩; exact h
def zoX (a b : Nat) : Nat := if a = b then 0 else 1
theorem zAK (a b : Nat) : zoX a b = 0 ∨ zoX a b = 1 := by unfold zoX; split; exact .inl rfl; exact .inr rfl
structure Fit4 (X1 Z1 X2 Z2 : Nat → Nat) (p : Pt × Pt) : Prop where
 a : zbd X1 p.1.x
 b : zbd Z1 p.1.z
 c : zbd X2 p.2.x
 d : zbd Z2 p.2.z
theorem zuQ {X1 Z1 X2 Z2 : Nat → Nat} {p : Pt × Pt} {a b : Nat} (ha : a = 0 ∨ a = 1) (hb : b = 0 ∨ b = 1) (h : Fit4 X1 Z1 X2 Z2 (zhn a p)) : Fit4 (swN (zoX a b) 5 X1 X2) (swN (zoX a b) 5 Z1 Z2) (swN (zoX a b) 5 X2 X1) (swN (zoX a b) 5 Z2 Z1) (zhn b p) := by
 rcases ha with rfl | rfl <;> rcases hb with rfl | rfl
 ·exact ⟨zeC h.a, zeC h.b, zeC h.c, zeC h.d⟩
 ·exact ⟨zg2 h.c, zg2 h.d, zg2 h.a, zg2 h.b⟩
 ·exact ⟨zg2 h.c, zg2 h.d, zg2 h.a, zg2 h.b⟩
 ·exact ⟨zeC h.a, zeC h.b, zeC h.c, zeC h.d⟩
theorem zxB {X1 Z1 X2 Z2 U : Nat → Nat} {p : Pt × Pt} {u : Nat} (h : Fit4 X1 Z1 X2 Z2 p) (hU : zbd U u) (hp : zhm p.1 ∧ zhm p.2) : Fit4 (sLX X1 Z1) (sLZ X1 Z1) (sHX X1 Z1 X2 Z2) (sHZ X1 Z1 X2 Z2 U) (zur p.1, zqK u p.1 p.2) :=
 ⟨zAj h.a h.b hp.1, zAk h.a h.b hp.1, zAm h.a h.b h.c h.d hp.1 hp.2, zAn h.a h.b h.c h.d hp.1 hp.2 hU⟩
theorem zAL (u : Nat → Nat) (hu : ∀ i, i < 32 → u i < 256) : zbd (ofN u) (znX u) := ⟨zCN u, by unfold znX; rw [Nat.mod_mod]; exact zAi u hu⟩
theorem wsm {y : Nat} (h : y < 256) : IntKind.u64.wrap ((y : Nat) : Int) = ((y : Nat) : Int) := zBF (by omega) (by omega)
section
variable {x k : Nat} {j : Int} {A : Int → Prop}
theorem zrG {K : IntKind} (hj : j = (k : Int)) (hk : k ≤ K.bits) (h : A ((x / 2 ^ k : Nat) : Int)) : 0 ≤ j ∧ ∃ z, ((x : Int)).fdiv (2 ^ (min j.toNat K.bits)) = z ∧ A z := ⟨by omega, _, by
 rw [zzh, hj, Int.toNat_natCast, Nat.min_eq_left hk], h⟩
theorem z7 {m : Nat} (h : A ((m % 8 : Nat) : Int)) : ∃ z, IntKind.i64.wrap ((BitVec.ofInt IntKind.i64.bits (m : Int) &&& BitVec.ofInt IntKind.i64.bits 7).toNat : Nat) = z ∧ A z := ⟨_, by
 have e : (BitVec.ofInt 64 7).toNat = 7 := rfl
 rw [show IntKind.i64.bits = 64 from rfl, BitVec.toNat_and, e, BitVec.toNat_ofInt, Nat.and_two_pow_sub_one_eq_mod _ 3]
 have : (((m : Int) % ((2 ^ 64 : Nat) : Int)).toNat % 2 ^ 3) = m % 8 := by omega
 rw [this]
 exact zym (by omega) (by omega), h⟩
end
section
variable {X : List Nat} {w : World} {kk uu : List Nat}
theorem zAM (hX : ∀ k ∈ X, k < w.heap.size) (hk : ∀ x ∈ kk, x < 256) (hu : ∀ x ∈ uu, x < 256) : Ct Tryz.prog 103 [.agg (ca [.key kk]), .agg (ca [.key uu])] X w (.a (.agg [.key (zrN (zbc (zea (fun i => kk.getD i 0) (znX fun i => uu.getD i 0))))])) [] [] := by
 obtain ⟨K, hK⟩ : ∃ K : Nat → Nat, K = zbk fun i => kk.getD i 0 := ⟨_, rfl⟩
 obtain ⟨u, hue⟩ : ∃ u : Nat, u = znX fun i => uu.getD i 0 := ⟨_, rfl⟩
 have huf : zbd (ofN fun i => uu.getD i 0) u := by rw [hue]; exact zAL _ fun i _ => zdb hu i
 have hup : u < pN := by rw [hue]; exact zAA _
 have hKb : ∀ i, i < 32 → K i < 256 := fun i hi => by
  rw [hK]
  have h0 := zdb hk 0
  have h1 := zdb hk 31
  have h2 := zdb hk i
  unfold zbk
  dsimp only
  split
  ·omega
  ·split <;> omega
 have hKk : ∀ i, i < 32 → (zjK kk).getD i 0 = K i := fun i hi => by rw [zjK, zfy _ i hi, hK]
 refine vFn (k0 := 0) (rs := [.cell 4 23]) (svs := [.a (.agg [.key kk]), .a (.agg [.key uu])]) (R0 := []) (hnQ []) Tryz.ntmps103 Tryz.func103 rfl rfl rfl rfl rfl zap (by kernel_rfl) hX (fun r hr => by cases hr) ?_
 conv => whnf
 refine zah rfl rfl rfl (by kernel_rfl) (fun h X w H => zxv H.xk hk) rfl rfl rfl ?_
 conv => whnf
 refine za8 (ztU (cs0 := [.one (.int .i64 0)]) 3 rfl (fun _ => rfl) rfl (zaF (rs := []) (Rs := []) (zae (rs := []) (Rs := []) rfl rfl rfl (by kernel_rfl) rfl fun h X w H => zAo H.xk hu) rfl rfl)) ?_
 conv => whnf
 refine ⟨fun _ _ => rfl, ?_⟩
 conv => whnf
 refine zaY 8 [1005] (by kernel_rfl) ?_
 conv => whnf
 refine ⟨uw (znV 1), ⟨rfl, rfl, rfl, rfl, rfl, trivial⟩, ?_⟩
 conv => whnf
 refine ⟨uw (znV 1), ⟨rfl, rfl, rfl, rfl, rfl, trivial⟩, ?_⟩
 conv => whnf
 refine zf0 rfl (zjF (z := [.row 5 (uw fun _ => 0), .row 5 (uw fun _ => 0)]) (fun hn => by kernel_rfl) rfl rfl) ?_
 conv => whnf
 refine ⟨fun _ _ => rfl, fun _ _ => rfl, ?_⟩
 conv => whnf
 refine ⟨fun _ _ => rfl, fun _ _ => rfl, ?_⟩
 conv => whnf
 refine ⟨Nat × (Nat → Nat) × (Nat → Nat) × (Nat → Nat) × (Nat → Nat), fun k l m R g => ⟨k, (28, zaG .i64 g.1) :: (10, zaG .u64 (zqT K g.1)) :: zbP [2, 4, 5, 7, 8, 9] l, (6, ptB g.2.1 g.2.2.1) :: (7, ptB g.2.2.2.1 g.2.2.2.2) :: m, R⟩, fun g => g.1 ≤ 255 ∧ Fit4 g.2.1 g.2.2.1 g.2.2.2.1 g.2.2.2.2 (zhn (zqT K g.1) (ze5 u K g.1)), fun g => 255 - g.1, ⟨(0, znV 1, fun _ => 0, ofN fun i => uu.getD i 0, znV 1), [], [0, 1], ⟨Nat.zero_le _, zhD (by decide), ?_, huf, zhD (by decide)⟩, zbX⟩, fun g hg => ?_⟩
 ·exact zoV (F := znV 0) (fun i _ => by unfold znV; split <;> rfl) (zhD (by decide))
 obtain ⟨i, X1, Z1, X2, Z2⟩ := g
 obtain ⟨hi, hfit⟩ : i ≤ 255 ∧ Fit4 X1 Z1 X2 Z2 (zhn (zqT K i) (ze5 u K i)) := hg
 conv => whnf
 refine vIf (fun hc => ?_) fun hc => ?_
 ·have hi2 : i < 255 := by
   have : (i : Int) < 255 := of_decide_eq_true hc
   omega
  have hf2 := zuQ (ziP K i) (zgK K i) hfit
  have hf3 := zxB hf2 huf (zAJ (zfm K i) (zqL u hup K i))
  rw [← zuP] at hf3
  conv => whnf
  have e1 : (254 : Int) - (i : Int) = ((254 - i : Nat) : Int) := by omega
  refine zdq e1 (by show (-9223372036854775808 : Int) ≤ 254 - (i : Int); omega) (by show 254 - (i : Int) ≤ _; omega) ?_
  conv => whnf
  refine zrG (k := 3) rfl (by decide) ?_
  conv => whnf
  refine ⟨(254 - i) / 2 ^ 3, ⟨rfl, by omega⟩, .inr ?_⟩
  conv => whnf
  refine ⟨by omega, ?_⟩
  conv => whnf
  refine z7 ?_
  conv => whnf
  refine zrG (K := .u8) (k := (254 - i) % 8) rfl (by show _ ≤ 8; omega) ?_
  conv => whnf
  have hb : (zjK kk).getD ((254 - i) / 2 ^ 3) 0 = K ((254 - i) / 2 ^ 3) := hKk _ (by omega)
  have hb2 : K ((254 - i) / 2 ^ 3) < 256 := hKb _ (by omega)
  have hb3 : K ((254 - i) / 2 ^ 3) / 2 ^ ((254 - i) % 8) < 256 := Nat.lt_of_le_of_lt (Nat.div_le_self _ _) hb2
  refine ⟨((K ((254 - i) / 2 ^ 3) / 2 ^ ((254 - i) % 8) : Nat) : Int), by rw [hb]; exact wsm hb3, ?_⟩
  conv => whnf
  refine zEm (x := K ((254 - i) / 2 ^ 3) / 2 ^ ((254 - i) % 8)) (y := 1) (by omega) (by decide) ?_
  have e2 : K ((254 - i) / 2 ^ 3) / 2 ^ ((254 - i) % 8) &&& 1 = zfm K i := by rw [Nat.and_one_is_mod]; rfl
  rw [e2]
  conv => whnf
  refine ⟨((zoX (zqT K i) (zfm K i) : Nat) : Int), ?_, ?_⟩
  ·rcases ziP K i with h | h <;> rcases zgK K i with h' | h' <;> rw [h, h'] <;> decide
  conv => whnf
  refine za8 (za0 [6, 7] 0 rfl rfl rfl (by kernel_rfl) (fs := fun _ => []) (cs := fun _ => []) (fun h => rfl) rfl rfl (given := zBO X1 Z1 X2 Z2) ⟨rfl, rfl, trivial⟩ rfl rfl rfl rfl rfl rfl fun h X w L2 H => zuw (zAK _ _) hfit.a.1 hfit.b.1 hfit.c.1 hfit.d.1 (H.pick [] rfl)) ?_
  conv => whnf
  refine za8 (za0 [4, 6, 7, 5, 3] 0 rfl rfl rfl (by kernel_rfl) (fs := fun _ => []) (cs := fun h => zhf h [.at_ 4 0, .at_ 6 0, .at_ 7 0, .at_ 5 0]) (fun h => rfl) rfl rfl (given := zux (swN (zoX (zqT K i) (zfm K i)) 5 X1 X2) (swN (zoX (zqT K i) (zfm K i)) 5 Z1 Z2) (swN (zoX (zqT K i) (zfm K i)) 5 X2 X1) (swN (zoX (zqT K i) (zfm K i)) 5 Z2 Z1) (ofN fun i => uu.getD i 0)) ⟨rfl, rfl, rfl, rfl, rfl, trivial⟩ rfl rfl rfl rfl rfl rfl fun h X w L2 H => zAs hf2.a.1 hf2.b.1 hf2.c.1 hf2.d.1 huf.1 (H.pick [0] rfl)) ?_
  conv => whnf
  refine zei (by omega) (by omega) ?_
  conv => whnf
  exact ⟨(i + 1, _, _, _, _), [], [0, 1], ⟨⟨hi2, hf3⟩, Nat.sub_lt_sub_left hi2 (Nat.lt_succ_self i)⟩, zbX⟩
 have hi5 : i = 255 := by
   have : ¬ (i : Int) < 255 := of_decide_eq_false hc
   omega
 subst hi5
 have hf2 := zuQ (b := 0) (ziP K 255) (.inl rfl) hfit
 obtain ⟨Y1, hY1⟩ : ∃ Y, Y = swN (zoX (zqT K 255) 0) 5 X1 X2 := ⟨_, rfl⟩
 obtain ⟨Y2, hY2⟩ : ∃ Y, Y = swN (zoX (zqT K 255) 0) 5 Z1 Z2 := ⟨_, rfl⟩
 have ew : zoX (zqT K 255) 0 = zqT K 255 := by rcases ziP K 255 with h | h <;> rw [h] <;> rfl
 have f1 : zbd Y1 (ze5 u K 255).1.x := by rw [hY1]; exact hf2.a
 have f2 : zbd Y2 (ze5 u K 255).1.z := by rw [hY2]; exact hf2.b
 have f3 := ziL f1 (zqJ f2)
 have o3 : okF (zuj Y2) 5 := (zqJ f2).1
 conv => whnf
 refine za8 (za0 [6, 7] 0 rfl rfl rfl (by kernel_rfl) (fs := fun _ => []) (cs := fun _ => []) (fun h => rfl) rfl rfl (given := zBO X1 Z1 X2 Z2) ⟨rfl, rfl, trivial⟩ rfl rfl rfl rfl rfl rfl fun h X w L2 H => zuw (ziP K 255) hfit.a.1 hfit.b.1 hfit.c.1 hfit.d.1 (H.pick [] rfl)) ?_
 rw [← ew, ← hY1, ← hY2]
 conv => whnf
 refine zaY 17 [1015] (by kernel_rfl) ?_
 conv => whnf
 refine zaT (zae (rs := []) (Rs := []) rfl rfl rfl (by kernel_rfl) rfl fun h X w H => zoP H.xk f2.1) ?_
 conv => whnf
 refine zaT (zae (rs := []) (Rs := []) rfl rfl rfl (by kernel_rfl) rfl fun h X w H => zgL H.xk (H.fact 0 rfl)) ?_
 conv => whnf
 refine zaT (zae (rs := []) (Rs := []) rfl rfl rfl (by kernel_rfl) rfl fun h X w H => zfz f1.1 o3 H.xk (H.fact 0 rfl)) ?_
 conv => whnf
 refine zaT (zae (rs := []) (Rs := []) rfl rfl rfl (by kernel_rfl) rfl fun h X w H => zrO H.xk f3.1) ?_
 conv => whnf
 refine zf0 rfl (zjF (z := [.key []]) (fun hn => by kernel_rfl) rfl rfl) ?_
 conv => whnf
 refine zah rfl rfl rfl (by kernel_rfl) (fun h X w H => zgL (F := fun _ => 0) H.xk (H.fact 0 rfl)) rfl rfl rfl ?_
 conv => whnf
 refine zan ?_
 rw [show zrN (zbc (zea (fun i => kk.getD i 0) (znX fun i => uu.getD i 0))) = zrN (zdB (zb9 Y1 (zuj Y2))) from List.map_congr_left fun i _ => ?_]
 ·rfl
 ·have h1 := zoK f3.1 (f3.2.trans (Nat.mod_eq_of_lt (zgJ _ _))) i
  rw [zea, ← hue, ← hK]
  omega
end
end
section
open Go.RowKit
theorem BT : ByteT Tryz.prog 72 5 := ⟨Tryz.underlying72, Tryz.underlying5, by kernel_rfl⟩
def zC1 (w : World) (l : List Nat) (e : Ending) (w' : World) : Prop := ∃ v, e = .returned v ∧ Own w' w.heap.size 5 v l ∧ Below w.heap.size w w'
theorem zuR (w : World) (e : TypeId) : Own (w.alloc (.cells #[] e)) w.heap.size e (.slice (some ⟨w.heap.size, 0, none⟩) 0 0) [] :=
 ⟨rfl, .inr ⟨w.heap.size, 0, #[], rfl, jV _, heap_alloc_new w _, jV _, Nat.zero_le _, rfl, rfl⟩⟩
def beK (w n k : Nat) : List Nat := (List.range k).map fun i => n / 2 ^ (8 * (w - 1 - i)) % 256
def beL (w n : Nat) : List Nat := beK w n w
theorem zAN (w n k : Nat) : (beK w n k).length = k := by unfold beK; simp
theorem zxC (w n k : Nat) : beK w n (k + 1) = beK w n k ++ [n / 2 ^ (8 * (w - 1 - k)) % 256] := by unfold beK; rw [List.range_succ, List.map_append]; rfl
theorem zuS (w n : Nat) : ∀ x ∈ beL w n, x < 256 := fun x hx => by
 unfold beL beK at hx
 obtain ⟨i, _, rfl⟩ := List.mem_map.1 hx
 exact Nat.mod_lt _ (by omega)
attribute [local irreducible] beK
theorem zAO (w : World) (e : TypeId) (x : Nat) : Txt (w.alloc (.cells #[bv x] e)) (w.heap.size + 1) (some ⟨w.heap.size, 0, none⟩) 1 1 [x] :=
 ⟨rfl, (fun e => by cases e), fun _ => ⟨_, rfl, Nat.lt_succ_self _, fun i y hy => by
  cases i with
  | zero =>
   simp only [jD, Option.some.injEq] at hy
   subst hy
   rw [zb5, cell_of_row _ _ _ _ _ _ (heap_alloc_new w (.cells #[bv x] e))]
   rfl
  | succ i => simp at hy⟩⟩
end
section
open Go.RowKit
def zgN (key : List Nat) (by_ : Nat) : List Nat := (List.range 64).map fun i => (key.getD i 0 % 256) ^^^ (by_ % 256)
def zsn (gt : Nat → Nat) (key : List Nat) (ps : List (List Nat)) : List Nat := zxy gt [zgN key 92, zxy gt (zgN key 54 :: ps)]
theorem zeD (key : List Nat) (by_ : Nat) : (zgN key by_).length = 64 := by simp [zgN]
theorem zrX (key : List Nat) (by_ : Nat) : ∀ z ∈ zgN key by_, z < 256 := fun z hz => by
 obtain ⟨i, _, rfl⟩ := List.mem_map.1 hz
 exact Nat.xor_lt_two_pow (n := 8) (by omega) (by omega)
theorem zhG (gt : Nat → Nat) (key : List Nat) (ps : List (List Nat)) : (zsn gt key ps).length = 32 := zkS _ _
theorem znt (gt : Nat → Nat) (key : List Nat) (ps : List (List Nat)) : ∀ z ∈ zsn gt key ps, z < 256 := ziO _ _
theorem zxD (n : Nat) (k : List Nat) (h : k.length ≤ n) : (List.range n).map (fun i => bv (k.getD i 0)) = ((List.range n).map fun _ => bv 0).take 0 ++ k.map bv ++ ((List.range n).map fun _ => bv 0).drop (0 + k.length) := by
 apply List.ext_getElem?
 intro i
 rw [jI, List.nil_append, Nat.zero_add]
 by_cases hi : i < n
 ·rcases Nat.lt_or_ge i k.length with h1 | h1
  ·rw [List.getElem?_append_left (by simpa using h1)]
   simp [hi, jR, jP h1]
  ·rw [List.getElem?_append_right (by simpa using h1), List.getElem?_drop]
   simp [hi, jR, List.getElem?_eq_none h1, show k.length + (i - k.length) = i by omega]
 ·rw [List.getElem?_eq_none (by simp; omega), List.getElem?_eq_none (by simp; omega)]
def zqU (key : List Nat) (by_ i j : Nat) : Nat := if j < i then (key.getD j 0 % 256) ^^^ (by_ % 256) else key.getD j 0
theorem zuT (key : List Nat) (by_ i j : Nat) : upd (fun j => bv (zqU key by_ i j)) i (bv ((key.getD i 0 % 256) ^^^ (by_ % 256))) j = bv (zqU key by_ (i + 1) j) := by
 unfold upd zqU
 by_cases h : j = i
 ·subst h; simp
 ·rw [if_neg h]
  show bv (if j < i then _ else _) = _
  by_cases h2 : j < i
  ·rw [if_pos h2, if_pos (by omega)]
  ·rw [if_neg h2, if_neg (by omega)]
theorem zAP (key : List Nat) (by_ i : Nat) : zqU key by_ i i = key.getD i 0 := by simp [zqU]
theorem zAQ (key : List Nat) (by_ : Nat) : cl [.row 64 (fun j => bv (zqU key by_ 64 j))] = (zgN key by_).map bv := by
 simp only [cl, Chunk.cells, List.append_nil, zgN, List.map_map]
 apply List.map_congr_left
 intro i hi
 simp only [Function.comp, zqU, if_pos (List.mem_range.1 hi)]
def exT (gt : Nat → Nat) (k info : List Nat) : Nat → List Nat × List Nat
 | 0 => ([], [])
 | j + 1 => (zsn gt k [(exT gt k info j).1, info, [j + 1]], (exT gt k info j).2 ++ zsn gt k [(exT gt k info j).1, info, [j + 1]])
def zyS (gt : Nat → Nat) (k info : List Nat) (n : Nat) : List Nat := (exT gt k info ((n + 31) / 32)).2.take n
theorem zxE {gt : Nat → Nat} {k info last out : List Nat} {j : Nat} (h : exT gt k info j = (last, out)) : exT gt k info (j + 1) = (zsn gt k [last, info, [j + 1]], out ++ zsn gt k [last, info, [j + 1]]) := by rw [exT, h]
theorem zkT (gt : Nat → Nat) (k info : List Nat) : ∀ j, (exT gt k info j).2.length = 32 * j ∧ (exT gt k info j).1.length ≤ 32 ∧ (∀ x ∈ (exT gt k info j).2, x < 256)
 | 0 => ⟨rfl, by show 0 ≤ 32; decide, fun x hx => by cases hx⟩
 | j + 1 => by
  obtain ⟨h1, _, h3⟩ := zkT gt k info j
  refine ⟨?_, ?_, ?_⟩
  ·rw [exT, jQ, h1, zhG]; omega
  ·rw [exT]; show (zsn _ _ _).length ≤ 32; rw [zhG]; omega
  ·rw [exT]
   intro x hx
   rcases List.mem_append.1 hx with h | h
   ·exact h3 x h
   ·exact znt _ _ _ x h
theorem zkU (gt : Nat → Nat) (k info : List Nat) (n : Nat) : (zyS gt k info n).length = n := by
 unfold zyS
 rw [List.length_take, (zkT gt k info _).1]
 omega
theorem zuU (gt : Nat → Nat) (k info : List Nat) (n : Nat) : ∀ x ∈ zyS gt k info n, x < 256 := fun x hx => (zkT gt k info _).2.2 x (List.mem_of_mem_take hx)
end
section
open Go.RowKit
theorem zx8 {x y : Nat} {A : Int → Prop} (h : A (((x % 256) ^^^ (y % 256) : Nat) : Int)) : ∃ z, IntKind.u8.wrap ((BitVec.ofInt IntKind.u8.bits (x : Int) ^^^ BitVec.ofInt IntKind.u8.bits (y : Int)).toNat : Nat) = z ∧ A z := ⟨_, zE8 x y, h⟩
section
variable {X : List Nat} {w : World} {gt : Nat → Nat} {key : List Nat} {ps : List (List Nat)} {q q2 : Qd}
theorem zuV (by_ : Nat) (h64 : key.length ≤ 64) (hX : ∀ k ∈ X, k < w.heap.size) (hq : St (TxQ key q) w X) : Ct Tryz.prog 126 [.slice q.1 key.length q.2, bv by_] X w (slS 0 0 64 64) [.blk [.row 64 fun j => bv (zqU key by_ 64 j)] 5] [] := by
 refine vFn (k0 := 1) (rs := [.tmp 4]) (svs := [.a (.s (.p (.hd 0 key.length))), zi4 (bv by_)]) (R0 := [.sl 0 key.length (TxG key)]) (hnQ [q]) Tryz.ntmps126 Tryz.func126 rfl rfl rfl rfl rfl zap (by kernel_rfl) hX (fun r hr => by rcases List.mem_singleton.1 hr with rfl; exact hq) ?_
 conv => whnf
 refine .inl ?_
 conv => whnf
 refine vF (by simp [Sl.len]; omega) ?_
 conv => whnf
 refine zbC (zCz (e := 5) 64 ⟨by kernel_rfl, by kernel_rfl, by kernel_rfl⟩ rfl rfl rfl rfl rfl (by decide)) rfl rfl ?_
 conv => whnf
 refine za8 (zwT (cs' := [.row 64 fun j => bv (zqU key by_ 0 j)]) (ys := key) (r := 0) key.length rfl rfl rfl rfl rfl (by kernel_rfl) (by omega) (by show 0 + key.length ≤ 64; omega) fun h => by
  simp only [zay, SC.den, cl, Chunk.cells, List.append_nil, List.take_length]
  have := zxD 64 key h64
  simpa [zqU] using this) ?_
 conv => whnf
 refine ⟨Nat, fun k l m R i => ⟨k, (21, zaG .i64 i) :: zbP [1, 6, 20] l, (1, .blk [.row 64 fun j => bv (zqU key by_ i j)] 5) :: m, R⟩, fun i => i ≤ 64, fun i => 64 - i, ⟨0, [], [0], Nat.zero_le _, zbX⟩, fun i hi => ?_⟩
 conv => whnf
 refine vIf (fun hc => ?_) fun hc => ?_
 ·have hi2 : i < 64 := by
   have : (i : Int) < 64 := of_decide_eq_true hc
   omega
  conv => whnf
  refine ⟨i, ⟨rfl, hi2⟩, .inr ?_⟩
  conv => whnf
  refine ⟨hi2, ?_⟩
  conv => whnf
  refine zx8 ?_
  conv => whnf
  refine ⟨i, ⟨rfl, hi2⟩, .inr ?_⟩
  conv => whnf
  refine za8 (zBN (fun j => bv (zqU key by_ (i + 1) j)) rfl rfl rfl rfl rfl rfl hi2 (by rw [zAP]; exact zuT key by_ i)) ?_
  conv => whnf
  refine zei (by omega) (by omega) ?_
  conv => whnf
  exact ⟨i + 1, [], [0], ⟨hi2, Nat.sub_lt_sub_left hi2 (Nat.lt_succ_self i)⟩, zbX⟩
 have hi8 : i = 64 := by
   have : ¬ (i : Int) < 64 := of_decide_eq_false hc
   omega
 subst hi8
 conv => whnf
 exact zaK [(0, 1)] [] (.inl rfl) ⟨.inl rfl, trivial⟩ rfl trivial
theorem zqV {by_ : Nat} {h : Hn} {i : Nat} {Y : List Nat} {w : World} (hb : St (AtC ⟨h.b i, 0, none⟩ (zay h [.row 64 fun j => bv (zqU key by_ 64 j)])) w Y) : St (TxF (some ⟨h.b i, 0, none⟩) 64 (zgN key by_)) w Y :=
 zh5 hb (zAQ key by_) (Nat.le_of_eq (zeD key by_)) (by rw [zeD]; decide) (zrX key by_)
theorem zkV {kk : List Nat} {h : Hn} {i : Nat} {Y : List Nat} {w : World} (hk : kk.length = 32) (hbk : ∀ x ∈ kk, x < 256) (hb : St (AtC ⟨h.b i, 0, none⟩ (zay h [.key kk])) w Y) : St (TxF (some ⟨h.b i, 0, none⟩) 32 kk) w Y :=
 zh5 hb (by rw [show zay h [.key kk] = [.key kk] from rfl, zjx, zh6 hk]) (by omega) (by omega) hbk
theorem zC2 (h64 : key.length ≤ 64) (hp : ∀ p ∈ ps, p.length ≤ 100000000) (hP : ps.length ≤ 900000) (hX : ∀ k ∈ X, k < w.heap.size) (hq : St (TxQ key q) w X) (hL : St (SlQ zaA ps q2) w X) (hG : St (zcG gt 2) w X) : Ct Tryz.prog 102 [.slice q.1 key.length q.2, .slice q2.1 ps.length q2.2] X w (.a (.agg [.key (zsn gt key ps)])) [] [] := by
 refine vFn (k0 := 2) (rs := [.cell 4 23]) (svs := [.a (.s (.p (.hd 0 key.length))), .a (.s (.p (.hd 1 ps.length)))]) (R0 := [.sl 0 key.length (TxG key), .sl 1 ps.length (SlF zaA ps), .c (zcG gt 2)]) (hnQ [q, q2]) Tryz.ntmps102 Tryz.func102 rfl rfl rfl rfl rfl zap (by kernel_rfl) hX (fun r hr => by
  rcases List.mem_cons.1 hr with rfl | hr
  ·exact hq
  rcases List.mem_cons.1 hr with rfl | hr
  ·exact hL
  ·rcases List.mem_singleton.1 hr with rfl; exact hG) ?_
 conv => whnf
 refine zah rfl rfl rfl (by kernel_rfl) (fun h X w H => zuV 54 h64 H.xk (H.fact 0 rfl)) rfl rfl rfl ?_
 conv => whnf
 refine zaZ (zbe [3] rfl rfl (zwW (e := 72) (xs := [zgN key 54]) (ys := ps) (r := 2) (by_ := 24) (fun h => [(some ⟨h.b 3, 0, none⟩, 64)]) rfl (fun h => by rfl) (fun h => rfl) (fun h X w H t x hx => by
  cases t with
  | zero => obtain rfl := Option.some.inj hx; exact zqV (H.fact 0 rfl)
  | succ t => simp at hx) rfl rfl rfl rfl rfl ⟨by kernel_rfl, by kernel_rfl⟩ (by simp; omega) (by simp; omega) rfl rfl)) ?_
 conv => whnf
 refine za8 (ziu (T := zaA) (zs := [zgN key 54] ++ ps) 5 rfl (.head _) rfl (zaF (rs := []) (Rs := []) (zae (rs := []) (Rs := []) rfl rfl rfl (by kernel_rfl) rfl fun h X w H => zuO H.xk (fun p hpm => by
  rcases List.mem_cons.1 hpm with rfl | hpm
  ·rw [zeD]; decide
  ·exact hp p hpm) (by simp; omega) (H.fact 0 rfl) (H.fact 5 rfl)) rfl rfl)) ?_
 conv => whnf
 obtain ⟨ink, hink⟩ : ∃ ink, ink = zxy gt ([zgN key 54] ++ ps) := ⟨_, rfl⟩
 have hil : ink.length = 32 := by rw [hink]; exact zkS _ _
 have hib : ∀ x ∈ ink, x < 256 := by rw [hink]; exact ziO _ _
 rw [← hink]
 conv => whnf
 refine zaY 3 [] (by kernel_rfl) ?_
 conv => whnf
 refine zaT (zae (rs := [.blk [.row 64 fun j => bv (zqU key 92 64 j)] 5]) (Rs := []) rfl rfl rfl (by kernel_rfl) rfl fun h X w H => zuV 92 h64 H.xk (H.fact 3 rfl)) ?_
 conv => whnf
 refine za8 (zbe [8, 7, 6] rfl rfl (zaF (rs := []) (Rs := []) (zae (rs := []) (Rs := []) rfl rfl rfl (by kernel_rfl) rfl fun h X w H => zuO (ps := [zgN key 92, ink]) (q := (some ⟨h.b 8, 0, none⟩, 2)) H.xk (fun p hpm => by
  rcases List.mem_cons.1 hpm with rfl | hpm
  ·rw [zeD]; decide
  ·rcases List.mem_singleton.1 hpm with rfl; omega) (by simp) (zd5 (ql := [(some ⟨h.b 7, 0, none⟩, 64), (some ⟨h.b 6, 0, none⟩, 32)]) rfl (by simp) (by
   have := H.fact 2 rfl
   have e : zay h [.one (.p (.sl 7 0 64 64)), .one (.p (.sl 6 0 32 32))] = zdz [zgN key 92, ink] [(some ⟨h.b 7, 0, none⟩, 64), (some ⟨h.b 6, 0, none⟩, 32)] := by
    simp only [zdz, zeD, hil]
    rfl
   rw [← e]
   exact this) fun t x hx => by
   match t with
   | 0 => obtain rfl := Option.some.inj hx; exact zqV (H.fact 1 rfl)
   | 1 => obtain rfl := Option.some.inj hx; exact zkV hil hib (H.fact 0 rfl)
   | t + 2 => simp at hx) (H.fact 8 rfl)) rfl rfl)) ?_
 conv => whnf
 refine zan ?_
 rw [hink]
 rfl
def zxF (j : Nat) (kk : List Nat) (ln il : Nat) : MB := [(0, .blk [.one (.p (.v (bv j)))] 5), (1, .blk [.key kk] 23), (2, .blk [.one (.p (.hd 4 ln))] 72), (3, .blk [.one (.p (.hd 5 il))] 72), (4, .gone), (5, .gone)]
def TxN (n : Nat) (t : List Nat) (q : Qd) : World → Prop := fun w => (q.1 = none → n = 0) ∧ TxG t q w
theorem zAR {kk last info : List Nat} {j ln : Nat} {h0 : Hn} (hln : ln = last.length) (hj : j ≤ 254) (hk32 : kk.length = 32) (hkb : ∀ x ∈ kk, x < 256) (hll : last.length ≤ 100000000) (hil : info.length ≤ 100000000) (hsp : Sp X w (zad h0 [] (zxF j kk ln info.length)) [TxN ln last (h0.r 4), TxQ info (h0.r 5), zcG gt 2]) :
  CtG Tryz.prog 101 [.pointer (some ⟨h0.b 0, 0, none⟩), .pointer (some ⟨h0.b 1, 0, none⟩), .pointer (some ⟨h0.b 2, 0, none⟩), .pointer (some ⟨h0.b 3, 0, none⟩)] X w h0 (zxF j kk ln info.length) [0, 1, 2, 3, 5] (.a (.s (.p (.hd 6 32)))) [(0, .blk [.one (.p (.v (bv (j + 1))))] 5), (1, .blk [.key kk] 23), (2, .blk [.one (.p (.hd 6 32))] 72), (3, .blk [.one (.p (.hd 5 info.length))] 72), (5, .gone)] [.sl 6 32 (TxG (zsn gt kk [last, info, [j + 1]]))] := by
 subst hln
 refine zyv (g := 6) (k0 := 6) (bl := []) (ql := []) (svs := [atS 0 0, atS 1 0, atS 2 0, atS 3 0]) (given := zxF j kk last.length info.length) (Rg := [.sl 4 last.length (TxG last), .sl 5 info.length (TxG info), .c (zcG gt 2)]) (kb := [0, 1, 2, 3, 5]) Tryz.ntmps101 Tryz.func101 rfl rfl rfl zap (by kernel_rfl) rfl rfl hsp ?_
 conv => whnf
 refine ⟨((j + 1 : Nat) : Int), by rw [wU8 (by omega) (by omega)]; omega, ?_⟩
 conv => whnf
 refine zaY 8 [] (by kernel_rfl) ?_
 conv => whnf
 refine zaT (zmV [7, 6, 1] rfl (zae (sv := .a (.agg [.key (zsn gt kk [last, info, [j + 1]])])) (rs := []) (Rs := []) rfl rfl rfl (by kernel_rfl) rfl fun h X w H => ?_)) ?_
 ·have h1 := H.fact 0 rfl
  have h7 := H.fact 2 rfl
  have h6 := H.fact 1 rfl
  have := zC2 (gt := gt) (key := kk) (ps := [last, info, [j + 1]]) (q := (some ⟨h.b 1, 0, none⟩, 32)) (q2 := (some ⟨h.b 7, 0, none⟩, 3)) (by omega) (fun p hp => by
   rcases List.mem_cons.1 hp with rfl | hp
   ·exact hll
   rcases List.mem_cons.1 hp with rfl | hp
   ·exact hil
   ·rcases List.mem_singleton.1 hp with rfl; simp) (by simp) H.xk (zp2 (zkV hk32 hkb h1)) (zd5 (ql := [h.r 4, h.r 5, (some ⟨h.b 6, 0, none⟩, 1)]) rfl (by simp) h7 fun t x hx => by
    match t with
    | 0 => obtain rfl := Option.some.inj hx; exact zgX (H.fact 8 rfl)
    | 1 => obtain rfl := Option.some.inj hx; exact zgX (H.fact 9 rfl)
    | 2 => obtain rfl := Option.some.inj hx; exact zh5 h6 rfl (jV _) (by simp) (fun x hx => by rcases List.mem_singleton.1 hx with rfl; omega)
    | t + 3 => simp at hx) (H.fact 10 rfl)
  rw [hk32] at this
  exact this
 conv => whnf
 refine zwY [7, 6] rfl ?_
 refine zwX (kk := zsn gt kk [last, info, [j + 1]]) (sv' := .a (.s (.p (.hd 9 32)))) (m' := [(2, .blk [.one (.p (.hd 9 32))] 72), (8, .gone), (7, .gone), (6, .gone), (0, .blk [.one (.p (.v (bv (j + 1))))] 5), (1, .blk [.key kk] 23), (3, .blk [.one (.p (.hd 5 info.length))] 72), (4, .gone), (5, .gone)]) 8 rfl (zhG _ _ _) (znt _ _ _) (fun h hr => ⟨?_, ?_⟩) rfl ?_
 ·show Value.slice (h.r 9).1 32 (h.r 9).2 = _
  rw [hr]
  rfl
 ·have e : zay h [.one (.p (.hd 9 32))] = zay h [.one (.p (.sl 8 0 32 32))] := by
   show [Chunk.one (Value.slice (h.r 9).1 32 (h.r 9).2)] = _
   rw [hr]
   rfl
  show Res.blk (h.b 2) (ca (zay h [.one (.p (.hd 9 32))])) _ :: _ = _
  rw [e]
  rfl
 exact zdD [(0, 0), (1, 1), (2, 2), (3, 3), (5, 5), (6, 9)] [0] [3, 4, 5, 6, 7] (.inl rfl) ⟨.inl rfl, .inl rfl, .inl rfl, .inl rfl, trivial⟩ rfl ⟨.inl rfl, trivial⟩ ⟨rfl, rfl, rfl, rfl, rfl, trivial⟩
theorem zuW {kk info : List Nat} {n : Nat} (hk32 : kk.length = 32) (hkb : ∀ x ∈ kk, x < 256) (hn : n ≤ 8160) (hi20 : info.length ≤ 1048576) (hX : ∀ k ∈ X, k < w.heap.size) (hq : St (TxQ info q) w X) (hG : St (zcG gt 2) w X) : Ct Tryz.prog 70 [.agg (ca [.key kk]), .slice q.1 info.length q.2, .int .i64 n] X w (.tup [.s (.p (.hd 0 n)), .s (.p (.v (.int .i64 0)))]) [.gone] [.sl 0 n (TxG (zyS gt kk info n))] := by
 refine vFn (k0 := 1) (rs := [.tmp 6, .tmp 7]) (svs := [.a (.agg [.key kk]), .a (.s (.p (.hd 0 info.length))), zaG .i64 n]) (R0 := [.sl 0 info.length (TxG info), .c (zcG gt 2)]) (hnQ [q]) Tryz.ntmps70 Tryz.func70 rfl rfl rfl rfl rfl zap (by kernel_rfl) hX (fun r hr => by
  rcases List.mem_cons.1 hr with rfl | hr
  ·exact hq
  ·rcases List.mem_singleton.1 hr with rfl; exact hG) ?_
 conv => whnf
 refine vF (decide_eq_false (by omega)) ?_
 conv => whnf
 refine vF (decide_eq_false (by show ¬ (((info.length : Nat) : Int) > 1048576); omega)) ?_
 conv => whnf
 have e1 : (n : Int) + 64 = ((n + 64 : Nat) : Int) := by omega
 refine zdq e1 (by omega) (by omega) ?_
 conv => whnf
 refine zbC (zyx (e := 5) 0 ⟨by kernel_rfl, by kernel_rfl, by kernel_rfl⟩ rfl rfl rfl rfl rfl (c := n + 64) (by omega) (by omega)) rfl rfl ?_
 conv => whnf
 refine ⟨Nat × Nat × List Nat × List Nat, fun k l m R g => ⟨7, (11, .a (.s (.p (.hd 5 g.2.2.2.length)))) :: zbP [2, 10] l, (3, .blk [.one (.p (.hd 6 g.2.1))] 72) :: (4, .blk [.one (.p (.v (bv g.1)))] 5) :: (5, zi6 g.2.2.2 5) :: (6, .gone) :: (0, .gone) :: m, .sl 6 g.2.1 (TxG g.2.2.1) :: R⟩, fun g => g.2.1 = g.2.2.1.length ∧ exT gt kk info g.1 = (g.2.2.1, g.2.2.2) ∧ 32 * g.1 < n + 32, fun g => n - g.2.2.2.length, ⟨(0, 0, [], []), [], [2, 0, 1], ⟨rfl, rfl, by omega⟩, zbX (hR := ⟨.inr (zzQ rfl), .inl rfl, .inl rfl, trivial⟩)⟩, fun g hg => ?_⟩
 obtain ⟨j, ln, last, out⟩ := g
 obtain ⟨hln, hex, hj⟩ : ln = last.length ∧ exT gt kk info j = (last, out) ∧ 32 * j < n + 32 := hg
 have hel := zkT gt kk info j
 rw [hex] at hel
 obtain ⟨hol, hll, hob⟩ : out.length = 32 * j ∧ last.length ≤ 32 ∧ ∀ x ∈ out, x < 256 := hel
 conv => whnf
 refine vIf (fun hc => ?_) fun hc => ?_
 ·have hlt : out.length < n := by
   have : ((out.length : Nat) : Int) < (n : Int) := of_decide_eq_true hc
   omega
  obtain ⟨mc, hmc⟩ : ∃ mc, mc = zsn gt kk [last, info, [j + 1]] := ⟨_, rfl⟩
  have hml : mc.length = 32 := by rw [hmc]; exact zhG _ _ _
  conv => whnf
  refine zaZ (za0 [4, 1, 3, 2, 6, 0] 1 rfl rfl rfl (by kernel_rfl) (fs := fun _ => []) (cs := fun h => zhf h [.at_ 4 0, .at_ 1 0, .at_ 3 0, .at_ 2 0]) (fun h => rfl) rfl rfl (given := zxF j kk ln info.length) ⟨rfl, rfl, rfl, rfl, rfl, rfl, trivial⟩ rfl rfl rfl rfl rfl rfl fun h X w L2 H => zAR hln (by omega) hk32 hkb (by omega) (by omega) (H.pick [0, 1, 2] rfl)) ?_
  rw [← hmc]
  conv => whnf
  refine zaZ (ztN (xs := out) (ys := mc) (r := 0) (e := 5) rfl rfl hml.symm rfl rfl rfl ⟨by kernel_rfl, by kernel_rfl⟩ (by omega) rfl rfl) ?_
  conv => whnf
  exact ⟨(j + 1, 32, mc, out ++ mc), [(0, 0), (1, 1), (2, 2), (3, 3), (4, 4), (5, 8), (6, 7)], [0, 2, 3], ⟨⟨hml.symm, by rw [hmc]; exact zxE hex, by show 32 * (j + 1) < n + 32; omega⟩, by show n - (out ++ mc).length < n - out.length; rw [jQ]; omega⟩, zbX⟩
 have hge : n ≤ out.length := by
   have : ¬ ((out.length : Nat) : Int) < (n : Int) := of_decide_eq_false hc
   omega
 have hjn : j = (n + 31) / 32 := by omega
 have hys : zyS gt kk info n = out.take n := by rw [zyS, ← hjn, hex]
 conv => whnf
 refine zaZ (zit (xs := out) 5 rfl (by omega) hob rfl (zaF (rs := [.gone]) (ztS (n0 := out.length) (i := 5) (zyS gt kk info n) 0 hys rfl hge rfl (by kernel_rfl) rfl rfl rfl rfl rfl) rfl rfl)) ?_
 conv => whnf
 exact zaK [(0, 7)] [0] (.inl rfl) trivial rfl ⟨.inl rfl, trivial⟩
end
end
section
open Go.RowKit
theorem zuX (A : Option Addr) (n c : Nat) (l : List Nat) (w : World) (h : Txt w w.heap.size A n c l) (hn : n ≤ 140737488355328) :
  Calls Tryz.prog 67 #[.slice A n c] w (zC1 w l) := by
 cases A with
 | none =>
  obtain ⟨rfl, rfl⟩ := h.nil rfl
  obtain rfl : l = [] := List.eq_nil_of_length_eq_zero h.len
  have he := fun w => Lib.run_eql_slice_nil (P := Tryz.prog) w 72 5 none 0 0 0 0 Tryz.underlying72
  go_enter Tryz.func67, Tryz.ntmps67
  go_wp2
  go_ret
  exact ⟨_, rfl, Own.nil_, Below.refl _ _⟩
 | some ad =>
  have he := fun w => Lib.run_eql_slice_nil (P := Tryz.prog) w 72 5 (some ad) n c 0 0 Tryz.underlying72
  have ho := zuR w 5
  have hb : Below w.heap.size w (w.alloc (.cells #[] 5)) := (Below.refl _ _).alloc (jV _) _
  go_enter Tryz.func67, Tryz.ntmps67
  go_wp2_with (refine zdL rfl rfl BT (l := []) rfl rfl ho (h.below hb) (by simpa using hn) (by simp) ?_; intro v1 w1 hown hg hat)
  go_ret
  exact ⟨v1, rfl, by simpa using hown, zmi hb ho hg (jV _) (by simp)⟩
theorem zuY (v : Value) (l : List Nat) (base : Nat) (W n : Nat) (hW : W ≤ 8) (hn : n < 18446744073709551616) (hl : l.length + 8 ≤ 140737488355328) (w : World) (hown : Own w base 5 v l) (hbase : base ≤ w.heap.size) :
  Calls Tryz.prog 68 #[v, .int .i64 W, .int .u64 n] w fun e w' => (∃ v', e = .returned v' ∧ Own w' base 5 v' (l ++ beL W n)) ∧ Below base w w' := by
 go_enter Tryz.func68, Tryz.ntmps68
 go_wp2
 have hown' := Lib.hid hown
 clear hown
 go_loopg [0, 7] W (fun k v i wr => i = .int .i64 ((k : Int) - 1) ∧ k ≤ W ∧ Own wr base 5 v (l ++ beK W n (W - k)) ∧ Below base w wr ∧ base ≤ wr.heap.size)
 case atStart => exact ⟨rfl, jV _, (by rw [Nat.sub_self]; unfold beK; simpa using hown'.out), Below.refl _ _, hbase⟩
 case round =>
  obtain ⟨rfl, hk, ho, hB, hs⟩ := hrel
  have ho' := Lib.hid ho
  clear ho
  rcases Nat.eq_zero_or_pos gk with hz | hz
  ·subst hz
   go_wp2
   go_ret
   refine ⟨⟨_, rfl, ?_⟩, hB⟩
   exact ho'.out
  ·obtain ⟨k, rfl⟩ : ∃ k, gk = k + 1 := ⟨gk - 1, by omega⟩
   have ek : ((k + 1 : Nat) : Int) - 1 = (k : Int) := by omega
   rw [ek]
   obtain ⟨x, hx⟩ : ∃ x, x = n / 2 ^ (8 * k) % 256 := ⟨_, rfl⟩
   have ex : (n : Int) / 2 ^ (8 * k) % 256 = (x : Int) := by rw [hx, Int.natCast_emod, Int.natCast_ediv, Int.natCast_pow]; rfl
   have en : beK W n (W - (k + 1)) ++ [x] = beK W n (W - k) := by
    rw [show W - k = (W - (k + 1)) + 1 from by omega, zxC, hx, show W - 1 - (W - (k + 1)) = k from by omega]
   have EN := Lib.hid en
   have bl := zAN W n (W - (k + 1))
   have BL := Lib.hid bl
   clear hz ek hx en bl
   go_wp2_with (refine zdL rfl rfl BT rfl rfl (ho'.out.alloc (.cells #[bv x] 5)) (zAO wr 5 x) (by have := BL.out; simp; omega) (by simp; omega) ?_; intro v1 w1 hown hg hat)
   have hb1 := zmi (hB.alloc hs (.cells #[bv x] 5)) (ho'.out.alloc (.cells #[bv x] 5)) hg (jV _) (by simp; omega)
   go_roundg k
   case measure => omega
   case rel => exact ⟨by go_num, by omega, (by rw [← EN.out, ← List.append_assoc]; exact hown), hb1, jU hs (jU (by simp) hg.size)⟩
end
section
open Go.RowKit
theorem zAS : ∀ i : Fin 256, 0 ≤ Lib.len8 (i.val : Int) ∧ Lib.len8 (i.val : Int) ≤ 8 ∧ (i.val ≠ 0 → 1 ≤ Lib.len8 (i.val : Int)) ∧ (i.val = 0 → Lib.len8 (i.val : Int) = 0) := by decide +kernel
theorem zAT (n r k : Nat) (h1 : k = 0 ∨ 256 ^ k ≤ n) (h2 : n < 256 ^ (k + 1)) (h3 : (8 * k + 1 ≤ r ∧ 1 ≤ n) ∨ (n = 0 ∧ r = 0)) (h4 : r ≤ 8 * k + 8) (W : Nat) : r ≤ 8 * W ↔ n < 256 ^ W := by
 have hp : 0 < 256 ^ W := Nat.pow_pos (by omega)
 rcases h3 with ⟨h3, h5⟩ | ⟨rfl, rfl⟩
 ·rcases Nat.lt_or_ge k W with h | h
  ·have := Nat.pow_le_pow_right (n := 256) (by omega) h
   constructor
   ·intro _; exact jT h2 this
   ·intro _; omega
  ·have hle := Nat.pow_le_pow_right (n := 256) (by omega) h
   constructor
   ·intro hr; omega
   ·intro hn
    rcases h1 with rfl | h1
    ·obtain rfl : W = 0 := by omega
     rw [Nat.pow_zero] at hn
     omega
    ·omega
 ·exact ⟨fun _ => hp, fun _ => Nat.zero_le _⟩
theorem zeE (n k : Nat) (hk : k < 8) (h1 : k = 0 ∨ 256 ^ k ≤ n) (h2 : n < 256 ^ (k + 1)) (h0 : n = 0 ∨ 1 ≤ n / 256 ^ k) (W : Nat) :
  (8 * k + (Lib.len8 ((n / 256 ^ k : Nat) : Int)).toNat ≤ 8 * W ↔ n < 256 ^ W) ∧ 0 ≤ Lib.len8 ((n / 256 ^ k : Nat) : Int) ∧ Lib.len8 ((n / 256 ^ k : Nat) : Int) ≤ 8 := by
 have hlt : n / 256 ^ k < 256 := by
  rw [Nat.pow_succ] at h2
  exact Nat.div_lt_of_lt_mul h2
 obtain ⟨a, b, c, d⟩ := zAS ⟨n / 256 ^ k, hlt⟩
 simp only at a b c d
 refine ⟨zAT n _ k h1 h2 ?_ (by omega) W, a, b⟩
 rcases h0 with rfl | h0
 ·rcases h1 with rfl | h1
  ·rw [Nat.zero_div] at d
   have := d rfl
   rw [Nat.zero_div, this]
   exact .inr ⟨rfl, rfl⟩
  ·have : 0 < 256 ^ k := Nat.pow_pos (by omega)
   omega
 ·have := c (by omega)
  refine .inl ⟨by omega, ?_⟩
  rcases Nat.eq_zero_or_pos n with hz | hz
  ·rw [hz, Nat.zero_div] at h0; omega
  ·exact hz
theorem zAU (x : Int) (h0 : 0 ≤ x) (h1 : x < 256) (w : World) :
  Calls Tryz.prog 98 #[.int .u64 x] w fun e w' => (∃ r : Nat, e = .returned (.int .i64 r) ∧ ∀ W, r ≤ 8 * W ↔ x.toNat < 256 ^ W) ∧ w = w' := by
 have d_x1 : decide ((4294967296 : Int) ≤ x) = false := decide_eq_false (by omega)
 have d_x2 : decide ((65536 : Int) ≤ x) = false := decide_eq_false (by omega)
 have d_x3 : decide ((256 : Int) ≤ x) = false := decide_eq_false (by omega)
 have q0 : 0 ≤ x := by omega
 have q1 : x ≤ 255 := by omega
 have q2 : x = ((x.toNat / 256 ^ 0 : Nat) : Int) := by rw [show (256 : Nat) ^ 0 = 1 from rfl]; omega
 have rm := zeE x.toNat 0 (by omega) (.inl rfl) (by rw [show (256 : Nat) ^ (0 + 1) = 256 from rfl]; omega) (by rw [show (256 : Nat) ^ 0 = 1 from rfl]; omega)
 rw [← q2] at rm
 have bd := (rm 0).2
 obtain ⟨l, hl⟩ := Int.eq_ofNat_of_zero_le bd.1
 have tb := fun (w : World) => Lib.run_index_len8tab (P := Tryz.prog) (w := w) 9 .u8 x Tryz.underlying9 q0 q1
 rw [hl] at tb bd
 have bl : l ≤ 8 := by omega
 have RM := Lib.hid (fun W => (rm W).1)
 rw [hl, Int.toNat_natCast] at RM
 clear rm q2 hl bd
 go_enter Tryz.func98, Tryz.ntmps98
 go_wp2
 go_ret
 refine ⟨⟨0 + l, ?_, RM.out⟩, rfl⟩
 first | rfl | (congr 2; omega) | (show Ending.returned (Value.int .i64 _) = Ending.returned (Value.int .i64 _); congr 2; omega)
theorem zAV (x : Int) (h0 : 256 ≤ x) (h1 : x < 65536) (w : World) :
  Calls Tryz.prog 98 #[.int .u64 x] w fun e w' => (∃ r : Nat, e = .returned (.int .i64 r) ∧ ∀ W, r ≤ 8 * W ↔ x.toNat < 256 ^ W) ∧ w = w' := by
 have d_x1 : decide ((4294967296 : Int) ≤ x) = false := decide_eq_false (by omega)
 have d_x2 : decide ((65536 : Int) ≤ x) = false := decide_eq_false (by omega)
 have d_x3 : decide ((256 : Int) ≤ x) = true := decide_eq_true (by omega)
 obtain ⟨x3, hx3⟩ : ∃ y, y = x / 256 := ⟨_, rfl⟩
 have e_x3 : x / 256 = x3 := hx3.symm
 have q0 : 0 ≤ x3 := by omega
 have q1 : x3 ≤ 255 := by omega
 have q2 : x3 = ((x.toNat / 256 ^ 1 : Nat) : Int) := by rw [show (256 : Nat) ^ 1 = 256 from rfl]; omega
 have rm := zeE x.toNat 1 (by omega) (.inr (by rw [show (256 : Nat) ^ 1 = 256 from rfl]; omega)) (by rw [show (256 : Nat) ^ (1 + 1) = 65536 from rfl]; omega) (by rw [show (256 : Nat) ^ 1 = 256 from rfl]; omega)
 rw [← q2] at rm
 have bd := (rm 0).2
 obtain ⟨l, hl⟩ := Int.eq_ofNat_of_zero_le bd.1
 have tb := fun (w : World) => Lib.run_index_len8tab (P := Tryz.prog) (w := w) 9 .u8 x3 Tryz.underlying9 q0 q1
 rw [hl] at tb bd
 have bl : l ≤ 8 := by omega
 have RM := Lib.hid (fun W => (rm W).1)
 rw [hl, Int.toNat_natCast] at RM
 clear rm q2 hl bd hx3
 go_enter Tryz.func98, Tryz.ntmps98
 go_wp2
 go_ret
 refine ⟨⟨8 + l, ?_, RM.out⟩, rfl⟩
 first | rfl | (congr 2; omega) | (show Ending.returned (Value.int .i64 _) = Ending.returned (Value.int .i64 _); congr 2; omega)
theorem zAW (x : Int) (h0 : 65536 ≤ x) (h1 : x < 16777216) (w : World) :
  Calls Tryz.prog 98 #[.int .u64 x] w fun e w' => (∃ r : Nat, e = .returned (.int .i64 r) ∧ ∀ W, r ≤ 8 * W ↔ x.toNat < 256 ^ W) ∧ w = w' := by
 have d_x1 : decide ((4294967296 : Int) ≤ x) = false := decide_eq_false (by omega)
 have d_x2 : decide ((65536 : Int) ≤ x) = true := decide_eq_true (by omega)
 obtain ⟨x2, hx2⟩ : ∃ y, y = x / 65536 := ⟨_, rfl⟩
 have e_x2 : x / 65536 = x2 := hx2.symm
 have d_x3 : decide ((256 : Int) ≤ x2) = false := decide_eq_false (by omega)
 have q0 : 0 ≤ x2 := by omega
 have q1 : x2 ≤ 255 := by omega
 have q2 : x2 = ((x.toNat / 256 ^ 2 : Nat) : Int) := by rw [show (256 : Nat) ^ 2 = 65536 from rfl]; omega
 have rm := zeE x.toNat 2 (by omega) (.inr (by rw [show (256 : Nat) ^ 2 = 65536 from rfl]; omega)) (by rw [show (256 : Nat) ^ (2 + 1) = 16777216 from rfl]; omega) (by rw [show (256 : Nat) ^ 2 = 65536 from rfl]; omega)
 rw [← q2] at rm
 have bd := (rm 0).2
 obtain ⟨l, hl⟩ := Int.eq_ofNat_of_zero_le bd.1
 have tb := fun (w : World) => Lib.run_index_len8tab (P := Tryz.prog) (w := w) 9 .u8 x2 Tryz.underlying9 q0 q1
 rw [hl] at tb bd
 have bl : l ≤ 8 := by omega
 have RM := Lib.hid (fun W => (rm W).1)
 rw [hl, Int.toNat_natCast] at RM
 clear rm q2 hl bd hx2
 go_enter Tryz.func98, Tryz.ntmps98
 go_wp2
 go_ret
 refine ⟨⟨16 + l, ?_, RM.out⟩, rfl⟩
 first | rfl | (congr 2; omega) | (show Ending.returned (Value.int .i64 _) = Ending.returned (Value.int .i64 _); congr 2; omega)
theorem zAX (x : Int) (h0 : 16777216 ≤ x) (h1 : x < 4294967296) (w : World) :
  Calls Tryz.prog 98 #[.int .u64 x] w fun e w' => (∃ r : Nat, e = .returned (.int .i64 r) ∧ ∀ W, r ≤ 8 * W ↔ x.toNat < 256 ^ W) ∧ w = w' := by
 have d_x1 : decide ((4294967296 : Int) ≤ x) = false := decide_eq_false (by omega)
 have d_x2 : decide ((65536 : Int) ≤ x) = true := decide_eq_true (by omega)
 obtain ⟨x2, hx2⟩ : ∃ y, y = x / 65536 := ⟨_, rfl⟩
 have e_x2 : x / 65536 = x2 := hx2.symm
 have d_x3 : decide ((256 : Int) ≤ x2) = true := decide_eq_true (by omega)
 obtain ⟨x3, hx3⟩ : ∃ y, y = x2 / 256 := ⟨_, rfl⟩
 have e_x3 : x2 / 256 = x3 := hx3.symm
 have q0 : 0 ≤ x3 := by omega
 have q1 : x3 ≤ 255 := by omega
 have q2 : x3 = ((x.toNat / 256 ^ 3 : Nat) : Int) := by rw [show (256 : Nat) ^ 3 = 16777216 from rfl]; omega
 have rm := zeE x.toNat 3 (by omega) (.inr (by rw [show (256 : Nat) ^ 3 = 16777216 from rfl]; omega)) (by rw [show (256 : Nat) ^ (3 + 1) = 4294967296 from rfl]; omega) (by rw [show (256 : Nat) ^ 3 = 16777216 from rfl]; omega)
 rw [← q2] at rm
 have bd := (rm 0).2
 obtain ⟨l, hl⟩ := Int.eq_ofNat_of_zero_le bd.1
 have tb := fun (w : World) => Lib.run_index_len8tab (P := Tryz.prog) (w := w) 9 .u8 x3 Tryz.underlying9 q0 q1
 rw [hl] at tb bd
 have bl : l ≤ 8 := by omega
 have RM := Lib.hid (fun W => (rm W).1)
 rw [hl, Int.toNat_natCast] at RM
 clear rm q2 hl bd hx2 hx3
 go_enter Tryz.func98, Tryz.ntmps98
 go_wp2
 go_ret
 refine ⟨⟨24 + l, ?_, RM.out⟩, rfl⟩
 first | rfl | (congr 2; omega) | (show Ending.returned (Value.int .i64 _) = Ending.returned (Value.int .i64 _); congr 2; omega)
theorem zAY (x : Int) (h0 : 4294967296 ≤ x) (h1 : x < 1099511627776) (w : World) :
  Calls Tryz.prog 98 #[.int .u64 x] w fun e w' => (∃ r : Nat, e = .returned (.int .i64 r) ∧ ∀ W, r ≤ 8 * W ↔ x.toNat < 256 ^ W) ∧ w = w' := by
 have d_x1 : decide ((4294967296 : Int) ≤ x) = true := decide_eq_true (by omega)
 obtain ⟨x1, hx1⟩ : ∃ y, y = x / 4294967296 := ⟨_, rfl⟩
 have e_x1 : x / 4294967296 = x1 := hx1.symm
 have d_x2 : decide ((65536 : Int) ≤ x1) = false := decide_eq_false (by omega)
 have d_x3 : decide ((256 : Int) ≤ x1) = false := decide_eq_false (by omega)
 have q0 : 0 ≤ x1 := by omega
 have q1 : x1 ≤ 255 := by omega
 have q2 : x1 = ((x.toNat / 256 ^ 4 : Nat) : Int) := by rw [show (256 : Nat) ^ 4 = 4294967296 from rfl]; omega
 have rm := zeE x.toNat 4 (by omega) (.inr (by rw [show (256 : Nat) ^ 4 = 4294967296 from rfl]; omega)) (by rw [show (256 : Nat) ^ (4 + 1) = 1099511627776 from rfl]; omega) (by rw [show (256 : Nat) ^ 4 = 4294967296 from rfl]; omega)
 rw [← q2] at rm
 have bd := (rm 0).2
 obtain ⟨l, hl⟩ := Int.eq_ofNat_of_zero_le bd.1
 have tb := fun (w : World) => Lib.run_index_len8tab (P := Tryz.prog) (w := w) 9 .u8 x1 Tryz.underlying9 q0 q1
 rw [hl] at tb bd
 have bl : l ≤ 8 := by omega
 have RM := Lib.hid (fun W => (rm W).1)
 rw [hl, Int.toNat_natCast] at RM
 clear rm q2 hl bd hx1
 go_enter Tryz.func98, Tryz.ntmps98
 go_wp2
 go_ret
 refine ⟨⟨32 + l, ?_, RM.out⟩, rfl⟩
 first | rfl | (congr 2; omega) | (show Ending.returned (Value.int .i64 _) = Ending.returned (Value.int .i64 _); congr 2; omega)
theorem zAZ (x : Int) (h0 : 1099511627776 ≤ x) (h1 : x < 281474976710656) (w : World) :
  Calls Tryz.prog 98 #[.int .u64 x] w fun e w' => (∃ r : Nat, e = .returned (.int .i64 r) ∧ ∀ W, r ≤ 8 * W ↔ x.toNat < 256 ^ W) ∧ w = w' := by
 have d_x1 : decide ((4294967296 : Int) ≤ x) = true := decide_eq_true (by omega)
 obtain ⟨x1, hx1⟩ : ∃ y, y = x / 4294967296 := ⟨_, rfl⟩
 have e_x1 : x / 4294967296 = x1 := hx1.symm
 have d_x2 : decide ((65536 : Int) ≤ x1) = false := decide_eq_false (by omega)
 have d_x3 : decide ((256 : Int) ≤ x1) = true := decide_eq_true (by omega)
 obtain ⟨x3, hx3⟩ : ∃ y, y = x1 / 256 := ⟨_, rfl⟩
 have e_x3 : x1 / 256 = x3 := hx3.symm
 have q0 : 0 ≤ x3 := by omega
 have q1 : x3 ≤ 255 := by omega
 have q2 : x3 = ((x.toNat / 256 ^ 5 : Nat) : Int) := by rw [show (256 : Nat) ^ 5 = 1099511627776 from rfl]; omega
 have rm := zeE x.toNat 5 (by omega) (.inr (by rw [show (256 : Nat) ^ 5 = 1099511627776 from rfl]; omega)) (by rw [show (256 : Nat) ^ (5 + 1) = 281474976710656 from rfl]; omega) (by rw [show (256 : Nat) ^ 5 = 1099511627776 from rfl]; omega)
 rw [← q2] at rm
 have bd := (rm 0).2
 obtain ⟨l, hl⟩ := Int.eq_ofNat_of_zero_le bd.1
 have tb := fun (w : World) => Lib.run_index_len8tab (P := Tryz.prog) (w := w) 9 .u8 x3 Tryz.underlying9 q0 q1
 rw [hl] at tb bd
 have bl : l ≤ 8 := by omega
 have RM := Lib.hid (fun W => (rm W).1)
 rw [hl, Int.toNat_natCast] at RM
 clear rm q2 hl bd hx1 hx3
 go_enter Tryz.func98, Tryz.ntmps98
 go_wp2
 go_ret
 refine ⟨⟨40 + l, ?_, RM.out⟩, rfl⟩
 first | rfl | (congr 2; omega) | (show Ending.returned (Value.int .i64 _) = Ending.returned (Value.int .i64 _); congr 2; omega)
theorem zA0 (x : Int) (h0 : 281474976710656 ≤ x) (h1 : x < 72057594037927936) (w : World) :
  Calls Tryz.prog 98 #[.int .u64 x] w fun e w' => (∃ r : Nat, e = .returned (.int .i64 r) ∧ ∀ W, r ≤ 8 * W ↔ x.toNat < 256 ^ W) ∧ w = w' := by
 have d_x1 : decide ((4294967296 : Int) ≤ x) = true := decide_eq_true (by omega)
 obtain ⟨x1, hx1⟩ : ∃ y, y = x / 4294967296 := ⟨_, rfl⟩
 have e_x1 : x / 4294967296 = x1 := hx1.symm
 have d_x2 : decide ((65536 : Int) ≤ x1) = true := decide_eq_true (by omega)
 obtain ⟨x2, hx2⟩ : ∃ y, y = x1 / 65536 := ⟨_, rfl⟩
 have e_x2 : x1 / 65536 = x2 := hx2.symm
 have d_x3 : decide ((256 : Int) ≤ x2) = false := decide_eq_false (by omega)
 have q0 : 0 ≤ x2 := by omega
 have q1 : x2 ≤ 255 := by omega
 have q2 : x2 = ((x.toNat / 256 ^ 6 : Nat) : Int) := by rw [show (256 : Nat) ^ 6 = 281474976710656 from rfl]; omega
 have rm := zeE x.toNat 6 (by omega) (.inr (by rw [show (256 : Nat) ^ 6 = 281474976710656 from rfl]; omega)) (by rw [show (256 : Nat) ^ (6 + 1) = 72057594037927936 from rfl]; omega) (by rw [show (256 : Nat) ^ 6 = 281474976710656 from rfl]; omega)
 rw [← q2] at rm
 have bd := (rm 0).2
 obtain ⟨l, hl⟩ := Int.eq_ofNat_of_zero_le bd.1
 have tb := fun (w : World) => Lib.run_index_len8tab (P := Tryz.prog) (w := w) 9 .u8 x2 Tryz.underlying9 q0 q1
 rw [hl] at tb bd
 have bl : l ≤ 8 := by omega
 have RM := Lib.hid (fun W => (rm W).1)
 rw [hl, Int.toNat_natCast] at RM
 clear rm q2 hl bd hx1 hx2
 go_enter Tryz.func98, Tryz.ntmps98
 go_wp2
 go_ret
 refine ⟨⟨48 + l, ?_, RM.out⟩, rfl⟩
 first | rfl | (congr 2; omega) | (show Ending.returned (Value.int .i64 _) = Ending.returned (Value.int .i64 _); congr 2; omega)
theorem zA1 (x : Int) (h0 : 72057594037927936 ≤ x) (h1 : x ≤ 18446744073709551615) (w : World) :
  Calls Tryz.prog 98 #[.int .u64 x] w fun e w' => (∃ r : Nat, e = .returned (.int .i64 r) ∧ ∀ W, r ≤ 8 * W ↔ x.toNat < 256 ^ W) ∧ w = w' := by
 have d_x1 : decide ((4294967296 : Int) ≤ x) = true := decide_eq_true (by omega)
 obtain ⟨x1, hx1⟩ : ∃ y, y = x / 4294967296 := ⟨_, rfl⟩
 have e_x1 : x / 4294967296 = x1 := hx1.symm
 have d_x2 : decide ((65536 : Int) ≤ x1) = true := decide_eq_true (by omega)
 obtain ⟨x2, hx2⟩ : ∃ y, y = x1 / 65536 := ⟨_, rfl⟩
 have e_x2 : x1 / 65536 = x2 := hx2.symm
 have d_x3 : decide ((256 : Int) ≤ x2) = true := decide_eq_true (by omega)
 obtain ⟨x3, hx3⟩ : ∃ y, y = x2 / 256 := ⟨_, rfl⟩
 have e_x3 : x2 / 256 = x3 := hx3.symm
 have q0 : 0 ≤ x3 := by omega
 have q1 : x3 ≤ 255 := by omega
 have q2 : x3 = ((x.toNat / 256 ^ 7 : Nat) : Int) := by rw [show (256 : Nat) ^ 7 = 72057594037927936 from rfl]; omega
 have rm := zeE x.toNat 7 (by omega) (.inr (by rw [show (256 : Nat) ^ 7 = 72057594037927936 from rfl]; omega)) (by rw [show (256 : Nat) ^ (7 + 1) = 18446744073709551616 from rfl]; omega) (by rw [show (256 : Nat) ^ 7 = 72057594037927936 from rfl]; omega)
 rw [← q2] at rm
 have bd := (rm 0).2
 obtain ⟨l, hl⟩ := Int.eq_ofNat_of_zero_le bd.1
 have tb := fun (w : World) => Lib.run_index_len8tab (P := Tryz.prog) (w := w) 9 .u8 x3 Tryz.underlying9 q0 q1
 rw [hl] at tb bd
 have bl : l ≤ 8 := by omega
 have RM := Lib.hid (fun W => (rm W).1)
 rw [hl, Int.toNat_natCast] at RM
 clear rm q2 hl bd hx1 hx2 hx3
 go_enter Tryz.func98, Tryz.ntmps98
 go_wp2
 go_ret
 refine ⟨⟨56 + l, ?_, RM.out⟩, rfl⟩
 first | rfl | (congr 2; omega) | (show Ending.returned (Value.int .i64 _) = Ending.returned (Value.int .i64 _); congr 2; omega)
theorem zuZ (x : Int) (h0 : 0 ≤ x) (h1 : x ≤ 18446744073709551615) (w : World) :
  Calls Tryz.prog 98 #[.int .u64 x] w fun e w' => (∃ r : Nat, e = .returned (.int .i64 r) ∧ ∀ W, r ≤ 8 * W ↔ x.toNat < 256 ^ W) ∧ w = w' := by
 by_cases g0 : x < 256
 ·exact zAU x (by omega) g0 w
 by_cases g1 : x < 65536
 ·exact zAV x (by omega) g1 w
 by_cases g2 : x < 16777216
 ·exact zAW x (by omega) g2 w
 by_cases g3 : x < 4294967296
 ·exact zAX x (by omega) g3 w
 by_cases g4 : x < 1099511627776
 ·exact zAY x (by omega) g4 w
 by_cases g5 : x < 281474976710656
 ·exact zAZ x (by omega) g5 w
 by_cases g6 : x < 72057594037927936
 ·exact zA0 x (by omega) g6 w
 exact zA1 x (by omega) h1 w
end
section
open Go.RowKit
attribute [local irreducible] beL beK
theorem zu0 (w : World) (v : Value) (t : TypeId) : (w.alloc (.cells #[v] t)).cell? ⟨w.heap.size, 0, none⟩ = some v := by
 rw [cell_of_row _ _ _ _ _ _ (heap_alloc_new w (.cells #[v] t))]; rfl
theorem zdV {B : Nat} {w w' : World} {g o : Nat} {v : Value} (hb : Below B w w') (hg : g < B) (h : w.cell? ⟨g, o, none⟩ = some v) : w'.cell? ⟨g, o, none⟩ = some v := (hb.cell (p := ⟨g, o, none⟩) hg).trans h
end
section
open Go.RowKit
attribute [local irreducible] beL beK
theorem zxG (W n : Nat) (hW : W ≤ 8) (hn : n < 18446744073709551616) (w : World) :
  Calls Tryz.prog 66 #[.int .i64 W, .int .u64 n] w fun e w' => e = .returned (.bool (decide (n < 256 ^ W))) ∧ w = w' := by
 have hx : ((n : Int)) ≤ 18446744073709551615 := by omega
 have c := zuZ (n : Int) (by omega) hx
 rw [Int.toNat_natCast] at c
 have C := Lib.hid c
 clear c hx hn
 go_enter Tryz.func66, Tryz.ntmps66
 go_wp2_with (go_at_call 98; fail)
 refine (C.out _).mono ?_
 rintro e w' ⟨⟨r, rfl, hr⟩, rfl⟩
 have HR := Lib.hid (hr W)
 clear hr
 go_wp2
 go_ret
 refine ⟨?_, rfl⟩
 have e1 : decide ((r : Int) ≤ 8 * (W : Int)) = decide (n < 256 ^ W) := decide_eq_decide.2 ⟨fun h => HR.out.1 (by omega), fun h => by have := HR.out.2 h; omega⟩
 rw [← e1]
 rfl
theorem zxH (W n : Nat) (hW : W ≤ 8) (hn : n < 18446744073709551616) (g : Nat) (w : World) (hc : w.cell? ⟨g, 0, none⟩ = some (.int .i64 W)) :
  Calls Tryz.prog 65 #[.int .u64 n, .pointer (some ⟨g, 0, none⟩)] w fun e w' => e = .returned (.bool (!decide (n < 256 ^ W))) ∧ w = w' := by
 have HN := Lib.hid hn
 clear hn
 go_enter Tryz.func65, Tryz.ntmps65
 go_wp2_with (go_at_call 66; fail)
 refine (zxG W n hW HN.out _).mono ?_
 rintro e w' ⟨rfl, rfl⟩
 go_wp2
 go_ret
 exact ⟨rfl, rfl⟩
theorem zxI (W n : Nat) (hW : W ≤ 8) (hn : n < 18446744073709551616) (g h : Nat) (w : World) (hc : w.cell? ⟨g, 0, none⟩ = some (.int .i64 W)) (hx : w.cell? ⟨h, 0, none⟩ = some (.int .u64 n)) :
  Calls Tryz.prog 97 #[.slice (some ⟨h, 0, none⟩) 1 1, .func (.func 65) #[] #[.pointer (some ⟨g, 0, none⟩)]] w fun e w' => e = .returned (.int .i64 (if n < 256 ^ W then -1 else 0)) ∧ w = w' := by
 have HN := Lib.hid hn
 clear hn
 go_enter Tryz.func97, Tryz.ntmps97
 go_wp2
 go_loopg [8] 1 (fun k i wr => (k = 1 ∧ i = .int .i64 0 ∨ k = 0 ∧ i = .int .i64 1 ∧ n < 256 ^ W) ∧ w = wr)
 case atStart => exact ⟨.inl ⟨rfl, rfl⟩, rfl⟩
 case round =>
  obtain ⟨hr, rfl⟩ := hrel
  rcases hr with ⟨rfl, rfl⟩ | ⟨rfl, rfl, hlt⟩
  ·go_wp2_with (go_at_call 65; fail)
   refine (zxH W n hW HN.out g _ hc).mono ?_
   rintro e w' ⟨rfl, rfl⟩
   by_cases hf : n < 256 ^ W
   ·rw [decide_eq_true hf]
    have HF := Lib.hid hf
    clear hf
    go_wp2
    go_roundg 0
    case measure => omega
    case rel => exact ⟨.inr ⟨rfl, rfl, HF.out⟩, rfl⟩
   ·rw [decide_eq_false hf]
    have HF := Lib.hid hf
    clear hf
    go_wp2
    go_ret
    refine ⟨?_, rfl⟩
    first | rfl | (rw [if_neg HF.out]; rfl)
  ·have HF := Lib.hid hlt
   clear hlt
   go_wp2
   go_ret
   refine ⟨?_, rfl⟩
   first | rfl | (rw [if_pos HF.out]; rfl)
theorem zoY (W n : Nat) (hW : W ≤ 8) (hn : n < 18446744073709551616) (g h : Nat) (w : World) (hc : w.cell? ⟨g, 0, none⟩ = some (.int .i64 W)) (hx : w.cell? ⟨h, 0, none⟩ = some (.int .u64 n)) :
  Calls Tryz.prog 64 #[.slice (some ⟨h, 0, none⟩) 1 1, .func (.func 65) #[] #[.pointer (some ⟨g, 0, none⟩)]] w fun e w' => e = .returned (.bool (!decide (n < 256 ^ W))) ∧ w = w' := by
 have c := Lib.hid (zxI W n hW hn g h w hc hx)
 by_cases hf : n < 256 ^ W
 ·rw [decide_eq_true hf]
  rw [if_pos hf] at c
  clear hf hn
  go_enter Tryz.func64, Tryz.ntmps64
  go_wp2_with (go_at_call 97; fail)
  refine c.out.mono ?_
  rintro e w' ⟨rfl, rfl⟩
  go_wp2
  go_ret
  exact ⟨rfl, rfl⟩
 ·rw [decide_eq_false hf]
  rw [if_neg hf] at c
  clear hf hn
  go_enter Tryz.func64, Tryz.ntmps64
  go_wp2_with (go_at_call 97; fail)
  refine c.out.mono ?_
  rintro e w' ⟨rfl, rfl⟩
  go_wp2
  go_ret
  exact ⟨rfl, rfl⟩
end
end Go.Proofs.YtcmmpiaogfnmoaaGreatDoor
