/- The walks of layer 5: products. The walks of layer 5: differences, products, squares. The walks of layer 5: squares, and what numbers are divided by. A region that draws its order, with several new blocks: they lie apart. No program is in sight. A region that draws its order, each operation of its head told by itself, once, in any order: over what is owned and known. No program is in sight. Rows of words of 64 bits; what a call of the old make gives, over what is owned and known. No program is in sight. A region that draws its order, walked in each order of its calls and new blocks (a tree of  -/
import Derived.Test.YtcmmpiaogfnmoaaGreatDoorStateSecretsE
set_option linter.unusedSimpArgs false
set_option linter.unusedVariables false
set_option maxRecDepth 200000
set_option maxHeartbeats 6000000
namespace Go.Proofs.YtcmmpiaogfnmoaaGreatDoor
section
open Go.RowKit
attribute [local irreducible] zdO zdE zaR
theorem zBV : zic Tryz.prog 223 .u64 10 := by unfold zic; kernel_rfl
theorem zBW : zkd Tryz.prog 223 10 := ⟨_, Tryz.underlying223, rfl, by kernel_rfl⟩
def zjG (V : Nat → Nat) (i : Nat) : Nat := hlN (V (i / 2)) (i % 2)
theorem zpo (V : Nat → Nat) (c off j : Nat) (ho : off = c * 2) (hj : j < 2) : zjG V (off + j) = hlN (V c) j := by
 unfold zjG
 rw [show (off + j) / 2 = c from by omega, show (off + j) % 2 = j from by omega]
theorem zrf (F G : Nat → Nat) (n c off v : Nat) (ho : off = c * 2) (hc : (n / 5 + n % 5) % 5 = c) (hv : v = zdO F G n c + F (n / 5) * (if 5 ≤ n / 5 + n % 5 then 19 * G (n % 5) else G (n % 5))) (i : Nat) :
  zf2 (fun i => ((zjG (zdO F G n) i : Nat) : Int)) off 2 (fun j => ((hlN v j : Nat) : Int)) i = ((zjG (zdO F G (n + 1)) i : Nat) : Int) := by
 unfold zf2
 by_cases h : off ≤ i ∧ i < off + 2
 ·rw [if_pos h]
  unfold zjG
  rw [show i / 2 = c from by omega, show i % 2 = i - off from by omega, ziX, hv]
  unfold zbF
  rw [if_pos hc]
 ·rw [if_neg h]
  unfold zjG
  rw [ziX]
  unfold zbF
  rw [if_neg (by omega), Nat.add_zero]
theorem zvs (hi lo : Nat) (h : hi < 1125899906842624) (hl : lo < 18446744073709551616) : bits .or .u64 ((hi : Int) * 8192) ((lo : Int) / 2251799813685248) = ((hi * 8192 + lo / 2251799813685248 : Nat) : Int) := by
 have h1 := bits_or_u64_nat (hi * 8192) (lo / 2251799813685248) (by omega) (by omega)
 have e : hi * 8192 ||| lo / 2251799813685248 = hi * 8192 + lo / 2251799813685248 := by
  have := zu8 (lo / 2251799813685248) hi 13 (by omega)
  rw [Nat.or_comm, show (8192 : Nat) = 2 ^ 13 from rfl, this, Nat.add_comm]
 rw [e] at h1
 rw [← h1]
 congr 1
theorem zmb (F G : Nat → Nat) (hF : okF F 5) (hG : okF G 5) (w : World) :
  Calls Tryz.prog 167 #[.agg (arr .u64 5 fun i => ((F i : Nat) : Int)), .agg (arr .u64 5 fun i => ((G i : Nat) : Int))] w fun e w' => e = .returned (.agg (arr .u64 5 fun k => ((zcd F G k : Nat) : Int))) ∧ Below w.heap.size w w' := by
 go_enter Tryz.func167, Tryz.ntmps167
 obtain ⟨h0, h1, h2, hsz, hb⟩ := zmP w (.cells (arr .u64 5 fun i => ((F i : Nat) : Int)) 168) (.cells (arr .u64 5 fun i => ((G i : Nat) : Int)) 168) (.cells (arr .u64 5 fun _ => 0) 168)
 go_upto_region 1 with (refine zat rfl rfl zxb ?_)
 generalize ((w.alloc (.cells (arr .u64 5 fun i => ((F i : Nat) : Int)) 168)).alloc (.cells (arr .u64 5 fun i => ((G i : Nat) : Int)) 168)).alloc (.cells (arr .u64 5 fun _ => 0) 168) = wa at *
 (try simp only [Act.put, jA, jB, jC])
 obtain ⟨h3, hz3, bl⟩ := zhk wa (.cells (arr .u64 10 fun _ => 0) 223)
 go_upto_region 2 with (refine zat rfl rfl zBV ?_)
 replace h0 := zam bl (by omega) h0
 replace h1 := zam bl (by omega) h1
 replace h2 := zam bl (by omega) h2
 replace hb := hb.trans (bl.mono (by omega))
 rw [hsz] at h3 ⊢
 generalize wa.alloc (.cells (arr .u64 10 fun _ => 0) 223) = wb at *
 clear hz3 bl hsz
 (try simp only [Act.put, jA, jB, jC])
 go_wp2_with (refine zad rfl rfl rfl zbZ h0 ?_)
 have hF' := Lib.hid hF
 have hG' := Lib.hid hG
 have al := Lib.hid (zAa F G hF hG)
 clear hF hG
 go_loopg [18] 5 (fun n i wr => ∃ m : Nat, m + n = 5 ∧ i = .int .i64 m ∧ wr.heap[w.heap.size + 1]? = some (.cells (arr .u64 5 fun i => ((G i : Nat) : Int)) 168 (0, 0)) ∧ wr.heap[w.heap.size + 1 + 1]? = some (.cells (arr .u64 5 fun _ => 0) 168 (0, 0)) ∧
  wr.heap[w.heap.size + 3]? = some (.cells (arr .u64 10 fun i => ((zjG (zdO F G (5 * m)) i : Nat) : Int)) 223 (0, 0)) ∧ Below w.heap.size w wr)
 case atStart => exact ⟨0, rfl, rfl, h1, h2, zaz h3 (fun i _ => by unfold zjG hlN zdO; split <;> rfl), hb⟩
 case round =>
  clear h0 h1 h2 h3 hb
  obtain ⟨m, hm, rfl, h1, h2, h3, hB⟩ := hrel
  obtain ⟨go1, rfl⟩ : ∃ x, x = gk := ⟨_, rfl⟩
  have hm' := Lib.hid hm
  clear hm
  by_cases hlt : m < 5
  ·go_wp2_with (first | (refine za6 rfl rfl Tryz.underlying168 Tryz.underlying32 rfl znL rfl rfl (by omega) (by omega) (by omega) ?_) | (refine zad rfl rfl rfl zbZ h1 ?_))
   go_loopg [23] 5 (fun n i wr => ∃ j : Nat, j + n = 5 ∧ i = .int .i64 j ∧ wr.heap[w.heap.size + 1]? = some (.cells (arr .u64 5 fun i => ((G i : Nat) : Int)) 168 (0, 0)) ∧ wr.heap[w.heap.size + 1 + 1]? = some (.cells (arr .u64 5 fun _ => 0) 168 (0, 0)) ∧
    wr.heap[w.heap.size + 3]? = some (.cells (arr .u64 10 fun i => ((zjG (zdO F G (5 * m + j)) i : Nat) : Int)) 223 (0, 0)) ∧ Below w.heap.size w wr)
   case atStart => exact ⟨0, rfl, rfl, h1, h2, h3, hB⟩
   case round =>
    clear h1 h2 h3 hB
    obtain ⟨j, hj, rfl, h1, h2, h3, hB⟩ := hrel
    have hj' := Lib.hid hj
    clear hj
    by_cases hlj : j < 5
    ·have fb := hF'.out m hlt
     have gb := hG'.out j hlj
     by_cases hge : 5 ≤ m + j
     ·have vb := al.out (5 * m + j) (m + j - 5) (by omega)
      have pb : F m * (19 * G j) ≤ 4503599627370496 * (19 * 4503599627370496) := Nat.mul_le_mul (by omega) (by omega)
      go_wp2_with (first | (refine za6 rfl rfl Tryz.underlying168 Tryz.underlying32 rfl znL rfl rfl (by omega) (by omega) (by omega) ?_) | (refine zcH (off := (m + j - 5) * 2) (fun i => ((hlN (zdO F G (5 * m + j) (m + j - 5)) i : Nat) : Int)) rfl rfl rfl zfw h3 (by omega) (fun i hi => by rw [zpo _ (m + j - 5) _ i rfl hi]) ?_) | (go_at_call 185; fail))
      rw [show (19 * ((G j : Nat) : Int)) = ((19 * G j : Nat) : Int) from by omega]
      refine (zma (zdO F G (5 * m + j) (m + j - 5)) (F m) (19 * G j) (by omega) (by omega) (by omega) _).mono ?_
      rintro e w4 ⟨rfl, b4⟩
      replace h1 := zam b4 (jM h1) h1
      replace h2 := zam b4 (jM h2) h2
      replace h3 := zam b4 (jM h3) h3
      replace hB := hB.trans (b4.mono hB.size)
      clear b4
      go_wp2_with (refine zcT rfl rfl rfl rfl zfw h3 (by omega) ?_)
      go_roundg (gk - 1)
      case measure => have := hj'.out; omega
      case rel =>
       have hj'' := hj'.out
       have d1 : (5 * m + j) / 5 = m := by omega
       have d2 : (5 * m + j) % 5 = j := by omega
       exact ⟨j + 1, by omega, by go_num, zc9 h1 (by omega), zc9 h2 (by omega), zaz (zaF h3) (fun i _ => zrf F G (5 * m + j) (m + j - 5) _ _ rfl (by rw [d1, d2]; omega) (by rw [d1, d2, if_pos hge]) i), zaG hB (by omega) _⟩
     ·have vb := al.out (5 * m + j) (m + j) (by omega)
      have pb : F m * (G j) ≤ 4503599627370496 * (19 * 4503599627370496) := Nat.mul_le_mul (by omega) (by omega)
      go_wp2_with (first | (refine za6 rfl rfl Tryz.underlying168 Tryz.underlying32 rfl znL rfl rfl (by omega) (by omega) (by omega) ?_) | (refine zcH (off := (m + j) * 2) (fun i => ((hlN (zdO F G (5 * m + j) (m + j)) i : Nat) : Int)) rfl rfl rfl zfw h3 (by omega) (fun i hi => by rw [zpo _ (m + j) _ i rfl hi]) ?_) | (go_at_call 185; fail))
      refine (zma (zdO F G (5 * m + j) (m + j)) (F m) (G j) (by omega) (by omega) (by omega) _).mono ?_
      rintro e w4 ⟨rfl, b4⟩
      replace h1 := zam b4 (jM h1) h1
      replace h2 := zam b4 (jM h2) h2
      replace h3 := zam b4 (jM h3) h3
      replace hB := hB.trans (b4.mono hB.size)
      clear b4
      go_wp2_with (refine zcT rfl rfl rfl rfl zfw h3 (by omega) ?_)
      go_roundg (gk - 1)
      case measure => have := hj'.out; omega
      case rel =>
       have hj'' := hj'.out
       have d1 : (5 * m + j) / 5 = m := by omega
       have d2 : (5 * m + j) % 5 = j := by omega
       exact ⟨j + 1, by omega, by go_num, zc9 h1 (by omega), zc9 h2 (by omega), zaz (zaF h3) (fun i _ => zrf F G (5 * m + j) (m + j) _ _ rfl (by rw [d1, d2]; omega) (by rw [d1, d2, if_neg hge]) i), zaG hB (by omega) _⟩
    ·obtain rfl : j = 5 := by have := hj'.out; omega
     go_wp2
     go_roundg (go1 - 1)
     case measure => have := hm'.out; omega
     case rel =>
      have hm'' := hm'.out
      exact ⟨m + 1, by omega, by go_num, h1, h2, h3, hB⟩
  ·obtain rfl : m = 5 := by have := hm'.out; omega
   have vl : ∀ c, c < 5 → zdO F G 25 c < 10384593717069655257060992658440192 := fun c _ => al.out 25 c (by omega)
   have h3' : wr.heap[w.heap.size + 3]? = some (.cells (arr .u64 10 fun i => ((zjG (zdO F G 25) i : Nat) : Int)) 223 (0, 0)) := h3
   have ob := zvp (zdO F G 25) vl
   obtain ⟨V, hV⟩ : ∃ V, V = zdO F G 25 := ⟨_, rfl⟩
   rw [← hV] at vl h3' ob
   have hV' := Lib.hid hV
   clear h3 al hm' hV
   go_wp2_with (refine zad rfl rfl rfl zBW h3' ?_)
   have vl' := Lib.hid vl
   have ob' := Lib.hid ob
   clear h3' vl ob h1
   go_loopg [11, 47] 5 (fun n o i wr => ∃ m : Nat, m + n = 5 ∧ i = .int .i64 m ∧ o = .int .u64 ((ovN V m : Nat) : Int) ∧ wr.heap[w.heap.size + 1 + 1]? = some (.cells (arr .u64 5 fun i => ((if i < m then loN V i else 0 : Nat) : Int)) 168 (0, 0)) ∧ Below w.heap.size w wr)
   case atStart => exact ⟨0, rfl, rfl, (by unfold ovN; rfl), zaz h2 (fun i _ => by rw [if_neg (Nat.not_lt_zero i)]; rfl), hB⟩
   case round =>
    clear h2 hB
    obtain ⟨m, hm, rfl, rfl, h2, hB⟩ := hrel
    have hm' := Lib.hid hm
    clear hm
    by_cases hlt : m < 5
    ·have vb := vl'.out m hlt
     have ob := ob'.out m (by omega)
     obtain ⟨ga, hza, bla⟩ := zhk wr (.cells (arr .u64 2 fun _ => 0) 222)
     go_upto_region 18 with (first | (refine zhI rfl rfl Tryz.underlying223 zfw rfl rfl (by omega) (by omega) (by omega) (fun i => ((hlN (V m) i : Nat) : Int)) (fun i hi => by rw [zpo V m _ i (by omega) hi]) ?_) | (refine zat rfl rfl zz9 ?_) | (refine zah rfl rfl rfl rfl zfw ga ?_))
     have q13 := zaF (c' := arr .u64 2 fun i => ((hlN (V m) i : Nat) : Int)) ga
     have l2 := jM h2
     replace h2 := zc9 (g := wr.heap.size) (c' := arr .u64 2 fun i => ((hlN (V m) i : Nat) : Int)) (zam bla l2 h2) (Nat.ne_of_lt l2)
     have lB := hB.size
     replace hB := zaG (hB.trans (bla.mono hB.size)) hB.size (arr .u64 2 fun i => ((hlN (V m) i : Nat) : Int))
     clear ga hza bla
     generalize (wr.alloc (.cells (arr .u64 2 fun _ => 0) 222)).setRow wr.heap.size (arr .u64 2 fun i => ((hlN (V m) i : Nat) : Int)) = wq at *
     generalize wr.heap.size = BW at *
     (try simp only [Act.put, jA, jB, jC])
     go_wp2_with (first | (refine zad rfl rfl rfl zfw q13 ?_) | (go_at_call 185; fail))
     refine (zma (V m) (ovN V m) 1 (by omega) (by omega) (by omega) _).mono ?_
     rintro e w4 ⟨rfl, b4⟩
     rw [Nat.mul_one]
     replace h2 := zam b4 (jM h2) h2
     replace q13 := zam b4 (jM q13) q13
     replace hB := hB.trans (b4.mono hB.size)
     clear b4
     go_upto_region 19 with (refine zah rfl rfl rfl rfl zfw q13 ?_)
     replace h2 := zc9 (g := BW) (c' := arr .u64 2 fun i => ((hlN (V m + ovN V m) i : Nat) : Int)) h2 (Nat.ne_of_lt l2)
     replace hB := zaG hB lB (arr .u64 2 fun i => ((hlN (V m + ovN V m) i : Nat) : Int))
     replace q13 := zaF (c' := arr .u64 2 fun i => ((hlN (V m + ovN V m) i : Nat) : Int)) q13
     generalize w4.setRow BW (arr .u64 2 fun i => ((hlN (V m + ovN V m) i : Nat) : Int)) = w5 at *
     (try simp only [Act.put, jA, jB, jC])
     obtain ⟨hi, hhi⟩ : ∃ x, x = (V m + ovN V m) / 18446744073709551616 := ⟨_, rfl⟩
     obtain ⟨lo, hlo⟩ : ∃ x, x = (V m + ovN V m) % 18446744073709551616 := ⟨_, rfl⟩
     have c0 : w5.cell? ⟨BW, 0, none⟩ = some (.int .u64 (hi : Int)) := by rw [hhi]; exact za7 q13 0 (by omega)
     have c1 : w5.cell? ⟨BW, 1, none⟩ = some (.int .u64 (lo : Int)) := by rw [hlo]; exact za7 q13 1 (by omega)
     have am := ziV lo (by omega)
     have hib : hi < 1125899906842624 := by omega
     have lob : lo < 18446744073709551616 := by omega
     have hhi' := Lib.hid hhi
     have hlo' := Lib.hid hlo
     clear hhi hlo vb
     have l13 := jM q13
     have c2 := za7 h2 m hlt
     have fz := zb6 h2 m
     have orf := zvs hi lo hib lob
     obtain ⟨ov1, ho1⟩ : ∃ x, x = hi * 8192 + lo / 2251799813685248 := ⟨_, rfl⟩
     rw [← ho1] at orf
     have ho1' := Lib.hid ho1
     clear ho1
     go_region
     go_wp2
     go_roundg (gk - 1)
     case measure => have := hm'.out; omega
     case rel =>
      have hm'' := hm'.out
      have e1 := hhi'.out
      have e2 := hlo'.out
      have e3 := ho1'.out
      refine ⟨m + 1, by omega, by go_num, ?_, zaz (zcj h2 m _) (fun i _ => ?_), (hB.setCell (by show w.heap.size ≤ w.heap.size + 1 + 1; omega) _).drew⟩
      ·rw [zgw, e3, e1, e2]; congr 2; omega
      ·unfold upd
       by_cases h : i = m
       ·rw [if_pos h, h, if_pos (by omega)]
        unfold loN
        omega
       ·rw [if_neg h]
        dsimp only
        by_cases h2 : i < m
        ·rw [if_pos h2, if_pos (by omega)]
        ·rw [if_neg h2, if_neg (by omega)]
    ·obtain rfl : m = 5 := by have := hm'.out; omega
     have ob := ob'.out 5 (by omega)
     have fl := Lib.hid (zvq V vl'.out)
     replace h2 := zaz (f' := fun i => ((loN V i : Nat) : Int)) h2 (fun i hi => by rw [if_pos hi])
     have lb0 : loN V 0 < 2251799813685248 := Nat.mod_lt _ (by omega)
     have lb1 : loN V 1 < 2251799813685248 := Nat.mod_lt _ (by omega)
     obtain ⟨ov, hov⟩ : ∃ x, x = ovN V 5 := ⟨_, rfl⟩
     rw [← hov] at ob ⊢
     have hov' := Lib.hid hov
     clear hov
     go_wp2_with (go_at_call 186; fail)
     refine (znR ov 19 (by omega) (by omega) _).mono ?_
     rintro e w4 ⟨rfl, rfl⟩
     obtain ⟨mh, hmh⟩ : ∃ x, x = ov * 19 / 18446744073709551616 := ⟨_, rfl⟩
     obtain ⟨ml, hml⟩ : ∃ x, x = ov * 19 % 18446744073709551616 := ⟨_, rfl⟩
     obtain ⟨lz, hlz⟩ : ∃ x, x = loN V 0 := ⟨_, rfl⟩
     have c0 : wr.cell? ⟨w.heap.size + 1 + 1, 0, none⟩ = some (.int .u64 (lz : Int)) := by rw [hlz]; exact za7 h2 0 (by omega)
     have c1 := za7 h2 1 (by omega)
     have fz0 := zb6 h2 0
     have fz1 := zb6 h2 1
     rw [← hlz] at lb0
     rw [← hmh, ← hml]
     have ra := znS ml lz
     obtain ⟨al, hal⟩ : ∃ x, x = (ml + lz) % 18446744073709551616 := ⟨_, rfl⟩
     obtain ⟨ac, hac⟩ : ∃ x, x = (ml + lz) / 18446744073709551616 := ⟨_, rfl⟩
     rw [← hal, ← hac] at ra
     have am := ziV al (by omega)
     have hs : mh + ac < 1125899906842624 := by omega
     have orf := zvs (mh + ac) al hs (by omega)
     rw [Int.natCast_add] at orf
     obtain ⟨rr, hrr⟩ : ∃ x, x = (mh + ac) * 8192 + al / 2251799813685248 := ⟨_, rfl⟩
     rw [← hrr] at orf
     have rb : rr < 1125899906842624 := by omega
     have alb : al < 18446744073709551616 := by omega
     have t0 : al % 2251799813685248 = (19 * ov + lz) % 2251799813685248 := by omega
     have t1 : rr = (19 * ov + lz) / 2251799813685248 := by omega
     have T0 := Lib.hid t0
     have T1 := Lib.hid t1
     have HLZ := Lib.hid hlz
     clear hlz hmh hml hal hac hrr t0 t1
     go_upto_region 25 with (fail)
     have k2 := zaz (f' := fun i => ((ziY V i : Nat) : Int)) (zcj (zcj h2 0 (((al : Nat) : Int) % 2251799813685248)) 1 (((loN V 1 : Nat) : Int) + ((rr : Nat) : Int))) (fun i _ => by
      have e0 := T0.out
      have e1 := T1.out
      rw [HLZ.out, hov'.out] at e0 e1
      unfold upd ziY
      by_cases h1 : i = 1
      ·rw [if_pos h1, if_neg (by omega), if_pos h1, e1]; omega
      ·rw [if_neg h1, if_neg h1]
       by_cases h0 : i = 0
       ·rw [if_pos h0, if_pos h0, ← e0]; omega
       ·rw [if_neg h0, if_neg h0])
     have lB : w.heap.size ≤ w.heap.size + 1 + 1 := by omega
     have hBk := (hB.setCell (p := ⟨w.heap.size + 1 + 1, 0, none⟩) lB (.int .u64 (((al : Nat) : Int) % 2251799813685248))).setCell (p := ⟨w.heap.size + 1 + 1, 1, none⟩) lB (.int .u64 (((loN V 1 : Nat) : Int) + ((rr : Nat) : Int)))
     clear c0 c1 fz0 fz1 h2 hB
     go_wp2_with (first | (refine zad rfl rfl rfl zbZ k2 ?_) | (go_at_call 180; fail))
     refine (zeE (ziY V) fl.out _).mono ?_
     rintro e w4 ⟨rfl, b4⟩
     have e2 := zam b4 (jM k2) k2
     have hBe := hBk.trans (b4.mono hBk.size)
     go_wp2_with (refine zah rfl rfl rfl rfl zbZ e2 ?_)
     refine bodyPost_ret (zbJ rfl rfl zbZ (zaF e2)) rfl ⟨?_, zaG hBe (by omega) _⟩
     rw [hV'.out]
     rfl
end
section
open Go.RowKit
attribute [local irreducible] zdO zdE zaR zcd zc4 zcX
def znT (F G H : Nat → Nat) (i : Nat) : Nat := if okF F 5 ∧ okF G 5 then H i else 0
def mulN (F G : Nat → Nat) : Nat → Nat := znT F G (zcd F G)
def zFI (F G : Nat → Nat) : Nat → Nat := znT F G (zc4 (zcX F G))
theorem znU {F G : Nat → Nat} (h : okF F 5 ∧ okF G 5) (H : Nat → Nat) : znT F G H = H := by funext i; unfold znT; rw [if_pos h]
theorem zrg {F G : Nat → Nat} (h : ¬ (okF F 5 ∧ okF G 5)) (H : Nat → Nat) : znT F G H = fun _ => 0 := by funext i; unfold znT; rw [if_neg h]
theorem zBX (F G : Nat → Nat) (hF : ∀ i, i < 5 → F i < 18446744073709551616) (hG : ∀ i, i < 5 → G i < 18446744073709551616) (w : World) :
  Calls Tryz.prog 162 #[.agg (arr .u64 5 fun i => ((F i : Nat) : Int)), .agg (arr .u64 5 fun i => ((G i : Nat) : Int))] w fun e w' => e = .returned (.tuple #[.agg (arr .u64 5 fun k => ((mulN F G k : Nat) : Int)), .int .i64 (if okF F 5 ∧ okF G 5 then 0 else 1)]) ∧ Below w.heap.size w w' := by
 go_enter Tryz.func162, Tryz.ntmps162
 obtain ⟨h0, h1, h2, hsz, hb⟩ := zmP w (.cells (arr .u64 5 fun i => ((F i : Nat) : Int)) 168) (.cells (arr .u64 5 fun i => ((G i : Nat) : Int)) 168) (.cells (arr .u64 5 fun _ => 0) 168)
 go_upto_region 1 with (refine zat rfl rfl zxb ?_)
 generalize ((w.alloc (.cells (arr .u64 5 fun i => ((F i : Nat) : Int)) 168)).alloc (.cells (arr .u64 5 fun i => ((G i : Nat) : Int)) 168)).alloc (.cells (arr .u64 5 fun _ => 0) 168) = wa at *
 (try simp only [Act.put, jA, jB, jC])
 obtain ⟨g3, hz2, bl⟩ := zhk wa (.cells (arr .u64 10 fun i => ((zk6 F G i : Nat) : Int)) 168)
 rw [hsz] at g3
 go_wp2_with (first | (refine zad rfl rfl rfl zbZ h0 ?_) | (refine zad rfl rfl rfl zbZ h1 ?_) | (refine zcs rfl rfl Tryz.underlying217 (by simp [Act.eval, Act.put]) (ziR F G) ?_) | (go_at_call 164; fail))
 refine (zg4 2 10 rfl (by omega) (zk6 F G) (fun i hi => zpi F G _ hF hG i hi) _ _ _ g3).mono ?_
 rintro e w2 ⟨rfl, b2⟩
 have b3 := bl.trans (b2.mono (by omega))
 have q0 := zam b3 (by omega) h0
 have q1 := zam b3 (by omega) h1
 have q2 := zam b3 (by omega) h2
 have hB := hb.trans (b3.mono (by omega))
 clear b2 b3 bl g3 h0 h1 h2 hb hz2 hsz
 by_cases hq : okF F 5 ∧ okF G 5
 ·rw [show decide (okF (zk6 F G) 10) = true from decide_eq_true ((zg5 F G).2 hq)]
  have hq' := Lib.hid hq
  go_wp2_with (first | (refine zad rfl rfl rfl zbZ q0 ?_) | (refine zad rfl rfl rfl zbZ q1 ?_) | (go_at_call 167; fail))
  refine (zmb F G hq'.out.1 hq'.out.2 _).mono ?_
  rintro e w4 ⟨rfl, b4⟩
  have e2 := zam b4 (jM q2) q2
  have hBe := hB.trans (b4.mono hB.size)
  go_wp2_with (refine zah rfl rfl rfl rfl zbZ e2 ?_)
  refine bodyPost_ret (zaM rfl rfl rfl zbZ (zaF e2)) rfl ⟨?_, zaG hBe (by omega) _⟩
  unfold mulN
  rw [znU hq'.out]
  first | rfl | (rw [if_pos hq'.out]; rfl)
 ·rw [show decide (okF (zk6 F G) 10) = false from decide_eq_false fun h => hq ((zg5 F G).1 h)]
  go_wp2_with (first | (refine zbK rfl (zbQ rfl (by simp [Act.eval, Act.put]) ze8) ?_) | (refine zah rfl rfl rfl rfl zbZ q2 ?_))
  refine bodyPost_ret (zaM rfl rfl rfl zbZ (zaF q2)) rfl ⟨?_, zaG hB (by omega) _⟩
  unfold mulN
  rw [zrg hq]
  first | rfl | (rw [if_neg hq]; rfl)
theorem znV (F G : Nat → Nat) (m : Nat) (h : G m < 4503599627370496) : ((F m : Nat) : Int) + (4 * ((zsD m : Nat) : Int) - ((G m : Nat) : Int)) = ((zcX F G m : Nat) : Int) := by
 unfold zcX zsD
 split <;> omega
theorem zBY (F G : Nat → Nat) (hF : ∀ i, i < 5 → F i < 18446744073709551616) (hG : ∀ i, i < 5 → G i < 18446744073709551616) (w : World) :
  Calls Tryz.prog 161 #[.agg (arr .u64 5 fun i => ((F i : Nat) : Int)), .agg (arr .u64 5 fun i => ((G i : Nat) : Int))] w fun e w' => e = .returned (.tuple #[.agg (arr .u64 5 fun k => ((zFI F G k : Nat) : Int)), .int .i64 (if okF F 5 ∧ okF G 5 then 0 else 1)]) ∧ Below w.heap.size w w' := by
 go_enter Tryz.func161, Tryz.ntmps161
 obtain ⟨h0, h1, h2, hsz, hb⟩ := zmP w (.cells (arr .u64 5 fun i => ((F i : Nat) : Int)) 168) (.cells (arr .u64 5 fun i => ((G i : Nat) : Int)) 168) (.cells (arr .u64 5 fun _ => 0) 168)
 go_upto_region 1 with (refine zat rfl rfl zxb ?_)
 generalize ((w.alloc (.cells (arr .u64 5 fun i => ((F i : Nat) : Int)) 168)).alloc (.cells (arr .u64 5 fun i => ((G i : Nat) : Int)) 168)).alloc (.cells (arr .u64 5 fun _ => 0) 168) = wa at *
 (try simp only [Act.put, jA, jB, jC])
 obtain ⟨g3, hz2, bl⟩ := zhk wa (.cells (arr .u64 10 fun i => ((zk6 F G i : Nat) : Int)) 168)
 rw [hsz] at g3
 go_wp2_with (first | (refine zad rfl rfl rfl zbZ h0 ?_) | (refine zad rfl rfl rfl zbZ h1 ?_) | (refine zcs rfl rfl Tryz.underlying217 (by simp [Act.eval, Act.put]) (ziR F G) ?_) | (go_at_call 164; fail))
 refine (zg4 2 10 rfl (by omega) (zk6 F G) (fun i hi => zpi F G _ hF hG i hi) _ _ _ g3).mono ?_
 rintro e w2 ⟨rfl, b2⟩
 have b3 := bl.trans (b2.mono (by omega))
 have q0 := zam b3 (by omega) h0
 have q1 := zam b3 (by omega) h1
 have q2 := zam b3 (by omega) h2
 have hB := hb.trans (b3.mono (by omega))
 clear b2 b3 bl g3 h0 h1 h2 hb hz2 hsz
 by_cases hq : okF F 5 ∧ okF G 5
 ·rw [show decide (okF (zk6 F G) 10) = true from decide_eq_true ((zg5 F G).2 hq)]
  have hq' := Lib.hid hq
  go_wp2
  go_loopg [14] 5 (fun n i wr => ∃ m : Nat, m + n = 5 ∧ i = .int .i64 m ∧ wr.heap[w.heap.size]? = some (.cells (arr .u64 5 fun i => ((if i < m then zcX F G i else F i : Nat) : Int)) 168 (0, 0)) ∧
   wr.heap[w.heap.size + 1]? = some (.cells (arr .u64 5 fun i => ((G i : Nat) : Int)) 168 (0, 0)) ∧ wr.heap[w.heap.size + 1 + 1]? = some (.cells (arr .u64 5 fun _ => 0) 168 (0, 0)) ∧ Below w.heap.size w wr)
  case atStart => exact ⟨0, rfl, rfl, zaz q0 (fun i _ => by rw [if_neg (Nat.not_lt_zero i)]), q1, q2, hB⟩
  case round =>
   clear q0 q1 q2 hB
   obtain ⟨m, hm, rfl, q0, q1, q2, hB⟩ := hrel
   have hm' := Lib.hid hm
   clear hm
   by_cases hlt : m < 5
   ·have f1 := hq'.out.1 m hlt
    have f2 := hq'.out.2 m hlt
    have c0 := za7 q0 m hlt
    have c1 := za7 q1 m hlt
    have fz := zb6 q0 m
    simp only [Nat.lt_irrefl, if_false] at c0
    have dc := znV F G m f2
    by_cases h0 : m = 0
    all_goals
     first | (have hm0 : ((m : Int) == 0) = true := by simp [h0]) | (have hm0 : ((m : Int) == 0) = false := by simp [h0])
     have H0 := Lib.hid h0
     clear h0 dc
     go_wp2
     refine zbB 11 (by kernel_rfl) (by kernel_rfl) ?_
     (simp only [jH, jI, jF, jG])
     repeat (refine wpStill_step (fun K hK => ?_); go_simp; (try (simp only [↓IntWalk.iteOmega]; go_simp)); (try go_bits); refine hK _ ?_; clear hK K)
     refine wpStill_nil ?_
     go_wp2
     go_roundg (gk - 1)
     case measure => have := hm'.out; omega
     case rel =>
      have hm'' := hm'.out
      have h0 := H0.out
      have dc := znV F G m f2
      unfold zsD at dc
      first | rw [if_pos h0] at dc | rw [if_neg h0] at dc
      refine ⟨m + 1, by omega, by go_num, zaz (zcj q0 m _) (fun i _ => ?_), zck q1 _ _ (by omega), zck q2 _ _ (by omega), (hB.setCell (jV _) _).drew⟩
      unfold upd
      by_cases h : i = m
      ·rw [if_pos h, h, if_pos (by omega), ← dc]; omega
      ·rw [if_neg h]
       dsimp only
       by_cases h2 : i < m
       ·rw [if_pos h2, if_pos (by omega)]
       ·rw [if_neg h2, if_neg (by omega)]
   ·obtain rfl : m = 5 := by have := hm'.out; omega
    have p0 := zaz (f' := fun i => ((zcX F G i : Nat) : Int)) q0 (fun i hi => by rw [if_pos hi])
    clear q0
    go_wp2_with (first | (refine zad rfl rfl rfl zbZ p0 ?_) | (go_at_call 180; fail))
    refine (zeE (zcX F G) (fun i hi => zvr F G hq'.out.1 i hi) _).mono ?_
    rintro e w4 ⟨rfl, b4⟩
    have e2 := zam b4 (jM q2) q2
    have hBe := hB.trans (b4.mono hB.size)
    go_wp2_with (refine zah rfl rfl rfl rfl zbZ e2 ?_)
    refine bodyPost_ret (zaM rfl rfl rfl zbZ (zaF e2)) rfl ⟨?_, zaG hBe (by omega) _⟩
    unfold zFI
    rw [znU hq'.out]
    first | rfl | (rw [if_pos hq'.out]; rfl)
 ·rw [show decide (okF (zk6 F G) 10) = false from decide_eq_false fun h => hq ((zg5 F G).1 h)]
  go_wp2_with (first | (refine zbK rfl (zbQ rfl (by simp [Act.eval, Act.put]) ze8) ?_) | (refine zah rfl rfl rfl rfl zbZ q2 ?_))
  refine bodyPost_ret (zaM rfl rfl rfl zbZ (zaF q2)) rfl ⟨?_, zaG hB (by omega) _⟩
  unfold zFI
  rw [zrg hq]
  first | rfl | (rw [if_neg hq]; rfl)
end
section
open Go.RowKit
attribute [local irreducible] zdO zdE zaR zcd zc4 zcX
def sqN (F : Nat → Nat) : Nat → Nat → Nat
 | 0 => F
 | n + 1 => zcd (sqN F n) (sqN F n)
theorem ziZ (F : Nat → Nat) (hF : okF F 5) : ∀ n, okF (sqN F n) 5
 | 0 => hF
 | n + 1 => zeb _ _ (ziZ F hF n) (ziZ F hF n)
theorem zrh (F : Nat → Nat) (n : Nat) : sqN F (n + 1) = zcd (sqN F n) (sqN F n) := rfl
attribute [local irreducible] sqN
theorem zg8 (F : Nat → Nat) (hF : okF F 5) (N : Nat) (hN : N < 1000) (w : World) :
  Calls Tryz.prog 168 #[.agg (arr .u64 5 fun i => ((F i : Nat) : Int)), .int .i64 N] w fun e w' => e = .returned (.agg (arr .u64 5 fun k => ((sqN F N k : Nat) : Int))) ∧ Below w.heap.size w w' := by
 go_enter Tryz.func168, Tryz.ntmps168
 obtain ⟨h0, h1, hsz, hb⟩ := zhm w (.cells (arr .u64 5 fun i => ((F i : Nat) : Int)) 168) (.cells (arr .u64 5 fun _ => 0) 168)
 go_upto_region 1 with (refine zat rfl rfl zxb ?_)
 generalize (w.alloc (.cells (arr .u64 5 fun i => ((F i : Nat) : Int)) 168)).alloc (.cells (arr .u64 5 fun _ => 0) 168) = wa at *
 (try simp only [Act.put, jA, jB, jC])
 simp only [World.size_alloc]
 have hF' := Lib.hid hF
 clear hF hsz
 go_wp2
 go_loopg [6] N (fun n i wr => ∃ m : Nat, m + n = N ∧ i = .int .i64 m ∧ wr.heap[w.heap.size]? = some (.cells (arr .u64 5 fun i => ((sqN F m i : Nat) : Int)) 168 (0, 0)) ∧
  wr.heap[w.heap.size + 1]? = some (.cells (arr .u64 5 fun _ => 0) 168 (0, 0)) ∧ Below w.heap.size w wr)
 case atStart => exact ⟨0, by omega, rfl, (by unfold sqN; exact h0), h1, hb⟩
 case round =>
  clear h0 h1 hb
  obtain ⟨m, hm, rfl, h0, h1, hB⟩ := hrel
  have hm' := Lib.hid hm
  clear hm
  by_cases hlt : m < N
  ·have ok := Lib.hid (ziZ F hF'.out m)
   go_wp2_with (first | (refine zad rfl rfl rfl zbZ h0 ?_) | (go_at_call 167; fail))
   refine (zmb (sqN F m) (sqN F m) ok.out ok.out _).mono ?_
   rintro e w4 ⟨rfl, b4⟩
   replace h0 := zam b4 (jM h0) h0
   replace h1 := zam b4 (jM h1) h1
   replace hB := hB.trans (b4.mono hB.size)
   clear b4
   go_wp2_with (refine zah rfl rfl rfl rfl zbZ h0 ?_)
   go_roundg (gk - 1)
   case measure => have := hm'.out; omega
   case rel =>
    have hm'' := hm'.out
    exact ⟨m + 1, by omega, by go_num, (by rw [zrh]; exact zaF h0), zc9 h1 (by omega), zaG hB (jV _) _⟩
  ·obtain rfl : m = N := by have := hm'.out; omega
   go_wp2_with (first | (refine zad rfl rfl rfl zbZ h0 ?_) | (refine zah rfl rfl rfl rfl zbZ h1 ?_))
   exact bodyPost_ret (zbJ rfl rfl zbZ (zaF h1)) rfl ⟨rfl, zaG hB (by omega) _⟩
def zfO (X : Nat → Nat) (n : Nat) (Y : Nat → Nat) : Nat → Nat := zcd (sqN X n) Y
theorem zeF (X Y : Nat → Nat) (n : Nat) (hX : okF X 5) (hY : okF Y 5) : okF (zfO X n Y) 5 := zeb _ _ (ziZ X hX n) hY
theorem zyA (X Y : Nat → Nat) (hX : okF X 5) (hY : okF Y 5) (N : Nat) (hN : N < 1000) (w : World) :
  Calls Tryz.prog 166 #[.agg (arr .u64 5 fun i => ((X i : Nat) : Int)), .int .i64 N, .agg (arr .u64 5 fun i => ((Y i : Nat) : Int))] w fun e w' => e = .returned (.agg (arr .u64 5 fun k => ((zfO X N Y k : Nat) : Int))) ∧ Below w.heap.size w w' := by
 go_enter Tryz.func166, Tryz.ntmps166
 obtain ⟨h0, h1, h2, hsz, hb⟩ := zmP w (.cells (arr .u64 5 fun i => ((X i : Nat) : Int)) 168) (.cells (arr .u64 5 fun i => ((Y i : Nat) : Int)) 168) (.cells (arr .u64 5 fun _ => 0) 168)
 go_upto_region 1 with (refine zat rfl rfl zxb ?_)
 generalize ((w.alloc (.cells (arr .u64 5 fun i => ((X i : Nat) : Int)) 168)).alloc (.cells (arr .u64 5 fun i => ((Y i : Nat) : Int)) 168)).alloc (.cells (arr .u64 5 fun _ => 0) 168) = wa at *
 (try simp only [Act.put, jA, jB, jC])
 simp only [World.size_alloc]
 refine zjv 5 [Is (.agg (arr .u64 5 fun i => ((X i : Nat) : Int))), Is (.int .i64 N), Is (.agg (arr .u64 5 fun k => ((sqN X N k : Nat) : Int))), Is (.agg (arr .u64 5 fun i => ((Y i : Nat) : Int))), Is (.agg (arr .u64 5 fun k => ((zfO X N Y k : Nat) : Int)))]
  [[], [], [0, 1], [], [2, 3]] (by kernel_rfl) (by kernel_rfl) rfl (zii (zeT _) (zii (zeT _) (zii (zeT _) (zii (zeT _) (zii (zeT _) zDH))))) ?_ ?_
 ·(simp only [jH, jI, jF, jG, List.zip_cons_cons, List.zip_nil_left, List.zip_nil_right, zie, zs9, zhz, zc1, zcD, jD, jE, List.range_succ, List.range_zero, List.nil_append, List.cons_append, Act.put, jA, jB, jC])
  refine ⟨?_, ?_, ?_, ?_, ?_, trivial⟩
  ·intro x0 x1 x2 x3 x4 w' hb'
   exact zf4 rfl rfl rfl zbZ (zam hb' (jM (w := wa) h0) h0) rfl
  ·intro x0 x1 x2 x3 x4 w' hb'
   exact ztg rfl rfl rfl
  ·intro x0 x1 x2 x3 x4 w' hb' e0 e1
   unfold Is at e0 e1
   subst e0 e1
   refine ztf rfl (fun K hK => ?_)
   go_simp
   refine (zg8 X hX N hN _).mono ?_
   rintro e w4 ⟨rfl, b4⟩
   exact hK _ _ b4 rfl
  ·intro x0 x1 x2 x3 x4 w' hb'
   exact zf4 rfl rfl rfl zbZ (zam hb' (jM (w := wa) h1) h1) rfl
  ·intro x0 x1 x2 x3 x4 w' hb' e0 e1
   unfold Is at e0 e1
   subst e0 e1
   refine ztf rfl (fun K hK => ?_)
   go_simp
   refine (zmb _ Y (ziZ X hX N) hY _).mono ?_
   rintro e w4 ⟨rfl, b4⟩
   exact hK _ _ b4 rfl
 ·(simp only [jH, jI, jF, jG, List.zip_cons_cons, List.zip_nil_left, List.zip_nil_right, zie, zs9, zhz, zc1, zcD, jD, jE, List.range_succ, List.range_zero, List.nil_append, List.cons_append, Act.put, jA, jB, jC])
  intro x0 x1 x2 x3 x4 w' hb' e0 e1 e2 e3 e4
  unfold Is at e0 e1 e2 e3 e4
  subst e0 e1 e2 e3 e4
  replace h2 := zam hb' (jM (w := wa) h2) h2
  have hB := (hb.drew).trans (hb'.mono hb.size)
  go_wp2_with (refine zah rfl rfl rfl rfl zbZ h2 ?_)
  exact bodyPost_ret (zbJ rfl rfl zbZ (zaF h2)) rfl ⟨rfl, zaG hB (by omega) _⟩
end
section
open Go.RowKit
def zbs (o : Oper) : Bool := match o.op with | .alloc _ => true | _ => false
def zri (v : Value) (w : World) : Prop := ∃ B, v = .pointer (some ⟨B, 0, none⟩) ∧ B < w.heap.size
theorem zri.below {v : Value} {w w' : World} (h : zri v w) (hb : Below w.heap.size w w') : zri v w' := by
 obtain ⟨B, rfl, hB⟩ := h
 exact ⟨B, rfl, jT hB hb.size⟩
def zg9 (w : World) : Addr := ⟨w.heap.size, 0, none⟩
def zeG (P : Program) (ops : Array Oper) (Q : Exit → Act → World → Prop) (o : Oper) (r : zfX) (a : Act) (w : World) : Prop :=
 match o.op with
 | .alloc _ => Region.wanted o (yielded ops a.tmps) = true ∧ (∃ b, (execOp a.eval o).run P w = .ok (.value (.pointer (some (zg9 w)))) (w.alloc b) ∧ r (.pointer (some (zg9 w))) (w.alloc b))
 | _ => zdQ P ops Q o r a w
def zhZ (P : Program) (ops : Array Oper) (Q : Exit → Act → World → Prop) (n : Nat) (hd : List Oper) (a : Act) (w0 : World) (R : List zfX) : List (Oper × zfX × List Nat) → Prop
 | [] => True
 | (o, r, js) :: l => (zs9 n fun xs => ∀ w', Below w0.heap.size w0 w' → zhz R xs w' js (zeG P ops Q o r (zcD hd a xs) w')) ∧ zhZ P ops Q n hd a w0 R l
def zcY (xs : List Value) (i j : Nat) : Prop := match xs[i]?, xs[j]? with | some x, some y => x ≠ y | _, _ => True
def zrj (xs : List Value) : List (Nat × Nat) → Prop → Prop
 | [], p => p
 | d :: ds, p => zcY xs d.1 d.2 → zrj xs ds p
theorem znX {xs : List Value} {p : Prop} : ∀ (ds : List (Nat × Nat)), zrj xs ds p → (∀ d ∈ ds, zcY xs d.1 d.2) → p
 | [], h, _ => h
 | d :: ds, h, hd => znX ds (h (hd d (by simp))) (fun k hk => hd k (by simp [hk]))
def zrk (l : List Oper) (n : Nat) (D : List (Nat × Nat)) : Bool :=
 D.all fun d => decide (d.1 < d.2) && decide (d.2 < n) && (match l[d.1]? with | some o => zbs o | none => false) && (match l[d.2]? with | some o => zbs o | none => false)
section
variable {P : Program} {Q : Exit → Act → World → Prop} {l : List Oper} {n : Nat} {a : Act} {w0 : World}
theorem zhp {R : List zfX} {hd : List Oper} : ∀ (items : List (Oper × zfX × List Nat)), zhZ P l.toArray Q n hd a w0 R items → ∀ (i : Nat) (o : Oper) (r : zfX) (js : List Nat), items[i]? = some (o, r, js) →
  zs9 n fun xs => ∀ w', Below w0.heap.size w0 w' → zhz R xs w' js (zeG P l.toArray Q o r (zcD hd a xs) w')
 | [], _, _, _, _, _, h => by simp at h
 | (o', r', js') :: items, h, 0, o, r, js, hi => by
  simp only [jD, Option.some.injEq, Prod.mk.injEq] at hi
  obtain ⟨rfl, rfl, rfl⟩ := hi
  exact h.1
 | (o', r', js') :: items, h, i + 1, o, r, js, hi => zhp items h.2 i o r js (by simpa using hi)
theorem zsE {o : Oper} (h : zbs o = true) : ∃ ty, o.op = .alloc ty := by
 unfold zbs at h
 split at h
 ·rename_i ty he
  exact ⟨ty, he⟩
 ·cases h
structure ApInv (l : List Oper) (n : Nat) (listed : Array Bool) (xs : List Value) (w : World) : Prop where
 inh : ∀ k o, k < n → l[k]? = some o → zbs o = true → listed.getD k true = true → ∀ x, xs[k]? = some x → zri x w
 ap : ∀ i j o o', i < n → j < n → l[i]? = some o → l[j]? = some o' → zbs o = true → zbs o' = true → listed.getD i true = true → listed.getD j true = true → i ≠ j → zcY xs i j
theorem zEA {D : List (Nat × Nat)} {listed : Array Bool} {xs : List Value} {w : World} (hD : zrk l n D = true) (h : ApInv l n listed xs w) (hl : ∀ i, i < n → listed.getD i true = true) : ∀ d ∈ D, zcY xs d.1 d.2 := by
 intro d hd
 unfold zrk at hD
 rw [List.all_eq_true] at hD
 have h1 := hD d hd
 simp only [Bool.and_eq_true, jS] at h1
 obtain ⟨⟨⟨h2, h3⟩, h4⟩, h5⟩ := h1
 split at h4
 ·rename_i o ho
  split at h5
  ·rename_i o' ho'
   exact h.ap d.1 d.2 o o' (by omega) h3 ho ho' h4 h5 (hl _ (by omega)) (hl _ h3) (by omega)
  ·cases h5
 ·cases h4
theorem zsF {xs : List Value} {i j : Nat} (h : zcY xs i j) : zcY xs j i := by
 unfold zcY at *
 split
 ·rename_i x y hx hy
  rw [hx, hy] at h
  exact Ne.symm h
 ·trivial
theorem zEB {listed : Array Bool} {xs : List Value} {w w2 : World} {j : Nat} {oj : Oper} {v : Value} (h : ApInv l n listed xs w) (hoj : l[j]? = some oj) (hx : xs.length = n) (hj : j < n) (hjl : listed.getD j true = false) (hb : Below w.heap.size w w2)
  (hal : zbs oj = true → v = .pointer (some (zg9 w)) ∧ w.heap.size < w2.heap.size) : ApInv l n (listed.setIfInBounds j true) (xs.set j v) w2 := by
 have key : ∀ k o', k < n → l[k]? = some o' → zbs o' = true → listed.getD k true = true → k ≠ j → zbs oj = true → zcY (xs.set j v) k j := by
  intro k o' hk ho' ha' hl hkj ha
  obtain ⟨rfl, _⟩ := hal ha
  unfold zcY
  rw [List.getElem?_set_ne (Ne.symm hkj), List.getElem?_set_self (by omega)]
  split
  ·rename_i x y hx1 hy1
   injection hy1 with hy1
   subst hy1
   obtain ⟨B, rfl, hB⟩ := h.inh k o' hk ho' ha' hl _ hx1
   intro e
   injection e with e
   injection e with e
   unfold zg9 at e
   injection e with e
   omega
  ·trivial
 refine ⟨fun k o hk ho ha hl x hxk => ?_, fun i k o o' hi hk ho ho' ha ha' hli hlk hne => ?_⟩
 ·by_cases hkj : k = j
  ·subst hkj
   obtain rfl : o = oj := by rw [hoj] at ho; exact (Option.some.inj ho).symm
   obtain ⟨rfl, h2⟩ := hal ha
   rw [List.getElem?_set_self (by omega)] at hxk
   obtain rfl := Option.some.inj hxk
   exact ⟨_, rfl, h2⟩
  ·rw [List.getElem?_set_ne (Ne.symm hkj)] at hxk
   rw [getD_set_ne true (Ne.symm hkj)] at hl
   exact (h.inh k o hk ho ha hl x hxk).below hb
 ·by_cases hij : i = j
  ·subst hij
   obtain rfl : o = oj := by rw [hoj] at ho; exact (Option.some.inj ho).symm
   rw [getD_set_ne true hne] at hlk
   exact zsF (key k o' hk ho' ha' hlk (Ne.symm hne) ha)
  ·by_cases hkj : k = j
   ·subst hkj
    obtain rfl : o' = oj := by rw [hoj] at ho'; exact (Option.some.inj ho').symm
    rw [getD_set_ne true (Ne.symm hij)] at hli
    exact key i o hi ho ha hli hij ha'
   ·rw [getD_set_ne true (Ne.symm hij)] at hli
    rw [getD_set_ne true (Ne.symm hkj)] at hlk
    have := h.ap i k o o' hi hk ho ho' ha ha' hli hlk hne
    unfold zcY at this ⊢
    rw [List.getElem?_set_ne (Ne.symm hij), List.getElem?_set_ne (Ne.symm hkj)]
    exact this
theorem zi0 {id : Nat} {w : World} (n : Nat) (R : List zfX) (ps : List (List Nat)) (D : List (Nat × Nat)) (hm : P.follows .mixedOrders = true) (hB : zig l n ps = true) (hD : zrk l n D = true) (hR : R.length = n) (hst : ∀ r ∈ R, zki r)
  (hop : zhZ P l.toArray Q n (l.take n) a w.drew R ((l.take n).zip (R.zip ps)))
  (hend : zs9 n fun xs => ∀ w', Below w.heap.size w.drew w' → zhz R xs w' (List.range n) (zrj xs D (wpList P l.toArray Q (l.drop n) (zcD (l.take n) a xs) w'))) : (Code.region id l.toArray true).wp P Q a w := by
 simp only [zig, Bool.and_eq_true, jS] at hB
 obtain ⟨⟨⟨⟨⟨⟨⟨hsel, hn⟩, hp⟩, hs⟩, hc⟩, hd⟩, hps⟩, hseq⟩ := hB
 have hn' : n < l.toArray.size := by simpa using hn
 have inv0 : HeadInv .any l.toArray n (Array.replicate l.toArray.size false) :=
  ⟨by simp, fun j oj _ hl => (by rw [getD_replicate_false] at hl; cases hl), fun t _ ht => getD_in (by simpa using ht) (getD_replicate_false _ _)⟩
 have main : ∀ (f : Nat) (listed : Array Bool) (xs : List Value) (w' : World), HeadInv .any l.toArray n listed → zgS n listed = f → xs.length = n → Below w.heap.size w.drew w' →
   (∀ j, j < n → listed.getD j true = true → zc1 R xs w' j) → ApInv l n listed xs w' →
   wpAnyC P .any l.toArray Q (fun _ => True) n (fun listed' a' w' => Region.seqB .any l.toArray (l.toArray.size - n) n listed' = true ∧ wpList P l.toArray Q (l.drop n) a' w') f listed (zcD (l.take n) a xs) w' := by
  intro f
  induction f with
  | zero =>
   intro listed xs w' inv hr hx hb hf hap
   refine ⟨?_, znX D (zf3 _ (zid n _ hend xs hx w' hb) (fun j hj => hf j (List.mem_range.1 hj) (zdi n listed hr j (List.mem_range.1 hj)))) (zEA hD hap (zdi n listed hr))⟩
   have e : listed = (List.replicate n true ++ List.replicate (l.length - n) false).toArray := by
    apply Array.ext_getElem?
    intro i
    have hsz := inv.size
    simp only [List.size_toArray] at hsz
    by_cases hi : i < n
    ·have h1 := zdi n listed hr i hi
     have h2 : i < listed.size := by omega
     simp [h2] at h1
     simp [List.getElem?_append, hi, h2, h1]
    ·by_cases hi2 : i < l.length
     ·have h1 := inv.tail i (by omega) (by simpa using hi2)
      have h2 : i < listed.size := by omega
      simp [h2] at h1
      simp only [jL, List.getElem?_append, List.length_replicate, hi, if_false, List.getElem?_replicate]
      rw [if_pos (by omega), Array.getElem?_eq_getElem h2, h1]
     ·rw [Array.getElem?_eq_none (by omega)]
      simp only [jL, List.getElem?_append, List.length_replicate, hi, if_false, List.getElem?_replicate]
      rw [if_neg (by omega)]
   rw [e]
   simpa using hseq
  | succ f ih =>
   intro listed xs w' inv hr hx hb hf hap
   obtain ⟨i, hi, hil, hmin⟩ := zkh n listed hr
   refine ⟨?_, fun j hj => ?_⟩
   ·intro h0
    obtain ⟨o, ho, he, _⟩ := zcE l ps 0 hps i ps[i] (by simp)
    have : i ∈ Region.ready .any l.toArray listed := mem_ready.2 ⟨hil, o, by simpa using ho, fun e hee hbe => by
     have h1 := he e hee hbe
     have h2 := hmin e.on (by omega)
     have h3 : e.on < listed.size := by rw [inv.size]; simp; omega
     simp [h3] at h2 ⊢
     exact h2⟩
    rw [h0] at this
    cases this
   ·have hjn : j < n := by
     rcases Nat.lt_or_ge j n with h | h
     ·exact h
     ·exact absurd hj (tail_waits hs hc hn' inv _ i rfl hi hil j h)
    refine ⟨hjn, ?_⟩
    obtain ⟨hjl, oj, hoj, hall⟩ := mem_ready.1 hj
    have hoj' : l[j]? = some oj := by simpa using hoj
    have hjp : j < ps.length := by omega
    have hjR : j < R.length := by omega
    have hit : ((l.take n).zip (R.zip ps))[j]? = some (oj, R[j], ps[j]) := by
     rw [List.getElem?_zip_eq_some]
     refine ⟨by rw [List.getElem?_take, if_pos hjn]; exact hoj', ?_⟩
     rw [List.getElem?_zip_eq_some]
     exact ⟨by simp [hjR], by simp [hjp]⟩
    obtain ⟨oj', hoj2, _, hpj⟩ := zcE l ps 0 hps j ps[j] (by simp [hjp])
    obtain rfl : oj' = oj := by
     rw [Nat.zero_add, hoj'] at hoj2
     exact (Option.some.inj hoj2).symm
    have hfree := zf3 _ (zid n _ (zhp _ hop j oj' R[j] ps[j] hit) xs hx w' hb) (fun k hk => by
     obtain ⟨e, hee, hbe, hek⟩ := hpj k hk
     have h1 := hall e hee hbe
     rw [hek] at h1
     by_cases hkn : k < n
     ·refine hf k hkn ?_
      by_cases h2 : k < listed.size
      ·simp [h2] at h1 ⊢; exact h1
      ·simp [Array.getElem?_eq_none (Nat.le_of_not_lt h2)] at h1
     ·unfold zc1
      rw [List.getElem?_eq_none (l := R) (by omega)]
      trivial)
    have go : ∀ (v : Value) (w2 : World), Below w'.heap.size w' w2 → R[j] v w2 → (zbs oj' = true → v = .pointer (some (zg9 w')) ∧ w'.heap.size < w2.heap.size) →
      wpAnyC P .any l.toArray Q (fun _ => True) n (fun listed' a' w' => Region.seqB .any l.toArray (l.toArray.size - n) n listed' = true ∧ wpList P l.toArray Q (l.drop n) a' w') f (listed.setIfInBounds j true) ((zcD (l.take n) a xs).put oj'.dst v) w2 := by
     intro v w2 hb2 hv hal
     rw [zkf (l.take n) j oj' a xs v hd (by rw [List.getElem?_take, if_pos hjn]; exact hoj') (by omega)]
     refine ih _ _ _ (inv.set hj hjn) ?_ (by simpa using hx) (hb.trans (hb2.mono hb.size)) (fun k hk hkl => ?_) (zEB hap hoj' hx hjn hjl hb2 hal)
     ·have := zkg n listed j hjn hjl
      omega
     ·by_cases hkj : k = j
      ·subst hkj
       unfold zc1
       simp only [jP hjR, List.getElem?_set_self (show k < xs.length by omega)]
       exact hv
      ·have h1 := hf k hk (by rwa [getD_set_ne true (Ne.symm hkj)] at hkl)
       unfold zc1 at h1 ⊢
       rw [List.getElem?_set_ne (Ne.symm hkj)]
       have hkR : k < R.length := by omega
       have hkx : k < xs.length := by omega
       simp only [jP hkR, jP hkx] at h1 ⊢
       exact hst _ (List.getElem_mem hkR) _ _ _ hb2 h1
    unfold wpOp
    simp only [hoj]
    by_cases hA : zbs oj' = true
    ·obtain ⟨ty, hop2⟩ := zsE hA
     unfold zeG at hfree
     rw [hop2] at hfree
     obtain ⟨hw, b, hrun, hr2⟩ := hfree
     rw [if_pos hw]
     refine .inl ?_
     unfold Oper.wp
     rw [hrun]
     exact ⟨trivial, go _ _ ((Below.refl _ _).alloc (jV _) _) hr2 (fun _ => ⟨rfl, by simp⟩)⟩
    ·have hfree : zdQ P l.toArray Q oj' R[j] (zcD (l.take n) a xs) w' := by
      unfold zeG at hfree
      unfold zbs at hA
      split at hfree
      ·rename_i ty he
       rw [he] at hA
       exact absurd rfl hA
      ·exact hfree
     unfold zdQ at hfree
     split
     ·rename_i hw
      rw [if_pos hw] at hfree
      refine .inl (Oper.wp_mono (fun a' w2 h => ?_) hfree)
      obtain ⟨hb2, v, rfl, hv⟩ := h
      exact ⟨trivial, go v w2 hb2 hv (fun h => absurd h hA)⟩
     ·rename_i hw
      rw [if_neg hw] at hfree
      exact ⟨trivial, go undef w' (Below.refl _ _) hfree (fun h => absurd h hA)⟩
 obtain ⟨xs0, hx0, hf0⟩ := zke (l.take n) a
 have H := main n (Array.replicate l.toArray.size false) xs0 w.drew inv0 (by
  unfold zgS
  rw [List.filter_eq_self.2 (fun i hi => ?_)]
  ·simp
  ·have := List.mem_range.1 hi
   have : i < l.length := by omega
   simp [this]) (by simp at hx0; omega) (Below.refl _ _) (fun j hj hl => by
  have : j < l.length := by omega
  simp [this] at hl) ⟨fun k o hk ho ha hl => by
  have : k < l.length := by omega
  simp [this] at hl, fun i j o o' hi hj ho ho' ha ha' hl => by
  have : i < l.length := by omega
  simp [this] at hl⟩
 rw [hf0] at H
 refine wp_region_any hm ?_
 have hdl : (l.drop n).length = l.toArray.size - n := by simp
 have := wpAny_of_anyC (g := l.toArray.size - n) (fun listed a' w' hL => by
  have := wpAny_of_seq (md := .any) (Q' := Q) (l.drop n) n listed a' w' (fun j => by simp [List.getElem?_drop]) (by rw [hdl]; exact hL.1) hL.2
  rwa [hdl] at this) _ _ _ _ H
 rw [show n + (l.toArray.size - n) = l.toArray.size by omega] at this
 exact this
variable {ops : Array Oper} {o : Oper} {r : zfX} {w : World}
theorem zyB (h : zdQ P ops Q o r a w) (ho : zbs o = false) : zeG P ops Q o r a w := by
 unfold zeG
 unfold zbs at ho
 split
 ·rename_i ty he
  rw [he] at ho
  cases ho
 ·exact h
end
end
section
open Go.RowKit
inductive Fk where
 | v (x : Value)
 | n (z : List Chunk) (ty : TypeId)
def Fk.val : Fk → Option Value
 | .v x => some x
 | .n _ _ => none
def Fk.fact (m : Nat) : Fk → zfX
 | .v x => Is x
 | .n z ty => zDI m (.cells (ca z) ty (0, 0))
def zfP : List (Option Nat) → List (Option Value) → List (Nat × Value) → List (Nat × Value)
 | some d :: ds, some x :: ks, l => zfP ds ks ((d, x) :: l)
 | some _ :: ds, none :: ks, l => zfP ds ks l
 | none :: ds, _ :: ks, l => zfP ds ks l
 | [], _, l => l
 | _ :: _, [], l => l
def zpp (js : List Nat) : Nat → List Fk → List (Option Value)
 | _, [] => []
 | i, f :: fs => (bif js.any (Nat.beq i) then f.val else none) :: zpp js (i + 1) fs
def zEC (d : Nat) : List (Nat × Value) → Bool
 | [] => false
 | p :: l => Nat.beq p.1 d || zEC d l
def zvt (N : Nat) : List (Option Nat) → List (Nat × Value) → Bool
 | [], _ => true
 | some d :: ds, l => !zEC d l && !(ds.any fun e => match e with | some e => Nat.beq d e | none => false) && Nat.blt d N && zvt N ds l
 | none :: ds, l => zvt N ds l
section
variable {a : Act} {N : Nat} {l : List (Nat × Value)}
theorem zrm {d : Nat} {u : Value} : ∀ {l : List (Nat × Value)}, zfm l d = some u → zEC d l = true
 | p :: l, h => by
  obtain ⟨e, v⟩ := p
  unfold zfm at h
  unfold zEC
  cases hb : Nat.beq e d with
  | true => rfl
  | false =>
   rw [hb] at h
   simp only [cond_false] at h
   rw [zrm h, Bool.or_true]
theorem Env.putU (E : Env a N l) {d : Nat} (x : Value) (h : zEC d l = false) : Env (a.put (some d) x) N l := by
 refine ⟨E.defers, by simp [Act.put, E.size], fun i u hi => ?_⟩
 have hne : d ≠ i := fun e => by
  subst e
  rw [zrm hi] at h
  cases h
 have h1 := E.val i u hi
 rw [← h1]
 show (a.tmps.setIfInBounds d x).getD i undef = _
 simp only [jN]
 rw [Array.getElem?_setIfInBounds_ne hne]
theorem zi1 {N d : Nat} {x : Value} : ∀ {ds : List (Option Nat)} {l : List (Nat × Value)}, zvt N ds l = true → (ds.any fun e => match e with | some e => Nat.beq d e | none => false) = false → zvt N ds ((d, x) :: l) = true
 | [], _, _, _ => rfl
 | none :: ds, l, h, hd => by
  unfold zvt at h ⊢
  simp only [List.any_cons, Bool.false_or] at hd
  exact zi1 h hd
 | some e :: ds, l, h, hd => by
  unfold zvt at h ⊢
  simp only [List.any_cons, Bool.or_eq_false_iff] at hd
  simp only [Bool.and_eq_true, Bool.not_eq_true'] at h ⊢
  obtain ⟨⟨⟨h1, h2⟩, h3⟩, h4⟩ := h
  refine ⟨⟨⟨?_, h2⟩, h3⟩, zi1 h4 hd.2⟩
  unfold zEC
  rw [hd.1, h1]
  rfl
theorem Env.fill : ∀ (hd : List Oper) (ds : List (Option Nat)) (xs : List Value) (ks : List (Option Value)) {a : Act} {l : List (Nat × Value)}, hd.map (·.dst) = ds → xs.length = hd.length → ks.length = hd.length → zvt N ds l = true →
  (∀ (i : Nat) (v : Value), ks[i]? = some (some v) → xs[i]? = some v) → Env a N l → Env (zcD hd a xs) N (zfP ds ks l)
 | [], ds, xs, ks, a, l, hds, hx, hk, hB, hv, E => by
  subst hds
  cases ks with
  | nil => exact E
  | cons k ks => simp at hk
 | o :: hd, ds, xs, ks, a, l, hds, hx, hk, hB, hv, E => by
  subst hds
  cases xs with
  | nil => simp at hx
  | cons x xs =>
   cases ks with
   | nil => simp at hk
   | cons k ks =>
    have hx' : xs.length = hd.length := by simpa using hx
    have hk' : ks.length = hd.length := by simpa using hk
    have hv' : ∀ (i : Nat) (v : Value), ks[i]? = some (some v) → xs[i]? = some v := fun i v h => by simpa using hv (i + 1) v (by simpa using h)
    have h0 := hv 0
    rw [List.map_cons] at hB ⊢
    show Env (zcD hd (a.put o.dst x) xs) N _
    cases hd0 : o.dst with
    | none =>
     rw [hd0] at hB
     have hB' : zvt N (hd.map (·.dst)) l = true := by unfold zvt at hB; exact hB
     have := Env.fill hd _ xs ks (a := a.put none x) (l := l) rfl hx' hk' hB' hv' E.none_
     cases k <;> exact this
    | some d =>
     rw [hd0] at hB
     unfold zvt at hB
     simp only [Bool.and_eq_true, Bool.not_eq_true'] at hB
     obtain ⟨⟨⟨h1, h2⟩, h3⟩, h4⟩ := hB
     cases k with
     | none => exact Env.fill hd _ xs ks rfl hx' hk' h4 hv' (E.putU x h1)
     | some v =>
      have hxv : x = v := by simpa using h0 v rfl
      subst hxv
      exact Env.fill hd _ xs ks rfl hx' hk' (zi1 h4 h2) hv' (E.put h3)
end
theorem zpq : ∀ (n : Nat) (p : List Value → Prop), (∀ xs, xs.length = n → p xs) → zs9 n p
 | 0, p, h => h [] rfl
 | n + 1, p, h => fun x => zpq n _ fun xs hx => h (x :: xs) (by simp [hx])
theorem zmc {R : List zfX} {xs : List Value} {w : World} {p : Prop} : ∀ (js : List Nat), ((∀ j ∈ js, zc1 R xs w j) → p) → zhz R xs w js p
 | [], h => h fun j hj => by cases hj
 | j :: js, h => fun hj => zmc js fun hjs => h fun k hk => by
   rcases List.mem_cons.1 hk with rfl | hk
   ·exact hj
   ·exact hjs k hk
theorem znY {xs : List Value} {p : Prop} : ∀ (ds : List (Nat × Nat)), ((∀ d ∈ ds, zcY xs d.1 d.2) → p) → zrj xs ds p
 | [], h => h fun d hd => by cases hd
 | d :: ds, h => fun hd => znY ds fun hds => h fun k hk => by
   rcases List.mem_cons.1 hk with rfl | hk
   ·exact hd
   ·exact hds k hk
section
variable {P : Program} {ops : Array Oper} {Q : Exit → Act → World → Prop} {o : Oper} {a : Act} {w w' w0 : World} {N : Nat} {l : List (Nat × Value)} {X G : List Nat} {L : List Res} {R : List (World → Prop)} {ds : List (Option Nat)} {Fs : List Fk}
theorem Sep.ownL (h : Sep X G w0 w L R) (hb : Frm [] w w') (qs : List Res) (hq : ∀ q ∈ qs, q.holds w') (hk : ∀ k ∈ zac qs, w.heap.size ≤ k) (hnd : (zac qs).Nodup) : Sep X G w0 w' (qs ++ L) R := by
 have h' := h.grow hb
 have hs := h.frm.size
 refine ⟨h'.frm, h.xlt, fun r hr => ?_, ?_, fun k hk' => ?_, fun r hr => (h.facts r hr).step hb.size (fun k hk _ => hb.block k hk (by simp)) fun k hk' => ?_⟩
 ·rcases List.mem_append.1 hr with hr | hr
  ·exact hq r hr
  ·exact h'.holds r hr
 ·rw [zaj]
  exact List.nodup_append.2 ⟨hnd, h.apart, fun a ha b hb' e => by
   subst e
   have := h.lt a hb'
   have := hk a ha
   omega⟩
 ·rw [zaj] at hk'
  rcases List.mem_append.1 hk' with h1 | h1
  ·exact .inr (jU hs (hk k h1))
  ·exact h.mine k h1
 ·rcases List.mem_append.1 hk' with h1 | h1
  ·exact .inl (List.mem_append_left _ h1)
  ·rw [zaj] at h1
   rcases List.mem_append.1 h1 with h2 | h2
   ·exact .inr (hk k h2)
   ·exact .inl (List.mem_append_right _ h2)
def fop (P : Program) (ops : Array Oper) (Q : Exit → Act → World → Prop) (N : Nat) (X G : List Nat) (w0 : World) (L : List Res) (R : List (World → Prop)) (env : List (Nat × Value)) (o : Oper) : Fk → Prop
 | .v x => o.guard = none ∧ zbs o = false ∧ ∀ a w, Env a N env → Sep X G w0 w L R → ∀ K : Act → World → Prop, (∀ w', Below w.heap.size w w' → K (a.put o.dst x) w') → o.wp P a w K Q
 | .n z ty => o.guard = none ∧ o.op = .alloc ty ∧ zdT P ty = some (ca z)
def zjY (P : Program) (ops : Array Oper) (Q : Exit → Act → World → Prop) (N : Nat) (X G : List Nat) (w0 : World) (L : List Res) (R : List (World → Prop)) (ds : List (Option Nat)) (Fs : List Fk) (l : List (Nat × Value)) : List Oper → List (List Nat) → List Fk → Prop
 | o :: os, js :: ps, f :: fs => fop P ops Q N X G w0 L R (zfP ds (zpp js 0 Fs) l) o f ∧ zjY P ops Q N X G w0 L R ds Fs l os ps fs
 | _, _, _ => True
theorem zrn {fs : List Fk} : zjY P ops Q N X G w0 L R ds Fs l [] [] fs := by unfold zjY; trivial
theorem zED {v : Value} {js : List Nat} {os : List Oper} {ps : List (List Nat)} {fs : List Fk} (h : ∀ w, Sep X G w0 w L R → PK P zfB w (zfP ds (zpp js 0 Fs) l) o v) (hg : o.guard = none) (ha : zbs o = false) (h2 : zjY P ops Q N X G w0 L R ds Fs l os ps fs) :
  zjY P ops Q N X G w0 L R ds Fs l (o :: os) (js :: ps) (.v v :: fs) := by
 unfold zjY
 refine ⟨⟨hg, ha, fun a w E H K hK => ?_⟩, h2⟩
 unfold Oper.wp
 rw [h w H w (CanB.Keep.refl _ _) a N E]
 exact hK w (Below.refl _ _)
theorem zEE {v : Value} {js : List Nat} {os : List Oper} {ps : List (List Nat)} {fs : List Fk} (h : ∀ a w, Env a N (zfP ds (zpp js 0 Fs) l) → Sep X G w0 w L R → ∀ K : Act → World → Prop, (∀ w', Below w.heap.size w w' → K (a.put o.dst v) w') → o.wp P a w K Q) (hg : o.guard = none) (ha : zbs o = false) (h2 : zjY P ops Q N X G w0 L R ds Fs l os ps fs) :
  zjY P ops Q N X G w0 L R ds Fs l (o :: os) (js :: ps) (.v v :: fs) := by
 unfold zjY
 exact ⟨⟨hg, ha, h⟩, h2⟩
theorem zAc {z : List Chunk} {ty : TypeId} {js : List Nat} {os : List Oper} {ps : List (List Nat)} {fs : List Fk} (ho : o.op = .alloc ty) (hz : zdT P ty = some (ca z)) (hg : o.guard = none) (h2 : zjY P ops Q N X G w0 L R ds Fs l os ps fs) :
  zjY P ops Q N X G w0 L R ds Fs l (o :: os) (js :: ps) (.n z ty :: fs) := by
 unfold zjY
 exact ⟨⟨hg, ho, hz⟩, h2⟩
theorem zro : ∀ (os : List Oper) (ps : List (List Nat)) (fs : List Fk), zjY P ops Q N X G w0 L R ds Fs l os ps fs → ∀ (i : Nat) (o : Oper) (js : List Nat) (f : Fk), os[i]? = some o → ps[i]? = some js → fs[i]? = some f → fop P ops Q N X G w0 L R (zfP ds (zpp js 0 Fs) l) o f
 | o :: os, js :: ps, f :: fs, h, 0, o', js', f', h1, h2, h3 => by
  unfold zjY at h
  simp only [jD, Option.some.injEq] at h1 h2 h3
  subst h1 h2 h3
  exact h.1
 | o :: os, js :: ps, f :: fs, h, i + 1, o', js', f', h1, h2, h3 => by
  unfold zjY at h
  simp only [jE] at h1 h2 h3
  exact zro os ps fs h.2 i o' js' f' h1 h2 h3
 | [], _, _, _, i, _, _, _, h1, _, _ => by simp at h1
 | _ :: _, [], _, _, i, _, _, _, _, h2, _ => by simp at h2
 | _ :: _, _ :: _, [], _, i, _, _, _, _, _, h3 => by simp at h3
theorem zrp (js : List Nat) : ∀ (i : Nat) (fs : List Fk), (zpp js i fs).length = fs.length
 | _, [] => rfl
 | i, f :: fs => by rw [zpp, List.length_cons, List.length_cons, zrp js (i + 1) fs]
theorem zrq (js : List Nat) : ∀ (k : Nat) (fs : List Fk) (i : Nat) (v : Value), (zpp js k fs)[i]? = some (some v) → k + i ∈ js ∧ fs[i]? = some (.v v)
 | k, [], i, v, h => by simp [zpp] at h
 | k, f :: fs, 0, v, h => by
  rw [zpp, jD, Option.some.injEq] at h
  cases hb : js.any (Nat.beq k) with
  | false => rw [hb] at h; cases h
  | true =>
   rw [hb, cond_true] at h
   obtain ⟨j, hj, he⟩ := List.any_eq_true.1 hb
   have := Nat.eq_of_beq_eq_true he
   subst this
   cases f with
   | v x =>
    have hx : x = v := Option.some.inj h
    subst hx
    exact ⟨hj, rfl⟩
   | n z ty => cases h
 | k, f :: fs, i + 1, v, h => by
  rw [zpp, jE] at h
  have := zrq js (k + 1) fs i v h
  rw [jE]
  exact ⟨by rw [show k + (i + 1) = k + 1 + i by omega]; exact this.1, this.2⟩
def zAd (B : Nat → Nat) : Nat → List Fk → List Res
 | _, [] => []
 | i, .v _ :: fs => zAd B (i + 1) fs
 | i, .n z ty :: fs => .blk (B i) (ca z) ty :: zAd B (i + 1) fs
def zrr (B : Nat → Nat) : Nat → List Fk → List (Option Value)
 | _, [] => []
 | i, .v x :: fs => some x :: zrr B (i + 1) fs
 | i, .n _ _ :: fs => some (.pointer (some ⟨B i, 0, none⟩)) :: zrr B (i + 1) fs
def zGa : Fk → Bool
 | .n _ _ => true
 | .v _ => false
def zyC : Nat → List Fk → List Nat
 | _, [] => []
 | i, f :: fs => bif zGa f then i :: zyC (i + 1) fs else zyC (i + 1) fs
def zvu : List Nat → List (Nat × Nat)
 | [] => []
 | i :: is => is.map (fun j => (i, j)) ++ zvu is
theorem zgy : ∀ (k : Nat) (fs : List Fk) (i : Nat), i ∈ zyC k fs → k ≤ i ∧ ∃ z ty, fs[i - k]? = some (.n z ty)
 | k, [], i, h => by cases h
 | k, .v x :: fs, i, h => by
  have := zgy (k + 1) fs i h
  refine ⟨by omega, ?_⟩
  obtain ⟨z, ty, hz⟩ := this.2
  exact ⟨z, ty, by rw [show i - k = (i - (k + 1)) + 1 by omega, jE]; exact hz⟩
 | k, .n z ty :: fs, i, h => by
  rcases List.mem_cons.1 h with rfl | h
  ·exact ⟨jV _, z, ty, by rw [Nat.sub_self]; rfl⟩
  ·have := zgy (k + 1) fs i h
   refine ⟨by omega, ?_⟩
   obtain ⟨z', ty', hz⟩ := this.2
   exact ⟨z', ty', by rw [show i - k = (i - (k + 1)) + 1 by omega, jE]; exact hz⟩
theorem zgz (B : Nat → Nat) : ∀ (k : Nat) (fs : List Fk), zac (zAd B k fs) = (zyC k fs).map B
 | _, [] => rfl
 | k, .v _ :: fs => zgz B (k + 1) fs
 | k, .n z ty :: fs => by
  show [B k] ++ zac (zAd B (k + 1) fs) = (k :: zyC (k + 1) fs).map B
  rw [zgz B (k + 1) fs]
  rfl
theorem zmd (B : Nat → Nat) : ∀ (k : Nat) (fs : List Fk) (q : Res), q ∈ zAd B k fs → ∃ i z ty, fs[i]? = some (.n z ty) ∧ q = .blk (B (k + i)) (ca z) ty
 | k, [], q, h => by cases h
 | k, .v x :: fs, q, h => by
  obtain ⟨i, z, ty, h1, h2⟩ := zmd B (k + 1) fs q h
  exact ⟨i + 1, z, ty, by rw [jE]; exact h1, by rw [show k + (i + 1) = k + 1 + i by omega]; exact h2⟩
 | k, .n z ty :: fs, q, h => by
  rcases List.mem_cons.1 h with rfl | h
  ·exact ⟨0, z, ty, rfl, rfl⟩
  ·obtain ⟨i, z, ty, h1, h2⟩ := zmd B (k + 1) fs q h
   exact ⟨i + 1, z, ty, by rw [jE]; exact h1, by rw [show k + (i + 1) = k + 1 + i by omega]; exact h2⟩
theorem zi2 (B : Nat → Nat) : ∀ (is : List Nat), (∀ d ∈ zvu is, B d.1 ≠ B d.2) → (is.map B).Nodup
 | [], _ => List.nodup_nil
 | i :: is, h => by
  rw [List.map_cons, List.nodup_cons]
  refine ⟨fun hm => ?_, zi2 B is fun d hd => h d (List.mem_append_right _ hd)⟩
  obtain ⟨j, hj, he⟩ := List.mem_map.1 hm
  exact h (i, j) (List.mem_append_left _ (List.mem_map.2 ⟨j, hj, rfl⟩)) he.symm
theorem zme (B : Nat → Nat) : ∀ (k : Nat) (fs : List Fk), (zrr B k fs).length = fs.length
 | _, [] => rfl
 | k, .v _ :: fs => by rw [zrr, List.length_cons, List.length_cons, zme B (k + 1) fs]
 | k, .n _ _ :: fs => by rw [zrr, List.length_cons, List.length_cons, zme B (k + 1) fs]
theorem zmf (B : Nat → Nat) : ∀ (k : Nat) (fs : List Fk) (i : Nat) (v : Value), (zrr B k fs)[i]? = some (some v) → fs[i]? = some (.v v) ∨ ∃ z ty, fs[i]? = some (.n z ty) ∧ v = .pointer (some ⟨B (k + i), 0, none⟩)
 | k, [], i, v, h => by simp [zrr] at h
 | k, .v x :: fs, 0, v, h => .inl (by rw [zrr, jD, Option.some.injEq, Option.some.injEq] at h; rw [h]; rfl)
 | k, .n z ty :: fs, 0, v, h => .inr ⟨z, ty, rfl, by rw [zrr, jD, Option.some.injEq, Option.some.injEq] at h; exact h.symm⟩
 | k, .v x :: fs, i + 1, v, h => by
  rw [zrr, jE] at h
  have := zmf B (k + 1) fs i v h
  rw [jE, show k + (i + 1) = k + 1 + i by omega]
  exact this
 | k, .n z ty :: fs, i + 1, v, h => by
  rw [zrr, jE] at h
  have := zmf B (k + 1) fs i v h
  rw [jE, show k + (i + 1) = k + 1 + i by omega]
  exact this
theorem zvv {n : Nat} {hd : List Oper} {Rs : List zfX} : ∀ (items : List (Oper × zfX × List Nat)), (∀ (i : Nat) (o : Oper) (r : zfX) (js : List Nat), items[i]? = some (o, r, js) → zs9 n fun xs => ∀ w', Below w0.heap.size w0 w' → zhz Rs xs w' js (zeG P ops Q o r (zcD hd a xs) w')) → zhZ P ops Q n hd a w0 Rs items
 | [], _ => trivial
 | (o, r, js) :: l, h => ⟨h 0 o r js rfl, zvv l fun i o r js hi => h (i + 1) o r js (by rw [jE]; exact hi)⟩
theorem Fk.stays (m : Nat) (f : Fk) : zki (f.fact m) := by
 cases f
 ·exact zeT _
 ·exact zth _ _
theorem znZ {id : Nat} {lo : List Oper} (E : Env a N l) (H : Sep X G w0 w L R) (n : Nat) (Fs : List Fk) (ps : List (List Nat)) (D : List (Nat × Nat)) (ds : List (Option Nat)) (hm : P.follows .mixedOrders = true) (hB : zig lo n ps = true) (hD : zrk lo n D = true) (hds : (lo.take n).map (·.dst) = ds)
  (hlen : Fs.length = n) (hN : zvu (zyC 0 Fs) = D) (hdis : zvt N ds l = true)
  (hops : zjY P lo.toArray Q N X G w0 L R ds Fs l (lo.take n) ps Fs)
  (hend : ∀ (B : Nat → Nat) a' w', Env a' N (zfP ds (zrr B 0 Fs) l) → Sep X G w0 w' (zAd B 0 Fs ++ L) R → wpList P lo.toArray Q (lo.drop n) a' w') : (Code.region id lo.toArray true).wp P Q a w := by
 have hB2 := hB
 simp only [zig, Bool.and_eq_true, jS] at hB2
 obtain ⟨⟨⟨⟨⟨⟨⟨_, hn⟩, hp⟩, _⟩, _⟩, _⟩, _⟩, _⟩ := hB2
 have htl : (lo.take n).length = n := by rw [List.length_take]; omega
 have Hd : Sep X G w0 w.drew L R := H.drew
 refine zi0 n (Fs.map (Fk.fact w.drew.heap.size)) ps D hm hB hD (by rw [List.length_map, hlen]) (fun r hr => by
  obtain ⟨f, _, rfl⟩ := List.mem_map.1 hr
  exact f.stays _) (zvv _ fun i o r js hi => zpq _ _ fun xs hx w' hb => zmc js fun hjs => ?_) (zpq _ _ fun xs hx w' hb => zmc _ fun hall => znY D fun hap => ?_)
 ·rw [List.getElem?_zip_eq_some] at hi
  obtain ⟨h1, h2⟩ := hi
  rw [List.getElem?_zip_eq_some] at h2
  obtain ⟨h2, h3⟩ := h2
  simp only at h1 h2 h3
  rw [List.getElem?_map, Option.map_eq_some_iff] at h2
  obtain ⟨f, hf, rfl⟩ := h2
  have hF := zro _ _ _ hops i o js f h1 h3 hf
  have hE : Env (zcD (lo.take n) a xs) N (zfP ds (zpp js 0 Fs) l) := Env.fill _ _ _ _ hds (by rw [hx, htl]) (by rw [zrp, hlen, htl]) hdis (fun k v hk => by
   obtain ⟨h4, h5⟩ := zrq js 0 Fs k v hk
   rw [Nat.zero_add] at h4
   have h6 := hjs k h4
   unfold zc1 at h6
   rw [List.getElem?_map, h5] at h6
   have hkx : k < xs.length := by
    have := (List.getElem?_eq_some_iff.1 h5).1
    omega
   rw [jP hkx] at h6 ⊢
   have h7 : xs[k] = v := h6
   rw [h7]) E
  have hS : Sep X G w0 w' L R := Hd.grow (Frm.of_below hb)
  cases f with
  | v x =>
   obtain ⟨hg, ha, hK⟩ := hF
   refine zyB (ztf (by unfold Region.wanted; rw [hg]) fun K hK' => ?_) ha
   exact hK _ w' hE hS K fun w2 hb2 => hK' x w2 hb2 rfl
  | n z ty =>
   obtain ⟨hg, ho, hz⟩ := hF
   obtain ⟨i', zv, h4, h5, h6⟩ := zdy hz
   unfold zeG
   rw [ho]
   refine ⟨by unfold Region.wanted; rw [hg], .cells (ca z) ty (0, 0), ?_, w'.heap.size, rfl, hb.size, heap_alloc_new _ _⟩
   unfold execOp
   simp [ho, Instr.alloc, zeroValue, typeInfo, h4, h5, newVar, newRow, newObj, h6, Sem.run_bind, zg9]
   rfl
 ·let B : Nat → Nat := fun i => match xs[i]? with | some (.pointer (some ad)) => ad.block | _ => 0
  have hfv : ∀ (i : Nat) (v : Value), Fs[i]? = some (Fk.v v) → xs[i]? = some v := fun i v h => by
   have hi : i < n := by have := (List.getElem?_eq_some_iff.1 h).1; omega
   have h1 := hall i (List.mem_range.2 hi)
   unfold zc1 at h1
   rw [List.getElem?_map, h, jP (show i < xs.length by omega)] at h1
   rw [jP (show i < xs.length by omega)]
   have h2 : xs[i] = v := h1
   rw [h2]
  have hfn : ∀ (i : Nat) (z : List Chunk) (ty : TypeId), Fs[i]? = some (Fk.n z ty) → xs[i]? = some (.pointer (some ⟨B i, 0, none⟩)) ∧ w.drew.heap.size ≤ B i ∧ w'.heap[B i]? = some (.cells (ca z) ty (0, 0)) := fun i z ty h => by
   have hi : i < n := by have := (List.getElem?_eq_some_iff.1 h).1; omega
   have h1 := hall i (List.mem_range.2 hi)
   unfold zc1 at h1
   rw [List.getElem?_map, h, jP (show i < xs.length by omega)] at h1
   obtain ⟨b, hb1, hb2, hb3⟩ := h1
   have hxi : xs[i]? = some (.pointer (some ⟨b, 0, none⟩)) := by rw [jP (show i < xs.length by omega), hb1]
   have hBi : B i = b := by show (match xs[i]? with | some (.pointer (some ad)) => ad.block | _ => 0) = b; rw [hxi]
   rw [hBi]
   exact ⟨hxi, hb2, hb3⟩
  refine hend B _ w' (Env.fill _ _ _ _ hds (by rw [hx, htl]) (by rw [zme, hlen, htl]) hdis (fun i v hi => ?_) E) (Hd.ownL (Frm.of_below hb) _ (fun q hq => ?_) (fun k hk => ?_) ?_)
  ·rcases zmf B 0 Fs i v hi with h1 | ⟨z, ty, h1, rfl⟩
   ·exact hfv i v h1
   ·rw [Nat.zero_add]
    exact (hfn i z ty h1).1
  ·obtain ⟨i, z, ty, h1, rfl⟩ := zmd B 0 Fs q hq
   rw [Nat.zero_add]
   exact (hfn i z ty h1).2.2
  ·rw [zgz] at hk
   obtain ⟨i, hi, rfl⟩ := List.mem_map.1 hk
   obtain ⟨_, z, ty, h1⟩ := zgy 0 Fs i hi
   exact (hfn i z ty (by simpa using h1)).2.1
  ·rw [zgz]
   refine zi2 B _ fun d hd he => ?_
   have h1 := hap d (by rw [← hN]; exact hd)
   have hmem : d.1 ∈ zyC 0 Fs ∧ d.2 ∈ zyC 0 Fs := by
    clear h1 he
    generalize zyC 0 Fs = is at hd
    induction is with
    | nil => cases hd
    | cons i is ih =>
     rcases List.mem_append.1 hd with h | h
     ·obtain ⟨j, hj, rfl⟩ := List.mem_map.1 h
      exact ⟨List.mem_cons_self .., List.mem_cons_of_mem _ hj⟩
     ·exact ⟨List.mem_cons_of_mem _ (ih h).1, List.mem_cons_of_mem _ (ih h).2⟩
   obtain ⟨_, z1, t1, g1⟩ := zgy 0 Fs d.1 hmem.1
   obtain ⟨_, z2, t2, g2⟩ := zgy 0 Fs d.2 hmem.2
   have e1 := (hfn d.1 z1 t1 (by simpa using g1)).1
   have e2 := (hfn d.2 z2 t2 (by simpa using g2)).1
   unfold zcY at h1
   rw [e1, e2, he] at h1
   exact h1 rfl
end
section
variable {P : Program} {Q : Exit → Act → World → Prop} {ops : Array Oper} {l : List (Nat × Value)} {o : Oper} {N : Nat} {X G : List Nat} {w0 : World} {L : List Res} {R : List (World → Prop)} {ds : List (Option Nat)} {Fs : List Fk} {v : Value} {js : List Nat} {os : List Oper} {ps : List (List Nat)} {fs : List Fk}
theorem Fv (h : ∀ w, Sep X G w0 w L R → PK P zfB w (zfP ds (zpp js 0 Fs) l) o v) (h2 : zjY P ops Q N X G w0 L R ds Fs l os ps fs) (hg : o.guard = none := by rfl) (ha : zbs o = false := by rfl) : zjY P ops Q N X G w0 L R ds Fs l (o :: os) (js :: ps) (.v v :: fs) := zED h hg ha h2
theorem Fw {f : FuncId} {x : Operand} {xs : Array Operand} {ts : Array TypeId} {fs' cs : Array Value} {vs : List Value} (ho : o.op = .call { callee := .value x, args := xs, argTypes := ts }) (hx : ev (zfP ds (zpp js 0 Fs) l) x = some (.func (.func f) fs' cs)) (hargs : evs (zfP ds (zpp js 0 Fs) l) xs.toList = some vs)
 (h : ∀ w, Sep X G w0 w L R → Calls P f (fs' ++ vs.toArray ++ cs) w fun e w' => e = .returned v ∧ Sep (X ++ zac L) [] w w' [] []) (h2 : zjY P ops Q N X G w0 L R ds Fs l os ps fs) (hf : fnB P f = true := by kernel_rfl) (hg : o.guard = none := by rfl) (ha : zbs o = false := by rfl) : zjY P ops Q N X G w0 L R ds Fs l (o :: os) (js :: ps) (.v v :: fs) :=
 zEE (fun a w E H K hK => by
 refine zhP E ho hx hargs hf ?_
 refine (h w H).mono ?_
 rintro e w2 ⟨rfl, H1⟩
 exact hK _ H1.frm.below) hg ha h2
end
end
section
open Go.RowKit
def uw (F : Nat → Nat) (i : Nat) : Value := .int .u64 ((F i : Nat) : Int)
theorem zbR (n : Nat) (F : Nat → Nat) : arr .u64 n (fun i => ((F i : Nat) : Int)) = ca [.row n (uw F)] := by simp [arr, zhx, ca, cl, Chunk.cells, uw]
theorem zfx {X : List Nat} {w0 w' : World} (hX : ∀ k ∈ X, k < w0.heap.size) (hb : Below w0.heap.size w0 w') : Sep X [] w0 w' [] [] :=
 ⟨Frm.of_below hb, hX, fun _ h => (by cases h), List.nodup_nil, fun _ h => (by cases h), fun _ h => by cases h⟩
end
namespace CanB
open Go.RowKit
inductive Tr where
 | nil
 | pure (i : Nat) (t : Tr)
 | eff (i : Nat) (t more : Tr)
inductive Tro where
 | nil
 | pure (o : Oper) (t : Tro)
 | eff (o : Oper) (t more : Tro)
section
variable {P : Program} {Q : Exit → Act → World → Prop} {md : Region.Mode} {N : Nat → Prop} {n : Nat} {w0 : World} {T : Act → World → Prop} {l : List Oper}
end
end CanB
section
open Go.RowKit
section
variable {P : Program} {ops : Array Oper} {Q : Exit → Act → World → Prop} {o : Oper} {a : Act} {w ws : World} {N d : Nat} {l : List (Nat × Value)} {v : Value} {S : Nat → Prop} {T : Act → World → Prop} {p m : CanB.Tro}
end
section
variable {P : Program} {o : Oper} {a : Act} {w : World} {Q : Exit → Act → World → Prop} {N : Nat} {l : List (Nat × Value)} {v : Value} {K : Act → World → Prop} {X G : List Nat} {w0 : World} {L : List Res} {R : List (World → Prop)}
end
section
variable {P : Program} {ops : Array Oper} {Q : Exit → Act → World → Prop} {S : Nat → Prop} {T : Act → World → Prop} {p : CanB.Tro} {a : Act} {o : Oper} {w ws w1 : World} {N d : Nat} {l : List (Nat × Value)} {v : Value}
end
end
section
open Go.RowKit
attribute [local irreducible] zdO zdE zaR zcd zc4 zcX sqN
def zpr (F H : Nat → Nat) (i : Nat) : Nat := if okF F 5 then H i else 0
theorem zn0 {F : Nat → Nat} (h : okF F 5) (H : Nat → Nat) : zpr F H = H := by funext i; unfold zpr; rw [if_pos h]
theorem zrs {F : Nat → Nat} (h : ¬ okF F 5) (H : Nat → Nat) : zpr F H = fun _ => 0 := by funext i; unfold zpr; rw [if_neg h]
def zmg (F : Nat → Nat) : Nat → Nat := sqN F 1
def zgA (F : Nat → Nat) : Nat → Nat := zfO (zmg F) 2 F
def zcu (F : Nat → Nat) : Nat → Nat := zcd (zgA F) (zmg F)
def zgB (F : Nat → Nat) : Nat → Nat := zcd (sqN (zcu F) 1) (zgA F)
def zi3 (F : Nat → Nat) : Nat → Nat := zfO (zgB F) 5 (zgB F)
def zde (F : Nat → Nat) : Nat → Nat := zfO (zi3 F) 10 (zi3 F)
def zfQ (F : Nat → Nat) : Nat → Nat := zfO (zde F) 20 (zde F)
def zdu (F : Nat → Nat) : Nat → Nat := zfO (zfQ F) 10 (zi3 F)
def zcv (F : Nat → Nat) : Nat → Nat := zfO (zdu F) 50 (zdu F)
def zec (F : Nat → Nat) : Nat → Nat := zfO (zcv F) 100 (zcv F)
def zi4 (F : Nat → Nat) : Nat → Nat := zfO (zec F) 50 (zdu F)
def zvw (F : Nat → Nat) : Nat → Nat := zfO (zi4 F) 5 (zcu F)
theorem zrt {F : Nat → Nat} (h : okF F 5) : okF (zmg F) 5 := ziZ F h 1
theorem zmh {F : Nat → Nat} (h : okF F 5) : okF (zgA F) 5 := zeF _ _ _ (zrt h) h
theorem zgC {F : Nat → Nat} (h : okF F 5) : okF (zcu F) 5 := zeb _ _ (zmh h) (zrt h)
theorem zmi {F : Nat → Nat} (h : okF F 5) : okF (zgB F) 5 := zeb _ _ (ziZ _ (zgC h) 1) (zmh h)
theorem zjZ {F : Nat → Nat} (h : okF F 5) : okF (zi3 F) 5 := zeF _ _ _ (zmi h) (zmi h)
theorem zgD {F : Nat → Nat} (h : okF F 5) : okF (zde F) 5 := zeF _ _ _ (zjZ h) (zjZ h)
theorem zru {F : Nat → Nat} (h : okF F 5) : okF (zfQ F) 5 := zeF _ _ _ (zgD h) (zgD h)
theorem ze9 {F : Nat → Nat} (h : okF F 5) : okF (zdu F) 5 := zeF _ _ _ (zru h) (zjZ h)
theorem zfa {F : Nat → Nat} (h : okF F 5) : okF (zcv F) 5 := zeF _ _ _ (ze9 h) (ze9 h)
theorem zn1 {F : Nat → Nat} (h : okF F 5) : okF (zec F) 5 := zeF _ _ _ (zfa h) (zfa h)
theorem zBZ {F : Nat → Nat} (h : okF F 5) : okF (zi4 F) 5 := zeF _ _ _ (zn1 h) (ze9 h)
attribute [local irreducible] zmg zgA zcu zgB zi3 zde zfQ zdu zcv zec zi4 zfO
def zAe (F : Nat → Nat) (n : Int) (w : World) (e : Ending) (w' : World) : Prop :=
 (if okF F 5 ∧ 0 ≤ n ∧ n ≤ 300 then e = .returned (.tuple #[.agg (arr .u64 5 fun k => ((sqN F n.toNat k : Nat) : Int)), .int .i64 0]) else e = .returned (.tuple #[.agg (arr .u64 5 fun _ => 0), .int .i64 1])) ∧ Below w.heap.size w w'
theorem zsG (F : Nat → Nat) (hF : ∀ i, i < 5 → F i < 18446744073709551616) (n : Int) (hn : -9223372036854775808 ≤ n ∧ n < 9223372036854775808) (w : World) :
  Calls Tryz.prog 163 #[.agg (arr .u64 5 fun i => ((F i : Nat) : Int)), .int .i64 n] w (zAe F n w) := by
 go_enter Tryz.func163, Tryz.ntmps163
 obtain ⟨h0, h1, hsz, hb⟩ := zhm w (.cells (arr .u64 5 fun i => ((F i : Nat) : Int)) 168) (.cells (arr .u64 5 fun _ => 0) 168)
 go_upto_region 1 with (refine zat rfl rfl zxb ?_)
 generalize (w.alloc (.cells (arr .u64 5 fun i => ((F i : Nat) : Int)) 168)).alloc (.cells (arr .u64 5 fun _ => 0) 168) = wa at *
 (try simp only [Act.put, jA, jB, jC])
 try simp only [World.size_alloc]
 obtain ⟨g3, hz2, bl⟩ := zhk wa (.cells (arr .u64 5 fun i => ((F i : Nat) : Int)) 168)
 rw [hsz] at g3
 go_wp2_with (first | (refine zad rfl rfl rfl zbZ h0 ?_) | (refine zcs rfl rfl Tryz.underlying217 (by simp [Act.eval, Act.put]) (znN fun i => ((F i : Nat) : Int)) ?_) | (go_at_call 164; fail))
 refine (zg4 1 5 rfl (by omega) F hF _ _ _ g3).mono ?_
 rintro e w2 ⟨rfl, b2⟩
 have b3 := bl.trans (b2.mono (by omega))
 replace h0 := zam b3 (by omega) h0
 replace h1 := zam b3 (by omega) h1
 replace hb := hb.trans (b3.mono (by omega))
 clear b2 b3 bl g3 hz2 hsz
 by_cases hq : okF F 5
 ·rw [show decide (okF F 5) = true from decide_eq_true hq]
  have hq' := Lib.hid hq
  by_cases h2 : n < 0
  ·go_wp2_with (first | (refine zbK rfl (zbQ rfl (by simp [Act.eval, Act.put]) ze8) ?_) | (refine zah rfl rfl rfl rfl zbZ h1 ?_))
   refine bodyPost_ret (zaM rfl rfl rfl zbZ (zaF h1)) rfl ⟨?_, zaG hb (by omega) _⟩
   rw [if_neg (by omega)]; rfl
  ·by_cases h3 : 300 < n
   ·go_wp2_with (first | (refine zbK rfl (zbQ rfl (by simp [Act.eval, Act.put]) ze8) ?_) | (refine zah rfl rfl rfl rfl zbZ h1 ?_))
    refine bodyPost_ret (zaM rfl rfl rfl zbZ (zaF h1)) rfl ⟨?_, zaG hb (by omega) _⟩
    rw [if_neg (by omega)]; rfl
   ·obtain ⟨m, rfl⟩ := Int.eq_ofNat_of_zero_le (show 0 ≤ n by omega)
    go_wp2_with (first | (refine zad rfl rfl rfl zbZ h0 ?_) | (go_at_call 168; fail))
    refine (zg8 F hq'.out m (by omega) _).mono ?_
    rintro e w4 ⟨rfl, b4⟩
    replace h1 := zam b4 (jM h1) h1
    replace hb := hb.trans (b4.mono hb.size)
    go_wp2_with (refine zah rfl rfl rfl rfl zbZ h1 ?_)
    refine bodyPost_ret (zaM rfl rfl rfl zbZ (zaF h1)) rfl ⟨?_, zaG hb (by omega) _⟩
    rw [if_pos ⟨hq'.out, by omega, by omega⟩]; rfl
 ·rw [show decide (okF F 5) = false from decide_eq_false hq]
  go_wp2_with (first | (refine zbK rfl (zbQ rfl (by simp [Act.eval, Act.put]) ze8) ?_) | (refine zah rfl rfl rfl rfl zbZ h1 ?_))
  refine bodyPost_ret (zaM rfl rfl rfl zbZ (zaF h1)) rfl ⟨?_, zaG hb (by omega) _⟩
  rw [if_neg (fun h => hq h.1)]; rfl
theorem zsH (F : Nat → Nat) (hF : okF F 5) (n : Nat) (hn : n ≤ 300) (w : World) :
  Calls Tryz.prog 163 #[.agg (arr .u64 5 fun i => ((F i : Nat) : Int)), .int .i64 n] w fun e w' => e = .returned (.tuple #[.agg (arr .u64 5 fun k => ((sqN F n k : Nat) : Int)), .int .i64 0]) ∧ Below w.heap.size w w' :=
 (zsG F (fun i hi => by have := hF i hi; omega) n (by omega) w).mono fun e w' h => by
  unfold zAe at h
  rw [if_pos ⟨hF, by omega, by omega⟩] at h
  exact h
section
variable {X : List Nat} {w0 : World} {F G : Nat → Nat}
theorem zAf (V : Nat → Nat) (hv : V = sqN F 1) (hX : ∀ i ∈ X, i < w0.heap.size) (hF : okF F 5) : Calls Tryz.prog 168 #[.agg (ca [.row 5 (uw F)]), .int .i64 1] w0 fun e w' => e = .returned (.agg (ca [.row 5 (uw V)])) ∧ Sep X [] w0 w' [] [] := by
 subst hv
 rw [← zbR, ← zbR]
 exact (zg8 F hF 1 (by omega) w0).mono fun e w' h => ⟨h.1, zfx hX h.2⟩
theorem zAg (V : Nat → Nat) (hv : V = zcd F G) (hX : ∀ i ∈ X, i < w0.heap.size) (hF : okF F 5) (hG : okF G 5) : Calls Tryz.prog 167 #[.agg (ca [.row 5 (uw F)]), .agg (ca [.row 5 (uw G)])] w0 fun e w' => e = .returned (.agg (ca [.row 5 (uw V)])) ∧ Sep X [] w0 w' [] [] := by
 subst hv
 rw [← zbR, ← zbR, ← zbR]
 exact (zmb F G hF hG w0).mono fun e w' h => ⟨h.1, zfx hX h.2⟩
theorem zgE (n : Nat) (V : Nat → Nat) (hv : V = zfO F n G) (hX : ∀ i ∈ X, i < w0.heap.size) (hF : okF F 5) (hG : okF G 5) (hn : n < 1000) : Calls Tryz.prog 166 #[.agg (ca [.row 5 (uw F)]), .int .i64 (n : Int), .agg (ca [.row 5 (uw G)])] w0 fun e w' => e = .returned (.agg (ca [.row 5 (uw V)])) ∧ Sep X [] w0 w' [] [] := by
 subst hv
 rw [← zbR, ← zbR, ← zbR]
 exact (zyA F G hF hG n hn w0).mono fun e w' h => ⟨h.1, zfx hX h.2⟩
end
theorem zGb : ca [.row 5 fun _ => .int .u64 0] = ca [.row 5 (uw fun _ => 0)] := rfl
theorem zsI {F : Nat → Nat} (hF : ∀ i, i < 5 → F i < 18446744073709551616) {X : List Nat} {w0 : World} (hX : ∀ k ∈ X, k < w0.heap.size) :
  Calls Tryz.prog 137 #[.agg (ca [.row 5 (uw F)])] w0 fun e w' => e = .returned (.tuple #[.agg (ca [.row 5 (uw (zpr F (zvw F)))]), .int .i64 (if okF F 5 then 0 else 1)]) ∧ Sep X [] w0 w' [] [] := by
 refine zes Tryz.ntmps137 Tryz.func137 rfl rfl fun a E => ?_; replace E : Env a _ [(0, _)] := E
 have H : Sep X [] w0 w0 [] [] := Sep.start hX (fun _ h => by cases h)
 refine Vr ?_; refine Wb E H fun b1 w a H E => ?_; refine Wa (z := [.row 5 fun _ => .int .u64 0]) E H fun b2 w a H E => ?_; refine Vv E pka fun a E => ?_; refine Vn ?_; refine wp_seq_k fun K1 hK1 => ?_; refine Vr ?_; refine Vv E (pkl 5 H 1) fun a E => ?_; refine Ve E ?_
 refine zsc (sz := 5) (z := [.row 5 fun _ => .int .u64 0]) E H rfl Tryz.underlying217 (by kernel_rfl) (by decide) (by kernel_rfl) ⟨_, _, 0, _, rfl, rfl, rfl, rfl, rfl⟩ ?_; clear H; intro b16 w H _; refine Vp E fun a E => ?_; refine Ve E ?_; refine Vc E ?_; refine (zg4 1 5 rfl (by omega) F hF _ _ _ (by rw [zbR]; exact H.holds _ (List.mem_of_getElem? (i := 0) rfl))).mono ?_; rintro e w ⟨rfl, hb⟩
 have F := (Frm.of_below hb : Frm [] _ _)
 replace H := H.grow F
 refine Vp E fun a E => ?_; clear F; clear hb; refine Vv E (ztn rfl rfl) fun a E => ?_; refine Vn ?_; refine zin (d := 18) E rfl ?_ ?_
 ·skip
  clear E; intro c18 E
  have hq : ¬ okF F 5 := by simpa using c18
  refine zp9 E rfl ?_; refine Vr ?_; refine Vv E (zgf (n := 5) (z := [.row 5 fun _ => .int .u64 0]) [.row 5 (uw fun _ => 0)] rfl (by kernel_rfl) (by kernel_rfl) rfl zGb) fun a E => ?_; refine Ws 1 E H fun w H => ?_; replace H : Sep _ _ _ _ [_, _, _] _ := H; refine Vv E pka fun a E => ?_; refine Vn ?_; refine wp_ret ?_
  repeat (first | refine zeU ?_ | refine zdV ?_)
  refine zAF rfl E (by exact zGI (n := 5) H 1 rfl rfl rfl (by kernel_rfl)) (zw4 rfl) ?_
  first | rw [if_pos hq, zn0 hq] | rw [if_neg hq, zrs hq]
  exact ⟨by with_unfolding_all rfl, H.keepLR (L := []) (R := [])⟩
 ·skip
  clear E; intro c18 E
  have hq : okF F 5 := by simpa using c18
  refine zqa E rfl ?_; refine wp_skip ?_; refine hK1 _ _ ?_; refine Vr ?_; refine Vv E pka fun a E => ?_; refine Vn ?_; refine Vr ?_; refine Vv E (pkl 5 H 2) fun a E => ?_; refine Ve E ?_; refine Vc E ?_; refine (zAf (F := F) (zmg F) (by unfold zmg; rfl) H.xk hq).mono ?_; rintro e w ⟨rfl, H1⟩
  replace H := H.call H1
  clear H1; replace H : Sep _ _ _ _ [_, _, _] [] := H; refine Vp E fun a E => ?_; refine Wa (z := [.row 5 fun _ => .int .u64 0]) E H fun b5 w a H E => ?_; refine Ws 0 E H fun w H => ?_; replace H : Sep _ _ _ _ [_, _, _, _] _ := H; refine Vn ?_; refine Vr ?_; refine Vv E pkm fun a E => ?_
  refine Vv E (pkl 5 H 0) fun a E => ?_; refine Vv E (pkl 5 H 3) fun a E => ?_; refine Ve E ?_; refine Vc E ?_; refine (zgE (F := zmg F) (G := F) 2 (zgA F) (by unfold zgA; rfl) H.xk (zrt hq) hq (by decide)).mono ?_; rintro e w ⟨rfl, H1⟩
  replace H := H.call H1
  clear H1; replace H : Sep _ _ _ _ [_, _, _, _] [] := H; refine Vp E fun a E => ?_; refine Wa (z := [.row 5 fun _ => .int .u64 0]) E H fun b6 w a H E => ?_; refine Ws 0 E H fun w H => ?_; replace H : Sep _ _ _ _ [_, _, _, _, _] _ := H; refine Vn ?_; refine Vr ?_; refine Vv E (pkl 5 H 0) fun a E => ?_
  refine Vv E (pkl 5 H 1) fun a E => ?_; refine Ve E ?_; refine Vc E ?_; refine (zAg (F := zgA F) (G := zmg F) (zcu F) (by unfold zcu; rfl) H.xk (zmh hq) (zrt hq)).mono ?_; rintro e w ⟨rfl, H1⟩
  replace H := H.call H1
  clear H1; replace H : Sep _ _ _ _ [_, _, _, _, _] [] := H; refine Vp E fun a E => ?_; refine Wa (z := [.row 5 fun _ => .int .u64 0]) E H fun b7 w a H E => ?_; refine Ws 0 E H fun w H => ?_; replace H : Sep _ _ _ _ [_, _, _, _, _, _] _ := H; refine Vn ?_; refine wp_seq_k fun K8 hK8 => ?_
  apply znZ E H 5 [.v _, .v _, .v _, .v _, .n _ _] [[], [0], [], [1, 2], []] [] [some 29, some 30, some 31, some 32, some 8] (by kernel_rfl) (by kernel_rfl) (by kernel_rfl) rfl rfl rfl rfl ?fo7b1 ?fe7b1
  case fo7b1 =>
   refine' Fv (fun w H => pkl 5 H 0) ?_
   refine' Fw rfl rfl rfl (fun w H => zAf (F := zcu F) (sqN (zcu F) 1) rfl H.xk (zgC hq)) ?_
   refine' Fv (fun w H => pkl 5 H 1) ?_
   refine' Fw rfl rfl rfl (fun w H => zAg (F := sqN (zcu F) 1) (G := zgA F) (zgB F) (by unfold zgB; rfl) H.xk (ziZ _ (zgC hq) 1) (zmh hq)) ?_
   refine' zAc (z := [.row 5 fun _ => .int .u64 0]) rfl (by kernel_rfl) rfl ?_
   exact zrn
  case fe7b1 =>
   try clear E a H
   intro B a w E H
   simp only [zfP, zrr, zAd, List.cons_append, List.nil_append] at E H
   generalize B 4 = b8 at E H
   clear B; replace H : Sep _ _ _ _ [_, _, _, _, _, _, _] [] := H
   try (simp only [jH, jI, jF, jG])
   refine Ws 0 E H fun w H => ?_; replace H : Sep _ _ _ _ [_, _, _, _, _, _, _] _ := H; refine hK8 _ _ ?_; refine Vr ?_; refine Vv E pkm fun a E => ?_; refine Vv E (pkl 5 H 0) fun a E => ?_; refine Vv E (pkl 5 H 0) fun a E => ?_; refine Ve E ?_; refine Vc E ?_
   refine (zgE (F := zgB F) (G := zgB F) 5 (zi3 F) (by unfold zi3; rfl) H.xk (zmi hq) (zmi hq) (by decide)).mono ?_; rintro e w ⟨rfl, H1⟩
   replace H := H.call H1
   clear H1; replace H : Sep _ _ _ _ [_, _, _, _, _, _, _] [] := H; refine Vp E fun a E => ?_; refine Wa (z := [.row 5 fun _ => .int .u64 0]) E H fun b9 w a H E => ?_; refine Ws 0 E H fun w H => ?_; replace H : Sep _ _ _ _ [_, _, _, _, _, _, _, _] _ := H; refine Vn ?_; refine Vr ?_; refine Vv E pkm fun a E => ?_
   refine Vv E (pkl 5 H 0) fun a E => ?_; refine Vv E (pkl 5 H 0) fun a E => ?_; refine Ve E ?_; refine Vc E ?_; refine (zgE (F := zi3 F) (G := zi3 F) 10 (zde F) (by unfold zde; rfl) H.xk (zjZ hq) (zjZ hq) (by decide)).mono ?_; rintro e w ⟨rfl, H1⟩
   replace H := H.call H1
   clear H1; replace H : Sep _ _ _ _ [_, _, _, _, _, _, _, _] [] := H; refine Vp E fun a E => ?_; refine Wa (z := [.row 5 fun _ => .int .u64 0]) E H fun b10 w a H E => ?_; refine Ws 0 E H fun w H => ?_; replace H : Sep _ _ _ _ [_, _, _, _, _, _, _, _, _] _ := H; refine Vn ?_; refine Vr ?_; refine Vv E pkm fun a E => ?_
   refine Vv E (pkl 5 H 0) fun a E => ?_; refine Vv E (pkl 5 H 0) fun a E => ?_; refine Ve E ?_; refine Vc E ?_; refine (zgE (F := zde F) (G := zde F) 20 (zfQ F) (by unfold zfQ; rfl) H.xk (zgD hq) (zgD hq) (by decide)).mono ?_; rintro e w ⟨rfl, H1⟩
   replace H := H.call H1
   clear H1; replace H : Sep _ _ _ _ [_, _, _, _, _, _, _, _, _] [] := H; refine Vp E fun a E => ?_; refine Wa (z := [.row 5 fun _ => .int .u64 0]) E H fun b11 w a H E => ?_; refine Ws 0 E H fun w H => ?_; replace H : Sep _ _ _ _ [_, _, _, _, _, _, _, _, _, _] _ := H; refine Vn ?_; refine Vr ?_; refine Vv E pkm fun a E => ?_
   refine Vv E (pkl 5 H 0) fun a E => ?_; refine Vv E (pkl 5 H 2) fun a E => ?_; refine Ve E ?_; refine Vc E ?_; refine (zgE (F := zfQ F) (G := zi3 F) 10 (zdu F) (by unfold zdu; rfl) H.xk (zru hq) (zjZ hq) (by decide)).mono ?_; rintro e w ⟨rfl, H1⟩
   replace H := H.call H1
   clear H1; replace H : Sep _ _ _ _ [_, _, _, _, _, _, _, _, _, _] [] := H; refine Vp E fun a E => ?_; refine Wa (z := [.row 5 fun _ => .int .u64 0]) E H fun b12 w a H E => ?_; refine Ws 0 E H fun w H => ?_; replace H : Sep _ _ _ _ [_, _, _, _, _, _, _, _, _, _, _] _ := H; refine Vn ?_; refine Vr ?_; refine Vv E pkm fun a E => ?_
   refine Vv E (pkl 5 H 0) fun a E => ?_; refine Vv E (pkl 5 H 0) fun a E => ?_; refine Ve E ?_; refine Vc E ?_; refine (zgE (F := zdu F) (G := zdu F) 50 (zcv F) (by unfold zcv; rfl) H.xk (ze9 hq) (ze9 hq) (by decide)).mono ?_; rintro e w ⟨rfl, H1⟩
   replace H := H.call H1
   clear H1; replace H : Sep _ _ _ _ [_, _, _, _, _, _, _, _, _, _, _] [] := H; refine Vp E fun a E => ?_; refine Wa (z := [.row 5 fun _ => .int .u64 0]) E H fun b13 w a H E => ?_; refine Ws 0 E H fun w H => ?_; replace H : Sep _ _ _ _ [_, _, _, _, _, _, _, _, _, _, _, _] _ := H; refine Vn ?_; refine wp_seq_k fun K14 hK14 => ?_
   apply znZ E H 8 [.v _, .v _, .v _, .v _, .v _, .v _, .v _, .n _ _] [[], [], [], [], [1, 2, 3], [], [0, 4, 5], []] [] [some 53, some 54, some 55, some 56, some 57, some 58, some 59, some 14] (by kernel_rfl) (by kernel_rfl) (by kernel_rfl) rfl rfl rfl rfl ?fo13c2 ?fe13c2
   case fo13c2 =>
    refine' Fv (fun w H => zkk rfl rfl) ?_
    refine' Fv (fun w H => zkk rfl rfl) ?_
    refine' Fv (fun w H => pkl 5 H 0) ?_
    refine' Fv (fun w H => pkl 5 H 0) ?_
    refine' Fw rfl rfl rfl (fun w H => zgE (F := zcv F) (G := zcv F) 100 (zec F) (by unfold zec; rfl) H.xk (zfa hq) (zfa hq) (by decide)) ?_
    refine' Fv (fun w H => pkl 5 H 1) ?_
    refine' Fw rfl rfl rfl (fun w H => zgE (F := zec F) (G := zdu F) 50 (zi4 F) (by unfold zi4; rfl) H.xk (zn1 hq) (ze9 hq) (by decide)) ?_
    refine' zAc (z := [.row 5 fun _ => .int .u64 0]) rfl (by kernel_rfl) rfl ?_
    exact zrn
   case fe13c2 =>
    try clear E a H
    intro B a w E H
    simp only [zfP, zrr, zAd, List.cons_append, List.nil_append] at E H
    generalize B 7 = b14 at E H
    clear B; replace H : Sep _ _ _ _ [_, _, _, _, _, _, _, _, _, _, _, _, _] [] := H
    try (simp only [jH, jI, jF, jG])
    refine Ws 0 E H fun w H => ?_; replace H : Sep _ _ _ _ [_, _, _, _, _, _, _, _, _, _, _, _, _] _ := H; refine hK14 _ _ ?_; refine Vr ?_; refine Vv E pkm fun a E => ?_; refine Vv E (pkl 5 H 0) fun a E => ?_; refine Vv E (pkl 5 H 7) fun a E => ?_; refine Ve E ?_; refine Vc E ?_
    refine (zgE (F := zi4 F) (G := zcu F) 5 (zvw F) (by unfold zvw; rfl) H.xk (zBZ hq) (zgC hq) (by decide)).mono ?_; rintro e w ⟨rfl, H1⟩
    replace H := H.call H1
    clear H1; replace H : Sep _ _ _ _ [_, _, _, _, _, _, _, _, _, _, _, _, _] [] := H; refine Vp E fun a E => ?_; refine Ws 11 E H fun w H => ?_; replace H : Sep _ _ _ _ [_, _, _, _, _, _, _, _, _, _, _, _, _] _ := H; refine Vv E pka fun a E => ?_; refine Vn ?_; refine wp_ret ?_
    repeat (first | refine zeU ?_ | refine zdV ?_)
    refine zAF rfl E (by exact zGI (n := 5) H 11 rfl rfl rfl (by kernel_rfl)) (zw4 rfl) ?_
    first | rw [if_pos hq, zn0 hq] | rw [if_neg hq, zrs hq]
    exact ⟨by with_unfolding_all rfl, H.keepLR (L := []) (R := [])⟩
theorem zsK (F : Nat → Nat) (hF : ∀ i, i < 5 → F i < 18446744073709551616) (w : World) :
  Calls Tryz.prog 137 #[.agg (arr .u64 5 fun i => ((F i : Nat) : Int))] w fun e w' => e = .returned (.tuple #[.agg (arr .u64 5 fun k => ((zpr F (zvw F) k : Nat) : Int)), .int .i64 (if okF F 5 then 0 else 1)]) ∧ Below w.heap.size w w' := by
 rw [zbR, zbR]
 exact (zsI (X := []) hF (fun _ h => by cases h)).mono fun e w' h => ⟨h.1, h.2.frm.below⟩
end
section
open Go.RowKit
theorem zn2 (X Y : Nat → Nat) : ∀ n, (∀ i, i < n → X i = Y i) → zbr X n = zbr Y n
 | 0, _ => rfl
 | n + 1, h => by rw [zd2, zd2, zn2 X Y n (fun i hi => h i (by omega)), h n (by omega)]
theorem zvx (F : Nat → Nat) (hF : okF F 5) (k : Nat) : zdG F k = zaR (zbr (zdE F) 5) k := by unfold zdG; rw [if_pos hF]
def zfR (k : Nat → Nat) (i : Nat) : Nat := if i = 31 then k 31 % 128 else k i
theorem zEF (k : Nat → Nat) : okF (ofN k) 5 := fun i _ => by have : ofN k i < 2251799813685248 := Nat.mod_lt _ (by omega); omega
end
section
open Go.RowKit
attribute [local irreducible] zdO zaR zcd zc4 zcX sqN
def zbe (X : Nat → Nat) (v : Nat) : Prop := okF X 5 ∧ zbr X 5 % pN = v % pN
def zrv (F G : Nat → Nat) : Nat → Nat := zc4 fun i => F i + G i
def zrw (F G : Nat → Nat) : Nat → Nat := zc4 (zcX F G)
theorem zj0 {F G : Nat → Nat} (hF : okF F 5) (hG : okF G 5) : okF (zrv F G) 5 := zAb _ fun i hi => by have := hF i hi; have := hG i hi; show F i + G i < _; omega
theorem zi5 {F G : Nat → Nat} (hF : okF F 5) : okF (zrw F G) 5 := zAb _ fun i hi => zvr F G hF i hi
theorem zyD {F G : Nat → Nat} {a b : Nat} (hF : zbe F a) (hG : zbe G b) : zbe (zrv F G) (a + b) :=
 ⟨zj0 hF.1 hG.1, by unfold zrv; rw [zBU, Nat.add_mod, hF.2, hG.2, ← Nat.add_mod]⟩
theorem zi6 {F G : Nat → Nat} {a b : Nat} (hF : zbe F a) (hG : zbe G b) : zbe (zcd F G) (a * b) :=
 ⟨zeb F G hF.1 hG.1, by rw [zyy, Nat.mul_mod, hF.2, hG.2, ← Nat.mul_mod]⟩
theorem zyE {F G : Nat → Nat} {a b c : Nat} (hF : zbe F a) (hG : zbe G b) (h : (c + b) % pN = a % pN) : zbe (zrw F G) c := by
 refine ⟨zi5 hF.1, ?_⟩
 have h1 := zBT F G hG.1
 have e : zbr (zrw F G) 5 = zbr (zc4 (zcX F G)) 5 := rfl
 rw [e]
 generalize zbr (zc4 (zcX F G)) 5 = x at *
 have h2 : (x + b) % pN = (c + b) % pN := by
  rw [h, ← hF.2, ← h1, Nat.add_mod, ← hG.2, ← Nat.add_mod]
 generalize hp : pN = p at h2 ⊢
 have hp0 : 0 < p := by rw [← hp]; unfold pN; omega
 clear h1 e h hF hG
 have h3 : (x + b + (p - b % p)) % p = (c + b + (p - b % p)) % p := by rw [Nat.add_mod, h2, ← Nat.add_mod]
 have e1 : ∀ y, (y + b + (p - b % p)) % p = y % p := by
  intro y
  have hb := Nat.div_add_mod b p
  have hl := Nat.mod_lt b hp0
  have : y + b + (p - b % p) = y + p * (b / p + 1) := by rw [Nat.mul_add]; omega
  rw [this, Nat.add_mul_mod_self_left]
 rwa [e1, e1] at h3
theorem zmj {F : Nat → Nat} {a : Nat} (hF : zbe F a) : ∀ n, zbe (sqN F n) (a ^ 2 ^ n)
 | 0 => by unfold sqN; simpa using hF
 | n + 1 => by
  rw [zrh, Nat.pow_succ, Nat.mul_two, Nat.pow_add]
  exact zi6 (zmj hF n) (zmj hF n)
def zoD (x : Nat) (i : Nat) : Nat := if i = 0 then x else 0
theorem zAh {x : Nat} (h : x < 4503599627370496) : okF (zoD x) 5 := fun i _ => by unfold zoD; split <;> omega
theorem zB0 (x : Nat) : zbr (zoD x) 5 = x := by rw [zaS]; unfold zoD; simp
theorem zh0 {x : Nat} (h : x < 4503599627370496) : zbe (zoD x) x := ⟨zAh h, by rw [zB0]⟩
end
section
open Go.RowKit
attribute [local irreducible] zdO zaR zcd zc4 zcX sqN zrv zrw zoD zbr zdG zvw ofN
def sA (X Z : Nat → Nat) := zrv X Z
def sB (X Z : Nat → Nat) := zrw X Z
def sDA (X Z X' Z' : Nat → Nat) := zcd (zrw X' Z') (sA X Z)
def sCB (X Z X' Z' : Nat → Nat) := zcd (zrv X' Z') (sB X Z)
def sHX (X Z X' Z' : Nat → Nat) := sqN (zrv (sDA X Z X' Z') (sCB X Z X' Z')) 1
def sHZ (X Z X' Z' U : Nat → Nat) := zcd U (sqN (zrw (sDA X Z X' Z') (sCB X Z X' Z')) 1)
def sAA (X Z : Nat → Nat) := sqN (sA X Z) 1
def sBB (X Z : Nat → Nat) := sqN (sB X Z) 1
def sE (X Z : Nat → Nat) := zrw (sAA X Z) (sBB X Z)
def sLX (X Z : Nat → Nat) := zcd (sAA X Z) (sBB X Z)
def sLZ (X Z : Nat → Nat) := zcd (sE X Z) (zrv (sAA X Z) (zcd (zoD 121665) (sE X Z)))
section
variable {X Z X' Z' U : Nat → Nat}
theorem zFJ (h : okF X 5) (h' : okF Z 5) : okF (sA X Z) 5 := zj0 h h'
theorem zFK (h : okF X 5) (h' : okF Z 5) : okF (sB X Z) 5 := zi5 h
theorem zvy (h1 : okF X 5) (h2 : okF Z 5) (h3 : okF X' 5) (h4 : okF Z' 5) : okF (sDA X Z X' Z') 5 := zeb _ _ (zi5 h3) (zFJ h1 h2)
theorem zB1 (h1 : okF X 5) (h2 : okF Z 5) (h3 : okF X' 5) (h4 : okF Z' 5) : okF (sCB X Z X' Z') 5 := zeb _ _ (zj0 h3 h4) (zFK h1 h2)
theorem zvz (h : okF X 5) (h' : okF Z 5) : okF (sAA X Z) 5 := ziZ _ (zFJ h h') 1
theorem zEG (h : okF X 5) (h' : okF Z 5) : okF (sBB X Z) 5 := ziZ _ (zFK h h') 1
theorem zFL (h : okF X 5) (h' : okF Z 5) : okF (sE X Z) 5 := zi5 (zvz h h')
theorem zi7 : okF (zoD 121665) 5 := zAh (by omega)
end
end
section
def IsP (p : Nat) : Prop := 2 ≤ p ∧ ∀ d, d ∣ p → d = 1 ∨ d = p
theorem zn3 {p a b : Nat} (hp : IsP p) (h : p ∣ a * b) : p ∣ a ∨ p ∣ b := by
 rcases hp.2 (Nat.gcd p a) (Nat.gcd_dvd_left p a) with h1 | h1
 ·exact .inr (Nat.Coprime.dvd_of_dvd_mul_left h1 h)
 ·exact .inl (by rw [← h1]; exact Nat.gcd_dvd_right p a)
theorem zvA (m : Nat) (h : 2 ≤ m) : ∃ q, IsP q ∧ q ∣ m := by
 induction m using Nat.strongRecOn with
 | _ m ih =>
  by_cases hm : ∃ d, d ∣ m ∧ d ≠ 1 ∧ d ≠ m
  ·obtain ⟨d, hd, h1, h2⟩ := hm
   have hle := Nat.le_of_dvd (by omega) hd
   have h0 : d ≠ 0 := fun e => by rw [e] at hd; have := Nat.eq_zero_of_zero_dvd hd; omega
   obtain ⟨q, hq, hqd⟩ := ih d (by omega) (by omega)
   exact ⟨q, hq, Nat.dvd_trans hqd hd⟩
  ·refine ⟨m, ⟨h, fun d hd => ?_⟩, Nat.dvd_refl m⟩
   by_cases h1 : d = 1
   ·exact .inl h1
   ·by_cases h2 : d = m
    ·exact .inr h2
    ·exact absurd ⟨d, hd, h1, h2⟩ hm
def zB2 : List Nat → Nat
 | [] => 1
 | q :: l => q * zB2 l
theorem zvB {q : Nat} (hq : IsP q) : ∀ (l : List Nat), (∀ x ∈ l, IsP x) → q ∣ zB2 l → q ∈ l
 | [], _, h => by have := Nat.le_of_dvd (by unfold zB2; omega) h; unfold zB2 at this; have := hq.1; omega
 | x :: l, hl, h => by
  rcases zn3 hq h with h1 | h1
  ·rcases (hl x (by simp)).2 q h1 with h2 | h2
   ·have := hq.1; omega
   ·simp [h2]
  ·simp [zvB hq l (fun y hy => hl y (by simp [hy])) h1]
theorem zAi : ∀ (N : Nat) (f : Nat → Nat), (∀ i, i < N + 1 → f i < N) → ∃ i j, i < j ∧ j < N + 1 ∧ f i = f j
 | 0, f, h => absurd (h 0 (by omega)) (by omega)
 | N + 1, f, h => by
  by_cases hv : ∃ i, i < N + 1 ∧ f i = f (N + 1)
  ·obtain ⟨i, hi, e⟩ := hv
   exact ⟨i, N + 1, hi, by omega, e⟩
  ·have hne : ∀ i, i < N + 1 → f i ≠ f (N + 1) := fun i hi e => hv ⟨i, hi, e⟩
   have hlast := h (N + 1) (by omega)
   obtain ⟨i, j, hij, hj, e⟩ := zAi N (fun i => if f i = N then f (N + 1) else f i) (fun i hi => by
    have h1 := h i (by omega)
    have h2 := hne i hi
    try dsimp only
    split <;> omega)
   refine ⟨i, j, hij, by omega, ?_⟩
   have hi1 := hne i (by omega)
   have hj1 := hne j hj
   try dsimp only at e
   split at e <;> split at e <;> omega
theorem zG9 (N : Nat) (f : Nat → Nat) (h : ∀ i, i < N → f i < N) (inj : ∀ i j, i < j → j < N → f i ≠ f j) (y : Nat) (hy : y < N) : ∃ i, i < N ∧ f i = y := by
 refine Classical.byContradiction fun hno => ?_
 have hn : ∀ i, i < N → f i ≠ y := fun i hi e => hno ⟨i, hi, e⟩
 obtain ⟨M, rfl⟩ : ∃ M, N = M + 1 := ⟨N - 1, by omega⟩
 obtain ⟨i, j, hij, hj, e⟩ := zAi M (fun i => if f i = M then y else f i) (fun i hi => by
  have h1 := h i hi
  have h2 := hn i hi
  try dsimp only
  split <;> omega)
 have hi1 := hn i (by omega)
 have hj1 := hn j hj
 refine inj i j hij hj ?_
 try dsimp only at e
 split at e <;> split at e <;> omega
theorem zed {n g k : Nat} (h : g ^ k % n = 1 % n) (t : Nat) : g ^ (k * t) % n = 1 % n := by
 rw [Nat.pow_mul, Nat.pow_mod, h, ← Nat.pow_mod, Nat.one_pow]
theorem zEH {n g N x y : Nat} (hN : 0 < N) (h : g ^ N % n = 1 % n) (k : Nat) (e : g ^ k * x % n = g ^ k * y % n) : x % n = y % n := by
 have key : ∀ z, (g ^ (N - 1)) ^ k * (g ^ k * z) % n = z % n := by
  intro z
  rw [← Nat.mul_assoc, ← Nat.mul_pow, ← Nat.pow_succ, show (N - 1).succ = N from by omega, Nat.mul_mod, Nat.pow_mod, h, ← Nat.pow_mod, Nat.one_pow, ← Nat.mul_mod, Nat.one_mul]
 rw [← key x, ← key y, Nat.mul_mod, e, ← Nat.mul_mod]
theorem zGc {p : Nat → Prop} : ∀ k, p k → ∃ e, p e ∧ ∀ d, d < e → ¬ p d := by
 intro k
 induction k using Nat.strongRecOn with
 | _ k ih =>
  intro hk
  by_cases hm : ∃ d, d < k ∧ p d
  ·obtain ⟨d, hd, hp⟩ := hm
   exact ih d hd hp
  ·exact ⟨k, hk, fun d hd hp => hm ⟨d, hd, hp⟩⟩
theorem zB3 {n g N : Nat} {qs : List Nat} (hN : 0 < N) (hqs : ∀ q ∈ qs, IsP q) (hm : zB2 qs = N) (h1 : g ^ N % n = 1 % n) (h2 : ∀ q ∈ qs, g ^ (N / q) % n ≠ 1 % n) (k : Nat) (hk0 : 0 < k) (hk : k < N) : g ^ k % n ≠ 1 % n := by
 intro hk1
 obtain ⟨e, ⟨he0, he1⟩, hmin⟩ := zGc (p := fun e => 0 < e ∧ g ^ e % n = 1 % n) k ⟨hk0, hk1⟩
 have hek : e ≤ k := by
  rcases Nat.lt_or_ge k e with h | h
  ·exact absurd ⟨hk0, hk1⟩ (hmin k h)
  ·exact h
 have hdv : e ∣ N := by
  have hr := Nat.div_add_mod N e
  have hl := Nat.mod_lt N he0
  have h3 : g ^ (N % e) % n = 1 % n := by
   have h4 := zed he1 (N / e)
   rw [← hr, Nat.pow_add, Nat.mul_mod, h4, ← Nat.mul_mod, Nat.one_mul] at h1
   exact h1
  rcases Nat.eq_zero_or_pos (N % e) with h | h
  ·exact Nat.dvd_of_mod_eq_zero h
  ·exact absurd ⟨h, h3⟩ (hmin _ hl)
 obtain ⟨t, ht⟩ := hdv
 have ht2 : 2 ≤ t := by
  rcases Nat.lt_or_ge t 2 with h | h
  ·have : t = 0 ∨ t = 1 := by omega
   rcases this with rfl | rfl <;> omega
  ·exact h
 obtain ⟨q, hq, hqt⟩ := zvA t ht2
 have hqm : q ∈ qs := zvB hq qs hqs (by rw [hm, ht]; exact Nat.dvd_trans hqt (Nat.dvd_mul_left t e))
 obtain ⟨s, hs⟩ := hqt
 refine h2 q hqm ?_
 have : N / q = e * s := by
  rw [ht, hs, Nat.mul_left_comm]
  exact Nat.mul_div_cancel_left _ (by have := hq.1; omega)
 rw [this]
 exact zed he1 s
theorem zyF {n g : Nat} {qs : List Nat} (hn : 2 ≤ n) (hqs : ∀ q ∈ qs, IsP q) (hm : zB2 qs = n - 1) (h1 : g ^ (n - 1) % n = 1) (h2 : ∀ q ∈ qs, g ^ ((n - 1) / q) % n ≠ 1) :
  IsP n ∧ ∀ a, a % n ≠ 0 → a ^ (n - 1) % n = 1 := by
 have e1 : 1 % n = 1 := Nat.mod_eq_of_lt (by omega)
 have hN : 0 < n - 1 := by omega
 have h1' : g ^ (n - 1) % n = 1 % n := by rw [h1, e1]
 have hless := zB3 hN hqs hm h1' (fun q hq => by rw [e1]; exact h2 q hq)
 have all : ∀ a, a % n ≠ 0 → a ^ (n - 1) % n = 1 := by
  intro a ha
  have hlt := Nat.mod_lt a (show n > 0 by omega)
  have nz : ∀ i, g ^ i % n ≠ 0 := by
   intro i hi
   have h3 := zed h1' i
   rw [Nat.mul_comm, Nat.pow_mul, Nat.pow_mod, hi, e1] at h3
   rw [Nat.zero_pow hN, Nat.zero_mod] at h3
   omega
  obtain ⟨k, _, hk⟩ := zG9 (n - 1) (fun i => g ^ i % n - 1) (fun i hi => by
    have := nz i
    have := Nat.mod_lt (g ^ i) (show n > 0 by omega)
    try dsimp only
    omega) (fun i j hij hj e => by
    have a1 := nz i
    have a2 := nz j
    try dsimp only at e
    have e3 : g ^ i * 1 % n = g ^ i * g ^ (j - i) % n := by
     rw [Nat.mul_one, ← Nat.pow_add, show i + (j - i) = j from by omega]
     omega
    exact hless (j - i) (by omega) (by omega) (zEH hN h1' i e3).symm) (a % n - 1) (by omega)
  have hka : g ^ k % n = a % n := by have := nz k; omega
  have h4 := zed h1' k
  rw [Nat.mul_comm, Nat.pow_mul, Nat.pow_mod, hka, ← Nat.pow_mod, e1] at h4
  exact h4
 refine ⟨⟨hn, fun d hd => ?_⟩, all⟩
 by_cases hd1 : d = 1
 ·exact .inl hd1
 by_cases hdn : d = n
 ·exact .inr hdn
 exfalso
 have hle := Nat.le_of_dvd (by omega) hd
 have hd0 : d ≠ 0 := fun e => by rw [e] at hd; have := Nat.eq_zero_of_zero_dvd hd; omega
 have h3 := all d (by rw [Nat.mod_eq_of_lt (by omega)]; exact hd0)
 have h4 : d ∣ d ^ (n - 1) % n := by
  rw [Nat.dvd_mod_iff hd]
  exact Nat.dvd_trans (by rw [Nat.pow_one]; exact Nat.dvd_refl d) (Nat.pow_dvd_pow d (show 1 ≤ n - 1 by omega))
 rw [h3] at h4
 have := Nat.le_of_dvd (by omega) h4
 omega
def pw (n : Nat) : Nat → Nat → Nat → Nat
 | 0, _, _ => 1 % n
 | f + 1, b, e => if e % 2 = 1 then b * pw n f (b * b % n) (e / 2) % n else pw n f (b * b % n) (e / 2)
theorem zyG (n : Nat) : ∀ f b e, e < 2 ^ f → pw n f b e = b ^ e % n
 | 0, b, e, h => by
  have : e = 0 := by simpa using h
  subst this
  simp [pw]
 | f + 1, b, e, h => by
  have ih := zyG n f (b * b % n) (e / 2) (by rw [Nat.pow_succ] at h; omega)
  have e2 : (b * b % n) ^ (e / 2) % n = b ^ (2 * (e / 2)) % n := by rw [← Nat.pow_mod, ← Nat.pow_two, ← Nat.pow_mul]
  unfold pw
  rw [ih, e2]
  split
  ·rw [Nat.mul_mod_mod, ← Nat.pow_succ']
   congr 2
   omega
  ·congr 2
   omega
def zAj (n g : Nat) (qs : List Nat) : Bool := decide (2 ≤ n) && decide (n < 2 ^ 256) && decide (zB2 qs = n - 1) && decide (pw n 256 g (n - 1) = 1) && qs.all fun q => decide (pw n 256 g ((n - 1) / q) ≠ 1)
def zcO (v e : Nat) : Nat := v ^ e
def IsL (n : Nat) : Prop := IsP n ∧ ∀ a, a % n ≠ 0 → zcO a (n - 1) % n = 1
theorem za9 (n g : Nat) (qs : List Nat) (h : zAj n g qs = true) (hqs : ∀ q ∈ qs, IsP q) : IsL n := by
 unfold IsL zcO
 simp only [zAj, Bool.and_eq_true, jS, List.all_eq_true] at h
 obtain ⟨⟨⟨⟨h1, h2⟩, h3⟩, h4⟩, h5⟩ := h
 refine zyF h1 hqs h3 (by rw [← zyG n 256 g (n - 1) (Nat.lt_of_le_of_lt (Nat.sub_le _ _) h2)]; exact h4) (fun q hq => ?_)
 have := h5 q hq
 rwa [zyG n 256 g _ (Nat.lt_of_le_of_lt (Nat.div_le_self _ _) (Nat.lt_of_le_of_lt (Nat.sub_le _ _) h2))] at this
def zAk (n : Nat) : Bool := decide (2 ≤ n) && (List.range n).all fun d => decide (d < 2) || decide (n % d ≠ 0)
theorem zbk {n : Nat} (h : zAk n = true) : IsP n := by
 simp only [zAk, Bool.and_eq_true, jS, List.all_eq_true, Bool.or_eq_true, List.mem_range] at h
 refine ⟨h.1, fun d hd => ?_⟩
 by_cases hdn : d = n
 ·exact .inr hdn
 have hle := Nat.le_of_dvd (by omega) hd
 rcases h.2 d (by omega) with h2 | h2
 ·have : d ≠ 0 := fun e => by rw [e] at hd; have := Nat.eq_zero_of_zero_dvd hd; omega
  omega
 ·exact absurd (Nat.mod_eq_zero_of_dvd hd) h2
theorem zaq : ∀ q ∈ ([] : List Nat), IsP q := fun _ h => by cases h
theorem all_cons {x : Nat} {l : List Nat} (h : IsP x) (hl : ∀ q ∈ l, IsP q) : ∀ q ∈ x :: l, IsP q := fun q hq => by
 rcases List.mem_cons.1 hq with rfl | hq
 ·exact h
 ·exact hl q hq
theorem p2 : IsP 2 := zbk (by decide +kernel)
theorem p3 : IsP 3 := zbk (by decide +kernel)
theorem p5 : IsP 5 := zbk (by decide +kernel)
theorem p7 : IsP 7 := zbk (by decide +kernel)
theorem p13 : IsP 13 := zbk (by decide +kernel)
theorem p17 : IsP 17 := zbk (by decide +kernel)
theorem p19 : IsP 19 := zbk (by decide +kernel)
theorem p23 : IsP 23 := zbk (by decide +kernel)
theorem p29 : IsP 29 := zbk (by decide +kernel)
theorem p31 : IsP 31 := zbk (by decide +kernel)
theorem p41 : IsP 41 := zbk (by decide +kernel)
theorem p43 : IsP 43 := zbk (by decide +kernel)
theorem p47 : IsP 47 := zbk (by decide +kernel)
theorem p59 : IsP 59 := zbk (by decide +kernel)
theorem p83 : IsP 83 := zbk (by decide +kernel)
theorem p97 : IsP 97 := zbk (by decide +kernel)
theorem zHa : IsP 103 := zbk (by decide +kernel)
theorem zHb : IsP 107 := zbk (by decide +kernel)
theorem zHc : IsP 127 := zbk (by decide +kernel)
theorem zHd : IsP 131 := zbk (by decide +kernel)
theorem zHe : IsP 173 := zbk (by decide +kernel)
theorem zHf : IsP 223 := zbk (by decide +kernel)
theorem zHg : IsP 353 := zbk (by decide +kernel)
theorem zHh : IsP 419 := zbk (by decide +kernel)
theorem zHi : IsP 479 := zbk (by decide +kernel)
theorem zHj : IsP 487 := zbk (by decide +kernel)
theorem zHk : IsP 991 := zbk (by decide +kernel)
theorem zGd : IsL 1723 := za9 1723 3 [2, 3, 7, 41] (by decide +kernel) (all_cons p2 (all_cons p3 (all_cons p7 (all_cons p41 zaq))))
theorem zGe : IsL 2437 := za9 2437 2 [2, 2, 3, 7, 29] (by decide +kernel) (all_cons p2 (all_cons p2 (all_cons p3 (all_cons p7 (all_cons p29 zaq)))))
theorem zGf : IsL 3727 := za9 3727 3 [2, 3, 3, 3, 3, 23] (by decide +kernel) (all_cons p2 (all_cons p3 (all_cons p3 (all_cons p3 (all_cons p3 (all_cons p23 zaq))))))
theorem zGg : IsL 4153 := za9 4153 5 [2, 2, 2, 3, 173] (by decide +kernel) (all_cons p2 (all_cons p2 (all_cons p2 (all_cons p3 (all_cons zHe zaq)))))
theorem zGh : IsL 9463 := za9 9463 3 [2, 3, 19, 83] (by decide +kernel) (all_cons p2 (all_cons p3 (all_cons p19 (all_cons p83 zaq))))
theorem zEI : IsL 32573 := za9 32573 2 [2, 2, 17, 479] (by decide +kernel) (all_cons p2 (all_cons p2 (all_cons p17 (all_cons zHi zaq))))
theorem zEJ : IsL 37853 := za9 37853 2 [2, 2, 9463] (by decide +kernel) (all_cons p2 (all_cons p2 (all_cons zGh.1 zaq)))
theorem zEK : IsL 57467 := za9 57467 2 [2, 59, 487] (by decide +kernel) (all_cons p2 (all_cons p59 (all_cons zHj zaq)))
theorem zEL : IsL 65147 := za9 65147 2 [2, 32573] (by decide +kernel) (all_cons p2 (all_cons zEI.1 zaq))
theorem zEM : IsL 75707 := za9 75707 2 [2, 37853] (by decide +kernel) (all_cons p2 (all_cons zEJ.1 zaq))
theorem zB4 : IsL 132049 := za9 132049 26 [2, 2, 2, 2, 3, 3, 7, 131] (by decide +kernel) (all_cons p2 (all_cons p2 (all_cons p2 (all_cons p2 (all_cons p3 (all_cons p3 (all_cons p7 (all_cons zHd zaq))))))))
theorem zB5 : IsL 430751 := za9 430751 17 [2, 5, 5, 5, 1723] (by decide +kernel) (all_cons p2 (all_cons p5 (all_cons p5 (all_cons p5 (all_cons zGd.1 zaq)))))
theorem zB6 : IsL 569003 := za9 569003 2 [2, 7, 97, 419] (by decide +kernel) (all_cons p2 (all_cons p7 (all_cons p97 (all_cons zHh zaq))))
theorem zyH : IsL 1923133 := za9 1923133 2 [2, 2, 3, 43, 3727] (by decide +kernel) (all_cons p2 (all_cons p2 (all_cons p3 (all_cons p43 (all_cons zGf.1 zaq)))))
theorem zyI : IsL 8574133 := za9 8574133 2 [2, 2, 3, 7, 103, 991] (by decide +kernel) (all_cons p2 (all_cons p2 (all_cons p3 (all_cons p7 (all_cons zHa (all_cons zHk zaq))))))
theorem zps : IsL 2773320623 := za9 2773320623 5 [2, 2437, 569003] (by decide +kernel) (all_cons p2 (all_cons zGe.1 (all_cons zB6.1 zaq)))
theorem zn4 : IsL 72106336199 := za9 72106336199 7 [2, 13, 2773320623] (by decide +kernel) (all_cons p2 (all_cons p13 (all_cons zps.1 zaq)))
theorem zha : IsL 1919519569386763 := za9 1919519569386763 2 [2, 3, 7, 19, 47, 47, 127, 8574133] (by decide +kernel) (all_cons p2 (all_cons p3 (all_cons p7 (all_cons p19 (all_cons p47 (all_cons p47 (all_cons zHc (all_cons zyI.1 zaq))))))))
theorem zgF : IsL 31757755568855353 := za9 31757755568855353 10 [2, 2, 2, 3, 31, 107, 223, 4153, 430751] (by decide +kernel) (all_cons p2 (all_cons p2 (all_cons p2 (all_cons p3 (all_cons p31 (all_cons zHb (all_cons zHf (all_cons zGg.1 (all_cons zB5.1 zaq)))))))))
theorem zb5 : IsL 75445702479781427272750846543864801 := za9 75445702479781427272750846543864801 7 [2, 2, 2, 2, 2, 3, 3, 5, 5, 75707, 72106336199, 1919519569386763] (by decide +kernel) (all_cons p2 (all_cons p2 (all_cons p2 (all_cons p2 (all_cons p2 (all_cons p3 (all_cons p3 (all_cons p5 (all_cons p5 (all_cons zEM.1 (all_cons zn4.1 (all_cons zha.1 zaq))))))))))))
theorem zaV : IsL 74058212732561358302231226437062788676166966415465897661863160754340907 := za9 74058212732561358302231226437062788676166966415465897661863160754340907 2 [2, 3, 353, 57467, 132049, 1923133, 31757755568855353, 75445702479781427272750846543864801] (by decide +kernel) (all_cons p2 (all_cons p3 (all_cons zHg (all_cons zEK.1 (all_cons zB4.1 (all_cons zyH.1 (all_cons zgF.1 (all_cons zb5.1 zaq))))))))
theorem zap : IsL 57896044618658097711785492504343953926634992332820282019728792003956564819949 := za9 57896044618658097711785492504343953926634992332820282019728792003956564819949 2 [2, 2, 3, 65147, 74058212732561358302231226437062788676166966415465897661863160754340907] (by decide +kernel) (all_cons p2 (all_cons p2 (all_cons p3 (all_cons zEL.1 (all_cons zaV.1 zaq)))))
end
section
attribute [local irreducible] zdO zaR zcd zc4 zcX zrv zrw zbr
theorem zmk (v : Nat) : zcO v 1 = v := Nat.pow_one v
theorem zB7 (v e n : Nat) : zcO v e ^ 2 ^ n = zcO v (e * 2 ^ n) := (Nat.pow_mul v e _).symm
theorem zh1 (v e f : Nat) : zcO v e * zcO v f = zcO v (e + f) := (Nat.pow_add v e f).symm
theorem zB8 (v e k : Nat) (h : e + 1 = k) : v * zcO v e = zcO v k := by subst h; exact (Nat.pow_succ' ..).symm
theorem zyJ (v w e n : Nat) (h : v % n = w % n) : zcO v e % n = zcO w e % n := by unfold zcO; rw [Nat.pow_mod, h, ← Nat.pow_mod]
theorem zn5 (e n : Nat) (v : Nat) (he : e ≠ 0) (h : v % n = 0) : zcO v e % n = 0 := by
 unfold zcO
 rw [Nat.pow_mod, h, Nat.zero_pow (Nat.pos_of_ne_zero he), Nat.zero_mod]
attribute [local irreducible] zcO
theorem zn6 (v : Nat) (h : v % pN ≠ 0) : zcO v 57896044618658097711785492504343953926634992332820282019728792003956564819948 % pN = 1 := by
 have h1 := zap.2 v
 unfold pN at h ⊢
 exact h1 h
theorem zpt {F : Nat → Nat} {v e : Nat} (hF : zbe F (zcO v e)) (n k : Nat) (h : e * 2 ^ n = k) : zbe (sqN F n) (zcO v k) := by
 have := zmj hF n
 rwa [zB7, h] at this
theorem zi8 {F G : Nat → Nat} {v e f k : Nat} (hF : zbe F (zcO v e)) (hG : zbe G (zcO v f)) (h : e + f = k) : zbe (zcd F G) (zcO v k) := by
 have := zi6 hF hG
 rwa [zh1, h] at this
theorem zcw {F G : Nat → Nat} {v e f k : Nat} (n : Nat) (hF : zbe F (zcO v e)) (hG : zbe G (zcO v f)) (h : e * 2 ^ n + f = k) : zbe (zfO F n G) (zcO v k) :=
 zi8 (zpt hF n _ rfl) hG h
theorem zrx {F : Nat → Nat} {v : Nat} (hF : zbe F v) : zbe (zvw F) (zcO v 57896044618658097711785492504343953926634992332820282019728792003956564819947) := by
 have h1 : zbe F (zcO v 1) := by rw [zmk]; exact hF
 have h2 : zbe (zmg F) (zcO v 2) := zpt h1 1 _ rfl
 have h9 : zbe (zgA F) (zcO v 9) := zcw 2 h2 h1 rfl
 have h11 : zbe (zcu F) (zcO v 11) := zi8 h9 h2 rfl
 have h5 : zbe (zgB F) (zcO v 31) := zi8 (zpt h11 1 22 rfl) h9 rfl
 have h10 : zbe (zi3 F) (zcO v 1023) := zcw 5 h5 h5 rfl
 have h20 : zbe (zde F) (zcO v 1048575) := zcw 10 h10 h10 rfl
 have h40 : zbe (zfQ F) (zcO v 1099511627775) := zcw 20 h20 h20 rfl
 have h50 : zbe (zdu F) (zcO v 1125899906842623) := zcw 10 h40 h10 rfl
 have h100 : zbe (zcv F) (zcO v 1267650600228229401496703205375) := zcw 50 h50 h50 rfl
 have h200 : zbe (zec F) (zcO v 1606938044258990275541962092341162602522202993782792835301375) := zcw 100 h100 h100 rfl
 have h250 : zbe (zi4 F) (zcO v 1809251394333065553493296640760748560207343510400633813116524750123642650623) := zcw 50 h200 h50 rfl
 exact zcw 5 h250 h11 rfl
theorem zB9 (v : Nat) (h : v % pN ≠ 0) : v * zcO v 57896044618658097711785492504343953926634992332820282019728792003956564819947 % pN = 1 % pN := by
 rw [zB8 v _ 57896044618658097711785492504343953926634992332820282019728792003956564819948 rfl, zn6 v h]
 rfl
end
section
open Go.RowKit
theorem zvC (k : Nat → Nat) (hk : ∀ i, i < 32 → k i < 256) : kvN (zfR k) 32 = kvN k 32 % 57896044618658097711785492504343953926634992332820282019728792003956564819968 := by
 have e1 : kvN (zfR k) 31 = kvN k 31 := ziW _ _ 31 (fun i hi => by unfold zfR; rw [if_neg (by omega)])
 have e2 : kvN (zfR k) 32 = kvN (zfR k) 31 + zfR k 31 * 2 ^ (8 * 31) := rfl
 have e3 : kvN k 32 = kvN k 31 + k 31 * 2 ^ (8 * 31) := rfl
 have h1 := zjX k 31 (fun i hi => hk i (by omega)) 31 (jV _)
 have h2 : zfR k 31 = k 31 % 128 := by unfold zfR; rw [if_pos rfl]
 rw [e2, e3, e1, h2]
 generalize kvN k 31 = v at *
 generalize k 31 = x at *
 rw [show (2 : Nat) ^ (8 * 31) = 452312848583266388373324160190187140051835877600158453279131187530910662656 from rfl] at *
 omega
theorem zCa (k : Nat → Nat) (hk : ∀ i, i < 32 → k i < 256) : zbr (ofN k) 5 % pN = kvN (zfR k) 32 % pN := by
 have e : zbr (ofN k) 5 = zbr (zFH (kvN k 32)) 5 := by
  rw [zaS, zaS]
  simp only [zBQ]
 rw [e, zBP, zvC k hk]
theorem zpu {F : Nat → Nat} (hF : okF F 5) {v : Nat} (h : zbr F 5 % pN = v) (i : Nat) : ((zdG F i : Nat) : Int) = ((zaR v i : Nat) : Int) := by
 rw [zvx F hF i, zvb F (fun i hi => zrd hF i hi), h]
attribute [local irreducible] zdO zaR zcd zc4 zcX sqN zrv zrw zoD zbr zdG zvw ofN
def fA (a b : Nat) : Nat := (a + b) % pN
def fS (a b : Nat) : Nat := (a + (pN - b)) % pN
def fM (a b : Nat) : Nat := a * b % pN
structure Pt where
 x : Nat
 z : Nat
def zfY (q : Pt) : Prop := q.x < pN ∧ q.z < pN
def zyK (q : Pt) : Nat := fS (fM (fA q.x q.z) (fA q.x q.z)) (fM (fS q.x q.z) (fS q.x q.z))
def zoE (q : Pt) : Pt := ⟨fM (fM (fA q.x q.z) (fA q.x q.z)) (fM (fS q.x q.z) (fS q.x q.z)), fM (zyK q) (fA (fM (fA q.x q.z) (fA q.x q.z)) (fM 121665 (zyK q)))⟩
def zpv (q s : Pt) : Nat := fM (fS s.x s.z) (fA q.x q.z)
def zpw (q s : Pt) : Nat := fM (fA s.x s.z) (fS q.x q.z)
def zmm (u : Nat) (q s : Pt) : Pt := ⟨fM (fA (zpv q s) (zpw q s)) (fA (zpv q s) (zpw q s)), fM u (fM (fS (zpv q s) (zpw q s)) (fS (zpv q s) (zpw q s)))⟩
def zgG (u b : Nat) (q s : Pt) : Pt × Pt := if b = 1 then (zmm u s q, zoE s) else (zoE q, zmm u q s)
def zeo (k : Nat → Nat) (n : Nat) : Nat := k ((254 - n) / 8) / 2 ^ ((254 - n) % 8) % 2
def zdP (u : Nat) (k : Nat → Nat) : Nat → Pt × Pt
 | 0 => (⟨1, 0⟩, ⟨u, 1⟩)
 | n + 1 => zgG u (zeo k n) (zdP u k n).1 (zdP u k n).2
def zbf (k : Nat → Nat) (i : Nat) : Nat := if i = 0 then k 0 / 8 * 8 else if i = 31 then k 31 % 64 + 64 else k i
def zdx (k : Nat → Nat) (u : Nat) : Nat := fM (zdP u (zbf k) 255).1.x (zcO (zdP u (zbf k) 255).1.z 57896044618658097711785492504343953926634992332820282019728792003956564819947)
def zj1 (u : Nat → Nat) : Nat := kvN (zfR u) 32 % pN
theorem zcP : 0 < pN := by unfold pN; decide +kernel
theorem zpx (a b : Nat) : fA a b < pN := Nat.mod_lt _ zcP
theorem zn7 (a b : Nat) : fS a b < pN := Nat.mod_lt _ zcP
theorem zdf (a b : Nat) : fM a b < pN := Nat.mod_lt _ zcP
theorem zAm (q : Pt) : zfY (zoE q) := ⟨zdf _ _, zdf _ _⟩
theorem zAn (u : Nat) (q s : Pt) : zfY (zmm u q s) := ⟨zdf _ _, zdf _ _⟩
theorem zh2 : 1 < pN := by unfold pN; decide +kernel
theorem zn8 (u : Nat) (hu : u < pN) (k : Nat → Nat) : ∀ n, zfY (zdP u k n).1 ∧ zfY (zdP u k n).2
 | 0 => ⟨⟨zh2, zcP⟩, ⟨hu, zh2⟩⟩
 | n + 1 => by
  unfold zdP zgG
  split
  ·exact ⟨zAn _ _ _, zAm _⟩
  ·exact ⟨zAm _, zAn _ _ _⟩
theorem zhb (k : Nat → Nat) (n : Nat) : zeo k n = 0 ∨ zeo k n = 1 := by unfold zeo; omega
theorem zmn {F : Nat → Nat} {a : Nat} (h : zbe F a) : zbe F (a % pN) := ⟨h.1, by rw [h.2, Nat.mod_mod]⟩
theorem zn9 {F G : Nat → Nat} {a b : Nat} (hF : zbe F a) (hG : zbe G b) : zbe (zrv F G) (fA a b) := zmn (zyD hF hG)
theorem zoa {F G : Nat → Nat} {a b : Nat} (hF : zbe F a) (hG : zbe G b) (hb : b < pN) : zbe (zrw F G) (fS a b) := by
 refine zyE hF hG ?_
 unfold fS
 rw [Nat.mod_add_mod, show a + (pN - b) + b = a + pN by omega, Nat.add_mod_right]
theorem zi9 {F G : Nat → Nat} {a b : Nat} (hF : zbe F a) (hG : zbe G b) : zbe (zcd F G) (fM a b) := zmn (zi6 hF hG)
theorem zry {F : Nat → Nat} {a : Nat} (hF : zbe F a) : zbe (sqN F 1) (fM a a) := by
 have h := zmn (zmj hF 1)
 rw [show a ^ 2 ^ 1 = a * a from by rw [Nat.pow_one]; exact Nat.pow_two a] at h
 exact h
section
variable {X Z X' Z' U : Nat → Nat} {q s : Pt} {u : Nat}
theorem zpy (hX : zbe X q.x) (hZ : zbe Z q.z) : zbe (sAA X Z) (fM (fA q.x q.z) (fA q.x q.z)) := zry (zn9 hX hZ)
theorem zvD (hX : zbe X q.x) (hZ : zbe Z q.z) (hq : zfY q) : zbe (sBB X Z) (fM (fS q.x q.z) (fS q.x q.z)) := zry (zoa hX hZ hq.2)
theorem zAo (hX : zbe X q.x) (hZ : zbe Z q.z) (hq : zfY q) : zbe (sE X Z) (zyK q) := zoa (zpy hX hZ) (zvD hX hZ hq) (zdf _ _)
theorem zCb (hX : zbe X q.x) (hZ : zbe Z q.z) (hq : zfY q) : zbe (sLX X Z) (zoE q).x := zi9 (zpy hX hZ) (zvD hX hZ hq)
theorem zCc (hX : zbe X q.x) (hZ : zbe Z q.z) (hq : zfY q) : zbe (sLZ X Z) (zoE q).z := zi9 (zAo hX hZ hq) (zn9 (zpy hX hZ) (zi9 (zh0 (by omega)) (zAo hX hZ hq)))
theorem zvE (hX : zbe X q.x) (hZ : zbe Z q.z) (hX' : zbe X' s.x) (hZ' : zbe Z' s.z) (hs : zfY s) : zbe (sDA X Z X' Z') (zpv q s) := zi9 (zoa hX' hZ' hs.2) (zn9 hX hZ)
theorem zvF (hX : zbe X q.x) (hZ : zbe Z q.z) (hX' : zbe X' s.x) (hZ' : zbe Z' s.z) (hq : zfY q) : zbe (sCB X Z X' Z') (zpw q s) := zi9 (zn9 hX' hZ') (zoa hX hZ hq.2)
theorem zCd (hX : zbe X q.x) (hZ : zbe Z q.z) (hX' : zbe X' s.x) (hZ' : zbe Z' s.z) (hq : zfY q) (hs : zfY s) : zbe (sHX X Z X' Z') (zmm u q s).x := zry (zn9 (zvE hX hZ hX' hZ' hs) (zvF hX hZ hX' hZ' hq))
theorem zCe (hX : zbe X q.x) (hZ : zbe Z q.z) (hX' : zbe X' s.x) (hZ' : zbe Z' s.z) (hq : zfY q) (hs : zfY s) (hU : zbe U u) : zbe (sHZ X Z X' Z' U) (zmm u q s).z := zi9 hU (zry (zoa (zvE hX hZ hX' hZ' hs) (zvF hX hZ hX' hZ' hq) (zdf _ _)))
end
end
section
theorem zrz : 0 < pN := by unfold pN; omega
theorem zCf (L : Nat → Nat) (h : ∀ i, 16 ≤ i → L i = 0) : zaP L 32 = zaP L 16 := by
 rw [zfN L 16 16, zcc (fun i => L (16 + i)) (fun _ => 0) 16 (fun i _ => h _ (by omega))]
 have : ∀ n, zaP (fun _ => 0) n = 0 := by
  intro n
  induction n with
  | zero => rfl
  | succ n ih => rw [zaU, ih, Nat.zero_mul]
 rw [this, Nat.mul_zero, Nat.add_zero]
theorem zsL (A B : Nat → Nat) (n : Nat) : zaP (fun i => A i + B i) n = zaP A n + zaP B n := by
 have := ziT A B 1 n
 rw [Nat.one_mul] at this
 rw [← this]
 exact zcc _ _ n (fun i _ => by rw [Nat.one_mul])
def zsM (a b : Nat) (i : Nat) : Nat := if i < 16 then zai a i + zai b i else 0
theorem zrA (a b : Nat) (ha : a < 2 ^ 256) (hb : b < 2 ^ 256) : zaP (zsM a b) 32 = a + b := by
 rw [zCf _ (fun i hi => by unfold zsM; rw [if_neg (by omega)]), zcc (zsM a b) (fun i => zai a i + zai b i) 16 (fun i hi => by unfold zsM; rw [if_pos hi]), zsL, zgx, zgx, Nat.mod_eq_of_lt ha, Nat.mod_eq_of_lt hb]
theorem zvG (a b i : Nat) : zsM a b i < 1099511627776 := by
 have := zb0 a i
 have := zb0 b i
 unfold zsM
 split <;> omega
theorem zja (X : Nat → Nat) (c t : Nat) : ∀ n, zaP (fun j => X j + if c = j then t else 0) n = zaP X n + if c < n then t * 2 ^ (16 * c) else 0
 | 0 => rfl
 | n + 1 => by
  rw [zaU, zja X c t n, zaU, Nat.add_mul]
  by_cases h : c = n
  ·subst h
   rw [if_pos rfl, if_neg (by omega), if_pos (by omega)]
   omega
  ·rw [if_neg h, Nat.zero_mul]
   by_cases h2 : c < n
   ·rw [if_pos h2, if_pos (by omega)]; omega
   ·rw [if_neg h2, if_neg (by omega)]; omega
def zhq (A B : Nat → Nat) : Nat → Nat → Nat
 | 0, _ => 0
 | n + 1, c => zhq A B n c + if n / 16 + n % 16 = c then A (n / 16) * B (n % 16) else 0
theorem zjb (A B : Nat → Nat) (n c : Nat) : zhq A B (n + 1) c = zhq A B n c + if n / 16 + n % 16 = c then A (n / 16) * B (n % 16) else 0 := rfl
theorem zvH (A B : Nat → Nat) (hA : ∀ i, i < 16 → A i < 65536) (hB : ∀ i, i < 16 → B i < 65536) (c : Nat) : ∀ n, n ≤ 256 → zhq A B n c ≤ n * 4294836225
 | 0, _ => by unfold zhq; omega
 | n + 1, h => by
  have h1 := zvH A B hA hB c n (by omega)
  have ha := hA (n / 16) (by omega)
  have hb := hB (n % 16) (by omega)
  rw [zjb]
  have h2 : A (n / 16) * B (n % 16) ≤ 4294836225 := jU (Nat.mul_le_mul (show A (n / 16) ≤ 65535 by omega) (show B (n % 16) ≤ 65535 by omega)) (by decide)
  rw [Nat.succ_mul]
  refine Nat.add_le_add h1 ?_
  split
  ·exact h2
  ·exact Nat.zero_le _
theorem zfb (X : Nat → Nat) : zaP X 0 = 0 := rfl
theorem zhc (X : Nat → Nat) (h : ∀ i, X i = 0) : ∀ n, zaP X n = 0
 | 0 => rfl
 | n + 1 => by rw [zaU, zhc X h n, h n, Nat.zero_mul]
theorem zyL (A B : Nat → Nat) (N : Nat) (hN : 32 ≤ N) : ∀ i, i ≤ 16 → ∀ k, k ≤ 16 → i * 16 + k ≤ 256 → zaP (zhq A B (16 * i + k)) N = zaP A i * zaP B 16 + A i * 2 ^ (16 * i) * zaP B k := by
 have step : ∀ i k, i < 16 → k < 16 → zaP (zhq A B (16 * i + (k + 1))) N = zaP (zhq A B (16 * i + k)) N + A i * B k * 2 ^ (16 * (i + k)) := by
  intro i k hi hk
  have e : ∀ c, zhq A B (16 * i + (k + 1)) c = zhq A B (16 * i + k) c + if i + k = c then A i * B k else 0 := by
   intro c
   rw [← Nat.add_assoc, zjb]
   rw [show (16 * i + k) / 16 = i from by omega, show (16 * i + k) % 16 = k from by omega]
  rw [zcc _ _ N (fun c _ => e c), zja, if_pos (by omega)]
 have row : ∀ i, i < 16 → ∀ v, zaP (zhq A B (16 * i)) N = v → ∀ k, k ≤ 16 → zaP (zhq A B (16 * i + k)) N = v + A i * 2 ^ (16 * i) * zaP B k := by
  intro i hi v hv k
  induction k with
  | zero => intro _; rw [Nat.add_zero, hv, zfb, Nat.mul_zero, Nat.add_zero]
  | succ k ih =>
   intro hk
   rw [step i k hi (by omega), ih (by omega), zaU B k, Nat.mul_add 16 i k, Nat.pow_add, Nat.mul_add, Nat.mul_mul_mul_comm, Nat.add_assoc]
 have heads : ∀ i, i ≤ 16 → zaP (zhq A B (16 * i)) N = zaP A i * zaP B 16 := by
  intro i
  induction i with
  | zero => intro _; rw [Nat.mul_zero, zhc (zhq A B 0) (fun _ => rfl), zfb, Nat.zero_mul]
  | succ i ih =>
   intro hi
   rw [show 16 * (i + 1) = 16 * i + 16 from by omega, row i (by omega) _ (ih (by omega)) 16 (jV _), zaU A i, Nat.add_mul]
 intro i hi k hk h
 by_cases h16 : i = 16
 ·obtain rfl : k = 0 := by omega
  rw [Nat.add_zero, heads i hi, zfb, Nat.mul_zero, Nat.add_zero]
 ·exact row i (by omega) _ (heads i hi) k hk
theorem zCg (a b : Nat) (ha : a < 2 ^ 256) (hb : b < 2 ^ 256) : zaP (zhq (zai a) (zai b) 256) 32 = a * b := by
 have := zyL (zai a) (zai b) 32 (by omega) 16 (by omega) 0 (by omega) (by omega)
 rw [zgx, zgx, Nat.mod_eq_of_lt ha, Nat.mod_eq_of_lt hb, zfb, Nat.mul_zero, Nat.add_zero] at this
 exact this
theorem zj2 (v i : Nat) : zai v i % 256 = v / 2 ^ (8 * (2 * i)) % 256 ∧ zai v i / 256 = v / 2 ^ (8 * (2 * i + 1)) % 256 := by
 unfold zai
 rw [show 8 * (2 * i) = 16 * i from by omega, show 8 * (2 * i + 1) = 16 * i + 8 from by omega, Nat.pow_add, ← Nat.div_div_eq_div_mul]
 constructor <;> omega
theorem zvI (v : Nat) : v % pN < 2 ^ 256 := Nat.lt_trans (Nat.mod_lt _ zrz) (by unfold pN; decide +kernel)
theorem zyM : pN < 2 ^ 256 := by unfold pN; decide +kernel
def zfS (a : Nat) : Nat → Nat
 | 0 => 1
 | k + 1 => if k = 252 ∨ k = 250 then zfS a k * zfS a k % pN else zfS a k * zfS a k % pN * a % pN
theorem zgH (a k : Nat) : zfS a (k + 1) = if k = 252 ∨ k = 250 then zfS a k * zfS a k % pN else zfS a k * zfS a k % pN * a % pN := rfl
theorem zCh : ∀ k, k < 255 → (pN - 2) / 2 ^ (255 - (k + 1)) = 2 * ((pN - 2) / 2 ^ (255 - k)) + if k = 252 ∨ k = 250 then 0 else 1 := by unfold pN; decide +kernel
theorem zvJ (a : Nat) : ∀ k, zfS a k < pN
 | 0 => by unfold zfS pN; omega
 | k + 1 => by rw [zgH]; split <;> exact Nat.mod_lt _ zrz
theorem zrB (a : Nat) : ∀ k, k ≤ 255 → zfS a k % pN = zcO a ((pN - 2) / 2 ^ (255 - k)) % pN
 | 0, _ => by
  rw [show (pN - 2) / 2 ^ (255 - 0) = 0 from by unfold pN; decide +kernel]
  unfold zfS zcO
  rw [Nat.pow_zero]
 | k + 1, h => by
  have ih := zrB a k (by omega)
  rw [zgH, zCh k (by omega)]
  generalize (pN - 2) / 2 ^ (255 - k) = e at *
  have sq : zfS a k * zfS a k % pN = zcO a (e * 2) % pN := by
   rw [Nat.mul_mod, ih, ← Nat.mul_mod, Nat.mul_two, ← zh1]
  split
  ·rw [Nat.mod_mod, sq, Nat.add_zero, Nat.mul_comm]
  ·rw [Nat.mod_mod, Nat.mul_mod, Nat.mod_mod, sq, ← Nat.mul_mod, Nat.mul_comm 2, ← zh1, zmk]
theorem zyN (a : Nat) : zfS a 255 % pN = zcO a (pN - 2) % pN := by
 have := zrB a 255 (jV _)
 rwa [Nat.sub_self, Nat.pow_zero, Nat.div_one] at this
theorem zrC (v i : Nat) : zai v i % 256 = zaR v (2 * i) := by rw [(zj2 v i).1]; unfold zaR; rfl
theorem zob (v i : Nat) : zai v i / 256 = zaR v (2 * i + 1) := by rw [(zj2 v i).2]; unfold zaR; rfl
theorem hi8 (x m : Nat) (h : m % 2 = 1) : 256 * x * 2 ^ (16 * (m / 2)) = x * 2 ^ (8 * m) := by
 rw [show 8 * m = 16 * (m / 2) + 8 from by omega, Nat.pow_add]
 generalize 2 ^ (16 * (m / 2)) = z
 rw [show (2 : Nat) ^ 8 = 256 from rfl, Nat.mul_comm 256 x, Nat.mul_assoc, Nat.mul_comm 256 z]
theorem zCi (L : Nat → Nat) (c t v : Nat) (hc : c < 32) (h : zaP L 32 + t * 2 ^ (16 * c) = v) : zaP (fun j => L j + if c = j then t else 0) 32 = v := by
 rw [zja, if_pos hc, h]
end
section
open Go.RowKit
def feS (F : Nat → Nat) : SA := .agg [.row 5 (uw F)]
def okI : SA := .s (.p (.v (.int .i64 0)))
theorem ztd {F : Nat → Nat} (hF : okF F 5) (i : Nat) (hi : i < 5) : F i < 18446744073709551616 := by have := hF i hi; omega
theorem zmo {n : Nat} {F : Nat → Nat} {f : Nat → Int} (h : ∀ i, i < n → f i = ((F i : Nat) : Int)) : arr .u64 n f = ca [.row n (uw F)] := by rw [zdh h, zbR]
section
variable {X : List Nat} {w : World} {F G : Nat → Nat} {h0 : Hn}
theorem zyO (hX : ∀ k ∈ X, k < w.heap.size) (hF : okF F 5) (hG : okF G 5) : Ct Tryz.prog 160 [.agg (ca [.row 5 (uw F)]), .agg (ca [.row 5 (uw G)])] X w (.tup [feS (zrv F G), okI]) [] [] := by
 have h := zBO F G (ztd hF) (ztd hG) w
 rw [zbR, zbR, if_pos ⟨hF, hG⟩, zmo (F := zrv F G) fun i _ => by unfold addN; rw [if_pos ⟨hF, hG⟩]; rfl] at h
 exact h.mono fun e w' h => ⟨hnQ [], h.1, zfx hX h.2⟩
theorem zyP (hX : ∀ k ∈ X, k < w.heap.size) (hF : okF F 5) (hG : okF G 5) : Ct Tryz.prog 161 [.agg (ca [.row 5 (uw F)]), .agg (ca [.row 5 (uw G)])] X w (.tup [feS (zrw F G), okI]) [] [] := by
 have h := zBY F G (ztd hF) (ztd hG) w
 rw [zbR, zbR, if_pos ⟨hF, hG⟩, zmo (F := zrw F G) fun i _ => by unfold zFI znT; rw [if_pos ⟨hF, hG⟩]; rfl] at h
 exact h.mono fun e w' h => ⟨hnQ [], h.1, zfx hX h.2⟩
theorem zyQ (hX : ∀ k ∈ X, k < w.heap.size) (hF : okF F 5) (hG : okF G 5) : Ct Tryz.prog 162 [.agg (ca [.row 5 (uw F)]), .agg (ca [.row 5 (uw G)])] X w (.tup [feS (zcd F G), okI]) [] [] := by
 have h := zBX F G (ztd hF) (ztd hG) w
 rw [zbR, zbR, if_pos ⟨hF, hG⟩, zmo (F := zcd F G) fun i _ => by unfold mulN znT; rw [if_pos ⟨hF, hG⟩]] at h
 exact h.mono fun e w' h => ⟨hnQ [], h.1, zfx hX h.2⟩
theorem zpz (hX : ∀ k ∈ X, k < w.heap.size) (hF : okF F 5) : Ct Tryz.prog 163 [.agg (ca [.row 5 (uw F)]), .int .i64 1] X w (.tup [feS (sqN F 1), okI]) [] [] := by
 have h := zsH F hF 1 (by omega) w
 rw [zbR, zbR] at h
 exact h.mono fun e w' h => ⟨hnQ [], h.1, zfx hX h.2⟩
theorem zpA (hX : ∀ k ∈ X, k < w.heap.size) (hF : okF F 5) : Ct Tryz.prog 137 [.agg (ca [.row 5 (uw F)])] X w (.tup [feS (zvw F), okI]) [] [] := by
 have h := zsK F (ztd hF) w
 rw [zbR, if_pos hF, zmo (F := zvw F) fun i _ => by unfold zpr; rw [if_pos hF]] at h
 exact h.mono fun e w' h => ⟨hnQ [], h.1, zfx hX h.2⟩
theorem zCj {kk : List Nat} (hX : ∀ k ∈ X, k < w.heap.size) (hk : ∀ x ∈ kk, x < 256) : Ct Tryz.prog 128 [.agg (ca [.key kk])] X w (.a (feS (ofN fun i => kk.getD i 0))) [] [] := by
 have h := zEz (fun i => kk.getD i 0) (fun i _ => zb2 hk i) w
 rw [← zdg, zbR] at h
 exact h.mono fun e w' h => ⟨hnQ [], h.1, zfx hX h.2⟩
def zmp (f : Nat → Nat) : List Nat := (List.range 32).map f
theorem zyR (f : Nat → Nat) : (zmp f).length = 32 := by simp [zmp]
theorem zcZ (f : Nat → Nat) (i : Nat) (hi : i < 32) : (zmp f).getD i 0 = f i := by simp [zmp, hi]
theorem zsN (hX : ∀ k ∈ X, k < w.heap.size) (hF : okF F 5) : Ct Tryz.prog 135 [.agg (ca [.row 5 (uw F)])] X w (.tup [.agg [.key (zmp (zdG F))], okI]) [] [] := by
 have h := zpn F (ztd hF) w
 rw [zbR, if_pos hF, show (arr .u8 32 fun k => ((zdG F k : Nat) : Int)) = ca [.key (zmp (zdG F))] from by rw [zdg]; exact zdh fun i hi => by rw [zcZ _ i hi]] at h
 exact h.mono fun e w' h => ⟨hnQ [], h.1, zfx hX h.2⟩
def rkF (b : Nat) (w : World) : Prop := hdF [.one (.int .i64 0)] 166 b w
def hnB (bl : List Nat) (ql : List Qd) : Hn := ⟨zjE bl, qs ql, fun _ _ => []⟩
def rkR : List SF := [.b 0 (hdF [.one (.int .i64 0)] 166), .blk 0 [.one (.p (.v (.int .i64 0)))]]
theorem zoc {b : Nat} (hr : St (rkF b) w X) : ∀ r ∈ zaX (hnB [b] []) rkR, St r w X := fun r h => by
 rcases List.mem_cons.1 h with rfl | h
 ·exact hr
 ·rcases List.mem_singleton.1 h with rfl
  exact hr.imp fun w' hw => zz0 hw
theorem zhd {b : Nat} (hX : ∀ k ∈ X, k < w.heap.size) (hr : St (rkF b) w X) : Ct Tryz.prog 136 [.pointer (some ⟨b, 0, none⟩), .agg (ca [.row 5 (uw F)]), .int .i64 0] X w (.a (feS F)) [] [] := by
 refine vFn (k0 := 1) (rs := [.cell 6 168]) (svs := [atS 0 0, .a (feS F), zaD .i64 0]) (R0 := rkR) (hnB [b] []) Tryz.ntmps136 Tryz.func136 rfl rfl rfl rfl rfl zan (by kernel_rfl) hX (zoc hr) ?_
 conv => whnf
 refine .inl ?_
 conv => whnf
 refine zaH (zuA 0 rfl rfl rfl rfl rfl (by kernel_rfl)) ?_
 conv => whnf
 refine ⟨fun _ _ => rfl, ?_⟩
 conv => whnf
 exact zav rfl
theorem zmq {b : Nat} (hF : okF F 5) (hG : okF G 5) (hX : ∀ k ∈ X, k < w.heap.size) (hr : St (rkF b) w X) : Ct Tryz.prog 130 [.pointer (some ⟨b, 0, none⟩), .agg (ca [.row 5 (uw F)]), .agg (ca [.row 5 (uw G)])] X w (.a (feS (zrv F G))) [] [] := by
 refine vFn (k0 := 1) (rs := [.cell 6 168]) (svs := [atS 0 0, .a (feS F), .a (feS G)]) (R0 := rkR) (hnB [b] []) Tryz.ntmps130 Tryz.func130 rfl rfl rfl rfl rfl zan (by kernel_rfl) hX (zoc hr) ?_
 conv => whnf
 refine zae rfl rfl rfl (by kernel_rfl) (fun h X w H => zyO H.xk hF hG) rfl rfl rfl ?_
 conv => whnf
 refine zae rfl rfl rfl (by kernel_rfl) (fun h X w H => zhd H.xk (H.fact 0 rfl)) rfl rfl rfl ?_
 conv => whnf
 refine ⟨fun _ _ => rfl, ?_⟩
 conv => whnf
 exact zav rfl
theorem zmr {b : Nat} (hF : okF F 5) (hG : okF G 5) (hX : ∀ k ∈ X, k < w.heap.size) (hr : St (rkF b) w X) : Ct Tryz.prog 131 [.pointer (some ⟨b, 0, none⟩), .agg (ca [.row 5 (uw F)]), .agg (ca [.row 5 (uw G)])] X w (.a (feS (zrw F G))) [] [] := by
 refine vFn (k0 := 1) (rs := [.cell 6 168]) (svs := [atS 0 0, .a (feS F), .a (feS G)]) (R0 := rkR) (hnB [b] []) Tryz.ntmps131 Tryz.func131 rfl rfl rfl rfl rfl zan (by kernel_rfl) hX (zoc hr) ?_
 conv => whnf
 refine zae rfl rfl rfl (by kernel_rfl) (fun h X w H => zyP H.xk hF hG) rfl rfl rfl ?_
 conv => whnf
 refine zae rfl rfl rfl (by kernel_rfl) (fun h X w H => zhd H.xk (H.fact 0 rfl)) rfl rfl rfl ?_
 conv => whnf
 refine ⟨fun _ _ => rfl, ?_⟩
 conv => whnf
 exact zav rfl
theorem zfT {b : Nat} (hF : okF F 5) (hG : okF G 5) (hX : ∀ k ∈ X, k < w.heap.size) (hr : St (rkF b) w X) : Ct Tryz.prog 132 [.pointer (some ⟨b, 0, none⟩), .agg (ca [.row 5 (uw F)]), .agg (ca [.row 5 (uw G)])] X w (.a (feS (zcd F G))) [] [] := by
 refine vFn (k0 := 1) (rs := [.cell 6 168]) (svs := [atS 0 0, .a (feS F), .a (feS G)]) (R0 := rkR) (hnB [b] []) Tryz.ntmps132 Tryz.func132 rfl rfl rfl rfl rfl zan (by kernel_rfl) hX (zoc hr) ?_
 conv => whnf
 refine zae rfl rfl rfl (by kernel_rfl) (fun h X w H => zyQ H.xk hF hG) rfl rfl rfl ?_
 conv => whnf
 refine zae rfl rfl rfl (by kernel_rfl) (fun h X w H => zhd H.xk (H.fact 0 rfl)) rfl rfl rfl ?_
 conv => whnf
 refine ⟨fun _ _ => rfl, ?_⟩
 conv => whnf
 exact zav rfl
theorem zrD {b : Nat} (hF : okF F 5) (hX : ∀ k ∈ X, k < w.heap.size) (hr : St (rkF b) w X) : Ct Tryz.prog 133 [.pointer (some ⟨b, 0, none⟩), .agg (ca [.row 5 (uw F)])] X w (.a (feS (sqN F 1))) [] [] := by
 refine vFn (k0 := 1) (rs := [.cell 4 168]) (svs := [atS 0 0, .a (feS F)]) (R0 := rkR) (hnB [b] []) Tryz.ntmps133 Tryz.func133 rfl rfl rfl rfl rfl zan (by kernel_rfl) hX (zoc hr) ?_
 conv => whnf
 refine zae rfl rfl rfl (by kernel_rfl) (fun h X w H => zpz H.xk hF) rfl rfl rfl ?_
 conv => whnf
 refine zae rfl rfl rfl (by kernel_rfl) (fun h X w H => zhd H.xk (H.fact 0 rfl)) rfl rfl rfl ?_
 conv => whnf
 refine ⟨fun _ _ => rfl, ?_⟩
 conv => whnf
 exact zav rfl
end
end
section
open Go.RowKit
def ptB (X Z : Nat → Nat) : RB := .blk [.row 5 (uw X), .row 5 (uw Z)] 171
def zGN (b : Nat) (F G : Nat → Nat) (i : Nat) : Nat := if b = 1 then G i else F i
def swN (b n : Nat) (F G : Nat → Nat) (i : Nat) : Nat := if i < n then zGN b F G i else F i
def zCk (b : Nat) : Nat := if b = 1 then 18446744073709551615 else 0
theorem zFM (x : Nat) (h : x < 18446744073709551616) : (BitVec.ofInt 64 (x : Int)).toNat = x := by
 rw [BitVec.toNat_ofInt]; omega
section
variable {x y b : Nat} {A : Int → Prop}
theorem zHm (hx : x < 18446744073709551616) (hy : y < 18446744073709551616) (h : A ((x ^^^ y : Nat) : Int)) : ∃ z, IntKind.u64.wrap ((BitVec.ofInt IntKind.u64.bits (x : Int) ^^^ BitVec.ofInt IntKind.u64.bits (y : Int)).toNat : Nat) = z ∧ A z := ⟨_, by
 have hh : x ^^^ y < 2 ^ 64 := Nat.xor_lt_two_pow (by omega) (by omega)
 rw [show IntKind.u64.bits = 64 from rfl, BitVec.toNat_xor, zFM x hx, zFM y hy, zoT, Nat.mod_eq_of_lt hh], h⟩
theorem zGi (hx : x < 18446744073709551616) (hy : y < 18446744073709551616) (h : A ((x &&& y : Nat) : Int)) : ∃ z, IntKind.u64.wrap ((BitVec.ofInt IntKind.u64.bits (x : Int) &&& BitVec.ofInt IntKind.u64.bits (y : Int)).toNat : Nat) = z ∧ A z := ⟨_, by
 have hh : x &&& y < 2 ^ 64 := Nat.and_lt_two_pow _ (by omega)
 rw [show IntKind.u64.bits = 64 from rfl, BitVec.toNat_and, zFM x hx, zFM y hy, zoT, Nat.mod_eq_of_lt hh], h⟩
theorem zsO {x0 y0 : Nat} (ex : x = x0) (ey : y = y0) (hx : x0 < 18446744073709551616) (hy : y0 < 18446744073709551616) (h : A ((x0 ^^^ y0 : Nat) : Int)) : ∃ z, IntKind.u64.wrap ((BitVec.ofInt IntKind.u64.bits (x : Int) ^^^ BitVec.ofInt IntKind.u64.bits (y : Int)).toNat : Nat) = z ∧ A z := by
 subst ex ey
 exact zHm hx hy h
theorem zAp (hx : x < 18446744073709551616) (hy : y < 18446744073709551616) : x ^^^ y < 18446744073709551616 := Nat.xor_lt_two_pow (n := 64) (by omega) (by omega)
theorem zHn (hb : b = 0 ∨ b = 1) (h : A ((zCk b : Nat) : Int)) : ∃ z, IntKind.u64.wrap (0 - (b : Int)) = z ∧ A z := ⟨_, by rcases hb with rfl | rfl <;> decide, h⟩
theorem zvK : zCk b < 18446744073709551616 := by unfold zCk; split <;> omega
theorem zCm (hx : x < 18446744073709551616) : 18446744073709551615 &&& x = x := by
 have := Nat.and_two_pow_sub_one_eq_mod x 64
 rw [Nat.and_comm]
 rw [show (18446744073709551615 : Nat) = 2 ^ 64 - 1 by decide, this]
 omega
theorem zrE (hx : x < 18446744073709551616) (hy : y < 18446744073709551616) : zCk b &&& (x ^^^ y) < 18446744073709551616 := Nat.and_lt_two_pow (n := 64) _ (Nat.xor_lt_two_pow (by omega) (by omega))
theorem zCn (hx : x < 18446744073709551616) (hy : y < 18446744073709551616) : x ^^^ (zCk b &&& (x ^^^ y)) = if b = 1 then y else x := by
 unfold zCk
 by_cases h : b = 1
 ·rw [if_pos h, if_pos h, zCm (Nat.xor_lt_two_pow (n := 64) (by omega) (by omega)), ← Nat.xor_assoc, Nat.xor_self, Nat.zero_xor]
 ·rw [if_neg h, if_neg h, Nat.zero_and, Nat.xor_zero]
theorem zEN (hx : x < 18446744073709551616) (hy : y < 18446744073709551616) : y ^^^ (zCk b &&& (x ^^^ y)) = if b = 1 then x else y := by
 rw [Nat.xor_comm x y]
 exact zCn hy hx
end
theorem zhr (b n : Nat) (F G : Nat → Nat) : swN b n F G n = F n := by unfold swN; rw [if_neg (by omega)]
theorem zh3 {b n v : Nat} {F G : Nat → Nat} (hv : v = zGN b F G n) (j : Nat) : upd (uw (swN b n F G)) n (.int .u64 ((v : Nat) : Int)) j = uw (swN b (n + 1) F G) j := by
 unfold upd uw swN
 by_cases h : j = n
 ·subst h; rw [if_pos rfl, if_pos (by omega), hv]
 ·rw [if_neg h]
  by_cases h2 : j < n
  ·rw [if_pos h2, if_pos (by omega)]
  ·rw [if_neg h2, if_neg (by omega)]
section
variable {X : List Nat} {w : World} {h0 : Hn} {X1 Z1 X2 Z2 : Nat → Nat} {b : Nat}
def zDD (X1 Z1 X2 Z2 : Nat → Nat) : MB := [(0, ptB X1 Z1), (1, ptB X2 Z2)]
theorem zvL (hb : b = 0 ∨ b = 1) (o1 : okF X1 5) (o2 : okF Z1 5) (o3 : okF X2 5) (o4 : okF Z2 5) (hsp : Sp X w (zaf h0 [] (zDD X1 Z1 X2 Z2)) []) : CtG Tryz.prog 134 [.int .u64 b, .pointer (some ⟨h0.b 0, 0, none⟩), .pointer (some ⟨h0.b 1, 0, none⟩)] X w h0 (zDD X1 Z1 X2 Z2) [0, 1] (.tup []) (zDD (swN b 5 X1 X2) (swN b 5 Z1 Z2) (swN b 5 X2 X1) (swN b 5 Z2 Z1)) [] := by
 refine zzW (g := 2) (k0 := 2) (bl := []) (ql := []) (svs := [zaD .u64 b, atS 0 0, atS 1 0]) (given := zDD X1 Z1 X2 Z2) (Rg := []) (kb := [0, 1]) Tryz.ntmps134 Tryz.func134 rfl rfl rfl zan (by kernel_rfl) rfl rfl hsp ?_
 conv => whnf
 refine zHn hb ?_
 conv => whnf
 refine ⟨Nat, fun k l m R i => ⟨k, (12, zaD .i64 i) :: za2 [1, 2, 6] l, (0, ptB (swN b i X1 X2) (swN b i Z1 Z2)) :: (1, ptB (swN b i X2 X1) (swN b i Z2 Z1)) :: m, R⟩, fun i => i ≤ 5, fun i => 5 - i, ⟨0, [], [0, 1], Nat.zero_le _, za3⟩, fun i hi => ?_⟩
 conv => whnf
 refine vIf (fun hc => ?_) fun hc => ?_
 ·have hi2 : i < 5 := by
   have : (i : Int) < 5 := of_decide_eq_true hc
   omega
  have b1 : X1 i < 18446744073709551616 := ztd o1 i hi2
  have b2 : Z1 i < 18446744073709551616 := ztd o2 i hi2
  have b3 : X2 i < 18446744073709551616 := ztd o3 i hi2
  have b4 : Z2 i < 18446744073709551616 := ztd o4 i hi2
  conv => whnf
  refine zaK 31 [] (by kernel_rfl) ?_
  conv => whnf
  refine ⟨i, ⟨rfl, hi2⟩, .inr ?_⟩
  conv => whnf
  refine ⟨hi2, ?_⟩
  conv => whnf
  refine ⟨i, ⟨rfl, hi2⟩, .inr ?_⟩
  conv => whnf
  refine ⟨hi2, ?_⟩
  conv => whnf
  refine zsO (zhr _ _ _ _) (zhr _ _ _ _) b1 b3 ?_
  conv => whnf
  refine zGi zvK (zAp b1 b3) ?_
  conv => whnf
  refine ⟨i, ⟨rfl, hi2⟩, .inr ?_⟩
  conv => whnf
  refine ⟨hi2, ?_⟩
  conv => whnf
  refine ⟨i, ⟨rfl, hi2⟩, .inr ?_⟩
  conv => whnf
  refine ⟨hi2, ?_⟩
  conv => whnf
  refine zsO (zhr _ _ _ _) (zhr _ _ _ _) b2 b4 ?_
  conv => whnf
  refine zGi zvK (zAp b2 b4) ?_
  conv => whnf
  refine zaK 26 [0] (by kernel_rfl) ?_
  conv => whnf
  refine ⟨i, ⟨rfl, hi2⟩, .inr ?_⟩
  conv => whnf
  refine zeA rfl (zea 0 (zuy rfl rfl rfl (by kernel_rfl) rfl hi2 rfl rfl) (fun _ h => h) rfl) ?_
  conv => whnf
  refine zsO (zhr _ _ _ _) rfl b1 (zrE b1 b3) ?_
  conv => whnf
  refine ⟨i, ⟨rfl, hi2⟩, .inr ?_⟩
  conv => whnf
  refine ⟨hi2, ?_⟩
  conv => whnf
  refine zsO (zhr _ _ _ _) rfl b3 (zrE b1 b3) ?_
  conv => whnf
  refine ⟨i, ⟨rfl, hi2⟩, .inr ?_⟩
  conv => whnf
  refine zeA rfl (zea 0 (zkQ (uw (swN b (i + 1) X1 X2)) rfl rfl rfl rfl rfl rfl hi2 (zh3 (zCn b1 b3))) (fun _ h => h) rfl) ?_
  conv => whnf
  refine ⟨i, ⟨rfl, hi2⟩, .inr ?_⟩
  conv => whnf
  refine zaH (zkQ (uw (swN b (i + 1) X2 X1)) rfl rfl rfl rfl rfl rfl hi2 (zh3 (zEN b1 b3))) ?_
  conv => whnf
  refine zaK 26 [0] (by kernel_rfl) ?_
  conv => whnf
  refine ⟨i, ⟨rfl, hi2⟩, .inr ?_⟩
  conv => whnf
  refine zeA rfl (zea 0 (zuy rfl rfl rfl (by kernel_rfl) rfl hi2 rfl rfl) (fun _ h => h) rfl) ?_
  conv => whnf
  refine zsO (zhr _ _ _ _) rfl b2 (zrE b2 b4) ?_
  conv => whnf
  refine ⟨i, ⟨rfl, hi2⟩, .inr ?_⟩
  conv => whnf
  refine ⟨hi2, ?_⟩
  conv => whnf
  refine zsO (zhr _ _ _ _) rfl b4 (zrE b2 b4) ?_
  conv => whnf
  refine ⟨i, ⟨rfl, hi2⟩, .inr ?_⟩
  conv => whnf
  refine zeA rfl (zea 0 (zEd (uw (swN b (i + 1) Z1 Z2)) rfl rfl rfl rfl rfl rfl hi2 (zh3 (zCn b2 b4))) (fun _ h => h) rfl) ?_
  conv => whnf
  refine ⟨i, ⟨rfl, hi2⟩, .inr ?_⟩
  conv => whnf
  refine zaH (zEd (uw (swN b (i + 1) Z2 Z1)) rfl rfl rfl rfl rfl rfl hi2 (zh3 (zEN b2 b4))) ?_
  conv => whnf
  refine zc2 (by omega) (by omega) ?_
  conv => whnf
  exact ⟨i + 1, [], [0, 1], ⟨hi2, Nat.sub_lt_sub_left hi2 (Nat.lt_succ_self i)⟩, za3⟩
 have hi5 : i = 5 := by
   have : ¬ (i : Int) < 5 := of_decide_eq_false hc
   omega
 subst hi5
 conv => whnf
 exact zdJ [(0, 0), (1, 1)] [] [0, 1] (.inl rfl) ⟨.inl rfl, .inl rfl, trivial⟩ rfl trivial ⟨rfl, rfl, trivial⟩
end
end
section
open Go.RowKit
def zvM (X1 Z1 X2 Z2 U : Nat → Nat) : MB := [(0, .blk [.one (.p (.at_ 4 0))] 164), (1, ptB X1 Z1), (2, ptB X2 Z2), (3, .blk [.row 5 (uw U)] 168), (4, .gone)]
section
variable {X : List Nat} {w : World} {h0 : Hn} {X1 Z1 X2 Z2 U : Nat → Nat}
theorem zCo (o1 : okF X1 5) (o2 : okF Z1 5) (o3 : okF X2 5) (o4 : okF Z2 5) (o5 : okF U 5) (hsp : Sp X w (zaf h0 [] (zvM X1 Z1 X2 Z2 U)) [rkF (h0.b 4)]) : CtG Tryz.prog 129 [.pointer (some ⟨h0.b 0, 0, none⟩), .pointer (some ⟨h0.b 1, 0, none⟩), .pointer (some ⟨h0.b 2, 0, none⟩), .pointer (some ⟨h0.b 3, 0, none⟩)] X w h0 (zvM X1 Z1 X2 Z2 U) [0, 1, 2, 3, 4] (.tup []) (zvM (sLX X1 Z1) (sLZ X1 Z1) (sHX X1 Z1 X2 Z2) (sHZ X1 Z1 X2 Z2 U) U) [] := by
 refine zzW (g := 5) (k0 := 5) (bl := []) (ql := []) (svs := [atS 0 0, atS 1 0, atS 2 0, atS 3 0]) (given := zvM X1 Z1 X2 Z2 U) (Rg := [.b 4 (hdF [.one (.int .i64 0)] 166)]) (kb := [0, 1, 2, 3, 4]) Tryz.ntmps129 Tryz.func129 rfl rfl rfl zan (by kernel_rfl) rfl rfl hsp ?_
 conv => whnf
 refine zaK 14 [] (by kernel_rfl) ?_
 conv => whnf
 refine zaA (zab (rs := []) (Rs := []) rfl rfl rfl (by kernel_rfl) rfl fun h X w H => zmq o1 o2 H.xk (H.fact 5 rfl)) ?_
 conv => whnf
 refine zaA (zab (rs := []) (Rs := []) rfl rfl rfl (by kernel_rfl) rfl fun h X w H => zmr o1 o2 H.xk (H.fact 5 rfl)) ?_
 conv => whnf
 refine ⟨fun _ _ => rfl, ?_⟩
 conv => whnf
 refine ⟨fun _ _ => rfl, ?_⟩
 conv => whnf
 refine zaK 20 [] (by kernel_rfl) ?_
 conv => whnf
 refine zaA (zab (rs := []) (Rs := []) rfl rfl rfl (by kernel_rfl) rfl fun h X w H => zmr o3 o4 H.xk (H.fact 5 rfl)) ?_
 conv => whnf
 refine zaA (zab (rs := []) (Rs := []) rfl rfl rfl (by kernel_rfl) rfl fun h X w H => zfT (zi5 o3) (zFJ o1 o2) H.xk (H.fact 5 rfl)) ?_
 conv => whnf
 refine zaA (zab (rs := []) (Rs := []) rfl rfl rfl (by kernel_rfl) rfl fun h X w H => zmq o3 o4 H.xk (H.fact 5 rfl)) ?_
 conv => whnf
 refine zaA (zab (rs := []) (Rs := []) rfl rfl rfl (by kernel_rfl) rfl fun h X w H => zfT (zj0 o3 o4) (zFK o1 o2) H.xk (H.fact 5 rfl)) ?_
 conv => whnf
 refine ⟨fun _ _ => rfl, ?_⟩
 conv => whnf
 refine ⟨fun _ _ => rfl, ?_⟩
 conv => whnf
 refine zaK 14 [] (by kernel_rfl) ?_
 conv => whnf
 refine zaA (zab (rs := []) (Rs := []) rfl rfl rfl (by kernel_rfl) rfl fun h X w H => zmq (zvy o1 o2 o3 o4) (zB1 o1 o2 o3 o4) H.xk (H.fact 5 rfl)) ?_
 conv => whnf
 refine zaA (zab (rs := []) (Rs := []) rfl rfl rfl (by kernel_rfl) rfl fun h X w H => zrD (zj0 (zvy o1 o2 o3 o4) (zB1 o1 o2 o3 o4)) H.xk (H.fact 5 rfl)) ?_
 conv => whnf
 refine zaA (zab (rs := []) (Rs := []) rfl rfl rfl (by kernel_rfl) rfl fun h X w H => zmr (zvy o1 o2 o3 o4) (zB1 o1 o2 o3 o4) H.xk (H.fact 5 rfl)) ?_
 conv => whnf
 refine zaA (zab (rs := []) (Rs := []) rfl rfl rfl (by kernel_rfl) rfl fun h X w H => zrD (zi5 (zvy o1 o2 o3 o4)) H.xk (H.fact 5 rfl)) ?_
 conv => whnf
 refine zae rfl rfl rfl (by kernel_rfl) (fun h X w H => zfT o5 (ziZ _ (zi5 (zvy o1 o2 o3 o4)) 1) H.xk (H.fact 5 rfl)) rfl rfl rfl ?_
 conv => whnf
 refine ⟨fun _ _ => rfl, fun _ _ => rfl, ?_⟩
 conv => whnf
 refine zaK 8 [] (by kernel_rfl) ?_
 conv => whnf
 refine zaA (zab (rs := []) (Rs := []) rfl rfl rfl (by kernel_rfl) rfl fun h X w H => zrD (zFJ o1 o2) H.xk (H.fact 5 rfl)) ?_
 conv => whnf
 refine zaA (zab (rs := []) (Rs := []) rfl rfl rfl (by kernel_rfl) rfl fun h X w H => zrD (zFK o1 o2) H.xk (H.fact 5 rfl)) ?_
 conv => whnf
 refine ⟨fun _ _ => rfl, ?_⟩
 conv => whnf
 refine ⟨fun _ _ => rfl, ?_⟩
 conv => whnf
 refine zae rfl rfl rfl (by kernel_rfl) (fun h X w H => zmr (zvz o1 o2) (zEG o1 o2) H.xk (H.fact 5 rfl)) rfl rfl rfl ?_
 conv => whnf
 refine ⟨fun _ _ => rfl, ?_⟩
 conv => whnf
 refine zaK 13 [] (by kernel_rfl) ?_
 conv => whnf
 refine zaA (zab (rs := []) (Rs := []) rfl rfl rfl (by kernel_rfl) rfl fun h X w H => zfT (zvz o1 o2) (zEG o1 o2) H.xk (H.fact 5 rfl)) ?_
 conv => whnf
 refine ⟨uw (zoD 121665), ⟨rfl, rfl, rfl, rfl, rfl, trivial⟩, ?_⟩
 conv => whnf
 refine zaA (zab (rs := []) (Rs := []) rfl rfl rfl (by kernel_rfl) rfl fun h X w H => zfT zi7 (zFL o1 o2) H.xk (H.fact 5 rfl)) ?_
 conv => whnf
 refine zaA (zab (rs := []) (Rs := []) rfl rfl rfl (by kernel_rfl) rfl fun h X w H => zmq (zvz o1 o2) (zeb _ _ zi7 (zFL o1 o2)) H.xk (H.fact 5 rfl)) ?_
 conv => whnf
 refine zae rfl rfl rfl (by kernel_rfl) (fun h X w H => zfT (zFL o1 o2) (zj0 (zvz o1 o2) (zeb _ _ zi7 (zFL o1 o2))) H.xk (H.fact 5 rfl)) rfl rfl rfl ?_
 conv => whnf
 refine ⟨fun _ _ => rfl, fun _ _ => rfl, ?_⟩
 conv => whnf
 exact zdJ [(0, 0), (1, 1), (2, 2), (3, 3), (4, 4)] [] [0, 1, 2, 3, 4] (.inl rfl) ⟨.inl rfl, .inl rfl, .inl rfl, .inl rfl, trivial⟩ rfl trivial ⟨rfl, rfl, rfl, rfl, rfl, trivial⟩
end
end
section
open Go.RowKit
theorem zGj : ∀ x : Nat, x < 256 → IntKind.u8.wrap ((BitVec.ofInt IntKind.u8.bits (x : Int) &&& ~~~(BitVec.ofInt IntKind.u8.bits 7)).toNat : Nat) = ((x / 8 * 8 : Nat) : Int) := by decide +kernel
theorem zEO : ∀ x : Nat, x < 256 → IntKind.u8.wrap ((BitVec.ofInt IntKind.u8.bits (x : Int) &&& BitVec.ofInt IntKind.u8.bits 63).toNat : Nat) = ((x % 64 : Nat) : Int) := by decide +kernel
theorem zGk : ∀ x : Nat, x < 64 → IntKind.u8.wrap ((BitVec.ofInt IntKind.u8.bits (x : Int) ||| BitVec.ofInt IntKind.u8.bits 64).toNat : Nat) = ((x + 64 : Nat) : Int) := by decide +kernel
section
variable {P : Program} {N k : Nat} {l : LE} {m : MB} {R : List SF} {o : Oper} {i j t ty : Nat}
theorem zvN {S : Nat → Prop} {ws : World} {l : List (Nat × Value)} {t u : TypeId} {x y : Operand} {k : IntKind} {a b z : Int} (ho : o.op = .binOp .andNot t x y u) (hx : ev l x = some (.int k a)) (hy : ev l y = some (.int k b)) (hz : k.wrap ((BitVec.ofInt k.bits a &&& ~~~(BitVec.ofInt k.bits b)).toNat : Nat) = z) : PK P S ws l o (.int k z) := fun w' _ a N E => by
 subst hz
 unfold execOp; rw [ho]
 simp only [E.ev hx, E.ev hy, Sem.run_bind, zbV, Result.andThen_ok]
 simp [binOp, Op.intBits]
theorem zms {kk : List Nat} {b : Nat} {xop y : Operand} (kk' : List Nat) (hkk : ∀ t, t < 32 → kk'.getD t 0 = if t = j then b else kk.getD t 0) (hm : zaB m i = some (.blk [.key kk] t)) (ho : o.op = .store ty xop y) (hx : evS l xop = some (apS i 0 j 1)) (hy : evS l y = some (zgW (bv b))) (hs : zda P ty = some 1) (hj : j < 32) : zcK P N k l m R o (zeu undef) ((i, .blk [.key kk'] t) :: m) R :=
 ziK (x := .p (.v (bv b))) hm ho hx hy rfl hs (by simp only [zfh, SC.len]; omega) fun h => by
  show zgQ kk' ++ [] = (zgQ kk ++ []).set (0 + j * 1) (bv b)
  rw [List.append_nil, List.append_nil, Nat.zero_add, Nat.mul_one]
  refine List.ext_getElem? fun t => ?_
  rw [List.getElem?_set]
  by_cases ht : t < 32
  ·simp only [zgQ, List.getElem?_map, List.getElem?_range ht, Option.map_some, hkk t ht]
   by_cases e : j = t
   ·subst e; simp [hj]
   ·rw [if_neg e, if_neg (Ne.symm e)]
  ·rw [List.getElem?_eq_none (by simp [zgQ]; omega), if_neg (by omega), List.getElem?_eq_none (by simp [zgQ]; omega)]
end
section
variable {X : List Nat} {w : World} {kk : List Nat}
def zsP (k : Nat → Nat) (i : Nat) : Nat := if i = 0 then k 0 / 8 * 8 else k i
def zeH (kk : List Nat) : List Nat := zmp (zbf fun i => kk.getD i 0)
theorem zyS (hX : ∀ k ∈ X, k < w.heap.size) (hk : ∀ x ∈ kk, x < 256) : Ct Tryz.prog 127 [.agg (ca [.key kk])] X w (.a (.agg [.key (zeH kk)])) [] [] := by
 refine vFn (k0 := 0) (rs := [.cell 2 23]) (svs := [.a (.agg [.key kk])]) (R0 := []) (hnQ []) Tryz.ntmps127 Tryz.func127 rfl rfl rfl rfl rfl zan (by kernel_rfl) hX (fun r hr => by cases hr) ?_
 conv => whnf
 refine ⟨0, ⟨rfl, by decide⟩, .inl ?_⟩
 conv => whnf
 refine zD7 (zgW (bv (kk.getD 0 0 / 8 * 8))) (fun h w => zvN rfl rfl rfl (zGj _ (zb2 hk 0))) rfl rfl ?_
 conv => whnf
 refine ⟨0, ⟨rfl, by decide⟩, .inr ?_⟩
 conv => whnf
 refine zaH (zms (zmp (zsP fun i => kk.getD i 0)) (fun t ht => zcZ _ t ht) rfl rfl rfl rfl (by kernel_rfl) (by decide)) ?_
 conv => whnf
 refine ⟨31, ⟨rfl, by decide⟩, .inl ?_⟩
 conv => whnf
 have h31 : (zmp (zsP fun i => kk.getD i 0)).getD 31 0 = kk.getD 31 0 := zcZ _ 31 (by decide)
 have hb31 := zb2 hk 31
 refine ⟨((kk.getD 31 0 % 64 : Nat) : Int), by rw [h31]; exact zEO _ hb31, ?_⟩
 conv => whnf
 refine ⟨((kk.getD 31 0 % 64 + 64 : Nat) : Int), zGk _ (Nat.mod_lt _ (by decide)), ?_⟩
 conv => whnf
 refine ⟨31, ⟨rfl, by decide⟩, .inr ?_⟩
 conv => whnf
 refine zaH (zms (zeH kk) (fun t ht => ?_) rfl rfl rfl rfl (by kernel_rfl) (by decide)) ?_
 ·rw [zeH, zcZ _ t ht, zcZ _ t ht, zbf, zsP]
  by_cases h0 : t = 0
  ·subst h0; rw [if_pos rfl, if_neg (by decide), if_pos rfl]
  ·rw [if_neg h0, if_neg h0]
 conv => whnf
 exact zav rfl
end
end
section
open Go.RowKit
theorem zvO (a : Nat) : fM 0 a = 0 := by unfold fM; rw [Nat.zero_mul, Nat.zero_mod]
theorem zCp (a : Nat) (h : a < pN) : fS a a = 0 := by
 unfold fS
 rw [show a + (pN - a) = pN by omega, Nat.mod_self]
theorem zCq (a : Nat) (h : a < pN) : fA a 0 = a := by unfold fA; rw [Nat.add_zero, Nat.mod_eq_of_lt h]
theorem zCr (a : Nat) (h : a < pN) : fS a 0 = a := by unfold fS; rw [Nat.sub_zero, Nat.add_mod_right, Nat.mod_eq_of_lt h]
theorem zrF (q s : Pt) : (zmm 0 q s).z = 0 := zvO _
theorem zvP {q : Pt} (h : q.x < pN) (hz : q.z = 0) : zyK q = 0 := by
 unfold zyK
 rw [hz, zCq _ h, zCr _ h]
 exact zCp _ (zdf _ _)
theorem zyT {q : Pt} (h : zyK q = 0) : (zoE q).z = 0 := by
 unfold zoE
 dsimp only
 rw [h]
 exact zvO _
theorem zyU : zyK ⟨0, 1⟩ = 0 := by unfold zyK fS fM fA pN; decide +kernel
theorem zGO (k : Nat → Nat) : ∀ n, (zdP 0 k (n + 1)).1.z = 0 ∧ (zdP 0 k (n + 1)).2.z = 0
 | 0 => by
  rw [show zdP 0 k (0 + 1) = zgG 0 (zeo k 0) ⟨1, 0⟩ ⟨0, 1⟩ from rfl]
  unfold zgG
  split
  ·exact ⟨zrF _ _, zyT zyU⟩
  ·exact ⟨zyT (zvP zh2 rfl), zrF _ _⟩
 | n + 1 => by
  have ih := zGO k n
  have ok := zn8 0 zcP k (n + 1)
  rw [show zdP 0 k (n + 1 + 1) = zgG 0 (zeo k (n + 1)) (zdP 0 k (n + 1)).1 (zdP 0 k (n + 1)).2 from rfl]
  unfold zgG
  split
  ·exact ⟨zrF _ _, zyT (zvP ok.2.1 ih.2)⟩
  ·exact ⟨zyT (zvP ok.1.1 ih.1), zrF _ _⟩
theorem zod (k : Nat → Nat) : zdx k 0 = 0 := by
 unfold zdx
 rw [(zGO (zbf k) 254).1]
 unfold fM
 rw [Nat.mul_mod, zn5 _ pN 0 (by omega) (Nat.zero_mod _), Nat.mul_zero, Nat.zero_mod]
theorem zCs (k : Nat → Nat) (u : Nat) : zdx k u < pN := zdf _ _
theorem zsQ (i : Nat) : zaR 0 i = 0 := by unfold zaR; rw [Nat.zero_div, Nat.zero_mod]
theorem zCt : pN < 57896044618658097711785492504343953926634992332820282019728792003956564819968 := by unfold pN; decide +kernel
theorem zCu : pN < 2 ^ 256 := by unfold pN; decide +kernel
theorem zoe (v : Nat) (h : v < pN) : zj1 (zaR v) = v := by
 unfold zj1
 rw [zvC _ (fun i _ => zk9 v i), zre]
 rw [show 8 * 32 = 256 from rfl, Nat.mod_eq_of_lt (Nat.lt_trans h zCu), Nat.mod_eq_of_lt (Nat.lt_trans h zCt), Nat.mod_eq_of_lt h]
theorem zvQ (u : Nat → Nat) : zj1 u < pN := Nat.mod_lt _ zcP
theorem zsR {u v : Nat → Nat} (h : ∀ i, i < 32 → zfR u i = zfR v i) : zj1 u = zj1 v := by
 unfold zj1
 rw [ziW _ _ 32 h]
theorem zof : zj1 (fun i => if i = 0 then 9 else 0) = 9 := by unfold zj1 pN; decide +kernel
end
section
open Go.RowKit
theorem zpB {F G : Nat → Nat} {v : Nat} (h : ∀ i, i < 5 → F i = G i) (hF : zbe F v) : zbe G v := ⟨fun i hi => by rw [← h i hi]; exact hF.1 i hi, by rw [← zn2 F G 5 h]; exact hF.2⟩
theorem zhs {F G : Nat → Nat} {v : Nat} (h : zbe G v) : zbe (swN 1 5 F G) v := zpB (fun i hi => by rw [swN, if_pos hi]; rfl) h
theorem zeI {F G : Nat → Nat} {v : Nat} (h : zbe F v) : zbe (swN 0 5 F G) v := zpB (fun i hi => by rw [swN, if_pos hi]; rfl) h
def zhK (b : Nat) (p : Pt × Pt) : Pt × Pt := if b = 1 then (p.2, p.1) else p
theorem zvR (u : Nat) (k : Nat → Nat) (n : Nat) : zhK (zeo k n) (zdP u k (n + 1)) = (zoE (zhK (zeo k n) (zdP u k n)).1, zmm u (zhK (zeo k n) (zdP u k n)).1 (zhK (zeo k n) (zdP u k n)).2) := by
 rw [show zdP u k (n + 1) = zgG u (zeo k n) (zdP u k n).1 (zdP u k n).2 from rfl]
 unfold zgG zhK
 rcases zhb k n with h | h <;> simp [h]
def zrH (k : Nat → Nat) : Nat → Nat
 | 0 => 0
 | n + 1 => zeo k n
theorem zjc (k : Nat → Nat) : ∀ n, zrH k n = 0 ∨ zrH k n = 1
 | 0 => .inl rfl
 | n + 1 => zhb k n
theorem zCv {p : Pt × Pt} (b : Nat) (h : zfY p.1 ∧ zfY p.2) : zfY (zhK b p).1 ∧ zfY (zhK b p).2 := by unfold zhK; split; exact ⟨h.2, h.1⟩; exact h
def zpC (a b : Nat) : Nat := if a = b then 0 else 1
theorem zCw (a b : Nat) : zpC a b = 0 ∨ zpC a b = 1 := by unfold zpC; split; exact .inl rfl; exact .inr rfl
structure Fit4 (X1 Z1 X2 Z2 : Nat → Nat) (p : Pt × Pt) : Prop where
 a : zbe X1 p.1.x
 b : zbe Z1 p.1.z
 c : zbe X2 p.2.x
 d : zbe Z2 p.2.z
theorem zvS {X1 Z1 X2 Z2 : Nat → Nat} {p : Pt × Pt} {a b : Nat} (ha : a = 0 ∨ a = 1) (hb : b = 0 ∨ b = 1) (h : Fit4 X1 Z1 X2 Z2 (zhK a p)) : Fit4 (swN (zpC a b) 5 X1 X2) (swN (zpC a b) 5 Z1 Z2) (swN (zpC a b) 5 X2 X1) (swN (zpC a b) 5 Z2 Z1) (zhK b p) := by
 rcases ha with rfl | rfl <;> rcases hb with rfl | rfl
 ·exact ⟨zeI h.a, zeI h.b, zeI h.c, zeI h.d⟩
 ·exact ⟨zhs h.c, zhs h.d, zhs h.a, zhs h.b⟩
 ·exact ⟨zhs h.c, zhs h.d, zhs h.a, zhs h.b⟩
 ·exact ⟨zeI h.a, zeI h.b, zeI h.c, zeI h.d⟩
theorem zyV {X1 Z1 X2 Z2 U : Nat → Nat} {p : Pt × Pt} {u : Nat} (h : Fit4 X1 Z1 X2 Z2 p) (hU : zbe U u) (hp : zfY p.1 ∧ zfY p.2) : Fit4 (sLX X1 Z1) (sLZ X1 Z1) (sHX X1 Z1 X2 Z2) (sHZ X1 Z1 X2 Z2 U) (zoE p.1, zmm u p.1 p.2) :=
 ⟨zCb h.a h.b hp.1, zCc h.a h.b hp.1, zCd h.a h.b h.c h.d hp.1 hp.2, zCe h.a h.b h.c h.d hp.1 hp.2 hU⟩
theorem zCx (u : Nat → Nat) (hu : ∀ i, i < 32 → u i < 256) : zbe (ofN u) (zj1 u) := ⟨zEF u, by unfold zj1; rw [Nat.mod_mod]; exact zCa u hu⟩
theorem wsm {y : Nat} (h : y < 256) : IntKind.u64.wrap ((y : Nat) : Int) = ((y : Nat) : Int) := zw6 (by omega) (by omega)
section
variable {x k : Nat} {j : Int} {A : Int → Prop}
theorem zrG {K : IntKind} (hj : j = (k : Int)) (hk : k ≤ K.bits) (h : A ((x / 2 ^ k : Nat) : Int)) : 0 ≤ j ∧ ∃ z, ((x : Int)).fdiv (2 ^ (min j.toNat K.bits)) = z ∧ A z := ⟨by omega, _, by
 rw [zAO, hj, Int.toNat_natCast, Nat.min_eq_left hk], h⟩
theorem z7 {m : Nat} (h : A ((m % 8 : Nat) : Int)) : ∃ z, IntKind.i64.wrap ((BitVec.ofInt IntKind.i64.bits (m : Int) &&& BitVec.ofInt IntKind.i64.bits 7).toNat : Nat) = z ∧ A z := ⟨_, by
 have e : (BitVec.ofInt 64 7).toNat = 7 := rfl
 rw [show IntKind.i64.bits = 64 from rfl, BitVec.toNat_and, e, BitVec.toNat_ofInt, Nat.and_two_pow_sub_one_eq_mod _ 3]
 have : (((m : Int) % ((2 ^ 64 : Nat) : Int)).toNat % 2 ^ 3) = m % 8 := by omega
 rw [this]
 exact zw5 (by omega) (by omega), h⟩
end
section
variable {X : List Nat} {w : World} {kk uu : List Nat}
theorem zCy (hX : ∀ k ∈ X, k < w.heap.size) (hk : ∀ x ∈ kk, x < 256) (hu : ∀ x ∈ uu, x < 256) : Ct Tryz.prog 103 [.agg (ca [.key kk]), .agg (ca [.key uu])] X w (.a (.agg [.key (zmp (zaR (zdx (fun i => kk.getD i 0) (zj1 fun i => uu.getD i 0))))])) [] [] := by
 obtain ⟨K, hK⟩ : ∃ K : Nat → Nat, K = zbf fun i => kk.getD i 0 := ⟨_, rfl⟩
 obtain ⟨u, hue⟩ : ∃ u : Nat, u = zj1 fun i => uu.getD i 0 := ⟨_, rfl⟩
 have huf : zbe (ofN fun i => uu.getD i 0) u := by rw [hue]; exact zCx _ fun i _ => zb2 hu i
 have hup : u < pN := by rw [hue]; exact zvQ _
 have hKb : ∀ i, i < 32 → K i < 256 := fun i hi => by
  rw [hK]
  have h0 := zb2 hk 0
  have h1 := zb2 hk 31
  have h2 := zb2 hk i
  unfold zbf
  dsimp only
  split
  ·omega
  ·split <;> omega
 have hKk : ∀ i, i < 32 → (zeH kk).getD i 0 = K i := fun i hi => by rw [zeH, zcZ _ i hi, hK]
 refine vFn (k0 := 0) (rs := [.cell 4 23]) (svs := [.a (.agg [.key kk]), .a (.agg [.key uu])]) (R0 := []) (hnQ []) Tryz.ntmps103 Tryz.func103 rfl rfl rfl rfl rfl zan (by kernel_rfl) hX (fun r hr => by cases hr) ?_
 conv => whnf
 refine zae rfl rfl rfl (by kernel_rfl) (fun h X w H => zyS H.xk hk) rfl rfl rfl ?_
 conv => whnf
 refine zaH (zuz (cs0 := [.one (.int .i64 0)]) 3 rfl (fun _ => rfl) rfl (zaE (rs := []) (Rs := []) (zab (rs := []) (Rs := []) rfl rfl rfl (by kernel_rfl) rfl fun h X w H => zCj H.xk hu) rfl rfl)) ?_
 conv => whnf
 refine ⟨fun _ _ => rfl, ?_⟩
 conv => whnf
 refine zaK 8 [1005] (by kernel_rfl) ?_
 conv => whnf
 refine ⟨uw (zoD 1), ⟨rfl, rfl, rfl, rfl, rfl, trivial⟩, ?_⟩
 conv => whnf
 refine ⟨uw (zoD 1), ⟨rfl, rfl, rfl, rfl, rfl, trivial⟩, ?_⟩
 conv => whnf
 refine zeA rfl (ze5 (z := [.row 5 (uw fun _ => 0), .row 5 (uw fun _ => 0)]) (fun hn => by kernel_rfl) rfl rfl) ?_
 conv => whnf
 refine ⟨fun _ _ => rfl, fun _ _ => rfl, ?_⟩
 conv => whnf
 refine ⟨fun _ _ => rfl, fun _ _ => rfl, ?_⟩
 conv => whnf
 refine ⟨Nat × (Nat → Nat) × (Nat → Nat) × (Nat → Nat) × (Nat → Nat), fun k l m R g => ⟨k, (28, zaD .i64 g.1) :: (10, zaD .u64 (zrH K g.1)) :: za2 [2, 4, 5, 7, 8, 9] l, (6, ptB g.2.1 g.2.2.1) :: (7, ptB g.2.2.2.1 g.2.2.2.2) :: m, R⟩, fun g => g.1 ≤ 255 ∧ Fit4 g.2.1 g.2.2.1 g.2.2.2.1 g.2.2.2.2 (zhK (zrH K g.1) (zdP u K g.1)), fun g => 255 - g.1, ⟨(0, zoD 1, fun _ => 0, ofN fun i => uu.getD i 0, zoD 1), [], [0, 1], ⟨Nat.zero_le _, zh0 (by decide), ?_, huf, zh0 (by decide)⟩, za3⟩, fun g hg => ?_⟩
 ·exact zpB (F := zoD 0) (fun i _ => by unfold zoD; split <;> rfl) (zh0 (by decide))
 obtain ⟨i, X1, Z1, X2, Z2⟩ := g
 obtain ⟨hi, hfit⟩ : i ≤ 255 ∧ Fit4 X1 Z1 X2 Z2 (zhK (zrH K i) (zdP u K i)) := hg
 conv => whnf
 refine vIf (fun hc => ?_) fun hc => ?_
 ·have hi2 : i < 255 := by
   have : (i : Int) < 255 := of_decide_eq_true hc
   omega
  have hf2 := zvS (zjc K i) (zhb K i) hfit
  have hf3 := zyV hf2 huf (zCv (zeo K i) (zn8 u hup K i))
  rw [← zvR] at hf3
  conv => whnf
  have e1 : (254 : Int) - (i : Int) = ((254 - i : Nat) : Int) := by omega
  refine zbi e1 (by show (-9223372036854775808 : Int) ≤ 254 - (i : Int); omega) (by show 254 - (i : Int) ≤ _; omega) ?_
  conv => whnf
  refine zrG (k := 3) rfl (by decide) ?_
  conv => whnf
  refine ⟨(254 - i) / 2 ^ 3, ⟨rfl, by omega⟩, .inr ?_⟩
  conv => whnf
  refine ⟨by omega, ?_⟩
  conv => whnf
  refine z7 ?_
  conv => whnf
  refine zrG (K := .u8) (k := (254 - i) % 8) rfl (by show _ ≤ 8; omega) ?_
  conv => whnf
  have hb : (zeH kk).getD ((254 - i) / 2 ^ 3) 0 = K ((254 - i) / 2 ^ 3) := hKk _ (by omega)
  have hb2 : K ((254 - i) / 2 ^ 3) < 256 := hKb _ (by omega)
  have hb3 : K ((254 - i) / 2 ^ 3) / 2 ^ ((254 - i) % 8) < 256 := Nat.lt_of_le_of_lt (Nat.div_le_self _ _) hb2
  refine ⟨((K ((254 - i) / 2 ^ 3) / 2 ^ ((254 - i) % 8) : Nat) : Int), by rw [hb]; exact wsm hb3, ?_⟩
  conv => whnf
  refine zGi (x := K ((254 - i) / 2 ^ 3) / 2 ^ ((254 - i) % 8)) (y := 1) (by omega) (by decide) ?_
  have e2 : K ((254 - i) / 2 ^ 3) / 2 ^ ((254 - i) % 8) &&& 1 = zeo K i := by rw [Nat.and_one_is_mod]; rfl
  rw [e2]
  conv => whnf
  refine ⟨((zpC (zrH K i) (zeo K i) : Nat) : Int), ?_, ?_⟩
  ·rcases zjc K i with h | h <;> rcases zhb K i with h' | h' <;> rw [h, h'] <;> decide
  conv => whnf
  refine zaH (za4 [6, 7] 0 rfl rfl rfl (by kernel_rfl) (fs := fun _ => []) (cs := fun _ => []) (fun h => rfl) rfl rfl (given := zDD X1 Z1 X2 Z2) ⟨rfl, rfl, trivial⟩ rfl rfl rfl rfl rfl rfl fun h X w L2 H => zvL (zCw _ _) hfit.a.1 hfit.b.1 hfit.c.1 hfit.d.1 (H.pick [] rfl)) ?_
  conv => whnf
  refine zaH (za4 [4, 6, 7, 5, 3] 0 rfl rfl rfl (by kernel_rfl) (fs := fun _ => []) (cs := fun h => zhD h [.at_ 4 0, .at_ 6 0, .at_ 7 0, .at_ 5 0]) (fun h => rfl) rfl rfl (given := zvM (swN (zpC (zrH K i) (zeo K i)) 5 X1 X2) (swN (zpC (zrH K i) (zeo K i)) 5 Z1 Z2) (swN (zpC (zrH K i) (zeo K i)) 5 X2 X1) (swN (zpC (zrH K i) (zeo K i)) 5 Z2 Z1) (ofN fun i => uu.getD i 0)) ⟨rfl, rfl, rfl, rfl, rfl, trivial⟩ rfl rfl rfl rfl rfl rfl fun h X w L2 H => zCo hf2.a.1 hf2.b.1 hf2.c.1 hf2.d.1 huf.1 (H.pick [0] rfl)) ?_
  conv => whnf
  refine zc2 (by omega) (by omega) ?_
  conv => whnf
  exact ⟨(i + 1, _, _, _, _), [], [0, 1], ⟨⟨hi2, hf3⟩, Nat.sub_lt_sub_left hi2 (Nat.lt_succ_self i)⟩, za3⟩
 have hi5 : i = 255 := by
   have : ¬ (i : Int) < 255 := of_decide_eq_false hc
   omega
 subst hi5
 have hf2 := zvS (b := 0) (zjc K 255) (.inl rfl) hfit
 obtain ⟨Y1, hY1⟩ : ∃ Y, Y = swN (zpC (zrH K 255) 0) 5 X1 X2 := ⟨_, rfl⟩
 obtain ⟨Y2, hY2⟩ : ∃ Y, Y = swN (zpC (zrH K 255) 0) 5 Z1 Z2 := ⟨_, rfl⟩
 have ew : zpC (zrH K 255) 0 = zrH K 255 := by rcases zjc K 255 with h | h <;> rw [h] <;> rfl
 have f1 : zbe Y1 (zdP u K 255).1.x := by rw [hY1]; exact hf2.a
 have f2 : zbe Y2 (zdP u K 255).1.z := by rw [hY2]; exact hf2.b
 have f3 := zi9 f1 (zrx f2)
 have o3 : okF (zvw Y2) 5 := (zrx f2).1
 conv => whnf
 refine zaH (za4 [6, 7] 0 rfl rfl rfl (by kernel_rfl) (fs := fun _ => []) (cs := fun _ => []) (fun h => rfl) rfl rfl (given := zDD X1 Z1 X2 Z2) ⟨rfl, rfl, trivial⟩ rfl rfl rfl rfl rfl rfl fun h X w L2 H => zvL (zjc K 255) hfit.a.1 hfit.b.1 hfit.c.1 hfit.d.1 (H.pick [] rfl)) ?_
 rw [← ew, ← hY1, ← hY2]
 conv => whnf
 refine zaK 17 [1015] (by kernel_rfl) ?_
 conv => whnf
 refine zaA (zab (rs := []) (Rs := []) rfl rfl rfl (by kernel_rfl) rfl fun h X w H => zpA H.xk f2.1) ?_
 conv => whnf
 refine zaA (zab (rs := []) (Rs := []) rfl rfl rfl (by kernel_rfl) rfl fun h X w H => zhd H.xk (H.fact 0 rfl)) ?_
 conv => whnf
 refine zaA (zab (rs := []) (Rs := []) rfl rfl rfl (by kernel_rfl) rfl fun h X w H => zfT f1.1 o3 H.xk (H.fact 0 rfl)) ?_
 conv => whnf
 refine zaA (zab (rs := []) (Rs := []) rfl rfl rfl (by kernel_rfl) rfl fun h X w H => zsN H.xk f3.1) ?_
 conv => whnf
 refine zeA rfl (ze5 (z := [.key []]) (fun hn => by kernel_rfl) rfl rfl) ?_
 conv => whnf
 refine zae rfl rfl rfl (by kernel_rfl) (fun h X w H => zhd (F := fun _ => 0) H.xk (H.fact 0 rfl)) rfl rfl rfl ?_
 conv => whnf
 refine zav ?_
 rw [show zmp (zaR (zdx (fun i => kk.getD i 0) (zj1 fun i => uu.getD i 0))) = zmp (zdG (zcd Y1 (zvw Y2))) from List.map_congr_left fun i _ => ?_]
 ·rfl
 ·have h1 := zpu f3.1 (f3.2.trans (Nat.mod_eq_of_lt (zdf _ _))) i
  rw [zdx, ← hue, ← hK]
  omega
end
end
end Go.Proofs.YtcmmpiaogfnmoaaGreatDoor
