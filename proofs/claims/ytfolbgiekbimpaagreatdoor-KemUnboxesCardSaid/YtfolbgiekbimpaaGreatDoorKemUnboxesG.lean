/- The walk of layer 6's reference: a point multiplied by a number. The walks of layer 6: the point 9, multiplied, by the program and by the reference; the chapter's example. Plain: the numbers modulo the prime of layer 5; the curve x² + y² = 1 + d x² y², where d is no square: its law is whole, and hangs on no order. Plain: the ladder of layer 6 is a multiple of a point of the curve, or of its twist; two numbers, one behind the other, hang on no order. Plain: the order of the point 9 is a prime; multiplied by clamped numbers it is never nothing. No program is in sight. Two blocks that are not the -/
import Derived.Test.YtfolbgiekbimpaaGreatDoorKemUnboxesF
set_option linter.unusedSimpArgs false
set_option linter.unusedVariables false
set_option maxRecDepth 200000
set_option maxHeartbeats 6000000
namespace Go.Proofs.YtfolbgiekbimpaaGreatDoor
section
open Go.RowKit
attribute [local irreducible] zbd ovR loR boN zfr pN zfG zhu zbV zbj zbY zd2 zea zbG zdq zcR sqN zij zik zci zeH zdj kvN zbR zag zeC zee
theorem zoQ (F : Nat → Nat) : Tryz.prog.built 87 [(0, .agg (arr .u64 16 fun i => ((F i : Nat) : Int)))] = some (arr .u64 32 fun i => ((zbR F (zak 0) i : Nat) : Int)) := by
 unfold zbR
 kernel_rfl
attribute [local irreducible] zak
def zjH (w : World) (B : Nat) (q : Pt) : Prop := w.heap[B]? = some (.cells (arr .u64 32 fun i => ((zbR (zak q.x) (zak q.z) i : Nat) : Int)) 87 (0, 0))
theorem znJ (k u : Nat → Nat) (hk : ∀ i, i < 32 → k i < 256) (hu : ∀ i, i < 32 → u i < 256) (w : World) :
  Calls Tryz.prog 29 #[.agg (arr .u8 32 fun i => ((k i : Nat) : Int)), .agg (arr .u8 32 fun i => ((u i : Nat) : Int))] w fun e w' => e = .returned (.agg (arr .u8 32 fun i => ((zbj (zdA k (za2 u)) i : Nat) : Int))) ∧ Below w.heap.size w w' := by
 have hK := Lib.hid (zp1 hk)
 have HKK := Lib.hid hk
 have HU := Lib.hid hu
 clear hk hu
 go_enter Tryz.func29, Tryz.ntmps29
 obtain ⟨h0, h1, h2, hsz, hb⟩ := zdb w (.cells (arr .u8 32 fun i => ((k i : Nat) : Int)) 23) (.cells (arr .u8 32 fun i => ((u i : Nat) : Int)) 23) (.cells (arr .u8 32 fun _ => 0) 23)
 go_upto_region 1 with (refine zae rfl rfl zii ?_)
 generalize ((w.alloc (.cells (arr .u8 32 fun i => ((k i : Nat) : Int)) 23)).alloc (.cells (arr .u8 32 fun i => ((u i : Nat) : Int)) 23)).alloc (.cells (arr .u8 32 fun _ => 0) 23) = wa at *
 (try simp only [Act.put, jA, jB, jC])
 simp only [World.size_alloc]
 clear hsz
 go_wp2_with (first | (refine zab rfl rfl rfl zch h0 ?_) | (go_at_call 55; fail))
 refine (zrb k HKK.out _).mono ?_
 rintro e w4 ⟨rfl, b4⟩
 replace h0 := zaa b4 (jM h0) h0
 replace h1 := zaa b4 (jM h1) h1
 replace h2 := zaa b4 (jM h2) h2
 replace hb := hb.trans (b4.mono hb.size)
 clear b4
 go_upto_region 2 with (first | (refine zac rfl rfl rfl rfl zch h0 ?_))
 replace h1 := zad (g := w.heap.size) (c' := arr .u8 32 fun i => ((zag k i : Nat) : Int)) h1 (by omega)
 replace h2 := zad (g := w.heap.size) (c' := arr .u8 32 fun i => ((zag k i : Nat) : Int)) h2 (by omega)
 replace h0 := zan (c' := arr .u8 32 fun i => ((zag k i : Nat) : Int)) h0
 replace hb := zam hb (jV _) (arr .u8 32 fun i => ((zag k i : Nat) : Int))
 generalize w4.setRow w.heap.size (arr .u8 32 fun i => ((zag k i : Nat) : Int)) = wb at *
 (try simp only [Act.put, jA, jB, jC])
 go_wp2_with (first | (refine zab rfl rfl rfl zch h1 ?_) | (go_at_call 56; fail))
 refine (znC u HU.out _).mono ?_
 rintro e w4 ⟨rfl, b4⟩
 replace h0 := zaa b4 (jM h0) h0
 replace h1 := zaa b4 (jM h1) h1
 replace h2 := zaa b4 (jM h2) h2
 replace hb := hb.trans (b4.mono hb.size)
 clear b4
 rw [show kvN (zht u) 32 % pN = za2 u from rfl]
 go_upto_region 3 with (refine zay rfl rfl rfl rfl ze4 zbb rfl rfl ?_; intro w8 hx b8 hs8)
 have l0 := jM h0
 replace h0 := zaa b8 (jM h0) h0
 replace h1 := zaa b8 (jM h1) h1
 replace h2 := zaa b8 (jM h2) h2
 replace hb := hb.trans (b8.mono hb.size)
 clear b8 hs8
 obtain ⟨Bhx, hBhx⟩ : ∃ B, B = w4.heap.size := ⟨_, rfl⟩
 rw [← hBhx] at l0 hx ⊢
 clear hBhx
 (try simp only [Act.put, jA, jB, jC])
 clear h1
 go_upto_region 4 with (first | (refine za8 rfl (zaJ rfl (by simp [Act.eval, Act.put]) zjA) ?_) | (refine zay rfl rfl rfl rfl ze4 zbb rfl rfl ?_; intro w9 ho b9 hs9))
 have l_ho := jM h0
 obtain ⟨Bho, hBho⟩ : ∃ B, B = w8.heap.size := ⟨_, rfl⟩
 replace h0 := zaa b9 (jM h0) h0
 replace h2 := zaa b9 (jM h2) h2
 replace hx := zaa b9 (jM hx) hx
 replace hb := hb.trans (b9.mono hb.size)
 clear b9 hs9
 rw [← hBho] at l_ho ho ⊢
 clear hBho
 obtain ⟨w8, rfl⟩ : ∃ x, x = w9 := ⟨_, rfl⟩
 (try simp only [Act.put, jA, jB, jC])
 go_upto_region 5 with (first | (refine zab rfl rfl rfl zbb ho ?_) | (refine za8 rfl (zaJ rfl (by simp [Act.eval, Act.put]) (zoQ (zak 1))) ?_) | (refine zay rfl rfl rfl rfl zp7 zd3 rfl rfl ?_; intro w9 hq b9 hs9))
 have l_hq := jM h0
 obtain ⟨Bhq, hBhq⟩ : ∃ B, B = w8.heap.size := ⟨_, rfl⟩
 replace h0 := zaa b9 (jM h0) h0
 replace h2 := zaa b9 (jM h2) h2
 replace hx := zaa b9 (jM hx) hx
 replace ho := zaa b9 (jM ho) ho
 replace hb := hb.trans (b9.mono hb.size)
 clear b9 hs9
 rw [← hBhq] at l_hq hq ⊢
 clear hBhq
 obtain ⟨w8, rfl⟩ : ∃ x, x = w9 := ⟨_, rfl⟩
 (try simp only [Act.put, jA, jB, jC])
 go_upto_region 6 with (first | (refine zab rfl rfl rfl zbb hx ?_) | (refine zab rfl rfl rfl zbb ho ?_) | (refine za8 rfl (zaJ rfl (by simp [Act.eval, Act.put]) (zhI (zak (za2 u)) (zak 1))) ?_) | (refine zay rfl rfl rfl rfl zp7 zd3 rfl rfl ?_; intro w9 hs b9 hs9))
 have l_hs := jM h0
 have lqs := jM hq
 obtain ⟨Bhs, hBhs⟩ : ∃ B, B = w8.heap.size := ⟨_, rfl⟩
 replace h0 := zaa b9 (jM h0) h0
 replace h2 := zaa b9 (jM h2) h2
 replace hx := zaa b9 (jM hx) hx
 replace ho := zaa b9 (jM ho) ho
 replace hq := zaa b9 (jM hq) hq
 replace hb := hb.trans (b9.mono hb.size)
 clear b9 hs9
 rw [← hBhs] at l_hs hs lqs ⊢
 clear hBhs
 obtain ⟨w8, rfl⟩ : ∃ x, x = w9 := ⟨_, rfl⟩
 (try simp only [Act.put, jA, jB, jC])
 replace hq : zjH w8 Bhq ⟨1, 0⟩ := hq
 replace hs : zjH w8 Bhs ⟨za2 u, 1⟩ := hs
 have oU : za2 u < pN := Nat.mod_lt _ zc1
 have OU := Lib.hid oU
 have n1 := Lib.hid (zai h0 hq (by decide))
 have n2 := Lib.hid (zai h2 hq (by decide))
 have n3 := Lib.hid (zai hx hq (by decide))
 have n4 := Lib.hid (zai h0 hs (by decide))
 have n5 := Lib.hid (zai h2 hs (by decide))
 have n6 := Lib.hid (zai hx hs (by decide))
 have NQ := Lib.hid (show Bhq ≠ Bhs from Nat.ne_of_lt lqs)
 have LQ := Lib.hid (show w.heap.size ≤ Bhq from Nat.le_of_lt l_hq)
 have LS := Lib.hid (show w.heap.size ≤ Bhs from Nat.le_of_lt l_hs)
 clear oU ho lqs l_ho l_hq l_hs
 go_wp2
 go_loopg [9] 255 (fun n i wr => ∃ m : Nat, m + n = 255 ∧ i = .int .i64 (254 - (m : Int)) ∧ wr.heap[w.heap.size]? = some (.cells (arr .u8 32 fun i => ((zag k i : Nat) : Int)) 23 (0, 0)) ∧
  wr.heap[w.heap.size + 1 + 1]? = some (.cells (arr .u8 32 fun _ => 0) 23 (0, 0)) ∧ wr.heap[Bhx]? = some (.cells (arr .u64 16 fun i => ((zak (za2 u) i : Nat) : Int)) 84 (0, 0)) ∧
  zjH wr Bhq (zbf (za2 u) (zag k) m).1 ∧ zjH wr Bhs (zbf (za2 u) (zag k) m).2 ∧ Below w.heap.size w wr)
 case atStart => exact ⟨0, rfl, by simp, h0, h2, hx, hq, hs, hb⟩
 case round =>
  clear h0 h2 hx hq hs hb
  obtain ⟨m, hm, rfl, h0, h2, hx, hq, hs, hb⟩ := hrel
  have hm' := Lib.hid hm
  have ok := Lib.hid (zkx (za2 u) OU.out (zag k) m)
  clear hm
  by_cases hlt : m < 255
  ·obtain ⟨at_, hat⟩ : ∃ a : Nat, a = 254 - m := ⟨_, rfl⟩
   obtain ⟨q, hq8⟩ : ∃ a : Nat, a = at_ / 8 := ⟨_, rfl⟩
   obtain ⟨r, hr8⟩ : ∃ a : Nat, a = at_ % 8 := ⟨_, rfl⟩
   have a1 : (254 : Int) - (m : Int) = (at_ : Int) := by omega
   rw [a1]
   have a2 : (at_ : Int) / 8 = (q : Int) := by omega
   have a3 : (at_ : Int) % 8 = (r : Int) := by omega
   have ql : q < 32 := by omega
   have rl : r < 8 := by omega
   have al : at_ < 255 := by omega
   obtain ⟨x, hx8⟩ : ∃ x, zag k q = x := ⟨_, rfl⟩
   have xl : x < 256 := hx8 ▸ hK.out q ql
   have c0 : wr.cell? ⟨w.heap.size, q, none⟩ = some (.int .u8 (x : Int)) := by rw [zaj h0 q ql, hx8]
   have eb : zeK (zag k) m = x / 2 ^ r % 2 := by unfold zeK; rw [← hat, ← hq8, ← hr8, hx8]
   have e2 : ((x : Int) / 2 ^ r).tmod 2 = ((zeK (zag k) m : Nat) : Int) := by
    have h : (x : Int) / 2 ^ r = ((x / 2 ^ r : Nat) : Int) := by
     rw [Int.natCast_ediv, Int.natCast_pow]
     rfl
    rw [h, Int.tmod_eq_emod_of_nonneg (Int.natCast_nonneg _), eb, Int.natCast_emod]
    rfl
   have A1 := Lib.hid a1
   clear eb hat hq8 hr8 hx8 a1
   have e0 : zeK (zag k) m = 0 ∨ zeK (zag k) m = 1 := zgG _ _
   rcases e0 with hbit | hbit
   ·have HB := Lib.hid hbit
    replace e2 : ((x : Int) / 2 ^ r).tmod 2 = 0 := by rw [e2, hbit]; rfl
    clear hbit
    go_upto_region 11 with (fail)
    (try simp only [Act.put, jA, jB, jC])
    clear c0 a2 a3 ql rl xl e2
    unfold zjH at hq hs
    refine wp_region_can wr.heap.size 6 [(0, false), (2, false), (3, false), (4, false), (1, true), (5, true)] (by kernel_rfl) (by kernel_rfl) ?_
    (simp only [canOps, jD, jE, jF, jG])
    refine zaq rfl rfl rfl (fun _ _ _ _ h => h) zd3 (jM (w := wr) hq) hq ?_
    (try simp only [Act.put, jA, jB, jC])
    refine zaq rfl rfl rfl (fun _ _ _ _ h => h) zbb (jM (w := wr) hx) hx ?_
    (try simp only [Act.put, jA, jB, jC])
    refine zaq rfl rfl rfl (fun _ _ _ _ h => h) zd3 (jM (w := wr) hq) hq ?_
    (try simp only [Act.put, jA, jB, jC])
    refine zaq rfl rfl rfl (fun _ _ _ _ h => h) zd3 (jM (w := wr) hs) hs ?_
    (try simp only [Act.put, jA, jB, jC])
    refine wpCan_e rfl (fun K hK => ?_)
    go_simp
    refine (zjG (zbf (za2 u) (zag k) m).1 ok.out.1 _).mono ?_
    rintro e v1 ⟨rfl, b1⟩
    refine hK _ _ (Keep.of_below b1 (jV _)) ?_
    clear hK K
    (try simp only [Act.put, jA, jB, jC])
    have cb := b1
    clear b1
    refine wpCan_e rfl (fun K hK => ?_)
    go_simp
    refine (znI (za2 u) OU.out (zbf (za2 u) (zag k) m).1 (zbf (za2 u) (zag k) m).2 ok.out.1 ok.out.2 _).mono ?_
    rintro e v2 ⟨rfl, b2⟩
    refine hK _ _ (Keep.of_below b2 cb.size) ?_
    clear hK K
    (try simp only [Act.put, jA, jB, jC])
    replace cb := cb.trans (b2.mono cb.size)
    clear b2
    refine wpCan_nil ?_
    replace h0 := zaa (w := wr.drew) cb (jM (w := wr) h0) h0
    replace h2 := zaa (w := wr.drew) cb (jM (w := wr) h2) h2
    replace hx := zaa (w := wr.drew) cb (jM (w := wr) hx) hx
    replace hq := zaa (w := wr.drew) cb (jM (w := wr) hq) hq
    replace hs := zaa (w := wr.drew) cb (jM (w := wr) hs) hs
    replace hb := hb.drew.trans (cb.mono hb.size)
    clear cb
    go_upto_region 8 with (first | (refine zac rfl rfl rfl rfl zd3 hq ?_) | (refine zac rfl rfl rfl rfl zd3 (zad hs (Ne.symm NQ.out)) ?_))
    replace h0 := zad (g := Bhq) (c' := (arr .u64 32 fun i => ((zbR (zak (zeC (zbf (za2 u) (zag k) m).1).x) (zak (zeC (zbf (za2 u) (zag k) m).1).z) i : Nat) : Int))) h0 n1.out
    replace h2 := zad (g := Bhq) (c' := (arr .u64 32 fun i => ((zbR (zak (zeC (zbf (za2 u) (zag k) m).1).x) (zak (zeC (zbf (za2 u) (zag k) m).1).z) i : Nat) : Int))) h2 n2.out
    replace hx := zad (g := Bhq) (c' := (arr .u64 32 fun i => ((zbR (zak (zeC (zbf (za2 u) (zag k) m).1).x) (zak (zeC (zbf (za2 u) (zag k) m).1).z) i : Nat) : Int))) hx n3.out
    replace hs := zad (g := Bhq) (c' := (arr .u64 32 fun i => ((zbR (zak (zeC (zbf (za2 u) (zag k) m).1).x) (zak (zeC (zbf (za2 u) (zag k) m).1).z) i : Nat) : Int))) hs (Ne.symm NQ.out)
    replace hq := zan (c' := (arr .u64 32 fun i => ((zbR (zak (zeC (zbf (za2 u) (zag k) m).1).x) (zak (zeC (zbf (za2 u) (zag k) m).1).z) i : Nat) : Int))) hq
    replace hb := zam hb LQ.out (arr .u64 32 fun i => ((zbR (zak (zeC (zbf (za2 u) (zag k) m).1).x) (zak (zeC (zbf (za2 u) (zag k) m).1).z) i : Nat) : Int))
    replace h0 := zad (g := Bhs) (c' := (arr .u64 32 fun i => ((zbR (zak (zee (za2 u) (zbf (za2 u) (zag k) m).1 (zbf (za2 u) (zag k) m).2).x) (zak (zee (za2 u) (zbf (za2 u) (zag k) m).1 (zbf (za2 u) (zag k) m).2).z) i : Nat) : Int))) h0 n4.out
    replace h2 := zad (g := Bhs) (c' := (arr .u64 32 fun i => ((zbR (zak (zee (za2 u) (zbf (za2 u) (zag k) m).1 (zbf (za2 u) (zag k) m).2).x) (zak (zee (za2 u) (zbf (za2 u) (zag k) m).1 (zbf (za2 u) (zag k) m).2).z) i : Nat) : Int))) h2 n5.out
    replace hx := zad (g := Bhs) (c' := (arr .u64 32 fun i => ((zbR (zak (zee (za2 u) (zbf (za2 u) (zag k) m).1 (zbf (za2 u) (zag k) m).2).x) (zak (zee (za2 u) (zbf (za2 u) (zag k) m).1 (zbf (za2 u) (zag k) m).2).z) i : Nat) : Int))) hx n6.out
    replace hq := zad (g := Bhs) (c' := (arr .u64 32 fun i => ((zbR (zak (zee (za2 u) (zbf (za2 u) (zag k) m).1 (zbf (za2 u) (zag k) m).2).x) (zak (zee (za2 u) (zbf (za2 u) (zag k) m).1 (zbf (za2 u) (zag k) m).2).z) i : Nat) : Int))) hq NQ.out
    replace hs := zan (c' := (arr .u64 32 fun i => ((zbR (zak (zee (za2 u) (zbf (za2 u) (zag k) m).1 (zbf (za2 u) (zag k) m).2).x) (zak (zee (za2 u) (zbf (za2 u) (zag k) m).1 (zbf (za2 u) (zag k) m).2).z) i : Nat) : Int))) hs
    replace hb := zam hb LS.out (arr .u64 32 fun i => ((zbR (zak (zee (za2 u) (zbf (za2 u) (zag k) m).1 (zbf (za2 u) (zag k) m).2).x) (zak (zee (za2 u) (zbf (za2 u) (zag k) m).1 (zbf (za2 u) (zag k) m).2).z) i : Nat) : Int))
    generalize (v2.setRow Bhq (arr .u64 32 fun i => ((zbR (zak (zeC (zbf (za2 u) (zag k) m).1).x) (zak (zeC (zbf (za2 u) (zag k) m).1).z) i : Nat) : Int))).setRow Bhs (arr .u64 32 fun i => ((zbR (zak (zee (za2 u) (zbf (za2 u) (zag k) m).1 (zbf (za2 u) (zag k) m).2).x) (zak (zee (za2 u) (zbf (za2 u) (zag k) m).1 (zbf (za2 u) (zag k) m).2).z) i : Nat) : Int)) = wn at *
    go_wp2
    go_roundg (gk - 1)
    case measure => have := hm'.out; omega
    case rel =>
     have hm'' := hm'.out
     have A1' := A1.out
     have es : zbf (za2 u) (zag k) (m + 1) = ((zeC (zbf (za2 u) (zag k) m).1), (zee (za2 u) (zbf (za2 u) (zag k) m).1 (zbf (za2 u) (zag k) m).2)) := by
      rw [show zbf (za2 u) (zag k) (m + 1) = zhc (za2 u) (zeK (zag k) m) (zbf (za2 u) (zag k) m).1 (zbf (za2 u) (zag k) m).2 from rfl]
      unfold zhc
      rw [if_neg (by rw [HB.out]; decide)]
     refine ⟨m + 1, by omega, by go_num, h0, h2, hx, ?_, ?_, hb⟩
     ·rw [es]; exact hq
     ·rw [es]; exact hs
   ·have HB := Lib.hid hbit
    replace e2 : ((x : Int) / 2 ^ r).tmod 2 = 1 := by rw [e2, hbit]; rfl
    clear hbit
    go_upto_region 10 with (fail)
    (try simp only [Act.put, jA, jB, jC])
    clear c0 a2 a3 ql rl xl e2
    unfold zjH at hq hs
    refine wp_region_can wr.heap.size 6 [(0, false), (1, false), (2, false), (4, false), (3, true), (5, true)] (by kernel_rfl) (by kernel_rfl) ?_
    (simp only [canOps, jD, jE, jF, jG])
    refine zaq rfl rfl rfl (fun _ _ _ _ h => h) zbb (jM (w := wr) hx) hx ?_
    (try simp only [Act.put, jA, jB, jC])
    refine zaq rfl rfl rfl (fun _ _ _ _ h => h) zd3 (jM (w := wr) hs) hs ?_
    (try simp only [Act.put, jA, jB, jC])
    refine zaq rfl rfl rfl (fun _ _ _ _ h => h) zd3 (jM (w := wr) hq) hq ?_
    (try simp only [Act.put, jA, jB, jC])
    refine zaq rfl rfl rfl (fun _ _ _ _ h => h) zd3 (jM (w := wr) hs) hs ?_
    (try simp only [Act.put, jA, jB, jC])
    refine wpCan_e rfl (fun K hK => ?_)
    go_simp
    refine (znI (za2 u) OU.out (zbf (za2 u) (zag k) m).2 (zbf (za2 u) (zag k) m).1 ok.out.2 ok.out.1 _).mono ?_
    rintro e v1 ⟨rfl, b1⟩
    refine hK _ _ (Keep.of_below b1 (jV _)) ?_
    clear hK K
    (try simp only [Act.put, jA, jB, jC])
    have cb := b1
    clear b1
    refine wpCan_e rfl (fun K hK => ?_)
    go_simp
    refine (zjG (zbf (za2 u) (zag k) m).2 ok.out.2 _).mono ?_
    rintro e v2 ⟨rfl, b2⟩
    refine hK _ _ (Keep.of_below b2 cb.size) ?_
    clear hK K
    (try simp only [Act.put, jA, jB, jC])
    replace cb := cb.trans (b2.mono cb.size)
    clear b2
    refine wpCan_nil ?_
    replace h0 := zaa (w := wr.drew) cb (jM (w := wr) h0) h0
    replace h2 := zaa (w := wr.drew) cb (jM (w := wr) h2) h2
    replace hx := zaa (w := wr.drew) cb (jM (w := wr) hx) hx
    replace hq := zaa (w := wr.drew) cb (jM (w := wr) hq) hq
    replace hs := zaa (w := wr.drew) cb (jM (w := wr) hs) hs
    replace hb := hb.drew.trans (cb.mono hb.size)
    clear cb
    go_upto_region 8 with (first | (refine zac rfl rfl rfl rfl zd3 hq ?_) | (refine zac rfl rfl rfl rfl zd3 (zad hs (Ne.symm NQ.out)) ?_))
    replace h0 := zad (g := Bhq) (c' := (arr .u64 32 fun i => ((zbR (zak (zee (za2 u) (zbf (za2 u) (zag k) m).2 (zbf (za2 u) (zag k) m).1).x) (zak (zee (za2 u) (zbf (za2 u) (zag k) m).2 (zbf (za2 u) (zag k) m).1).z) i : Nat) : Int))) h0 n1.out
    replace h2 := zad (g := Bhq) (c' := (arr .u64 32 fun i => ((zbR (zak (zee (za2 u) (zbf (za2 u) (zag k) m).2 (zbf (za2 u) (zag k) m).1).x) (zak (zee (za2 u) (zbf (za2 u) (zag k) m).2 (zbf (za2 u) (zag k) m).1).z) i : Nat) : Int))) h2 n2.out
    replace hx := zad (g := Bhq) (c' := (arr .u64 32 fun i => ((zbR (zak (zee (za2 u) (zbf (za2 u) (zag k) m).2 (zbf (za2 u) (zag k) m).1).x) (zak (zee (za2 u) (zbf (za2 u) (zag k) m).2 (zbf (za2 u) (zag k) m).1).z) i : Nat) : Int))) hx n3.out
    replace hs := zad (g := Bhq) (c' := (arr .u64 32 fun i => ((zbR (zak (zee (za2 u) (zbf (za2 u) (zag k) m).2 (zbf (za2 u) (zag k) m).1).x) (zak (zee (za2 u) (zbf (za2 u) (zag k) m).2 (zbf (za2 u) (zag k) m).1).z) i : Nat) : Int))) hs (Ne.symm NQ.out)
    replace hq := zan (c' := (arr .u64 32 fun i => ((zbR (zak (zee (za2 u) (zbf (za2 u) (zag k) m).2 (zbf (za2 u) (zag k) m).1).x) (zak (zee (za2 u) (zbf (za2 u) (zag k) m).2 (zbf (za2 u) (zag k) m).1).z) i : Nat) : Int))) hq
    replace hb := zam hb LQ.out (arr .u64 32 fun i => ((zbR (zak (zee (za2 u) (zbf (za2 u) (zag k) m).2 (zbf (za2 u) (zag k) m).1).x) (zak (zee (za2 u) (zbf (za2 u) (zag k) m).2 (zbf (za2 u) (zag k) m).1).z) i : Nat) : Int))
    replace h0 := zad (g := Bhs) (c' := (arr .u64 32 fun i => ((zbR (zak (zeC (zbf (za2 u) (zag k) m).2).x) (zak (zeC (zbf (za2 u) (zag k) m).2).z) i : Nat) : Int))) h0 n4.out
    replace h2 := zad (g := Bhs) (c' := (arr .u64 32 fun i => ((zbR (zak (zeC (zbf (za2 u) (zag k) m).2).x) (zak (zeC (zbf (za2 u) (zag k) m).2).z) i : Nat) : Int))) h2 n5.out
    replace hx := zad (g := Bhs) (c' := (arr .u64 32 fun i => ((zbR (zak (zeC (zbf (za2 u) (zag k) m).2).x) (zak (zeC (zbf (za2 u) (zag k) m).2).z) i : Nat) : Int))) hx n6.out
    replace hq := zad (g := Bhs) (c' := (arr .u64 32 fun i => ((zbR (zak (zeC (zbf (za2 u) (zag k) m).2).x) (zak (zeC (zbf (za2 u) (zag k) m).2).z) i : Nat) : Int))) hq NQ.out
    replace hs := zan (c' := (arr .u64 32 fun i => ((zbR (zak (zeC (zbf (za2 u) (zag k) m).2).x) (zak (zeC (zbf (za2 u) (zag k) m).2).z) i : Nat) : Int))) hs
    replace hb := zam hb LS.out (arr .u64 32 fun i => ((zbR (zak (zeC (zbf (za2 u) (zag k) m).2).x) (zak (zeC (zbf (za2 u) (zag k) m).2).z) i : Nat) : Int))
    generalize (v2.setRow Bhq (arr .u64 32 fun i => ((zbR (zak (zee (za2 u) (zbf (za2 u) (zag k) m).2 (zbf (za2 u) (zag k) m).1).x) (zak (zee (za2 u) (zbf (za2 u) (zag k) m).2 (zbf (za2 u) (zag k) m).1).z) i : Nat) : Int))).setRow Bhs (arr .u64 32 fun i => ((zbR (zak (zeC (zbf (za2 u) (zag k) m).2).x) (zak (zeC (zbf (za2 u) (zag k) m).2).z) i : Nat) : Int)) = wn at *
    go_wp2
    go_roundg (gk - 1)
    case measure => have := hm'.out; omega
    case rel =>
     have hm'' := hm'.out
     have A1' := A1.out
     have es : zbf (za2 u) (zag k) (m + 1) = ((zee (za2 u) (zbf (za2 u) (zag k) m).2 (zbf (za2 u) (zag k) m).1), (zeC (zbf (za2 u) (zag k) m).2)) := by
      rw [show zbf (za2 u) (zag k) (m + 1) = zhc (za2 u) (zeK (zag k) m) (zbf (za2 u) (zag k) m).1 (zbf (za2 u) (zag k) m).2 from rfl]
      unfold zhc
      rw [if_pos HB.out]
     refine ⟨m + 1, by omega, by go_num, h0, h2, hx, ?_, ?_, hb⟩
     ·rw [es]; exact hq
     ·rw [es]; exact hs
  ·obtain rfl : m = 255 := by have := hm'.out; omega
   rw [show (254 : Int) - ((255 : Nat) : Int) = -1 from by omega]
   unfold zjH at hq
   clear hs hx
   obtain ⟨X, hX⟩ : ∃ x, x = (zbf (za2 u) (zag k) 255).1.x := ⟨_, rfl⟩
   obtain ⟨Z, hZ⟩ : ∃ x, x = (zbf (za2 u) (zag k) 255).1.z := ⟨_, rfl⟩
   have oX : X < pN := hX ▸ ok.out.1.1
   have oZ : Z < pN := hZ ▸ ok.out.1.2
   have oI : zd2 Z 255 < pN := zto Z 255
   have ev : fM X (zd2 Z 255) = zdA k (za2 u) := by
    unfold zdA
    rw [← hX, ← hZ]
    show X * zd2 Z 255 % pN = X * zdj Z 57896044618658097711785492504343953926634992332820282019728792003956564819947 % pN
    rw [Nat.mul_mod, zvK Z, show pN - 2 = 57896044618658097711785492504343953926634992332820282019728792003956564819947 from by unfold pN; rfl, ← Nat.mul_mod]
   rw [← hX, ← hZ] at hq
   have EV := Lib.hid ev
   have OX := Lib.hid oX
   have OZ := Lib.hid oZ
   have OI := Lib.hid oI
   clear hX hZ ev oX oZ oI
   go_upto_region 12 with (fail)
   (try simp only [Act.put, jA, jB, jC])
   refine wp_region_can wr.heap.size 7 [(0, false), (1, false), (2, false), (3, false), (4, true), (5, true), (6, true)] (by kernel_rfl) (by kernel_rfl) ?_
   (simp only [canOps, jD, jE, jF, jG])
   iterate 1 (first | (refine zaA rfl rfl (fun _ _ _ _ h => h) ?_; (simp only [Act.put, Act.eval, jN, jL, jD, jE, jO, jA, jB, jC])) | (refine zas rfl rfl (fun _ _ _ _ h => h) ?_; (simp only [Act.put, Act.eval, jN, jL, jD, jE, jO, jA, jB, jC])) | (refine zao rfl rfl rfl (fun _ _ _ _ h => h) ?_; (simp only [Act.put, jA, jB, jC])) | (refine za3 rfl rfl (fun _ _ _ _ h => h) (by first | exact .bin rfl rfl rfl | exact .indexAddr rfl | exact .un rfl | exact .extract rfl | exact .index rfl | exact .field rfl | exact .slice rfl | exact .fieldT rfl ztC | exact .fieldT rfl ztD) (fun K hK => ?_); go_simp; (try (simp only [↓IntWalk.iteOmega]; go_simp)); (try go_bits); refine hK _ ?_; clear hK K))
   refine zcg (fun i => ((zak X i : Nat) : Int)) rfl rfl rfl (fun _ _ _ _ h => h) zbb (jM (w := wr) hq) hq (by omega) (fun i hi => zjE _ _ i hi) ?_
   (try simp only [Act.put, jA, jB, jC])
   iterate 1 (first | (refine zaA rfl rfl (fun _ _ _ _ h => h) ?_; (simp only [Act.put, Act.eval, jN, jL, jD, jE, jO, jA, jB, jC])) | (refine zas rfl rfl (fun _ _ _ _ h => h) ?_; (simp only [Act.put, Act.eval, jN, jL, jD, jE, jO, jA, jB, jC])) | (refine zao rfl rfl rfl (fun _ _ _ _ h => h) ?_; (simp only [Act.put, jA, jB, jC])) | (refine za3 rfl rfl (fun _ _ _ _ h => h) (by first | exact .bin rfl rfl rfl | exact .indexAddr rfl | exact .un rfl | exact .extract rfl | exact .index rfl | exact .field rfl | exact .slice rfl | exact .fieldT rfl ztC | exact .fieldT rfl ztD) (fun K hK => ?_); go_simp; (try (simp only [↓IntWalk.iteOmega]; go_simp)); (try go_bits); refine hK _ ?_; clear hK K))
   refine zcg (fun i => ((zak Z i : Nat) : Int)) rfl rfl rfl (fun _ _ _ _ h => h) zbb (jM (w := wr) hq) hq (by omega) (fun i hi => zjF _ _ i hi) ?_
   (try simp only [Act.put, jA, jB, jC])
   refine wpCan_e rfl (fun K hK => ?_)
   go_simp
   refine (zoN Z OZ.out _).mono ?_
   rintro e v1 ⟨rfl, b1⟩
   refine hK _ _ (Keep.of_below b1 (jV _)) ?_
   clear hK K
   (try simp only [Act.put, jA, jB, jC])
   have cb := b1
   clear b1
   refine wpCan_e rfl (fun K hK => ?_)
   go_simp
   refine (zfZ X (zd2 Z 255) OX.out OI.out _).mono ?_
   rintro e v2 ⟨rfl, b2⟩
   refine hK _ _ (Keep.of_below b2 cb.size) ?_
   clear hK K
   (try simp only [Act.put, jA, jB, jC])
   replace cb := cb.trans (b2.mono cb.size)
   clear b2
   refine wpCan_e rfl (fun K hK => ?_)
   go_simp
   refine (zra (fM X (zd2 Z 255)) _).mono ?_
   rintro e v3 ⟨rfl, b3⟩
   refine hK _ _ (Keep.of_below b3 cb.size) ?_
   clear hK K
   (try simp only [Act.put, jA, jB, jC])
   replace cb := cb.trans (b3.mono cb.size)
   clear b3
   refine wpCan_nil ?_
   replace h2 := zaa (w := wr.drew) cb (jM (w := wr) h2) h2
   replace hb := hb.drew.trans (cb.mono hb.size)
   clear cb
   rw [EV.out]
   go_wp2_with (first | (refine zac rfl rfl rfl rfl zch h2 ?_))
   exact bodyPost_ret (zaw rfl rfl zch (zan h2)) rfl ⟨rfl, zam hb (by omega) _⟩
end
section
open Go.RowKit
section
variable {P : Program} {o : Oper} {a : Act} {w : World}
end
def zj7 (i : Nat) : Nat := if i = 0 then 9 else 0
theorem ztG (i : Nat) (hi : i < 32) : zj7 i < 256 := by unfold zj7; split <;> omega
theorem zkA : Tryz.prog.built 23 [(0, .int .u8 9)] = some (arr .u8 32 fun i => ((zj7 i : Nat) : Int)) := by kernel_rfl
attribute [local irreducible] pN zbV zbj zbY zeH ofN zdj kvN zag zdA za2 zj7
theorem zvP (k : Nat → Nat) (hk : ∀ i, i < 32 → k i < 256) (w : World) :
  Calls Tryz.prog 17 #[.agg (arr .u8 32 fun i => ((k i : Nat) : Int))] w fun e w' => e = .returned (.agg (arr .u8 32 fun i => (((zbj (zdA k (za2 zj7))) i : Nat) : Int))) ∧ Below w.heap.size w w' := by
 have hK := Lib.hid hk
 clear hk
 go_enter Tryz.func17, Tryz.ntmps17
 obtain ⟨h0, h1, hsz, hb⟩ := zcb w (.cells (arr .u8 32 fun i => ((k i : Nat) : Int)) 23) (.cells (arr .u8 32 fun _ => 0) 23)
 go_upto_region 1 with (refine zae rfl rfl zii ?_)
 generalize (w.alloc (.cells (arr .u8 32 fun i => ((k i : Nat) : Int)) 23)).alloc (.cells (arr .u8 32 fun _ => 0) 23) = wa at *
 (try simp only [Act.put, jA, jB, jC])
 simp only [World.size_alloc]
 clear hsz
 go_wp2_with (first | (refine zab rfl rfl rfl zch h0 ?_) | (refine za8 rfl (zaJ rfl (by simp [Act.eval, Act.put]) zkA) ?_) | (go_at_call 26; fail))
 refine (zp6 k zj7 hK.out ztG _).mono ?_
 rintro e w4 ⟨rfl, b4⟩
 replace h1 := zaa b4 (jM h1) h1
 replace hb := hb.trans (b4.mono hb.size)
 go_wp2_with (first | (refine zac rfl rfl rfl rfl zch h1 ?_))
 exact bodyPost_ret (zaw rfl rfl zch (zan h1)) rfl ⟨rfl, zam hb (by omega) _⟩
theorem ztH (k : Nat → Nat) (hk : ∀ i, i < 32 → k i < 256) (w : World) :
  Calls Tryz.prog 19 #[.agg (arr .u8 32 fun i => ((k i : Nat) : Int))] w fun e w' => e = .returned (.agg (arr .u8 32 fun i => (((zbj (zdA k (za2 zj7))) i : Nat) : Int))) ∧ Below w.heap.size w w' := by
 have hK := Lib.hid hk
 clear hk
 go_enter Tryz.func19, Tryz.ntmps19
 obtain ⟨h0, h1, hsz, hb⟩ := zcb w (.cells (arr .u8 32 fun i => ((k i : Nat) : Int)) 23) (.cells (arr .u8 32 fun _ => 0) 23)
 go_upto_region 1 with (refine zae rfl rfl zii ?_)
 generalize (w.alloc (.cells (arr .u8 32 fun i => ((k i : Nat) : Int)) 23)).alloc (.cells (arr .u8 32 fun _ => 0) 23) = wa at *
 (try simp only [Act.put, jA, jB, jC])
 simp only [World.size_alloc]
 clear hsz
 go_wp2_with (first | (refine zab rfl rfl rfl zch h0 ?_) | (refine za8 rfl (zaJ rfl (by simp [Act.eval, Act.put]) zkA) ?_) | (go_at_call 29; fail))
 refine (znJ k zj7 hK.out ztG _).mono ?_
 rintro e w4 ⟨rfl, b4⟩
 replace h1 := zaa b4 (jM h1) h1
 replace hb := hb.trans (b4.mono hb.size)
 go_wp2_with (first | (refine zac rfl rfl rfl rfl zch h1 ?_))
 exact bodyPost_ret (zaw rfl rfl zch (zan h1)) rfl ⟨rfl, zam hb (by omega) _⟩
end
section
theorem zvQ (v w e : Nat) : zdj (v * w) e = zdj v e * zdj w e := Nat.mul_pow v w e
instance pN_nz : NeZero pN := ⟨by unfold pN; decide +kernel⟩
abbrev K := Fin pN
def toK (a : Nat) : K := ⟨a % pN, Nat.mod_lt _ zc1⟩
theorem ztI (a : K) : toK a.val = a := Fin.ext (Nat.mod_eq_of_lt a.isLt)
theorem zgI (a : Nat) : (toK a).val = a % pN := rfl
theorem znK {a b : Nat} : toK a = toK b ↔ a % pN = b % pN := ⟨fun h => congrArg Fin.val h, fun h => Fin.ext h⟩
theorem zoR (a b : Nat) : toK (a + b) = toK a + toK b := Fin.ext (Nat.add_mod a b pN)
theorem zmp (a b : Nat) : toK (a * b) = toK a * toK b := Fin.ext (Nat.mul_mod a b pN)
theorem zoS (a : Nat) : toK (a % pN) = toK a := Fin.ext (Nat.mod_mod a pN)
theorem zhh : toK 0 = 0 := Fin.ext (by rw [zgI, Nat.zero_mod]; rfl)
theorem zjI : toK 1 = 1 := Fin.ext (by rw [zgI]; rfl)
theorem ztJ (a b : Nat) : toK (fA a b) = toK a + toK b := by unfold fA; rw [zoS, zoR]
theorem zp8 (a b : Nat) : toK (fM a b) = toK a * toK b := by unfold fM; rw [zoS, zmp]
theorem zh3 (a b : Nat) (h : b < pN) : toK (fS a b) = toK a - toK b := by
 unfold fS
 rw [zoS, zoR]
 have e : toK (pN - b) + toK b = 0 := by rw [← zoR, Nat.sub_add_cancel (Nat.le_of_lt h)]; exact Fin.ext (by rw [zgI, Nat.mod_self]; rfl)
 grind
theorem zdV {a b : K} (h : a * b = 0) : a = 0 ∨ b = 0 := by
 have h1 : a.val * b.val % pN = 0 := congrArg Fin.val h
 have hp : IsP pN := zaO.1
 rcases znv hp (Nat.dvd_of_mod_eq_zero h1) with h2 | h2
 ·exact .inl (Fin.ext (by have := Nat.eq_zero_of_dvd_of_lt h2 a.isLt; rw [this]; rfl))
 ·exact .inr (Fin.ext (by have := Nat.eq_zero_of_dvd_of_lt h2 b.isLt; rw [this]; rfl))
theorem zn9 {a b : K} (ha : a ≠ 0) (hb : b ≠ 0) : a * b ≠ 0 := fun h => (zdV h).elim ha hb
theorem zAv (n f b e : Nat) (h : e < 2 ^ f) : pw n f b e = zdj b e % n := zvB n f b e h
attribute [local irreducible] zdj
def iv (a : K) : K := toK (zdj a.val 57896044618658097711785492504343953926634992332820282019728792003956564819947)
theorem zbZ {a : K} (h : a ≠ 0) : a * iv a = 1 := by
 have h1 : a.val % pN ≠ 0 := fun e => h (Fin.ext (by rw [Nat.mod_eq_of_lt a.isLt] at e; rw [e]; rfl))
 have h2 := znK.2 (zyE a.val h1)
 rw [zmp, ztI, zjI] at h2
 exact h2
theorem zyT : iv 0 = 0 := by
 have h := znx 57896044618658097711785492504343953926634992332820282019728792003956564819947 pN 0 (by omega) (Nat.zero_mod _)
 have h2 : iv 0 = toK (zdj 0 57896044618658097711785492504343953926634992332820282019728792003956564819947) := rfl
 rw [h2, ← zhh]
 exact znK.2 (h.trans (Nat.zero_mod _).symm)
theorem zBD {a : K} (h : a ≠ 0) : iv a ≠ 0 := fun e => by
 have h1 := zbZ h
 rw [e] at h1
 have : (0 : K) = 1 := by grind
 exact absurd (congrArg Fin.val this) (by decide +kernel)
theorem zh4 : (1 : K) ≠ 0 := fun h => absurd (congrArg Fin.val h) (by decide +kernel)
theorem zh5 : (2 : K) ≠ 0 := fun h => absurd (congrArg Fin.val h) (by decide +kernel)
theorem zyU {a b : K} (h : a * b = 1) : iv a = b := by
 have ha : a ≠ 0 := fun e => zh4 (by rw [← h, e]; grind)
 have := zbZ ha
 grind
theorem ztK {a b c : K} (h : c ≠ 0) (e : a * c = b * c) : a = b := by
 have := zbZ h
 have e2 : a * c * iv c = b * c * iv c := by rw [e]
 grind
def pk (a : K) (n : Nat) : K := toK (zdj a.val n)
theorem zAw (a : K) : pk a 1 = a := by unfold pk; rw [zmd, ztI]
theorem zp9 (a : K) (m n : Nat) : pk a m * pk a n = pk a (m + n) := by unfold pk; rw [← zmp, ziC]
theorem zAx (a b : K) (n : Nat) : pk (a * b) n = pk a n * pk b n := by
 unfold pk
 rw [← zmp, ← zvQ]
 exact znK.2 (zvE _ _ _ _ (by rw [show (a * b).val = a.val * b.val % pN from rfl, Nat.mod_mod]))
theorem zyV {a : K} (h : a ≠ 0) : pk a 57896044618658097711785492504343953926634992332820282019728792003956564819948 = 1 := by
 have h1 : a.val % pN ≠ 0 := fun e => h (Fin.ext (by rw [Nat.mod_eq_of_lt a.isLt] at e; rw [e]; rfl))
 have h2 := zny a.val h1
 unfold pk
 rw [← zjI]
 exact znK.2 (h2.trans (Nat.mod_eq_of_lt ziD).symm)
theorem ziF {a : K} (h : a * a = 1) : a = 1 ∨ a = -1 := by
 have : (a - 1) * (a + 1) = 0 := by grind
 rcases zdV this with h1 | h1
 ·exact .inl (by grind)
 ·exact .inr (by grind)
def hf (a : K) : K := pk a 28948022309329048855892746252171976963317496166410141009864396001978282409974
theorem zqa {a : K} (h : a ≠ 0) : hf a = 1 ∨ hf a = -1 := ziF (by
 unfold hf
 rw [zp9]
 exact zyV h)
theorem ztL (a b : K) : hf (a * b) = hf a * hf b := zAx a b _
theorem zBE {a : K} (h : a ≠ 0) : hf (a * a) = 1 := by
 rw [ztL]
 rcases zqa h with h1 | h1 <;> rw [h1] <;> grind
theorem zqb : (-1 : K) ≠ 1 := fun h => absurd (congrArg Fin.val h) (by decide +kernel)
theorem ztM {a : K} (h : hf a = 1) : ∃ r : K, r * r = a := by
 have h1 : pk a 14474011154664524427946373126085988481658748083205070504932198000989141204987 * pk a 14474011154664524427946373126085988481658748083205070504932198000989141204987 = 1 := by rw [zp9]; exact h
 have h2 : pk a 7237005577332262213973186563042994240829374041602535252466099000494570602494 * pk a 7237005577332262213973186563042994240829374041602535252466099000494570602494 = pk a 14474011154664524427946373126085988481658748083205070504932198000989141204987 * a := by
  rw [zp9]
  have := zp9 a 14474011154664524427946373126085988481658748083205070504932198000989141204987 1
  rw [zAw] at this
  rw [this]
 rcases ziF h1 with h3 | h3
 ·exact ⟨_, by rw [h2, h3]; grind⟩
 ·have hi : toK 19681161376707505956807079304988542015446066515923890162744021073123829784752 * toK 19681161376707505956807079304988542015446066515923890162744021073123829784752 = (-1 : K) := by decide +kernel
  generalize toK 19681161376707505956807079304988542015446066515923890162744021073123829784752 = i at hi
  generalize pk a 7237005577332262213973186563042994240829374041602535252466099000494570602494 = r at h2
  exact ⟨i * r, by rw [show i * r * (i * r) = i * i * (r * r) by grind, hi, h2, h3]; grind⟩
theorem zAy (v : Nat) (k : Nat) (h : pw pN 256 (v % pN) 28948022309329048855892746252171976963317496166410141009864396001978282409974 = k) : hf (toK v) = toK k := by
 unfold hf pk
 rw [zgI]
 have h1 := zAv pN 256 (v % pN) 28948022309329048855892746252171976963317496166410141009864396001978282409974 (by decide +kernel)
 refine znK.2 ?_
 rw [← h1, h]
 rw [← h, h1, Nat.mod_mod]
def cA : K := toK 486662
theorem zmq : hf (cA - 2) = -1 := by
 have h := zAy 486660 57896044618658097711785492504343953926634992332820282019728792003956564819948 (by decide +kernel)
 have e1 : cA - 2 = toK 486660 := by decide +kernel
 have e2 : (-1 : K) = toK 57896044618658097711785492504343953926634992332820282019728792003956564819948 := by decide +kernel
 rw [e1, h, e2]
def cS : K := toK 48802004052532134862652268456126542835229456083994414501085850622543968879637
theorem zAz : cS * cS = cA + 2 := by decide +kernel
theorem zmr : cA + 2 ≠ 0 := fun h => absurd (congrArg Fin.val h) (by decide +kernel)
theorem zms : cA - 2 ≠ 0 := fun h => absurd (congrArg Fin.val h) (by decide +kernel)
theorem zqc {a r : K} (h : r * r = a) (ha : a ≠ 0) : hf a = 1 := by
 rw [← h]
 exact zBE fun e => ha (by rw [← h, e]; grind)
theorem ztN : hf (cA + 2) = 1 := zqc zAz zmr
theorem zyW (s : K) : s * s ≠ (cA - 2) * (cA + 2) := fun h => by
 have h1 := zqc h (zn9 zms zmr)
 rw [ztL, zmq, ztN] at h1
 exact zqb (by grind)
theorem zCJ (x1 y1 x2 y2 x3 y3 d i : K) (hd : d * i = 1) (h1 : x1 * x1 + y1 * y1 = 1 + d * (x1 * x1) * (y1 * y1)) (h2 : x2 * x2 + y2 * y2 = 1 + d * (x2 * x2) * (y2 * y2)) (h3 : x3 * x3 + y3 * y3 = 1 + d * (x3 * x3) * (y3 * y3)) :
  ((x1 * y2 + y1 * x2) * (1 - d * (x1 * x2) * (y1 * y2)) * y3 + (y1 * y2 - x1 * x2) * (1 + d * (x1 * x2) * (y1 * y2)) * x3) * ((1 + d * (x2 * x3) * (y2 * y3)) * (1 - d * (x2 * x3) * (y2 * y3)) + d * (x2 * y3 + y2 * x3) * (y2 * y3 - x2 * x3) * (x1 * y1)) =
  (x1 * (y2 * y3 - x2 * x3) * (1 + d * (x2 * x3) * (y2 * y3)) + y1 * (x2 * y3 + y2 * x3) * (1 - d * (x2 * x3) * (y2 * y3))) * ((1 + d * (x1 * x2) * (y1 * y2)) * (1 - d * (x1 * x2) * (y1 * y2)) + d * (x1 * y2 + y1 * x2) * (y1 * y2 - x1 * x2) * (x3 * y3)) := by grind
theorem zCK (x1 y1 x2 y2 x3 y3 d i : K) (hd : d * i = 1) (h1 : x1 * x1 + y1 * y1 = 1 + d * (x1 * x1) * (y1 * y1)) (h2 : x2 * x2 + y2 * y2 = 1 + d * (x2 * x2) * (y2 * y2)) (h3 : x3 * x3 + y3 * y3 = 1 + d * (x3 * x3) * (y3 * y3)) :
  ((y1 * y2 - x1 * x2) * (1 + d * (x1 * x2) * (y1 * y2)) * y3 - (x1 * y2 + y1 * x2) * (1 - d * (x1 * x2) * (y1 * y2)) * x3) * ((1 + d * (x2 * x3) * (y2 * y3)) * (1 - d * (x2 * x3) * (y2 * y3)) - d * (x2 * y3 + y2 * x3) * (y2 * y3 - x2 * x3) * (x1 * y1)) =
  (y1 * (y2 * y3 - x2 * x3) * (1 + d * (x2 * x3) * (y2 * y3)) - x1 * (x2 * y3 + y2 * x3) * (1 - d * (x2 * x3) * (y2 * y3))) * ((1 + d * (x1 * x2) * (y1 * y2)) * (1 - d * (x1 * x2) * (y1 * y2)) - d * (x1 * y2 + y1 * x2) * (y1 * y2 - x1 * x2) * (x3 * y3)) := by grind
theorem fr1 {a e y c b x B E : K} (p : b * B = 1) (q : e * E = 1) : (a * e * y + c * b * x) * B * E = a * B * y + c * E * x := by
 rw [show (a * e * y + c * b * x) * B * E = a * B * y * (e * E) + c * E * x * (b * B) by grind, p, q]; grind
theorem zCL {a e y c b x B E : K} (p : b * B = 1) (q : e * E = 1) : (c * b * y - a * e * x) * B * E = c * E * y - a * B * x := by
 rw [show (c * b * y - a * e * x) * B * E = c * E * y * (b * B) - a * B * x * (e * E) by grind, p, q]; grind
theorem fr2 {d a c x y b e B E : K} (p : b * B = 1) (q : e * E = 1) : (b * e + d * a * c * (x * y)) * B * E = 1 + d * (a * B * x) * (c * E * y) := by
 rw [show (b * e + d * a * c * (x * y)) * B * E = b * B * (e * E) + d * (a * B * x) * (c * E * y) by grind, p, q]; grind
theorem zCo {d a c x y b e B E : K} (p : b * B = 1) (q : e * E = 1) : (b * e - d * a * c * (x * y)) * B * E = 1 - d * (a * B * x) * (c * E * y) := by
 rw [show (b * e - d * a * c * (x * y)) * B * E = b * B * (e * E) - d * (a * B * x) * (c * E * y) by grind, p, q]; grind
theorem fr3 {d a c x y b e B E : K} (p : b * B = 1) (q : e * E = 1) : (b * e + d * a * c * (x * y)) * B * E = 1 + d * (x * (a * B)) * (y * (c * E)) := by
 rw [fr2 p q]; grind
theorem zCM {d a c x y b e B E : K} (p : b * B = 1) (q : e * E = 1) : (b * e - d * a * c * (x * y)) * B * E = 1 - d * (x * (a * B)) * (y * (c * E)) := by
 rw [zCo p q]; grind
theorem fr4 {x c b y a e B E : K} (p : b * B = 1) (q : e * E = 1) : (x * c * b + y * a * e) * B * E = x * (c * E) + y * (a * B) := by
 rw [show (x * c * b + y * a * e) * B * E = x * (c * E) * (b * B) + y * (a * B) * (e * E) by grind, p, q]; grind
theorem zCN {x c b y a e B E : K} (p : b * B = 1) (q : e * E = 1) : (y * c * b - x * a * e) * B * E = y * (c * E) - x * (a * B) := by
 rw [show (y * c * b - x * a * e) * B * E = y * (c * E) * (b * B) - x * (a * B) * (e * E) by grind, p, q]; grind
theorem fr6 {u v B E B' E' w z : K} (h : u * v = w * z) : u * B * E * (v * B' * E') = w * B' * E' * (z * B * E) := by
 rw [show u * B * E * (v * B' * E') = u * v * (B * E * B' * E') by grind, h]; grind
theorem zf0 : (1 : K) - 0 = 1 := by decide +kernel
theorem fr5 {u v m m' M M' : K} (h : u * m' = v * m) (q : m * M = 1) (q' : m' * M' = 1) : u * M = v * M' := by
 have h1 : u * M = u * m' * M * M' := by rw [show u * m' * M * M' = u * M * (m' * M') by grind, q']; grind
 have h2 : v * M' = v * m * M * M' := by rw [show v * m * M * M' = v * M' * (m * M) by grind, q]; grind
 rw [h1, h2, h]
structure Ed where
 x : K
 y : K
def On (d : K) (P : Ed) : Prop := P.x * P.x + P.y * P.y = 1 + d * (P.x * P.x) * (P.y * P.y)
def zoa (d : K) : Prop := ∀ s : K, s * s ≠ d
def tE (d : K) (P Q : Ed) : K := d * (P.x * Q.x) * (P.y * Q.y)
def zcG (d : K) (P Q : Ed) : Ed := ⟨(P.x * Q.y + P.y * Q.x) * iv (1 + tE d P Q), (P.y * Q.y - P.x * Q.x) * iv (1 - tE d P Q)⟩
def zob (P : Ed) : Ed := ⟨-P.x, P.y⟩
def zgP : Ed := ⟨0, 1⟩
theorem zCp {d : K} (hd : zoa d) {P Q : Ed} (hP : On d P) (hQ : On d Q) : tE d P Q * tE d P Q ≠ 1 := by
 obtain ⟨x1, y1⟩ := P
 obtain ⟨x2, y2⟩ := Q
 unfold On tE at *
 dsimp only at *
 intro ht
 generalize hT : d * (x1 * x2) * (y1 * y2) = t at ht
 have hxy : x1 * y1 ≠ 0 := fun e => zh4 (by rw [← ht, ← hT]; grind)
 have k1 : (x1 + t * y1) * (x1 + t * y1) = d * ((x1 * y1) * (x2 + y2)) * ((x1 * y1) * (x2 + y2)) := by grind
 have k2 : (x1 - t * y1) * (x1 - t * y1) = d * ((x1 * y1) * (x2 - y2)) * ((x1 * y1) * (x2 - y2)) := by grind
 have key : ∀ a b : K, a * a = d * b * b → b = 0 := by
  intro a b h
  refine Classical.byContradiction fun hb => ?_
  have hi := zbZ hb
  refine hd (a * iv b) ?_
  grind
 have z1 := key _ _ k1
 have z2 := key _ _ k2
 have z3 : x2 + y2 = 0 := (zdV z1).resolve_left hxy
 have z4 : x2 - y2 = 0 := (zdV z2).resolve_left hxy
 have z5 : x2 = 0 := by
  have : 2 * x2 = 0 := by grind
  exact (zdV this).resolve_left zh5
 exact zh4 (by rw [← ht, ← hT, z5]; grind)
theorem zft {d : K} (hd : zoa d) {P Q : Ed} (hP : On d P) (hQ : On d Q) : 1 + tE d P Q ≠ 0 := fun e => zCp hd hP hQ (by grind)
theorem zc5 {d : K} (hd : zoa d) {P Q : Ed} (hP : On d P) (hQ : On d Q) : 1 - tE d P Q ≠ 0 := fun e => zCp hd hP hQ (by grind)
theorem zAA (d : K) : On d zgP := by unfold On zgP; dsimp only; grind
theorem zqd {d : K} {P : Ed} (h : On d P) : On d (zob P) := by unfold On zob at *; dsimp only; grind
theorem znL {d : K} (hd : zoa d) {P Q : Ed} (hP : On d P) (hQ : On d Q) : On d (zcG d P Q) := by
 have p1 := zbZ (zft hd hP hQ)
 have p2 := zbZ (zc5 hd hP hQ)
 have p1' := zft hd hP hQ
 have p2' := zc5 hd hP hQ
 unfold On zcG tE at *
 dsimp only
 generalize iv (1 + d * (P.x * Q.x) * (P.y * Q.y)) = B at *
 generalize iv (1 - d * (P.x * Q.x) * (P.y * Q.y)) = E at *
 generalize P.x = x1 at *
 generalize P.y = y1 at *
 generalize Q.x = x2 at *
 generalize Q.y = y2 at *
 have key : ((x1 * y2 + y1 * x2) * (x1 * y2 + y1 * x2)) * ((1 - d * (x1 * x2) * (y1 * y2)) * (1 - d * (x1 * x2) * (y1 * y2))) + ((y1 * y2 - x1 * x2) * (y1 * y2 - x1 * x2)) * ((1 + d * (x1 * x2) * (y1 * y2)) * (1 + d * (x1 * x2) * (y1 * y2))) = ((1 - d * (x1 * x2) * (y1 * y2)) * (1 - d * (x1 * x2) * (y1 * y2))) * ((1 + d * (x1 * x2) * (y1 * y2)) * (1 + d * (x1 * x2) * (y1 * y2))) + d * ((x1 * y2 + y1 * x2) * (x1 * y2 + y1 * x2)) * ((y1 * y2 - x1 * x2) * (y1 * y2 - x1 * x2)) := by grind
 generalize 1 + d * (x1 * x2) * (y1 * y2) = b at *
 generalize 1 - d * (x1 * x2) * (y1 * y2) = e at *
 generalize x1 * y2 + y1 * x2 = a at *
 generalize y1 * y2 - x1 * x2 = c at *
 clear hP hQ
 refine ztK (zn9 (zn9 p1' p1') (zn9 p2' p2')) ?_
 grind
theorem ztO {d : K} (P Q : Ed) : zcG d P Q = zcG d Q P := by
 unfold zcG tE
 congr 1
 ·congr 1
  ·grind
  ·congr 1
   grind
 ·congr 1
  ·grind
  ·congr 1
   grind
theorem zqe {d : K} (P : Ed) : zcG d P zgP = P := by
 have h1 : iv (1 : K) = 1 := zyU (by grind)
 unfold zcG tE zgP
 dsimp only
 have z : d * (P.x * 0) * (P.y * 1) = 0 := by grind
 have z1 : ∀ t : K, t = 0 → 1 + t = 1 := fun t h => by rw [h]; exact Fin.add_zero 1
 have z2 : ∀ t : K, t = 0 → 1 - t = 1 := fun t h => by rw [h]; exact zf0
 rw [z1 _ z, z2 _ z, h1, show (P.x * 1 + P.y * 0) * 1 = P.x by grind, show (P.y * 1 - P.x * 0) * 1 = P.y by grind]
theorem zAB {d : K} (hd : zoa d) {P : Ed} (h : On d P) : zcG d P (zob P) = zgP := by
 have p1 := zbZ (zft hd h (zqd h))
 have p2 := zbZ (zc5 hd h (zqd h))
 unfold zcG zgP
 unfold tE zob On at *
 dsimp only at *
 generalize iv _ = B at *
 generalize iv _ = E at *
 congr 1
 ·grind
 ·grind
theorem zqf {d : K} (hd : zoa d) {P Q R : Ed} (hP : On d P) (hQ : On d Q) (hR : On d R) (d0 : d ≠ 0) : zcG d (zcG d P Q) R = zcG d P (zcG d Q R) := by
 have i0 := zbZ d0
 have p1 := zbZ (zft hd hP hQ)
 have p2 := zbZ (zc5 hd hP hQ)
 have p3 := zbZ (zft hd hQ hR)
 have p4 := zbZ (zc5 hd hQ hR)
 have q1 := zbZ (zft hd (znL hd hP hQ) hR)
 have q2 := zbZ (zc5 hd (znL hd hP hQ) hR)
 have q3 := zbZ (zft hd hP (znL hd hQ hR))
 have q4 := zbZ (zc5 hd hP (znL hd hQ hR))
 rw [show zcG d (zcG d P Q) R = ⟨((zcG d P Q).x * R.y + (zcG d P Q).y * R.x) * iv (1 + tE d (zcG d P Q) R), ((zcG d P Q).y * R.y - (zcG d P Q).x * R.x) * iv (1 - tE d (zcG d P Q) R)⟩ from rfl, show zcG d P (zcG d Q R) = ⟨(P.x * (zcG d Q R).y + P.y * (zcG d Q R).x) * iv (1 + tE d P (zcG d Q R)), (P.y * (zcG d Q R).y - P.x * (zcG d Q R).x) * iv (1 - tE d P (zcG d Q R))⟩ from rfl]
 unfold On at hP hQ hR
 generalize iv (1 + tE d (zcG d P Q) R) = M at *
 generalize iv (1 - tE d (zcG d P Q) R) = N at *
 generalize iv (1 + tE d P (zcG d Q R)) = M' at *
 generalize iv (1 - tE d P (zcG d Q R)) = N' at *
 unfold zcG at *
 dsimp only at *
 unfold tE at *
 dsimp only at *
 generalize P.x = x1 at *
 generalize P.y = y1 at *
 generalize Q.x = x2 at *
 generalize Q.y = y2 at *
 generalize R.x = x3 at *
 generalize R.y = y3 at *
 generalize iv (1 + d * (x1 * x2) * (y1 * y2)) = B at *
 generalize iv (1 - d * (x1 * x2) * (y1 * y2)) = E at *
 generalize iv (1 + d * (x2 * x3) * (y2 * y3)) = B' at *
 generalize iv (1 - d * (x2 * x3) * (y2 * y3)) = E' at *
 generalize iv d = i at *
 have kx := zCJ x1 y1 x2 y2 x3 y3 d i i0 hP hQ hR
 have ky := zCK x1 y1 x2 y2 x3 y3 d i i0 hP hQ hR
 clear hP hQ hR i0
 generalize 1 + d * (x1 * x2) * (y1 * y2) = b at *
 generalize 1 - d * (x1 * x2) * (y1 * y2) = e at *
 generalize 1 + d * (x2 * x3) * (y2 * y3) = b' at *
 generalize 1 - d * (x2 * x3) * (y2 * y3) = e' at *
 generalize x1 * y2 + y1 * x2 = a at *
 generalize y1 * y2 - x1 * x2 = c at *
 generalize x2 * y3 + y2 * x3 = a' at *
 generalize y2 * y3 - x2 * x3 = c' at *
 refine (congr (congrArg Ed.mk ?_) ?_)
 ·have g1 := fr6 (B := B) (E := E) (B' := B') (E' := E') kx
  rw [fr1 p1 p2, fr3 p3 p4, fr4 p3 p4, fr2 p1 p2] at g1
  exact fr5 g1 q1 q3
 ·have g1 := fr6 (B := B) (E := E) (B' := B') (E' := E') ky
  rw [zCL p1 p2, zCM p3 p4, zCN p3 p4, zCo p1 p2] at g1
  exact fr5 g1 q2 q4
end
section
attribute [local irreducible] zdj
def zd4 (d : K) (P : Ed) : Nat → Ed
 | 0 => zgP
 | n + 1 => zcG d (zd4 d P n) P
theorem zf1 {d : K} (hd : zoa d) {P : Ed} (h : On d P) : ∀ n, On d (zd4 d P n)
 | 0 => zAA d
 | n + 1 => znL hd (zf1 hd h n) h
theorem zjJ {d : K} (P : Ed) : zcG d zgP P = P := by rw [ztO, zqe]
theorem zgh {d : K} (hd : zoa d) (d0 : d ≠ 0) {P : Ed} (h : On d P) (m : Nat) : ∀ n, zd4 d P (m + n) = zcG d (zd4 d P m) (zd4 d P n)
 | 0 => (zqe _).symm
 | n + 1 => by
  rw [← Nat.add_assoc, show zd4 d P (m + n + 1) = zcG d (zd4 d P (m + n)) P from rfl, zgh hd d0 h m n, show zd4 d P (n + 1) = zcG d (zd4 d P n) P from rfl]
  exact zqf hd (zf1 hd h m) (zf1 hd h n) h d0
theorem ziG {d : K} (hd : zoa d) (d0 : d ≠ 0) {P : Ed} (h : On d P) (m : Nat) : ∀ n, zd4 d (zd4 d P m) n = zd4 d P (m * n)
 | 0 => rfl
 | n + 1 => by
  rw [show zd4 d (zd4 d P m) (n + 1) = zcG d (zd4 d (zd4 d P m) n) (zd4 d P m) from rfl, ziG hd d0 h m n, Nat.mul_succ, zgh hd d0 h]
theorem zvR {d : K} (hd : zoa d) (d0 : d ≠ 0) {P : Ed} (h : On d P) (n : Nat) : zcG d (zd4 d P (n + 1)) (zob (zd4 d P n)) = P := by
 rw [show zd4 d P (n + 1) = zcG d (zd4 d P n) P from rfl, ztO (zd4 d P n) P, zqf hd h (zf1 hd h n) (zqd (zf1 hd h n)) d0, zAB hd (zf1 hd h n), zqe]
theorem zoT {d : K} : ∀ n, zd4 d zgP n = zgP
 | 0 => rfl
 | n + 1 => by rw [show zd4 d zgP (n + 1) = zcG d (zd4 d zgP n) zgP from rfl, zoT n, zqe]
def zim : Ed := ⟨0, -1⟩
theorem znM {d : K} : zcG d zim zim = zgP := by
 have h1 : iv (1 : K) = 1 := zyU (by grind)
 unfold zcG tE zim zgP
 dsimp only
 have z : d * (0 * 0) * (-1 * -1) = (0 : K) := by grind
 have z1 : (1 : K) + 0 = 1 := Fin.add_zero 1
 rw [z, z1, zf0, h1]
 congr 1 <;> decide +kernel
theorem zqg {d : K} : ∀ n, zd4 d zim n = zgP ∨ zd4 d zim n = zim
 | 0 => .inl rfl
 | n + 1 => by
  rw [show zd4 d zim (n + 1) = zcG d (zd4 d zim n) zim from rfl]
  rcases zqg (d := d) n with h | h
  ·rw [h, zjJ]; exact .inr rfl
  ·rw [h, znM]; exact .inl rfl
def cB : K := toK 121665
theorem zAC : cA = 4 * cB + 2 := by decide +kernel
structure Cv (d e : K) : Prop where
 free : zoa d
 nz : d ≠ 0
 way : e = 1 ∧ d * (cB + 1) = cB ∨ e = -1 ∧ d * cB = cB + 1
def Rep (e X Z : K) (P : Ed) : Prop := X * (1 - P.y) = e * Z * (1 + P.y) ∧ ¬(X = 0 ∧ Z = 0)
theorem zBF : (2 : K) * iv 2 = 1 := zbZ zh5
theorem zoU {e X Z : K} {P : Ed} (he : e * e = 1) (h : Rep e X Z P) : ∃ l : K, l ≠ 0 ∧ X = e * l * (1 + P.y) ∧ Z = l * (1 - P.y) := by
 obtain ⟨h1, h2⟩ := h
 have h3 := zBF
 generalize iv (2 : K) = t at h3
 have a1 : X = e * ((e * X + Z) * t) * (1 + P.y) := by
  generalize P.y = y at *
  grind
 have a2 : Z = (e * X + Z) * t * (1 - P.y) := by
  generalize P.y = y at *
  grind
 refine ⟨_, fun e0 => h2 ?_, a1, a2⟩
 rw [e0] at a1 a2
 exact ⟨by rw [a1]; grind, by rw [a2]; grind⟩
theorem ee {d e : K} (h : Cv d e) : e * e = 1 := by rcases h.way with ⟨h1, _⟩ | ⟨h1, _⟩ <;> rw [h1] <;> decide +kernel
theorem zvS {d y x c : K} (hd : d * (c + 1) = c) (h : x * x + y * y = 1 + d * (x * x) * (y * y)) : (1 - x * x) * (1 + c * (1 - y * y)) = y * y := by grind
theorem zvT {d y x c : K} (hd : d * c = c + 1) (h : x * x + y * y = 1 + d * (x * x) * (y * y)) : (1 - x * x) * (c - (c + 1) * (y * y)) = -(y * y) := by grind
theorem zBG {d : K} {P : Ed} (hd : zoa d) (h : On d P) : ∃ q : K, q ≠ 0 ∧ q * (1 - (zcG d P P).y) = 2 - 2 * (P.y * P.y) ∧ q * (1 + (zcG d P P).y) = 2 - 2 * (P.x * P.x) := by
 have p2 := zbZ (zc5 hd h h)
 have p2' := zc5 hd h h
 refine ⟨_, p2', ?_, ?_⟩
 ·unfold zcG
  unfold tE On at *
  dsimp only at *
  generalize iv _ = E at *
  generalize P.x = x at *
  generalize P.y = y at *
  rw [show (1 - d * (x * x) * (y * y)) * (1 - (y * y - x * x) * E) = (1 - d * (x * x) * (y * y)) - (y * y - x * x) * ((1 - d * (x * x) * (y * y)) * E) by clear h p2 p2'; grind, p2]
  clear p2 p2'
  grind
 ·unfold zcG
  unfold tE On at *
  dsimp only at *
  generalize iv _ = E at *
  generalize P.x = x at *
  generalize P.y = y at *
  rw [show (1 - d * (x * x) * (y * y)) * (1 + (y * y - x * x) * E) = (1 - d * (x * x) * (y * y)) + (y * y - x * x) * ((1 - d * (x * x) * (y * y)) * E) by clear h p2 p2'; grind, p2]
  clear p2 p2'
  grind
theorem zdx {a b c : K} (h : c ≠ 0) (e : c * a = c * b) : a = b := ztK h (by rw [show a * c = c * a by grind, e]; grind)
theorem zkB : (16 : K) ≠ 0 := fun h => absurd (congrArg Fin.val h) (by decide +kernel)
theorem zBH : cB ≠ 0 := fun h => absurd (congrArg Fin.val h) (by decide +kernel)
theorem zAD : cB + 1 ≠ 0 := fun h => absurd (congrArg Fin.val h) (by decide +kernel)
theorem zyX {d e X Z : K} {P : Ed} (hc : Cv d e) (hP : On d P) (h : Rep e X Z P) :
  Rep e (((X + Z) * (X + Z)) * ((X - Z) * (X - Z))) (((X + Z) * (X + Z) - (X - Z) * (X - Z)) * ((X + Z) * (X + Z) + cB * ((X + Z) * (X + Z) - (X - Z) * (X - Z)))) (zcG d P P) := by
 obtain ⟨l, hl, e1, e2⟩ := zoU (ee hc) h
 obtain ⟨q, hq, k1, k2⟩ := zBG hc.free hP
 clear h
 unfold Rep
 have c0 := zBH
 have c1 := zAD
 have w := hc.way
 generalize cB = c at *
 generalize (zcG d P P).y = Y at *
 unfold On at hP
 generalize P.x = x at *
 generalize P.y = y at *
 have l4 : 16 * (l * l * l * l) ≠ 0 := zn9 zkB (zn9 (zn9 (zn9 hl hl) hl) hl)
 subst e1 e2
 rcases w with ⟨he, hd⟩ | ⟨he, hd⟩
 ·subst he
  have k3 := zvS hd hP
  have g1 : (1 * l * (1 + y) + l * (1 - y)) * (1 * l * (1 + y) + l * (1 - y)) = 4 * (l * l) := by clear k1 k2 k3 hP hd; grind
  have g2 : (1 * l * (1 + y) - l * (1 - y)) * (1 * l * (1 + y) - l * (1 - y)) = 4 * (l * l) * (y * y) := by clear k1 k2 k3 hP hd; grind
  rw [g1, g2]
  clear g1 g2
  have g3 : 4 * (l * l) * (4 * (l * l) * (y * y)) = 16 * (l * l * l * l) * (y * y) := by clear k1 k2 k3 hP hd; grind
  have g4 : (4 * (l * l) - 4 * (l * l) * (y * y)) * (4 * (l * l) + c * (4 * (l * l) - 4 * (l * l) * (y * y))) = 16 * (l * l * l * l) * ((1 - y * y) * (1 + c * (1 - y * y))) := by clear k1 k2 k3 hP hd; grind
  rw [g3, g4]
  clear g3 g4
  generalize 16 * (l * l * l * l) = m at *
  refine ⟨zdx hq ?_, fun ⟨z1, z2⟩ => ?_⟩
  ·rw [show q * (m * (y * y) * (1 - Y)) = m * (y * y) * (q * (1 - Y)) by clear k1 k2 k3 hP hd; grind, show q * (1 * (m * ((1 - y * y) * (1 + c * (1 - y * y)))) * (1 + Y)) = m * ((1 - y * y) * (1 + c * (1 - y * y))) * (q * (1 + Y)) by clear k1 k2 k3 hP hd; grind, k1, k2, show m * ((1 - y * y) * (1 + c * (1 - y * y))) * (2 - 2 * (x * x)) = m * (2 - 2 * (y * y)) * ((1 - x * x) * (1 + c * (1 - y * y))) by clear k1 k2 k3 hP hd; grind, k3]
   clear k1 k2 k3 hP hd
   grind
  ·have z3 := (zdV z1).resolve_left l4
   have z4 := (zdV z2).resolve_left l4
   rw [z3] at z4
   exact c1 (by clear k1 k2 k3 hP hd; grind)
 ·subst he
  have k3 := zvT hd hP
  have g1 : (-1 * l * (1 + y) + l * (1 - y)) * (-1 * l * (1 + y) + l * (1 - y)) = 4 * (l * l) * (y * y) := by clear k1 k2 k3 hP hd; grind
  have g2 : (-1 * l * (1 + y) - l * (1 - y)) * (-1 * l * (1 + y) - l * (1 - y)) = 4 * (l * l) := by clear k1 k2 k3 hP hd; grind
  rw [g1, g2]
  clear g1 g2
  have g3 : 4 * (l * l) * (y * y) * (4 * (l * l)) = 16 * (l * l * l * l) * (y * y) := by clear k1 k2 k3 hP hd; grind
  have g4 : (4 * (l * l) * (y * y) - 4 * (l * l)) * (4 * (l * l) * (y * y) + c * (4 * (l * l) * (y * y) - 4 * (l * l))) = 16 * (l * l * l * l) * ((1 - y * y) * (c - (c + 1) * (y * y))) := by clear k1 k2 k3 hP hd; grind
  rw [g3, g4]
  clear g3 g4
  generalize 16 * (l * l * l * l) = m at *
  refine ⟨zdx hq ?_, fun ⟨z1, z2⟩ => ?_⟩
  ·rw [show q * (m * (y * y) * (1 - Y)) = m * (y * y) * (q * (1 - Y)) by clear k1 k2 k3 hP hd; grind, show q * (-1 * (m * ((1 - y * y) * (c - (c + 1) * (y * y)))) * (1 + Y)) = -(m * ((1 - y * y) * (c - (c + 1) * (y * y))) * (q * (1 + Y))) by clear k1 k2 k3 hP hd; grind, k1, k2, show m * ((1 - y * y) * (c - (c + 1) * (y * y))) * (2 - 2 * (x * x)) = m * (2 - 2 * (y * y)) * ((1 - x * x) * (c - (c + 1) * (y * y))) by clear k1 k2 k3 hP hd; grind, k3]
   clear k1 k2 k3 hP hd
   grind
  ·have z3 := (zdV z1).resolve_left l4
   have z4 := (zdV z2).resolve_left l4
   rw [z3] at z4
   exact c0 (by clear k1 k2 k3 hP hd; grind)
theorem zBI {d : K} {P Q : Ed} (hd : zoa d) (hP : On d P) (hQ : On d Q) : (P.y + Q.y) * (P.y + Q.y) * ((1 - (zcG d P Q).y) * (1 - (zcG d P (zob Q)).y)) = (P.y - Q.y) * (P.y - Q.y) * ((1 + (zcG d P Q).y) * (1 + (zcG d P (zob Q)).y)) := by
 have p1 := zbZ (zft hd hP hQ)
 have p2 := zbZ (zc5 hd hP hQ)
 have p3 := zbZ (zc5 hd hP (zqd hQ))
 have p1' := zft hd hP hQ
 have p2' := zc5 hd hP hQ
 unfold zcG
 unfold tE zob On at *
 dsimp only at *
 have t1 : 1 - d * (P.x * -Q.x) * (P.y * Q.y) = 1 + d * (P.x * Q.x) * (P.y * Q.y) := by clear p1 p2 p3 hP hQ p1' p2'; grind
 rw [t1] at p3 ⊢
 clear p3 t1
 generalize iv (1 + d * (P.x * Q.x) * (P.y * Q.y)) = B at *
 generalize iv (1 - d * (P.x * Q.x) * (P.y * Q.y)) = E at *
 generalize P.x = x1 at *
 generalize P.y = y1 at *
 generalize Q.x = x2 at *
 generalize Q.y = y2 at *
 have key : (y1 + y2) * (y1 + y2) * ((1 - d * (x1 * x2) * (y1 * y2) - (y1 * y2 - x1 * x2)) * (1 + d * (x1 * x2) * (y1 * y2) - (y1 * y2 + x1 * x2))) = (y1 - y2) * (y1 - y2) * ((1 - d * (x1 * x2) * (y1 * y2) + (y1 * y2 - x1 * x2)) * (1 + d * (x1 * x2) * (y1 * y2) + (y1 * y2 + x1 * x2))) := by clear p1 p2 p1' p2'; grind
 generalize 1 + d * (x1 * x2) * (y1 * y2) = b at *
 generalize 1 - d * (x1 * x2) * (y1 * y2) = q at *
 clear hP hQ
 rw [show y1 * y2 - x1 * -x2 = y1 * y2 + x1 * x2 by clear p1 p2 key p1' p2'; grind]
 generalize y1 * y2 - x1 * x2 = s at *
 generalize y1 * y2 + x1 * x2 = r at *
 have m1 : q * (1 - s * E) = q - s := by clear p1 key p1' p2'; grind
 have m2 : q * (1 + s * E) = q + s := by clear p1 key p1' p2'; grind
 have m3 : b * (1 - r * B) = b - r := by clear p2 key p1' p2'; grind
 have m4 : b * (1 + r * B) = b + r := by clear p2 key p1' p2'; grind
 clear p1 p2
 generalize 1 - s * E = u1 at *
 generalize 1 + s * E = u2 at *
 generalize 1 - r * B = u3 at *
 generalize 1 + r * B = u4 at *
 refine zdx (zn9 p2' p1') ?_
 rw [show q * b * ((y1 + y2) * (y1 + y2) * (u1 * u3)) = (y1 + y2) * (y1 + y2) * ((q * u1) * (b * u3)) by clear key m1 m2 m3 m4 p1' p2'; grind, show q * b * ((y1 - y2) * (y1 - y2) * (u2 * u4)) = (y1 - y2) * (y1 - y2) * ((q * u2) * (b * u4)) by clear key m1 m2 m3 m4 p1' p2'; grind, m1, m2, m3, m4]
 exact key
theorem zqh {d x1 y1 : K} (h : x1 * x1 + y1 * y1 = 1 + d * (x1 * x1) * (y1 * y1)) (hy : y1 = 0) : x1 * x1 = 1 := by
 have h1 : x1 * x1 = (x1 * x1 + y1 * y1) - y1 * y1 := by clear h hy; grind
 rw [h1, h, hy]
 clear h h1
 have h2 : ∀ t : K, 1 + t * (0 * 0) - 0 * 0 = 1 := fun t => by
  have z : t * (0 * 0) = 0 := by grind
  rw [z]
  decide +kernel
 exact h2 _
theorem zvU {d : K} {P Q : Ed} (hP : On d P) (hQ : On d Q) (h1 : P.y = 0) (h2 : Q.y = 0) : (zcG d P (zob Q)).y * (zcG d P (zob Q)).y = 1 := by
 have e1 := zqh hP h1
 have e2 := zqh hQ h2
 have i1 : iv (1 : K) = 1 := zyU (by grind)
 unfold zcG tE zob
 dsimp only
 rw [h1, h2, show d * (P.x * -Q.x) * (0 * 0) = 0 by clear e1 e2 hP hQ h1 h2; grind, zf0, i1]
 generalize P.x = x1 at *
 generalize Q.x = x2 at *
 rw [show (0 * 0 - x1 * -x2) * 1 * ((0 * 0 - x1 * -x2) * 1) = (x1 * x1) * (x2 * x2) by clear e1 e2 hP hQ h1 h2; grind, e1, e2]
 decide +kernel
theorem zyY {d e X1 Z1 X2 Z2 u : K} {P Q : Ed} (hc : Cv d e) (hP : On d P) (hQ : On d Q) (h1 : Rep e X1 Z1 P) (h2 : Rep e X2 Z2 Q)
  (hu : u * (1 - (zcG d P (zob Q)).y) = e * (1 + (zcG d P (zob Q)).y)) (hu0 : u ≠ 0) :
  Rep e (((X2 - Z2) * (X1 + Z1) + (X2 + Z2) * (X1 - Z1)) * ((X2 - Z2) * (X1 + Z1) + (X2 + Z2) * (X1 - Z1))) (u * (((X2 - Z2) * (X1 + Z1) - (X2 + Z2) * (X1 - Z1)) * ((X2 - Z2) * (X1 + Z1) - (X2 + Z2) * (X1 - Z1)))) (zcG d P Q) := by
 obtain ⟨l, hl, a1, a2⟩ := zoU (ee hc) h1
 obtain ⟨m, hm, b1, b2⟩ := zoU (ee hc) h2
 have k := zBI hc.free hP hQ
 have dn := zvU hP hQ
 have he := ee hc
 clear h1 h2
 unfold Rep
 have w : e = 1 ∨ e = -1 := ziF he
 generalize (zcG d P Q).y = S at *
 generalize (zcG d P (zob Q)).y = D at *
 clear hP hQ hc
 generalize P.y = y1 at *
 generalize Q.y = y2 at *
 have n0 : 16 * (l * l) * (m * m) ≠ 0 := zn9 (zn9 zkB (zn9 hl hl)) (zn9 hm hm)
 have v0 : 1 - D ≠ 0 := fun z => zh5 (by
  have z2 : e * (1 + D) = 0 := by rw [← hu, z]; clear dn k hu; grind
  have z3 : 1 + D = e * (e * (1 + D)) := by rw [show e * (e * (1 + D)) = e * e * (1 + D) by clear dn k hu z z2 he; grind, he]; clear dn k hu z z2 he; grind
  rw [z2] at z3
  clear dn k hu z2 he
  grind)
 have g : ((X2 - Z2) * (X1 + Z1) + (X2 + Z2) * (X1 - Z1)) * ((X2 - Z2) * (X1 + Z1) + (X2 + Z2) * (X1 - Z1)) = 16 * (l * l) * (m * m) * ((y1 + y2) * (y1 + y2)) ∧ ((X2 - Z2) * (X1 + Z1) - (X2 + Z2) * (X1 - Z1)) * ((X2 - Z2) * (X1 + Z1) - (X2 + Z2) * (X1 - Z1)) = 16 * (l * l) * (m * m) * ((y1 - y2) * (y1 - y2)) := by
  clear dn k hu v0 n0 hu0 he
  subst a1 a2 b1 b2
  rcases w with w | w <;> subst w <;> constructor <;> grind
 rw [g.1, g.2]
 clear g a1 a2 b1 b2
 generalize 16 * (l * l) * (m * m) = n at *
 refine ⟨zdx v0 ?_, fun ⟨z1, z2⟩ => ?_⟩
 ·rw [show (1 - D) * (n * ((y1 + y2) * (y1 + y2)) * (1 - S)) = n * ((y1 + y2) * (y1 + y2) * ((1 - S) * (1 - D))) by clear dn k hu v0 n0 hu0 he; grind, k, show (1 - D) * (e * (u * (n * ((y1 - y2) * (y1 - y2)))) * (1 + S)) = e * (u * (1 - D)) * (n * ((y1 - y2) * (y1 - y2)) * (1 + S)) by clear dn k hu v0 n0 hu0 he; grind, hu, show e * (e * (1 + D)) * (n * ((y1 - y2) * (y1 - y2)) * (1 + S)) = e * e * ((1 + D) * (n * ((y1 - y2) * (y1 - y2)) * (1 + S))) by clear dn k hu v0 n0 hu0 he; grind, he]
  clear dn k hu v0 n0 hu0 he
  grind
 ·have s1 : y1 + y2 = 0 := by
   have := (zdV z1).resolve_left n0
   rcases zdV this with h | h <;> exact h
  have s2 : y1 - y2 = 0 := by
   have := (zdV ((zdV z2).resolve_left hu0)).resolve_left n0
   rcases zdV this with h | h <;> exact h
  have s3 : y1 = 0 := by
   have : 2 * y1 = 0 := by clear dn k hu z1 z2 he w; grind
   exact (zdV this).resolve_left zh5
  have s4 : y2 = 0 := by
   have : 2 * y2 = 0 := by clear dn k hu z1 z2 he w; grind
   exact (zdV this).resolve_left zh5
  rcases ziF (dn s3 s4) with h | h
  ·exact v0 (by rw [h]; decide +kernel)
  ·rw [h] at hu
   have : u * 2 = 0 := by
    have e1 : u * 2 = u * (1 - -1) := by clear hu k dn he; grind
    rw [e1, hu]
    clear hu k dn he
    grind
   exact (zdV this).elim hu0 zh5
def zrf (e : K) (q : Pt) (P : Ed) : Prop := Rep e (toK q.x) (toK q.z) P
theorem zqi {d e : K} {q : Pt} {P : Ed} (hc : Cv d e) (hP : On d P) (hq : zhZ q) (h : zrf e q P) : zrf e (zeC q) (zcG d P P) := by
 unfold zrf at *
 have := zyX hc hP h
 unfold zeC zoI
 dsimp only
 simp only [zp8, ztJ, zh3 _ _ hq.2, zh3 _ _ (zeQ _ _)]
 exact this
theorem zvV {d e : K} {q s : Pt} {u : Nat} {P Q : Ed} (hc : Cv d e) (hP : On d P) (hQ : On d Q) (hq : zhZ q) (hs : zhZ s) (h1 : zrf e q P) (h2 : zrf e s Q)
  (hu : toK u * (1 - (zcG d P (zob Q)).y) = e * (1 + (zcG d P (zob Q)).y)) (hu0 : toK u ≠ 0) : zrf e (zee u q s) (zcG d P Q) := by
 unfold zrf at *
 have := zyY hc hP hQ h1 h2 hu hu0
 unfold zee zed zd0
 dsimp only
 simp only [zp8, ztJ, zh3 _ _ hq.2, zh3 _ _ hs.2, zh3 _ _ (zeQ _ _)]
 exact this
theorem ztP {e : K} {q s : Pt} {u : Nat} {P : Ed} (hq : zhZ q) (hs : zhZ s) (h : zrf e (zee u q s) P) : zrf e (zee u s q) P := by
 unfold zrf zee zed zd0 at *
 dsimp only at *
 simp only [zp8, ztJ, zh3 _ _ hq.2, zh3 _ _ hs.2, zh3 _ _ (zeQ _ _)] at *
 generalize toK q.x = a at *
 generalize toK q.z = b at *
 generalize toK s.x = c at *
 generalize toK s.z = f at *
 rw [show ((a - b) * (c + f) + (a + b) * (c - f)) * ((a - b) * (c + f) + (a + b) * (c - f)) = ((c - f) * (a + b) + (c + f) * (a - b)) * ((c - f) * (a + b) + (c + f) * (a - b)) by clear h; grind, show ((a - b) * (c + f) - (a + b) * (c - f)) * ((a - b) * (c + f) - (a + b) * (c - f)) = ((c - f) * (a + b) - (c + f) * (a - b)) * ((c - f) * (a + b) - (c + f) * (a - b)) by clear h; grind]
 exact h
def zgQ (k : Nat → Nat) : Nat → Nat
 | 0 => 0
 | n + 1 => 2 * zgQ k n + zeK k n
theorem zoV {d e : K} {P : Ed} {u : Nat} (hc : Cv d e) (hP : On d P) (hu : u < pN) (hu0 : toK u ≠ 0) (hq : toK u * (1 - P.y) = e * (1 + P.y)) (k : Nat → Nat) :
  ∀ n, zrf e (zbf u k n).1 (zd4 d P (zgQ k n)) ∧ zrf e (zbf u k n).2 (zd4 d P (zgQ k n + 1))
 | 0 => by
  refine ⟨⟨?_, ?_⟩, ⟨?_, ?_⟩⟩
  ·show toK 1 * (1 - 1) = e * toK 0 * (1 + 1)
   rw [zhh, show (1 : K) - 1 = 0 by decide +kernel, Fin.mul_zero, Fin.mul_zero, Fin.zero_mul]
  ·rintro ⟨h, _⟩
   exact zh4 (zjI.symm.trans h)
  ·rw [show zd4 d P (zgQ k 0 + 1) = zcG d zgP P from rfl, zjJ]
   show toK u * (1 - P.y) = e * toK 1 * (1 + P.y)
   rw [hq, zjI]
   clear hq
   generalize P.y = y
   grind
  ·rintro ⟨_, h⟩
   exact zh4 (zjI.symm.trans h)
 | n + 1 => by
  have ih := zoV hc hP hu hu0 hq k n
  have ok := zkx u hu k n
  have o1 := zf1 hc.free hP (zgQ k n)
  have o2 := zf1 hc.free hP (zgQ k n + 1)
  have hD := zvR hc.free hc.nz hP (zgQ k n)
  have hs : zrf e (zee u (zbf u k n).2 (zbf u k n).1) (zd4 d P (2 * zgQ k n + 1)) := by
   have := zvV (u := u) hc o2 o1 ok.2 ok.1 ih.2 ih.1 (by rw [hD]; exact hq) hu0
   rwa [← zgh hc.free hc.nz hP, show zgQ k n + 1 + zgQ k n = 2 * zgQ k n + 1 by omega] at this
  rw [show zbf u k (n + 1) = zhc u (zeK k n) (zbf u k n).1 (zbf u k n).2 from rfl, show zgQ k (n + 1) = 2 * zgQ k n + zeK k n from rfl]
  unfold zhc
  rcases zgG k n with hb | hb
  ·rw [hb, if_neg (by omega), Nat.add_zero]
   refine ⟨?_, ztP ok.2 ok.1 hs⟩
   have := zqi hc o1 ok.1 ih.1
   rwa [← zgh hc.free hc.nz hP, show zgQ k n + zgQ k n = 2 * zgQ k n by omega] at this
  ·rw [hb, if_pos rfl]
   refine ⟨hs, ?_⟩
   have := zqi hc o2 ok.2 ih.2
   rwa [← zgh hc.free hc.nz hP, show zgQ k n + 1 + (zgQ k n + 1) = 2 * zgQ k n + 1 + 1 by omega] at this
def zuI (e Y : K) : K := if Y = 1 then 0 else e * (1 + Y) * iv (1 - Y)
theorem zqj {Y : K} (h : Y ≠ 1) : 1 - Y ≠ 0 := fun e => h (by grind)
theorem zyZ {d e X Z : K} {P : Ed} (hc : Cv d e) (h : Rep e X Z P) : X * iv Z = zuI e P.y := by
 obtain ⟨h1, h2⟩ := h
 have he := ee hc
 unfold zuI
 generalize P.y = Y at *
 by_cases hY : Y = 1
 ·rw [if_pos hY]
  have hZ : Z = 0 := by
   have : e * (Z * 2) = 0 := by
    have e1 : e * (Z * 2) = e * Z * (1 + 1) := by clear h1 he; grind
    rw [e1]
    rw [hY] at h1
    rw [← h1]
    clear h1 he
    grind
   have e0 : e ≠ 0 := fun z => by rw [z] at he; exact zh4 (by rw [← he]; decide +kernel)
   exact (zdV ((zdV this).resolve_left e0)).resolve_right zh5
  rw [hZ, zyT]
  clear h1 he
  grind
 ·rw [if_neg hY]
  have hv := zbZ (zqj hY)
  have hZ : Z ≠ 0 := fun z => h2 ⟨by
   rw [z] at h1
   have : X * (1 - Y) = 0 := by rw [h1]; clear h1 he hv; grind
   exact (zdV this).resolve_right (zqj hY), z⟩
  have hz := zbZ hZ
  generalize iv Z = z' at *
  generalize iv (1 - Y) = w at *
  have e1 : X * z' = X * (1 - Y) * w * z' := by rw [show X * (1 - Y) * w * z' = X * z' * ((1 - Y) * w) by clear h1 he hv hz; grind, hv]; clear h1 he hv hz; grind
  rw [e1, h1, show e * Z * (1 + Y) * w * z' = e * (1 + Y) * w * (Z * z') by clear h1 he hv hz e1; grind, hz]
  clear h1 he hv hz e1
  grind
def zoW (k : Nat → Nat) : Nat := zgQ (zag k) 255
theorem zqk {d e : K} {P : Ed} {u : Nat} (hc : Cv d e) (hP : On d P) (hu : u < pN) (hu0 : toK u ≠ 0) (hq : toK u * (1 - P.y) = e * (1 + P.y)) (k : Nat → Nat) :
  toK (zdA k u) = zuI e (zd4 d P (zoW k)).y := by
 have h := (zoV hc hP hu hu0 hq (zag k) 255).1
 have ok := (zkx u hu (zag k) 255).1
 show toK (zdA k u) = zuI e (zd4 d P (zgQ (zag k) 255)).y
 rw [← zyZ hc h]
 unfold zdA
 rw [zp8]
 unfold iv
 rw [zgI, Nat.mod_eq_of_lt ok.2]
theorem zy0 {d x y : K} (hf : zoa d) (h : x * x + y * y = 1 + d * (x * x) * (y * y)) (hy : y * y = 1) : x = 0 := by
 have h1 : (x * x) * (1 - d) = 0 := by
  rw [hy] at h
  clear hy
  grind
 have h2 : 1 - d ≠ 0 := fun z => hf 1 (by clear h hy h1; grind)
 have := (zdV h1).resolve_right h2
 rcases zdV this with h | h <;> exact h
theorem ztQ {d e : K} {P : Ed} (hc : Cv d e) (hP : On d P) (h : zuI e P.y = 0) : P = zgP ∨ P = zim := by
 have he := ee hc
 obtain ⟨x, y⟩ := P
 unfold On at hP
 unfold zuI at h
 dsimp only at h hP
 by_cases hY : y = 1
 ·subst hY
  have := zy0 hc.free hP (by decide +kernel)
  subst this
  exact .inl rfl
 ·rw [if_neg hY] at h
  have e0 : e ≠ 0 := fun z => by rw [z] at he; exact zh4 (by rw [← he]; decide +kernel)
  have h1 := (zdV ((zdV h).resolve_right (zBD (zqj hY)))).resolve_left e0
  have h2 : y = -1 := by clear h hP he; grind
  subst h2
  have := zy0 hc.free hP (by decide +kernel)
  subst this
  exact .inr rfl
theorem zAE {e : K} {P : Ed} (h : P = zgP ∨ P = zim) : zuI e P.y = 0 := by
 rcases h with h | h <;> subst h
 ·exact if_pos rfl
 ·have : zim.y ≠ 1 := zqb
  unfold zuI
  rw [if_neg this]
  show e * (1 + -1) * _ = 0
  generalize iv _ = w
  have : (1 + -1 : K) = 0 := by decide +kernel
  rw [this]
  grind
theorem zvW {d e : K} {P : Ed} {u : Nat} (hc : Cv d e) (hP : On d P) (hu : u < pN) (hu0 : toK u ≠ 0) (hq : toK u * (1 - P.y) = e * (1 + P.y)) (a b : Nat → Nat) :
  toK (zdA a (zdA b u)) = zuI e (zd4 d P (zoW b * zoW a)).y := by
 have h := zqk hc hP hu hu0 hq b
 have hlt : zdA b u < pN := zeQ _ _
 have oB := zf1 hc.free hP (zoW b)
 rw [← ziG hc.free hc.nz hP]
 by_cases h0 : toK (zdA b u) = 0
 ·have hz : zdA b u = 0 := by
   have := congrArg Fin.val h0
   rw [zgI, Nat.mod_eq_of_lt hlt] at this
   exact this
  rw [hz, ztu, zhh]
  have hn := ztQ hc oB (h.symm.trans h0)
  refine (zAE ?_).symm
  rcases hn with hn | hn <;> rw [hn]
  ·exact .inl (zoT _)
  ·exact zqg _
 ·refine zqk hc oB hlt h0 ?_ a
  rw [h] at h0 ⊢
  generalize (zd4 d P (zoW b)).y = Y at *
  unfold zuI at *
  by_cases hY : Y = 1
  ·rw [if_pos hY] at h0
   exact absurd rfl h0
  ·rw [if_neg hY] at h0 ⊢
   have hv := zbZ (zqj hY)
   generalize iv (1 - Y) = w at *
   rw [show e * (1 + Y) * w * (1 - Y) = e * (1 + Y) * ((1 - Y) * w) by clear h hv h0 hq; grind, hv]
   clear h hv h0 hq
   grind
theorem zvX {d : K} (h : d * (cA + 2) = cA - 2) : zoa d := fun s hs => zyW (s * (cA + 2)) (by
 rw [show s * (cA + 2) * (s * (cA + 2)) = s * s * (cA + 2) * (cA + 2) by clear h; grind, hs, h])
theorem zvY {d : K} (h : d * (cA - 2) = cA + 2) : zoa d := fun s hs => zyW (s * (cA - 2)) (by
 rw [show s * (cA - 2) * (s * (cA - 2)) = s * s * (cA - 2) * (cA - 2) by clear h; grind, hs, h]
 clear h
 generalize cA = c
 grind)
def zzN : K := (cA - 2) * iv (cA + 2)
def zzO : K := (cA + 2) * iv (cA - 2)
theorem zmt : zzN * (cA + 2) = cA - 2 := by
 unfold zzN
 have h := zbZ zmr
 rw [show (cA - 2) * iv (cA + 2) * (cA + 2) = (cA - 2) * ((cA + 2) * iv (cA + 2)) by clear h; grind, h]
 clear h
 grind
theorem zmu : zzO * (cA - 2) = cA + 2 := by
 unfold zzO
 have h := zbZ zms
 rw [show (cA + 2) * iv (cA - 2) * (cA - 2) = (cA + 2) * ((cA - 2) * iv (cA - 2)) by clear h; grind, h]
 clear h
 grind
theorem ztR : (4 : K) ≠ 0 := fun h => absurd (congrArg Fin.val h) (by decide +kernel)
theorem zAF : Cv zzN 1 where
 free := zvX zmt
 nz := fun h => zms (by rw [← zmt, h, Fin.zero_mul])
 way := .inl ⟨rfl, by
  have h := zmt
  rw [zAC] at h
  generalize zzN = d at *
  generalize cB = c at *
  refine zdx ztR ?_
  grind⟩
theorem zAG : Cv zzO (-1) where
 free := zvY zmu
 nz := fun h => zmr (by rw [← zmu, h, Fin.zero_mul])
 way := .inr ⟨rfl, by
  have h := zmu
  rw [zAC] at h
  generalize zzO = d at *
  generalize cB = c at *
  refine zdx ztR ?_
  grind⟩
theorem zy1 (u : K) : u * u + cA * u + 1 ≠ 0 := fun h => zyW (2 * u + cA) (by
 generalize cA = c at *
 grind)
theorem zvZ {u : K} (h0 : u ≠ 0) : ∃ d e : K, ∃ P : Ed, Cv d e ∧ On d P ∧ u * (1 - P.y) = e * (1 + P.y) := by
 have hq := zy1 u
 have hQ := zbZ hq
 have w0 : u * (u * u + cA * u + 1) ≠ 0 := zn9 h0 hq
 rcases zqa w0 with hw | hw
 ·obtain ⟨r, hr⟩ := ztM hw
  have hu : u + 1 ≠ 0 := fun z => by
   have hz : u = -1 := by clear hw hQ hr; grind
   have e1 : u * (u * u + cA * u + 1) = cA - 2 := by rw [hz]; clear hw hQ hr hz z; generalize cA = c; grind
   rw [e1, zmq] at hw
   exact zqb hw
  have hU := zbZ hu
  have hs := zAz
  have hd := zmt
  refine ⟨zzN, 1, ⟨cS * r * iv (u * u + cA * u + 1), (u - 1) * iv (u + 1)⟩, zAF, ?_, ?_⟩
  ·unfold On
   dsimp only
   generalize iv (u + 1) = V at *
   generalize cS = s at *
   generalize zzN = d at *
   have hx : s * r * iv (u * u + cA * u + 1) * (s * r * iv (u * u + cA * u + 1)) = (cA + 2) * u * iv (u * u + cA * u + 1) := by
    generalize iv (u * u + cA * u + 1) = W at *
    rw [show s * r * W * (s * r * W) = s * s * (r * r) * W * W by clear hw hQ hU hs hr hd; grind, hs, hr, show (cA + 2) * (u * (u * u + cA * u + 1)) * W * W = (cA + 2) * u * W * ((u * u + cA * u + 1) * W) by clear hw hQ hU hs hr hd; generalize cA = c; grind, hQ]
    clear hw hQ hU hs hr hd
    grind
   rw [hx]
   have hW : u * u + cA * u + 1 ≠ 0 := hq
   generalize iv (u * u + cA * u + 1) = W at *
   clear hw hr hs hx w0
   generalize cA = c at *
   refine zdx hW (zdx (zn9 hu hu) ?_)
   have m1 : (u + 1) * ((u - 1) * V) = u - 1 := by rw [show (u + 1) * ((u - 1) * V) = (u - 1) * ((u + 1) * V) by clear hQ hU hd; grind, hU]; clear hQ hU hd; grind
   generalize (u - 1) * V = y at *
   clear hU
   have m2 : (u + 1) * (u + 1) * (y * y) = (u - 1) * (u - 1) := by rw [← m1]; clear hQ hd; grind
   rw [show (u + 1) * (u + 1) * ((u * u + c * u + 1) * ((c + 2) * u * W + y * y)) = (u + 1) * (u + 1) * ((c + 2) * u * ((u * u + c * u + 1) * W)) + (u * u + c * u + 1) * ((u + 1) * (u + 1) * (y * y)) by clear hQ hd m1 m2; grind, show (u + 1) * (u + 1) * ((u * u + c * u + 1) * (1 + d * ((c + 2) * u * W) * (y * y))) = (u + 1) * (u + 1) * (u * u + c * u + 1) + d * (c + 2) * (u * ((u * u + c * u + 1) * W)) * ((u + 1) * (u + 1) * (y * y)) by clear hQ hd m1 m2; grind, hQ, m2, hd]
   clear hQ hd m1 m2
   grind
  ·dsimp only
   generalize iv (u + 1) = V at *
   clear hw hQ hr hs hd
   have e1 : 1 - (u - 1) * V = 2 * V := by
    refine zdx hu ?_
    grind
   have e2 : 1 + (u - 1) * V = 2 * u * V := by
    refine zdx hu ?_
    grind
   rw [e1, e2]
   clear e1 e2 hU
   grind
 ·have h1 : hf ((cA - 2) * (u * (u * u + cA * u + 1))) = 1 := by rw [ztL, zmq, hw]; decide +kernel
  obtain ⟨r, hr⟩ := ztM h1
  have hu : u - 1 ≠ 0 := fun z => by
   have hz : u = 1 := by clear hw hQ hr h1; grind
   have e1 : u * (u * u + cA * u + 1) = cA + 2 := by rw [hz]; clear hw hQ hr hz z h1; generalize cA = c; grind
   rw [e1, ztN] at hw
   exact zqb hw.symm
  have hU := zbZ hu
  have hd := zmu
  refine ⟨zzO, -1, ⟨r * iv (u * u + cA * u + 1), (u + 1) * iv (u - 1)⟩, zAG, ?_, ?_⟩
  ·unfold On
   dsimp only
   generalize iv (u - 1) = V at *
   generalize zzO = d at *
   have hx : r * iv (u * u + cA * u + 1) * (r * iv (u * u + cA * u + 1)) = (cA - 2) * u * iv (u * u + cA * u + 1) := by
    generalize iv (u * u + cA * u + 1) = W at *
    rw [show r * W * (r * W) = (r * r) * W * W by clear hw hQ hU hr hd h1; grind, hr, show (cA - 2) * (u * (u * u + cA * u + 1)) * W * W = (cA - 2) * u * W * ((u * u + cA * u + 1) * W) by clear hw hQ hU hr hd h1; generalize cA = c; grind, hQ]
    clear hw hQ hU hr hd h1
    grind
   rw [hx]
   have hW : u * u + cA * u + 1 ≠ 0 := hq
   generalize iv (u * u + cA * u + 1) = W at *
   clear hw hr hx w0 h1
   generalize cA = c at *
   refine zdx hW (zdx (zn9 hu hu) ?_)
   have m1 : (u - 1) * ((u + 1) * V) = u + 1 := by rw [show (u - 1) * ((u + 1) * V) = (u + 1) * ((u - 1) * V) by clear hQ hU hd; grind, hU]; clear hQ hU hd; grind
   generalize (u + 1) * V = y at *
   clear hU
   have m2 : (u - 1) * (u - 1) * (y * y) = (u + 1) * (u + 1) := by rw [← m1]; clear hQ hd; grind
   rw [show (u - 1) * (u - 1) * ((u * u + c * u + 1) * ((c - 2) * u * W + y * y)) = (u - 1) * (u - 1) * ((c - 2) * u * ((u * u + c * u + 1) * W)) + (u * u + c * u + 1) * ((u - 1) * (u - 1) * (y * y)) by clear hQ hd m1 m2; grind, show (u - 1) * (u - 1) * ((u * u + c * u + 1) * (1 + d * ((c - 2) * u * W) * (y * y))) = (u - 1) * (u - 1) * (u * u + c * u + 1) + d * (c - 2) * (u * ((u * u + c * u + 1) * W)) * ((u - 1) * (u - 1) * (y * y)) by clear hQ hd m1 m2; grind, hQ, m2, hd]
   clear hQ hd m1 m2
   grind
  ·dsimp only
   generalize iv (u - 1) = V at *
   clear hw hQ hr hd h1
   have e1 : 1 - (u + 1) * V = -2 * V := by
    refine zdx hu ?_
    grind
   have e2 : 1 + (u + 1) * V = 2 * u * V := by
    refine zdx hu ?_
    grind
   rw [e1, e2]
   clear e1 e2 hU
   grind
end
section
theorem oq2 : IsP 2 := zb0 (by decide +kernel)
theorem oq3 : IsP 3 := zb0 (by decide +kernel)
theorem oq5 : IsP 5 := zb0 (by decide +kernel)
theorem oq7 : IsP 7 := zb0 (by decide +kernel)
theorem zAH : IsP 11 := zb0 (by decide +kernel)
theorem zBJ : IsP 13 := zb0 (by decide +kernel)
theorem zBK : IsP 17 := zb0 (by decide +kernel)
theorem zCO : IsP 19 := zb0 (by decide +kernel)
theorem zCq : IsP 23 := zb0 (by decide +kernel)
theorem zCr : IsP 41 := zb0 (by decide +kernel)
theorem zCs : IsP 43 := zb0 (by decide +kernel)
theorem zCP : IsP 47 := zb0 (by decide +kernel)
theorem zCQ : IsP 67 := zb0 (by decide +kernel)
theorem zCt : IsP 73 := zb0 (by decide +kernel)
theorem zCR : IsP 79 := zb0 (by decide +kernel)
theorem zBL : IsP 113 := zb0 (by decide +kernel)
theorem zBM : IsP 269 := zb0 (by decide +kernel)
theorem zBN : IsP 307 := zb0 (by decide +kernel)
theorem zAI : IsL 1361 := zbL 1361 3 [2, 2, 2, 2, 5, 17] (by decide +kernel) (all_cons oq2 (all_cons oq2 (all_cons oq2 (all_cons oq2 (all_cons oq5 (all_cons zBK zaU))))))
theorem zAJ : IsL 1723 := zbL 1723 3 [2, 3, 7, 41] (by decide +kernel) (all_cons oq2 (all_cons oq3 (all_cons oq7 (all_cons zCr zaU))))
theorem zAK : IsL 2551 := zbL 2551 6 [2, 3, 5, 5, 17] (by decide +kernel) (all_cons oq2 (all_cons oq3 (all_cons oq5 (all_cons oq5 (all_cons zBK zaU)))))
theorem zAL : IsL 2851 := zbL 2851 2 [2, 3, 5, 5, 19] (by decide +kernel) (all_cons oq2 (all_cons oq3 (all_cons oq5 (all_cons oq5 (all_cons zCO zaU)))))
theorem zAM : IsL 2939 := zbL 2939 2 [2, 13, 113] (by decide +kernel) (all_cons oq2 (all_cons zBJ (all_cons zBL zaU)))
theorem zAN : IsL 3797 := zbL 3797 2 [2, 2, 13, 73] (by decide +kernel) (all_cons oq2 (all_cons oq2 (all_cons zBJ (all_cons zCt zaU))))
theorem zAO : IsL 5879 := zbL 5879 11 [2, 2939] (by decide +kernel) (all_cons oq2 (all_cons zAM.1 zaU))
theorem zy2 : IsL 17231 := zbL 17231 13 [2, 5, 1723] (by decide +kernel) (all_cons oq2 (all_cons oq5 (all_cons zAJ.1 zaU)))
theorem zy3 : IsL 22111 := zbL 22111 6 [2, 3, 5, 11, 67] (by decide +kernel) (all_cons oq2 (all_cons oq3 (all_cons oq5 (all_cons zAH (all_cons zCQ zaU)))))
theorem zy4 : IsL 30703 := zbL 30703 3 [2, 3, 7, 17, 43] (by decide +kernel) (all_cons oq2 (all_cons oq3 (all_cons oq7 (all_cons zBK (all_cons zCs zaU)))))
theorem zy5 : IsL 34123 := zbL 34123 2 [2, 3, 11, 11, 47] (by decide +kernel) (all_cons oq2 (all_cons oq3 (all_cons zAH (all_cons zAH (all_cons zCP zaU)))))
theorem zy6 : IsL 41081 := zbL 41081 3 [2, 2, 2, 5, 13, 79] (by decide +kernel) (all_cons oq2 (all_cons oq2 (all_cons oq2 (all_cons oq5 (all_cons zBJ (all_cons zCR zaU))))))
theorem zy7 : IsL 82163 := zbL 82163 2 [2, 41081] (by decide +kernel) (all_cons oq2 (all_cons zy6.1 zaU))
theorem zv0 : IsL 132667 := zbL 132667 5 [2, 3, 22111] (by decide +kernel) (all_cons oq2 (all_cons oq3 (all_cons zy3.1 zaU)))
theorem zv1 : IsL 137849 := zbL 137849 3 [2, 2, 2, 17231] (by decide +kernel) (all_cons oq2 (all_cons oq2 (all_cons oq2 (all_cons zy2.1 zaU))))
theorem zv2 : IsL 409477 := zbL 409477 2 [2, 2, 3, 34123] (by decide +kernel) (all_cons oq2 (all_cons oq2 (all_cons oq3 (all_cons zy5.1 zaU))))
theorem zv3 : IsL 531581 := zbL 531581 2 [2, 2, 5, 7, 3797] (by decide +kernel) (all_cons oq2 (all_cons oq2 (all_cons oq5 (all_cons oq7 (all_cons zAN.1 zaU)))))
theorem ztS : IsL 1224481 := zbL 1224481 13 [2, 2, 2, 2, 2, 3, 5, 2551] (by decide +kernel) (all_cons oq2 (all_cons oq2 (all_cons oq2 (all_cons oq2 (all_cons oq2 (all_cons oq3 (all_cons oq5 (all_cons zAK.1 zaU))))))))
theorem zrg : IsL 14741173 := zbL 14741173 2 [2, 2, 3, 3, 409477] (by decide +kernel) (all_cons oq2 (all_cons oq2 (all_cons oq3 (all_cons oq3 (all_cons zv2.1 zaU)))))
theorem zrh : IsL 58964693 := zbL 58964693 2 [2, 2, 14741173] (by decide +kernel) (all_cons oq2 (all_cons oq2 (all_cons zrg.1 zaU)))
theorem zoX : IsL 292386187 := zbL 292386187 2 [2, 3, 3, 3, 3, 307, 5879] (by decide +kernel) (all_cons oq2 (all_cons oq3 (all_cons oq3 (all_cons oq3 (all_cons oq3 (all_cons zBN (all_cons zAO.1 zaU)))))))
theorem zj8 : IsL 213441916511 := zbL 213441916511 13 [2, 5, 73, 292386187] (by decide +kernel) (all_cons oq2 (all_cons oq5 (all_cons zCt (all_cons zoX.1 zaU))))
theorem zhi : IsL 1257559732178653 := zbL 1257559732178653 2 [2, 2, 3, 7, 23, 531581, 1224481] (by decide +kernel) (all_cons oq2 (all_cons oq2 (all_cons oq3 (all_cons oq7 (all_cons zCq (all_cons zv3.1 (all_cons ztS.1 zaU)))))))
theorem zf2 : IsL 4434155615661930479 := zbL 4434155615661930479 17 [2, 41, 43, 1257559732178653] (by decide +kernel) (all_cons oq2 (all_cons zCr (all_cons zCs (all_cons zhi.1 zaU))))
theorem ze5 : IsL 3044861653679985063343 := zbL 3044861653679985063343 5 [2, 3, 11, 30703, 82163, 132667, 137849] (by decide +kernel) (all_cons oq2 (all_cons oq3 (all_cons zAH (all_cons zy4.1 (all_cons zy7.1 (all_cons zv0.1 (all_cons zv1.1 zaU)))))))
theorem zd1 : IsL 172054593956031949258510691 := zbL 172054593956031949258510691 2 [2, 5, 1361, 2851, 4434155615661930479] (by decide +kernel) (all_cons oq2 (all_cons oq5 (all_cons zAI.1 (all_cons zAL.1 (all_cons zf2.1 zaU)))))
theorem zda : IsL 198211423230930754013084525763697 := zbL 198211423230930754013084525763697 5 [2, 2, 2, 2, 3, 23, 58964693, 3044861653679985063343] (by decide +kernel) (all_cons oq2 (all_cons oq2 (all_cons oq2 (all_cons oq2 (all_cons oq3 (all_cons zCq (all_cons zrh.1 (all_cons ze5.1 zaU))))))))
theorem zcj : IsL 19757330305831588566944191468367130476339 := zbL 19757330305831588566944191468367130476339 2 [2, 269, 213441916511, 172054593956031949258510691] (by decide +kernel) (all_cons oq2 (all_cons zBM (all_cons zj8.1 (all_cons zd1.1 zaU))))
theorem zca : IsL 276602624281642239937218680557139826668747 := zbL 276602624281642239937218680557139826668747 2 [2, 7, 19757330305831588566944191468367130476339] (by decide +kernel) (all_cons oq2 (all_cons oq7 (all_cons zcj.1 zaU)))
theorem zaC : IsL 7237005577332262213973186563042994240857116359379907606001950938285454250989 := zbL 7237005577332262213973186563042994240857116359379907606001950938285454250989 2 [2, 2, 3, 11, 198211423230930754013084525763697, 276602624281642239937218680557139826668747] (by decide +kernel) (all_cons oq2 (all_cons oq2 (all_cons oq3 (all_cons zAH (all_cons zda.1 (all_cons zca.1 zaU))))))
def znN : Nat := 7237005577332262213973186563042994240857116359379907606001950938285454250989
def zAP (i : Nat) : Nat := znN / 256 ^ i % 256
theorem zv4 : zgQ zAP 255 = znN := by decide +kernel
theorem zBO : (zbf 9 zAP 255).1.z = 0 := by decide +kernel
section
variable {d e : K} {P : Ed}
theorem zv5 (hc : Cv d e) (hP : On d P) (hy : P.y = 1) : P = zgP := by
 obtain ⟨x, y⟩ := P
 dsimp only at hy
 subst hy
 have := zy0 hc.free hP (show (1 : K) * 1 = 1 by decide +kernel)
 subst this
 rfl
theorem zmv : 9 < pN := by unfold pN; decide +kernel
theorem zoY : toK 9 ≠ 0 := fun h => by
 have h1 := congrArg Fin.val h
 rw [zgI, Nat.mod_eq_of_lt zmv] at h1
 exact absurd h1 (by decide)
theorem zy8 (hc : Cv d e) (hP : On d P) (hq : toK 9 * (1 - P.y) = e * (1 + P.y)) : zd4 d P znN = zgP := by
 have h := (zoV hc hP zmv zoY hq zAP 255).1
 rw [zv4] at h
 obtain ⟨h1, h2⟩ := h
 rw [zBO, zhh] at h1 h2
 have hX : toK (zbf 9 zAP 255).1.x ≠ 0 := fun hx => h2 ⟨hx, rfl⟩
 have hon := zf1 hc.free hP znN
 refine zv5 hc hon ?_
 generalize (zd4 d P znN).y = Y at *
 generalize toK (zbf 9 zAP 255).1.x = Z at *
 have h3 : Z * (1 - Y) = 0 := by clear h2 hX hq; grind
 have h4 := (zdV h3).resolve_left hX
 clear h1 h2 h3 hX hq hon
 grind
theorem zCS (hc : Cv d e) (hq : toK 9 * (1 - P.y) = e * (1 + P.y)) : P ≠ zgP := fun h => by
 subst h
 have he := ee hc
 have e0 : e ≠ 0 := fun z => by rw [z] at he; exact zh4 (by rw [← he]; decide +kernel)
 have h1 : e * 2 = 0 := by
  have : zgP.y = 1 := rfl
  rw [this] at hq
  clear he e0
  grind
 exact zh5 ((zdV h1).resolve_left e0)
theorem mul_one (P : Ed) : zd4 d P 1 = P := zjJ P
theorem zy9 (hc : Cv d e) (hP : On d P) : ∀ m n : Nat, zd4 d P m = zgP → zd4 d P n = zgP → zd4 d P (Nat.gcd m n) = zgP := fun m => by
 induction m using Nat.strongRecOn with
 | ind m ih =>
  intro n hm hn
  by_cases h0 : m = 0
  ·subst h0; rw [Nat.gcd_zero_left]; exact hn
  ·rw [Nat.gcd_rec]
   refine ih (n % m) (Nat.mod_lt _ (Nat.pos_of_ne_zero h0)) m ?_ hm
   have h1 : zd4 d P (m * (n / m) + n % m) = zgP := by rw [Nat.div_add_mod]; exact hn
   rw [zgh hc.free hc.nz hP, ← ziG hc.free hc.nz hP, hm, zoT, zjJ] at h1
   exact h1
theorem zza (hc : Cv d e) (hP : On d P) (hq : toK 9 * (1 - P.y) = e * (1 + P.y)) {n : Nat} (h : zd4 d P n = zgP) : znN ∣ n := by
 have h1 := zy9 hc hP znN n (zy8 hc hP hq) h
 rcases zaC.1.2 (Nat.gcd znN n) (Nat.gcd_dvd_left ..) with h2 | h2
 ·rw [h2, mul_one] at h1
  exact absurd h1 (zCS hc hq)
 ·have h3 := Nat.gcd_dvd_right znN n
  rw [h2] at h3
  exact h3
end
theorem ztT (k : Nat → Nat) : ∀ n, zgQ k n < 2 ^ n
 | 0 => by show 0 < 1; decide
 | n + 1 => by
  have h1 := ztT k n
  have h2 := zgG k n
  rw [zgQ, Nat.pow_succ]
  omega
theorem zqm (k : Nat → Nat) (h : zgQ k 1 = 1) : ∀ n, 0 < zgQ k (n + 1)
 | 0 => by rw [h]; decide
 | n + 1 => by
  have h1 := zqm k h n
  rw [zgQ]
  omega
theorem ztU (k : Nat → Nat) : zgQ (zag k) 1 = 1 := by
 show 2 * 0 + zeK (zag k) 0 = 1
 unfold zeK
 rw [show (254 - 0) / 8 = 31 from rfl, show (254 - 0) % 8 = 6 from rfl]
 show _ + zag k 31 / 64 % 2 = 1
 have : zag k 31 = k 31 % 64 + 64 := by unfold zag; rw [if_neg (by decide), if_pos rfl]
 omega
theorem zri (k : Nat → Nat) : zoW k = 8 * zgQ (zag k) 252 := by
 have h0 : zag k 0 = k 0 / 8 * 8 := by unfold zag; rw [if_pos rfl]
 have b : ∀ j, j < 3 → zeK (zag k) (252 + j) = 0 := fun j hj => by
  unfold zeK
  rw [show (254 - (252 + j)) / 8 = 0 by omega, h0]
  rcases (by omega : j = 0 ∨ j = 1 ∨ j = 2) with h | h | h <;> subst h
  ·show k 0 / 8 * 8 / 4 % 2 = 0; omega
  ·show k 0 / 8 * 8 / 2 % 2 = 0; omega
  ·show k 0 / 8 * 8 / 1 % 2 = 0; omega
 have b0 := b 0 (by decide)
 have b1 := b 1 (by decide)
 have b2 := b 2 (by decide)
 show 2 * (2 * (2 * zgQ (zag k) 252 + zeK (zag k) 252) + zeK (zag k) 253) + zeK (zag k) 254 = _
 rw [show zeK (zag k) 252 = 0 from b0, show zeK (zag k) 253 = 0 from b1, show zeK (zag k) 254 = 0 from b2]
 omega
theorem zqn (k : Nat → Nat) : ¬ znN ∣ zoW k := fun h => by
 rw [zri] at h
 have h1 := ztT (zag k) 252
 have h2 := zqm (zag k) (ztU k) 251
 have h3 : (2 : Nat) ^ 252 < znN := by unfold znN; decide +kernel
 have h4 : (8 : Nat) < znN := by unfold znN; decide +kernel
 rcases znv zaC.1 h with h5 | h5
 ·have := Nat.le_of_dvd (by decide) h5
  exact absurd h4 (by unfold znN; omega)
 ·have := Nat.le_of_dvd h2 h5
  exact absurd (jT (Nat.lt_trans h1 h3) this) (Nat.lt_irrefl _)
theorem zzb : ¬ znN ∣ 2 := fun h => absurd (Nat.le_of_dvd (by decide) h) (by unfold znN; omega)
theorem znO (a b : Nat → Nat) : zdA a (zdA b 9) ≠ 0 := fun h0 => by
 obtain ⟨d, e, P, hc, hP, hq⟩ := zvZ zoY
 have h1 := zvW hc hP zmv zoY hq a b
 rw [h0, zhh] at h1
 have hon := zf1 hc.free hP (zoW b * zoW a)
 have h2 : zd4 d (zd4 d P (zoW b * zoW a)) 2 = zgP := by
  show zcG d (zd4 d (zd4 d P (zoW b * zoW a)) 1) (zd4 d P (zoW b * zoW a)) = zgP
  rw [mul_one]
  rcases ztQ hc hon h1.symm with h3 | h3 <;> rw [h3]
  ·exact zjJ _
  ·exact znM
 rw [ziG hc.free hc.nz hP] at h2
 have hp := zaC.1
 rcases znv hp (zza hc hP hq h2) with h4 | h4
 ·rcases znv hp h4 with h5 | h5
  ·exact zqn _ h5
  ·exact zqn _ h5
 ·exact zzb h4
end
section
open Go.RowKit
def b8 (x : Int) : BitVec 8 := BitVec.ofInt 8 x
theorem zAQ {x y : Int} (hx : 0 ≤ x ∧ x < 256) (hy : 0 ≤ y ∧ y < 256) (h : b8 x = b8 y) : x = y := by
 obtain ⟨m, rfl⟩ := Int.eq_ofNat_of_zero_le hx.1
 obtain ⟨n, rfl⟩ := Int.eq_ofNat_of_zero_le hy.1
 have h1 := congrArg BitVec.toNat h
 simp only [b8, BitVec.ofInt_natCast, BitVec.toNat_ofNat] at h1
 omega
theorem zj9 (a b : Int) : b8 (bits .xor .u8 a b) = b8 a ^^^ b8 b := zvd a b
def T8 (v : BitVec 8) : BitVec 8 := (v <<< 1) ^^^ (if v.msb then 27#8 else 0#8)
theorem zAR (u v : BitVec 8) : T8 (u ^^^ v) = T8 u ^^^ T8 v := by
 unfold T8
 rw [BitVec.shiftLeft_xor_distrib, BitVec.msb_xor]
 have h : (if (u.msb ^^ v.msb) then 27#8 else 0#8) = (if u.msb then 27#8 else 0#8) ^^^ (if v.msb then 27#8 else 0#8) := by
  cases u.msb <;> cases v.msb <;> decide
 rw [h]
 generalize (if u.msb then 27#8 else 0#8) = p
 generalize (if v.msb then 27#8 else 0#8) = q
 rw [BitVec.xor_assoc, BitVec.xor_assoc, ← BitVec.xor_assoc (v <<< 1) p q, BitVec.xor_comm (v <<< 1) p, BitVec.xor_assoc]
theorem zBP : (List.range 256).all (fun x => decide (b8 (zdT x) = T8 (b8 x))) = true := by kernel_rfl
theorem zmw {x : Int} (hx : 0 ≤ x ∧ x < 256) : b8 (zdT x) = T8 (b8 x) := by
 obtain ⟨m, rfl⟩ := Int.eq_ofNat_of_zero_le hx.1
 exact of_decide_eq_true (List.all_eq_true.1 zBP m (List.mem_range.2 (by omega)))
def C8 (y : Nat → BitVec 8) (i : Nat) : BitVec 8 := (y i ^^^ (((y 0 ^^^ y 1) ^^^ y 2) ^^^ y 3)) ^^^ T8 (y i ^^^ y ((i + 1) % 4))
theorem zAS (x : Nat → Int) (i : Nat) : b8 (znb x i) = C8 (fun i => b8 (x i)) i := by
 unfold znb C8
 rw [zj9, zj9, zj9, zj9, zj9, zmw (zfQ _ _ _), zj9]
end
section
open Go.RowKit
def ztV (x : Nat) : Nat := zdM x 4294967295
def zgJ (x b : Nat) : Nat := orW (ziT x b) (zjU x (32 - b))
def ztW (x y : Nat) : Nat := (x * y) % 4294967296
def zv6 (l : List Nat) : Nat := zdg (zdg (zdg (ztW (l.getD 0 0 % 4294967296) 16777216) (ztW (l.getD 1 0 % 4294967296) 65536)) (ztW (l.getD 2 0 % 4294967296) 256)) (l.getD 3 0 % 4294967296)
def s0R (x : Nat) : Nat := zdM (zdM (zgJ x 7) (zgJ x 18)) (ziT x 3)
def s1R (x : Nat) : Nat := zdM (zdM (zgJ x 17) (zgJ x 19)) (ziT x 10)
def S1R (x : Nat) : Nat := zdM (zdM (zgJ x 6) (zgJ x 11)) (zgJ x 25)
def S0R (x : Nat) : Nat := zdM (zdM (zgJ x 2) (zgJ x 13)) (zgJ x 22)
def znP (k : List Nat) (t : Nat) : Nat :=
 if t < 16 then zv6 (k.drop (4 * t)) else zdg (zdg (zdg (znP k (t - 16)) (s0R (znP k (t - 15)))) (znP k (t - 7))) (s1R (znP k (t - 2)))
termination_by t
def t1R (gt : Nat → Nat) (k : List Nat) (v : Nat → Nat) (t : Nat) : Nat := zdg (zdg (zdg (zdg (v 7) (S1R (v 4))) (zdM (zfE (v 4) (v 5)) (zfE (ztV (v 4)) (v 6)))) (gt t)) (znP k t)
def t2R (v : Nat → Nat) : Nat := zdg (S0R (v 0)) (zdM (zdM (zfE (v 0) (v 1)) (zfE (v 0) (v 2))) (zfE (v 1) (v 2)))
def vR (gt : Nat → Nat) (k : List Nat) (h : Nat → Nat) : Nat → Nat → Nat
 | 0 => h
 | t + 1 => zgn (vR gt k h t) (t1R gt k (vR gt k h t) t) (t2R (vR gt k h t))
def zjK (gt h : Nat → Nat) (k : List Nat) : Nat → Nat := zk0 h (vR gt k h 64) 8
def tb (x : Nat) : BitVec 32 := BitVec.ofNat 32 x
theorem ztX (x y : Nat) : zdM x y = (tb x ^^^ tb y).toNat := by simp [zdM, tb]
theorem zxb (x y : Nat) : zfE x y = (tb x &&& tb y).toNat := by simp [zfE, tb]
theorem zBQ (x y : Nat) : orW x y = (tb x ||| tb y).toNat := by simp [orW, tb]
theorem zmx (b : BitVec 32) : tb b.toNat = b := by simp [tb]
theorem zAT (x : Nat) : tb (ztV x) = ~~~ tb x := by
 rw [ztV, ztX, zmx]
 have : tb 4294967295 = BitVec.allOnes 32 := by decide
 rw [this, BitVec.xor_allOnes]
theorem zCT (e f g : BitVec 32) : g ^^^ (e &&& (f ^^^ g)) = (e &&& f) ^^^ (~~~e &&& g) := by
 apply BitVec.eq_of_getLsbD_eq
 intro i hi
 simp only [BitVec.getLsbD_xor, BitVec.getLsbD_and, BitVec.getLsbD_not, hi, decide_true, Bool.true_and]
 cases e.getLsbD i <;> cases f.getLsbD i <;> cases g.getLsbD i <;> rfl
theorem zCU (a b c : BitVec 32) : (a &&& b) ||| (c &&& (a ||| b)) = ((a &&& b) ^^^ (a &&& c)) ^^^ (b &&& c) := by
 apply BitVec.eq_of_getLsbD_eq
 intro i hi
 simp only [BitVec.getLsbD_xor, BitVec.getLsbD_and, BitVec.getLsbD_or]
 cases a.getLsbD i <;> cases b.getLsbD i <;> cases c.getLsbD i <;> rfl
theorem zBR (e f g : Nat) : zdM g (zfE e (zdM f g)) = zdM (zfE e f) (zfE (ztV e) g) := by
 simp only [ztX, zxb, zmx, zAT, zCT]
theorem zAU (a b c : Nat) : orW (zfE a b) (zfE c (orW a b)) = zdM (zdM (zfE a b) (zfE a c)) (zfE b c) := by
 simp only [ztX, zxb, zBQ, zmx, zCU]
theorem znQ (x a : Nat) (h1 : 1 ≤ a) (h2 : a ≤ 31) : zwO x (32 - a) = zgJ x a := by
 unfold zwO zgJ
 rw [show 32 - (32 - a) = a by omega]
 unfold orW
 exact Nat.or_comm _ _
theorem zqo (x a b s : Nat) (h1 : 1 ≤ a) (h2 : a ≤ 31) (h3 : 1 ≤ b) (h4 : b ≤ 31) : zfA x a b s = zdM (zdM (zgJ x a) (zgJ x b)) (ziT x s) := by
 rw [zfA, znQ _ _ h1 h2, znQ _ _ h3 h4]
theorem zqp (x a b c : Nat) (h1 : 1 ≤ a) (h2 : a ≤ 31) (h3 : 1 ≤ b) (h4 : b ≤ 31) (h5 : 1 ≤ c) (h6 : c ≤ 31) : zeD x a b c = zdM (zdM (zgJ x a) (zgJ x b)) (zgJ x c) := by
 rw [zeD, znQ _ _ h1 h2, znQ _ _ h3 h4, znQ _ _ h5 h6]
theorem zkC (a b c : Nat) : zdg a (zdg b c) = zdg (zdg a b) c := by unfold zdg; omega
theorem ztY (a b k : Nat) (hb : b < 2 ^ k) : (a * 2 ^ k) ||| b = a * 2 ^ k + b := by
 have := Nat.two_pow_add_eq_or_of_lt hb a
 rw [Nat.mul_comm] at this
 exact this.symm
theorem zzc (l : List Nat) (h : ∀ i, l.getD i 0 < 256) : zic l = zv6 l := by
 have h0 := h 0; have h1 := h 1; have h2 := h 2; have h3 := h 3
 unfold zic zv6
 generalize l.getD 0 0 = a at *
 generalize l.getD 1 0 = b at *
 generalize l.getD 2 0 = c at *
 generalize l.getD 3 0 = d at *
 have e1 : orW (zjU (a % 4294967296) 24) (zjU (b % 4294967296) 16) = (a * 256 + b) * 2 ^ 16 := by
  unfold orW zjU
  have q : (a * 2 ^ 8) ||| b = a * 2 ^ 8 + b := ztY a b 8 (by omega)
  have e : ((a * 2 ^ 24 ||| b * 2 ^ 16) : Nat) = (a * 2 ^ 8 ||| b) * 2 ^ 16 := by
   rw [← Nat.shiftLeft_eq, ← Nat.shiftLeft_eq, ← Nat.shiftLeft_eq, ← Nat.shiftLeft_eq, Nat.shiftLeft_or_distrib, ← Nat.shiftLeft_add]
  simp only [show min 24 32 = 24 from rfl, show min 16 32 = 16 from rfl]
  rw [Nat.mod_eq_of_lt (show a < 4294967296 by omega), Nat.mod_eq_of_lt (show b < 4294967296 by omega), Nat.mod_eq_of_lt (show a * 2 ^ 24 < 4294967296 by omega), Nat.mod_eq_of_lt (show b * 2 ^ 16 < 4294967296 by omega), Nat.mod_eq_of_lt (show a * 2 ^ 24 < 4294967296 by omega), Nat.mod_eq_of_lt (show b * 2 ^ 16 < 4294967296 by omega), e, q]
 have e2 : orW ((a * 256 + b) * 2 ^ 16) (zjU (c % 4294967296) 8) = ((a * 256 + b) * 256 + c) * 2 ^ 8 := by
  unfold orW zjU
  have q : ((a * 256 + b) * 2 ^ 8) ||| c = (a * 256 + b) * 2 ^ 8 + c := ztY _ c 8 (by omega)
  have e : (((a * 256 + b) * 2 ^ 16 ||| c * 2 ^ 8) : Nat) = ((a * 256 + b) * 2 ^ 8 ||| c) * 2 ^ 8 := by
   rw [← Nat.shiftLeft_eq, ← Nat.shiftLeft_eq, ← Nat.shiftLeft_eq, ← Nat.shiftLeft_eq, Nat.shiftLeft_or_distrib, ← Nat.shiftLeft_add]
  simp only [show min 8 32 = 8 from rfl]
  rw [Nat.mod_eq_of_lt (show c < 4294967296 by omega), Nat.mod_eq_of_lt (show c * 2 ^ 8 < 4294967296 by omega), Nat.mod_eq_of_lt (show c * 2 ^ 8 < 4294967296 by omega), Nat.mod_eq_of_lt (show (a * 256 + b) * 2 ^ 16 < 4294967296 by omega), e, q]
 have e3 : orW (((a * 256 + b) * 256 + c) * 2 ^ 8) (d % 4294967296) = ((a * 256 + b) * 256 + c) * 2 ^ 8 + d := by
  unfold orW
  rw [Nat.mod_mod, Nat.mod_eq_of_lt (show d < 4294967296 by omega), Nat.mod_eq_of_lt (show ((a * 256 + b) * 256 + c) * 2 ^ 8 < 4294967296 by omega)]
  exact ztY _ d 8 (by omega)
 rw [e1, e2, e3]
 unfold zdg ztW
 omega
theorem zCu (gt h : Nat → Nat) (k : List Nat) (hk : ∀ i, k.getD i 0 < 256) : ∀ t, t ≤ 64 → ∀ i, i < 16 → (zkh gt k h t).1 i = znP k (if t ≤ 16 then i else t - 1 - (t - 1 - i) % 16)
 | 0, _, i, hi => by
  rw [zkh, if_pos (by omega)]
  show zi3 k 16 i = _
  rw [zi3, if_pos hi, znP, if_pos hi]
  exact zzc _ fun j => by rw [jR, List.getElem?_drop, ← jR]; exact hk _
 | t + 1, ht, i, hi => by
  have ih := zCu gt h k hk t (by omega)
  rw [zkh]
  show zfi (zkh gt k h t).1 t i = _
  unfold zfi
  by_cases h16 : 16 ≤ t
  ·rw [if_pos h16, if_neg (by omega)]
   have pos : ∀ j, j < 16 → (if t ≤ 16 then j else t - 1 - (t - 1 - j) % 16) = t - 1 - (t - 1 - j) % 16 := fun j hj => by
    split
    ·omega
    ·rfl
   unfold upd
   by_cases hit : i = t % 16
   ·rw [if_pos hit]
    rw [ih _ (Nat.mod_lt _ (by decide)), ih _ (Nat.mod_lt _ (by decide)), ih _ (Nat.mod_lt _ (by decide)), ih _ (Nat.mod_lt _ (by decide)), pos _ (Nat.mod_lt _ (by decide)), pos _ (Nat.mod_lt _ (by decide)), pos _ (Nat.mod_lt _ (by decide)), pos _ (Nat.mod_lt _ (by decide))]
    rw [show t - 1 - (t - 1 - t % 16) % 16 = t - 16 by omega, show t - 1 - (t - 1 - (t + 1) % 16) % 16 = t - 15 by omega, show t - 1 - (t - 1 - (t + 9) % 16) % 16 = t - 7 by omega, show t - 1 - (t - 1 - (t + 14) % 16) % 16 = t - 2 by omega]
    rw [show t + 1 - 1 - (t + 1 - 1 - i) % 16 = t by omega]
    rw [znP.eq_def k t, if_neg (by omega), zqo _ _ _ _ (by decide) (by decide) (by decide) (by decide), zqo _ _ _ _ (by decide) (by decide) (by decide) (by decide), zkC, zkC]
    rfl
   ·rw [if_neg hit, ih i hi, pos i hi]
    congr 1
    omega
  ·rw [if_neg h16, ih i hi, if_pos (by omega), if_pos (by omega)]
theorem zxc (gt h : Nat → Nat) (k : List Nat) (hk : ∀ i, k.getD i 0 < 256) : ∀ t, t ≤ 64 → (zkh gt k h t).2 = vR gt k h t
 | 0, _ => rfl
 | t + 1, ht => by
  have ih := zxc gt h k hk t (by omega)
  have hr := zCu gt h k hk (t + 1) ht (t % 16) (Nat.mod_lt _ (by decide))
  rw [zkh] at hr
  rw [zkh, vR]
  show zgn (zkh gt k h t).2 _ _ = _
  rw [ih] at hr ⊢
  have hw : zfi (zkh gt k h t).1 t (t % 16) = znP k t := by
   rw [show zfi (zkh gt k h t).1 t (t % 16) = znP k (if t + 1 ≤ 16 then t % 16 else t + 1 - 1 - (t + 1 - 1 - t % 16) % 16) from hr]
   congr 1
   split <;> omega
  congr 1
  ·unfold zuF t1R
   rw [hw, zqp _ _ _ _ (by decide) (by decide) (by decide) (by decide) (by decide) (by decide), zBR]
   rfl
  ·unfold zwP t2R
   rw [zqp _ _ _ _ (by decide) (by decide) (by decide) (by decide) (by decide) (by decide), zAU]
   rfl
theorem zv7 (gt h : Nat → Nat) (k : List Nat) (hk : ∀ i, k.getD i 0 < 256) : zcY gt h k = zjK gt h k := by
 rw [zcY, zjK, zxc gt h k hk 64 (by decide)]
end
section
open Go.RowKit
def ziH (k : List Nat) (n : Nat) : Nat → Nat := fun i => if i < n then znP k i else 0
theorem zjL (k : List Nat) {n i : Nat} (h : i < n) : ziH k n i = znP k i := if_pos h
theorem znR (k : List Nat) (n j : Nat) : upd (fun i => u32 (ziH k n i)) n (u32 (znP k n)) j = u32 (ziH k (n + 1) j) := by
 rw [zk1]
 congr 2
 unfold upd ziH
 by_cases h : j = n
 ·subst h; simp
 ·rw [if_neg h]
  by_cases h2 : j < n
  ·rw [if_pos h2, if_pos (by omega)]
  ·rw [if_neg h2, if_neg (by omega)]
theorem zzd (k : List Nat) {n : Nat} (h : n < 16) : zdg (zdg (zdg (ztW (k.getD (4 * n) 0 % 4294967296) 16777216) (ztW (k.getD (4 * n + 1) 0 % 4294967296) 65536)) (ztW (k.getD (4 * n + 2) 0 % 4294967296) 256)) (k.getD (4 * n + 3) 0 % 4294967296) = znP k n := by
 have e : ∀ j, (k.drop (4 * n)).getD j 0 = k.getD (4 * n + j) 0 := fun j => by rw [jR, List.getElem?_drop, ← jR]
 rw [znP, if_pos h, zv6, e, e, e, e]
 all_goals rfl
theorem zv8 (k : List Nat) {n : Nat} (h : 16 ≤ n) : zdg (zdg (zdg (ziH k n (n - 16)) (zdM (zdM (zgJ (ziH k n (n - 15)) 7) (zgJ (ziH k n (n - 15)) 18)) (ziT (ziH k n (n - 15)) 3))) (ziH k n (n - 7))) (zdM (zdM (zgJ (ziH k n (n - 2)) 17) (zgJ (ziH k n (n - 2)) 19)) (ziT (ziH k n (n - 2)) 10)) = znP k n := by
 rw [zjL k (show n - 16 < n by omega), zjL k (show n - 15 < n by omega), zjL k (show n - 7 < n by omega), zjL k (show n - 2 < n by omega)]
 conv => rhs; rw [znP, if_neg (show ¬ n < 16 by omega)]
 rfl
theorem zAV (gt : Nat → Nat) (k : List Nat) (v : Nat → Nat) {t : Nat} (ht : t < 64) : zdg (zdg (zdg (zdg (v 7) (zdM (zdM (zgJ (v 4) 6) (zgJ (v 4) 11)) (zgJ (v 4) 25))) (zdM (zfE (v 4) (v 5)) (zfE (ztV (v 4)) (v 6)))) (gt t)) (ziH k 64 t) = t1R gt k v t := by
 rw [zjL k ht]; rfl
theorem zAW (v : Nat → Nat) : zdg (zdM (zdM (zgJ (v 0) 2) (zgJ (v 0) 13)) (zgJ (v 0) 22)) (zdM (zdM (zfE (v 0) (v 1)) (zfE (v 0) (v 2))) (zfE (v 1) (v 2))) = t2R v := rfl
theorem zze {gt h v : Nat → Nat} {k : List Nat} {t : Nat} (hM : v = vR gt k h t) : zgn v (t1R gt k v t) (t2R v) = vR gt k h (t + 1) := by
 rw [vR, ← hM]
theorem zAX {ad : Addr} {n i : Nat} {f : Nat → Value} {w : World} (hi : i < n) (h : AtC ad [.row n f] w) : AtC (ad.add i) [.one (f i)] w := fun j u hu => by
 cases j with
 | succ j => simp [cl, Chunk.cells] at hu
 | zero =>
  obtain rfl : f i = u := by simpa [cl, Chunk.cells] using hu
  rw [zb2]
  exact h i _ (by simp [cl, Chunk.cells, hi])
attribute [local irreducible] zdg zdM zfE orW zjU ziT ztW ztV zgJ t1R t2R
section
variable {P : Program} {o : Oper} {ws : World} {l : List (Nat × Value)} {S : Nat → Prop} {t u : TypeId} {x y : Operand} {m n : Nat}
theorem zoZ (ho : o.op = .binOp .mul t x y u) (hx : ev l x = some (u32 m)) (hy : ev l y = some (u32 n)) : PK P S ws l o (u32 (ztW m n)) :=
 zbD ho hx hy (by
  unfold ztW
  simp only [zke, ← zgz]
  norm_cast)
theorem zzf (ho : o.op = .unOp .xor t x) (hx : ev l x = some (u32 m)) : PK P S ws l o (u32 (ztV m)) := fun w' _ a N E => by
 have e : IntKind.u32.wrap (((BitVec.ofInt 32 ((4294967295 : Nat) : Int) ^^^ BitVec.ofInt 32 (m : Int)).toNat : Nat) : Int) = ((ztV m : Nat) : Int) := by
  rw [zzX]; unfold ztV zdM; rw [Nat.xor_comm]
 have h : Op.intBits BinOp.xor IntKind.u32 (if IntKind.u32.signed = true then -1 else IntKind.u32.max) ((m : Nat) : Int) = pure (u32 (ztV m)) := congrArg (fun z => (pure (Value.int .u32 z) : Sem Value)) e
 unfold execOp; rw [ho]; simp only [E.ev hx, Op.unary, h, Sem.run_bind, Sem.run_pure, Result.andThen_ok]
end
theorem zeR {x n : Nat} (h1 : 1 ≤ n) (h2 : n < 32) {X : List Nat} {w0 : World} (hX : ∀ k ∈ X, k < w0.heap.size) :
  Calls Tryz.prog 132 #[u32 x, .int .i64 ((n : Nat) : Int)] w0 fun e w' => e = .returned (u32 (zgJ x n)) ∧ Sep X [] w0 w' [] [] := by
 refine zaz Tryz.ntmps132 Tryz.func132 rfl rfl fun a E => ?_; replace E : Env a _ [(0, _), (1, _)] := E
 have H : Sep X [] w0 w0 [] [] := Sep.start hX (fun _ h => by cases h)
 refine Vr ?_; refine Vv E pka fun a E => ?_; refine Vn ?_; refine wp_seq_k fun K1 hK1 => ?_; refine zbr E H [] 7 [(0, false), (1, false), (2, false), (3, false), (4, false), (5, false), (6, false)] (by kernel_rfl) (by kernel_rfl) (fun w HS => ?_)
 (simp only [canOps, jD, jE, jF, jG])
 clear H
 have H := HS
 have hsz : w.heap.size ≤ w.heap.size := jV _
 have HK : CanB.Keep (fun k => k < w.heap.size ∧ k ∉ []) w w := CanB.Keep.refl _ _
 refine Cw E HK pkm fun a E => ?_; refine Cw E HK pkm fun a E => ?_; refine Cw E HK (zfL rfl rfl rfl rfl) fun a E => ?_; refine Cw E HK pkm fun a E => ?_; refine Cw E HK pkm fun a E => ?_; refine Cw E HK (zaK rfl rfl rfl rfl (zdf (by omega) (by omega))) fun a E => ?_; refine Cw E HK (ziV (k := 32 - n) rfl rfl rfl (by omega)) fun a E => ?_; refine CanB.wpCan_nil ?_
 try (simp only [jH, jI, jF, jG])
 clear HS HK hsz; refine Vv E (ziU rfl rfl rfl) fun a E => ?_; refine Vv E pka fun a E => ?_; refine hK1 _ _ ?_; refine wp_ret ?_
 repeat (first | refine zat ?_ | refine zap ?_)
 refine zf8 rfl E (zbT rfl) ?_; refine ⟨?_, H⟩
 rw [zgJ]
theorem ztZ {A : Option Addr} {c : Nat} {tx : List Nat} (hl : tx.length = 64) {X : List Nat} {w0 : World} (hX : ∀ k ∈ X, k < w0.heap.size) (hk : St (TxF A c tx) w0 X) :
  Calls Tryz.prog 131 #[.slice A tx.length c] w0 fun e w' => e = .returned (.agg (ca [.row 64 fun i => u32 (ziH tx 64 i)])) ∧ Sep X [] w0 w' [] [] := by
 obtain ⟨ad, hA⟩ : ∃ ad, A = some ad := by
  cases hq : A with
  | some ad => exact ⟨ad, rfl⟩
  | none => have := (hk.now.nil hq).1; omega
 have hg : ∀ i, i < 64 → tx[i]? = some (tx.getD i 0) := fun i hi => by rw [jR, jP (show i < tx.length by omega)]; rfl
 refine zaz Tryz.ntmps131 Tryz.func131 rfl rfl fun a E => ?_; replace E : Env a _ [(0, _)] := E
 have H : Sep X [] w0 w0 [] [(TxF A c tx)] := Sep.start hX (jJ.2 ⟨hk, fun _ h => by cases h⟩)
 refine Vr ?_; refine Wa (z := [.row 64 fun _ => .int .u32 0]) E H fun b2 w a H E => ?_; refine Vn ?_; refine Vr ?_; refine Wa (z := [.row 64 fun _ => .int .u32 0]) E H fun b3 w a H E => ?_; refine Vn ?_; refine wp_seq_k fun K2 hK2 => ?_; refine Vr ?_; refine Vv E pkm fun a E => ?_; refine Vn ?_; refine wp_block ?_
 have e0 : (fun i => u32 (ziH tx 0 i)) = fun _ => Value.int .u32 0 := by funext i; simp [ziH]
 rw [← e0] at H
 refine zbC (γ := Nat) [0, 2, 3] (fun n => [(10, .int .i64 (n : Int))]) (fun n => [.blk b3 (ca [.row 64 fun i => u32 (ziH tx n i)]) 170, .blk b2 (ca [.row 64 fun i => u32 (ziH tx 0 i)]) 170 ]) (fun n => [TxF A c tx]) (fun n => n ≤ 16) (fun n => 16 - n) (0) E H (by repeat (first | exact trivial | refine ⟨rfl, ?_⟩)) (by omega) ?_; clear E H; intro n a w E H hφ; replace E : Env a _ [(10, _), (0, _), (2, _), (3, _)] := E; replace H : Sep _ _ _ _ [_, _] [_] := H; refine Vr ?_; refine Vv E pki fun a E => ?_; refine Vn ?_; refine wp_seq_k fun K5 hK5 => ?_; refine zau (d := 11) E rfl ?_ ?_
 ·skip
  clear E; intro c11 E
  have hn : n < 16 := by have := c11; simp only [jS] at this; omega
  refine za7 E rfl ?_; refine wp_skip ?_; refine hK5 _ _ ?_; refine wp_seq_k fun K6 hK6 => ?_; refine wp_block ?_; refine Vr ?_; refine Vv E pkm fun a E => ?_; refine Vv E pka fun a E => ?_; refine Vn ?_; refine zbr E H [] 34 [(0, false), (1, false), (2, false), (3, false), (4, false), (5, false), (6, false), (7, false), (8, false), (9, false), (10, false), (11, false), (12, false), (13, false), (14, false), (15, false), (16, false), (17, false), (18, false), (19, false), (20, false), (21, false), (22, false), (23, false), (24, false), (25, false), (26, false), (27, false), (28, false), (29, false), (30, false), (31, false), (32, false), (33, false)] (by kernel_rfl) (by kernel_rfl) (fun w HS => ?_)
  (simp only [canOps, jD, jE, jF, jG])
  clear H
  have H := HS
  have hsz : w.heap.size ≤ w.heap.size := jV _
  have HK : CanB.Keep (fun k => k < w.heap.size ∧ k ∉ []) w w := CanB.Keep.refl _ _
  refine Cw E HK pkm fun a E => ?_; refine Cw E HK pkm fun a E => ?_; refine Cw E HK pkm fun a E => ?_; refine Cw E HK (zaK rfl rfl rfl rfl (zdf (by omega) (by omega))) fun a E => ?_; refine Cw E HK (zb7 (sz := 1) (i := 4 * n) hA rfl (by kernel_rfl) rfl rfl (by omega) (by omega)) fun a E => ?_; refine Cw E HK (zc6 (HS.fact 0 rfl) (fun k h _ => ⟨h, by simp⟩) hA rfl rfl (hg (4 * n) (by omega)) (by kernel_rfl)) fun a E => ?_; refine Cw E HK (zhU rfl rfl (by kernel_rfl) (by kernel_rfl)) fun a E => ?_
  refine Cw E HK (zoZ (n := 16777216) rfl rfl rfl) fun a E => ?_; refine Cw E HK pkm fun a E => ?_; refine Cw E HK pkm fun a E => ?_; refine Cw E HK (zaK rfl rfl rfl rfl (zdf (by omega) (by omega))) fun a E => ?_; refine Cw E HK (zaK rfl rfl rfl rfl (zdf (by omega) (by omega))) fun a E => ?_; refine Cw E HK (zb7 (sz := 1) (i := 4 * n + 1) hA rfl (by kernel_rfl) rfl rfl (by omega) (by omega)) fun a E => ?_; refine Cw E HK (zc6 (HS.fact 0 rfl) (fun k h _ => ⟨h, by simp⟩) hA rfl rfl (hg (4 * n + 1) (by omega)) (by kernel_rfl)) fun a E => ?_; refine Cw E HK (zhU rfl rfl (by kernel_rfl) (by kernel_rfl)) fun a E => ?_; refine Cw E HK (zoZ (n := 65536) rfl rfl rfl) fun a E => ?_; refine Cw E HK (zbO rfl rfl rfl) fun a E => ?_; refine Cw E HK pkm fun a E => ?_; refine Cw E HK pkm fun a E => ?_; refine Cw E HK (zaK rfl rfl rfl rfl (zdf (by omega) (by omega))) fun a E => ?_; refine Cw E HK (zaK rfl rfl rfl rfl (zdf (by omega) (by omega))) fun a E => ?_
  refine Cw E HK (zb7 (sz := 1) (i := 4 * n + 2) hA rfl (by kernel_rfl) rfl rfl (by omega) (by omega)) fun a E => ?_; refine Cw E HK (zc6 (HS.fact 0 rfl) (fun k h _ => ⟨h, by simp⟩) hA rfl rfl (hg (4 * n + 2) (by omega)) (by kernel_rfl)) fun a E => ?_; refine Cw E HK (zhU rfl rfl (by kernel_rfl) (by kernel_rfl)) fun a E => ?_; refine Cw E HK (zoZ (n := 256) rfl rfl rfl) fun a E => ?_; refine Cw E HK (zbO rfl rfl rfl) fun a E => ?_; refine Cw E HK pkm fun a E => ?_; refine Cw E HK pkm fun a E => ?_
  refine Cw E HK (zaK rfl rfl rfl rfl (zdf (by omega) (by omega))) fun a E => ?_; refine Cw E HK (zaK rfl rfl rfl rfl (zdf (by omega) (by omega))) fun a E => ?_; refine Cw E HK (zb7 (sz := 1) (i := 4 * n + 3) hA rfl (by kernel_rfl) rfl rfl (by omega) (by omega)) fun a E => ?_; refine Cw E HK (zc6 (HS.fact 0 rfl) (fun k h _ => ⟨h, by simp⟩) hA rfl rfl (hg (4 * n + 3) (by omega)) (by kernel_rfl)) fun a E => ?_; refine Cw E HK (zhU rfl rfl (by kernel_rfl) (by kernel_rfl)) fun a E => ?_; refine Cw E HK (zbO rfl rfl rfl) fun a E => ?_; refine CanB.wpCan_nil ?_
  try (simp only [jH, jI, jF, jG])
  clear HS HK hsz; refine Vv E (zaY (i := n) rfl (by kernel_rfl) rfl rfl rfl (show n < 64 by omega)) fun a E => ?_; refine Ve E ?_; refine zbe (off := 0) (fun i => u32 (ziH tx (n + 1) i)) 0 E H rfl rfl rfl (show n < 64 by omega) rfl rfl rfl rfl rfl rfl (by kernel_rfl) (fun j => by rw [zzd tx hn]; exact znR tx n j) rfl ?_; clear H; intro w H F; replace H : Sep _ _ _ _ [_, _] _ := H; refine zdn rfl ?_; clear F; refine hK6 _ _ ?_; refine zaB ?_; refine Vv E (zaK rfl rfl rfl rfl (zdf (by omega) (by omega))) fun a E => ?_; refine Vv E pkm fun a E => ?_; refine za9 ?_
  exact ⟨n + 1, ⟨E.to (by repeat (first | exact trivial | refine ⟨rfl, ?_⟩)), H, by omega⟩, by omega⟩
 ·skip
  clear E; intro c11 E
  obtain rfl : n = 16 := by have := c11; simp only [decide_eq_false_iff_not] at this; omega
  refine zaN E rfl ?_; refine wp_exit ?_
  repeat (first | refine za4 ?_ | refine za5 ?_ | refine zaW (by decide) ?_)
  refine hK2 _ _ ?_; refine wp_seq_k fun K8 hK8 => ?_; refine Vr ?_; refine Vv E pka fun a E => ?_; refine Vn ?_; refine wp_block ?_; refine zbC (γ := Nat) [2, 3] (fun n => [(5, .int .i64 (n : Int))]) (fun n => [.blk b3 (ca [.row 64 fun i => u32 (ziH tx n i)]) 170, .blk b2 (ca [.row 64 fun i => u32 (ziH tx 0 i)]) 170 ]) (fun n => [TxF A c tx]) (fun n => 16 ≤ n ∧ n ≤ 64) (fun n => 64 - n) (16) E H (by repeat (first | exact trivial | refine ⟨rfl, ?_⟩)) (⟨by omega, by omega⟩) ?_; clear E H; intro n a w E H hφ; replace E : Env a _ [(5, _), (2, _), (3, _)] := E; replace H : Sep _ _ _ _ [_, _] [_] := H; refine wp_seq_k fun K10 hK10 => ?_; refine Vr ?_; refine Vv E pkm fun a E => ?_
  refine Vv E pki fun a E => ?_; refine Vn ?_; refine zau (d := 50) E rfl ?_ ?_
  ·skip
   clear E; intro c50 E
   have hn : n < 64 := by have := c50; simp only [jS] at this; omega
   refine za7 E rfl ?_; refine wp_skip ?_; refine hK10 _ _ ?_; refine wp_seq_k fun K12 hK12 => ?_; refine wp_block ?_; refine Vr ?_; refine Vv E pkm fun a E => ?_; refine Vv E (zaK rfl rfl rfl rfl (zdf (by omega) (by omega))) fun a E => ?_; refine Vv E (zaY (i := n - 15) rfl (by kernel_rfl) rfl rfl (by omega) (show n - 15 < 64 by omega)) fun a E => ?_; refine Vv E (zaE (i := n - 15) (off := 0) H 0 rfl trivial rfl (show n - 15 < 64 by omega) rfl rfl rfl (by kernel_rfl)) fun a E => ?_; refine Vv E pka fun a E => ?_; refine Vn ?_; refine Vr ?_; refine Vv E pkm fun a E => ?_
   refine Vv E (zaK rfl rfl rfl rfl (zdf (by omega) (by omega))) fun a E => ?_; refine Vv E (zaY (i := n - 2) rfl (by kernel_rfl) rfl rfl (by omega) (show n - 2 < 64 by omega)) fun a E => ?_; refine Vv E (zaE (i := n - 2) (off := 0) H 0 rfl trivial rfl (show n - 2 < 64 by omega) rfl rfl rfl (by kernel_rfl)) fun a E => ?_; refine Vv E pka fun a E => ?_; refine Vn ?_; refine Vr ?_; refine Vv E pkm fun a E => ?_; refine Ve E ?_; refine Vc E ?_; refine (zeR (n := 7) (by omega) (by omega) H.xk).mono ?_; rintro e w ⟨rfl, H1⟩
   replace H := H.call H1
   clear H1; replace H : Sep _ _ _ _ [_, _] [_] := H; refine Vp E fun a E => ?_; refine Vv E pkm fun a E => ?_; refine Ve E ?_; refine Vc E ?_; refine (zeR (n := 18) (by omega) (by omega) H.xk).mono ?_; rintro e w ⟨rfl, H1⟩
   replace H := H.call H1
   clear H1; replace H : Sep _ _ _ _ [_, _] [_] := H; refine Vp E fun a E => ?_; refine Vv E (zcC rfl rfl rfl) fun a E => ?_; refine Vv E pkm fun a E => ?_; refine Vv E (zfL (k := 3) rfl rfl rfl rfl) fun a E => ?_; refine Vv E (zcC rfl rfl rfl) fun a E => ?_; refine Vv E pka fun a E => ?_; refine Vn ?_; refine Vr ?_; refine Vv E pkm fun a E => ?_; refine Ve E ?_; refine Vc E ?_; refine (zeR (n := 17) (by omega) (by omega) H.xk).mono ?_; rintro e w ⟨rfl, H1⟩
   replace H := H.call H1
   clear H1; replace H : Sep _ _ _ _ [_, _] [_] := H; refine Vp E fun a E => ?_; refine Vv E pkm fun a E => ?_; refine Ve E ?_; refine Vc E ?_; refine (zeR (n := 19) (by omega) (by omega) H.xk).mono ?_; rintro e w ⟨rfl, H1⟩
   replace H := H.call H1
   clear H1; replace H : Sep _ _ _ _ [_, _] [_] := H; refine Vp E fun a E => ?_; refine Vv E (zcC rfl rfl rfl) fun a E => ?_; refine Vv E pkm fun a E => ?_; refine Vv E (zfL (k := 10) rfl rfl rfl rfl) fun a E => ?_; refine Vv E (zcC rfl rfl rfl) fun a E => ?_; refine Vv E pka fun a E => ?_; refine Vn ?_; refine zbr E H [] 14 [(0, false), (1, false), (2, false), (3, false), (4, false), (5, false), (6, false), (7, false), (8, false), (9, false), (10, false), (11, false), (12, false), (13, false)] (by kernel_rfl) (by kernel_rfl) (fun w HS => ?_)
   (simp only [canOps, jD, jE, jF, jG])
   clear H
   have H := HS
   have hsz : w.heap.size ≤ w.heap.size := jV _
   have HK : CanB.Keep (fun k => k < w.heap.size ∧ k ∉ []) w w := CanB.Keep.refl _ _
   refine Cw E HK pkm fun a E => ?_; refine Cw E HK pkm fun a E => ?_; refine Cw E HK (zaK rfl rfl rfl rfl (zdf (by omega) (by omega))) fun a E => ?_; refine Cw E HK (zaY (i := n - 16) rfl (by kernel_rfl) rfl rfl (by omega) (show n - 16 < 64 by omega)) fun a E => ?_; refine Cw E HK (zaE (i := n - 16) (off := 0) HS 0 rfl (HS.inS 0 rfl (by simp)) rfl (show n - 16 < 64 by omega) rfl rfl rfl (by kernel_rfl)) fun a E => ?_; refine Cw E HK pkm fun a E => ?_; refine Cw E HK (zbO rfl rfl rfl) fun a E => ?_
   refine Cw E HK pkm fun a E => ?_; refine Cw E HK (zaK rfl rfl rfl rfl (zdf (by omega) (by omega))) fun a E => ?_; refine Cw E HK (zaY (i := n - 7) rfl (by kernel_rfl) rfl rfl (by omega) (show n - 7 < 64 by omega)) fun a E => ?_; refine Cw E HK (zaE (i := n - 7) (off := 0) HS 0 rfl (HS.inS 0 rfl (by simp)) rfl (show n - 7 < 64 by omega) rfl rfl rfl (by kernel_rfl)) fun a E => ?_; refine Cw E HK (zbO rfl rfl rfl) fun a E => ?_; refine Cw E HK pkm fun a E => ?_; refine Cw E HK (zbO rfl rfl rfl) fun a E => ?_
   refine CanB.wpCan_nil ?_
   try (simp only [jH, jI, jF, jG])
   clear HS HK hsz; refine Vv E (zaY (i := n) rfl (by kernel_rfl) rfl rfl rfl hn) fun a E => ?_; refine Ve E ?_; refine zbe (off := 0) (fun i => u32 (ziH tx (n + 1) i)) 0 E H rfl rfl rfl hn rfl rfl rfl rfl rfl rfl (by kernel_rfl) (fun j => by rw [zv8 tx hφ.1]; exact znR tx n j) rfl ?_; clear H; intro w H F; replace H : Sep _ _ _ _ [_, _] _ := H; refine zdn rfl ?_; clear F; refine hK12 _ _ ?_; refine zaB ?_; refine Vv E pkm fun a E => ?_; refine Vv E (zaK rfl rfl rfl rfl (zdf (by omega) (by omega))) fun a E => ?_; refine Vv E pka fun a E => ?_; refine za9 ?_
   exact ⟨n + 1, ⟨E.to (by repeat (first | exact trivial | refine ⟨rfl, ?_⟩)), H, ⟨by omega, by omega⟩⟩, by omega⟩
  ·skip
   clear E; intro c50 E
   obtain rfl : n = 64 := by have := c50; simp only [decide_eq_false_iff_not] at this; omega
   refine zaN E rfl ?_; refine wp_exit ?_
   repeat (first | refine za4 ?_ | refine za5 ?_ | refine zaW (by decide) ?_)
   refine hK8 _ _ ?_; refine Vr ?_; refine Vv E (pkl 64 H 0) fun a E => ?_; refine Ws 1 E H fun w H => ?_; replace H : Sep _ _ _ _ [_, _] _ := H; refine Vn ?_; refine wp_ret ?_
   repeat (first | refine zat ?_ | refine zap ?_)
   refine zf8 rfl E (by exact zhT (n := 64) H 1 rfl rfl rfl (by kernel_rfl)) ?_
   exact ⟨rfl, H.pop.popL.popL⟩
theorem zt0 {h gt : Nat → Nat} {A : Option Addr} {c : Nat} {tx : List Nat} (hl : tx.length = 64) {X : List Nat} {w0 : World} (hX : ∀ k ∈ X, k < w0.heap.size) (hk : St (TxF A c tx) w0 X) (hG : St (AtC ⟨1, 0, none⟩ [.row 64 fun i => u32 (gt i)]) w0 X) :
  Calls Tryz.prog 115 #[.agg (ca [.row 8 fun i => u32 (h i)]), .slice A tx.length c] w0 fun e w' => e = .returned (.agg (ca [.row 8 fun i => u32 (zjK gt h tx i)])) ∧ Sep X [] w0 w' [] [] := by
 refine zaz Tryz.ntmps115 Tryz.func115 rfl rfl fun a E => ?_; replace E : Env a _ [(0, _), (1, _)] := E
 have H : Sep X [] w0 w0 [] [(TxF A c tx), (AtC ⟨1, 0, none⟩ [.row 64 fun i => u32 (gt i)])] := Sep.start hX (jJ.2 ⟨hk, jJ.2 ⟨hG, fun _ h => by cases h⟩⟩)
 refine Vr ?_; refine Wb E H fun b2 w a H E => ?_; refine Wa (z := [.row 8 fun _ => .int .u32 0]) E H fun b4 w a H E => ?_; refine Vn ?_; refine Vr ?_; refine Vv E pkm fun a E => ?_; refine Ve E ?_; refine Vc E ?_; refine (ztZ hl H.xk (H.fact 0 rfl)).mono ?_; rintro e w ⟨rfl, H1⟩
 replace H := H.call H1
 clear H1; replace H : Sep _ _ _ _ [_, _] [_, _] := H; refine Vp E fun a E => ?_; refine Wa (z := [.row 64 fun _ => .int .u32 0]) E H fun b5 w a H E => ?_; refine Ws 0 E H fun w H => ?_; replace H : Sep _ _ _ _ [_, _, _] _ := H; refine Vn ?_; refine Vr ?_; refine Vv E (pkl 8 H 2) fun a E => ?_; refine Wa (z := [.row 8 fun _ => .int .u32 0]) E H fun b6 w a H E => ?_; refine Ws 0 E H fun w H => ?_; replace H : Sep _ _ _ _ [_, _, _, _] _ := H; refine Vn ?_; refine wp_seq_k fun K3 hK3 => ?_; refine Vr ?_; refine Vv E pkm fun a E => ?_; refine Vn ?_; refine wp_block ?_
 refine zbC (γ := Nat × (Nat → Nat)) [2, 4, 5, 6] (fun g => [(16, .int .i64 (g.1 : Int))]) (fun g => [.blk b6 (ca [.row 8 fun i => u32 (g.2 i)]) 146, .blk b5 (ca [.row 64 fun i => u32 (ziH tx 64 i)]) 170, .blk b4 (ca [.row 8 fun _ => .int .u32 0]) 146, .blk b2 (ca [.row 8 fun i => u32 (h i)]) 146 ]) (fun g => [TxF A c tx, AtC ⟨1, 0, none⟩ [.row 64 fun i => u32 (gt i)]]) (fun g => g.1 ≤ 64 ∧ g.2 = vR gt tx h g.1) (fun g => 64 - g.1) ((0, h)) E H (by repeat (first | exact trivial | refine ⟨rfl, ?_⟩)) (⟨by omega, rfl⟩) ?_; clear E H; intro g a w E H hφ; replace E : Env a _ [(16, _), (2, _), (4, _), (5, _), (6, _)] := E; replace H : Sep _ _ _ _ [_, _, _, _] [_, _] := H
 obtain ⟨t, vv⟩ := g
 simp only at E H hφ ⊢
 obtain ⟨hφ, hM⟩ := hφ
 refine Vr ?_; refine Vv E pki fun a E => ?_; refine Vn ?_; refine wp_seq_k fun K6 hK6 => ?_; refine zau (d := 17) E rfl ?_ ?_
 ·skip
  clear E; intro c17 E
  have ht64 : t < 64 := by have := c17; simp only [jS] at this; omega
  refine za7 E rfl ?_; refine wp_skip ?_; refine hK6 _ _ ?_; refine wp_seq_k fun K7 hK7 => ?_; refine wp_block ?_; refine Vr ?_; refine Vv E pkm fun a E => ?_; refine Vv E pka fun a E => ?_; refine Vn ?_; refine wp_seq_k fun K9 hK9 => ?_; refine zbr E H [] 5 [(0, false), (1, false), (2, false), (3, false), (4, false)] (by kernel_rfl) (by kernel_rfl) (fun w HS => ?_)
  (simp only [canOps, jD, jE, jF, jG])
  clear H
  have H := HS
  have hsz : w.heap.size ≤ w.heap.size := jV _
  have HK : CanB.Keep (fun k => k < w.heap.size ∧ k ∉ []) w w := CanB.Keep.refl _ _
  refine Cw E HK (zaY (i := 0) rfl (by kernel_rfl) rfl rfl rfl (show 0 < 8 by decide)) fun a E => ?_; refine Cw E HK (zaE (i := 0) (off := 0) HS 0 rfl (HS.inS 0 rfl (by simp)) rfl (show 0 < 8 by decide) rfl rfl rfl (by kernel_rfl)) fun a E => ?_; refine Cw E HK (zaY (i := 4) rfl (by kernel_rfl) rfl rfl rfl (show 4 < 8 by decide)) fun a E => ?_; refine Cw E HK (zaE (i := 4) (off := 0) HS 0 rfl (HS.inS 0 rfl (by simp)) rfl (show 4 < 8 by decide) rfl rfl rfl (by kernel_rfl)) fun a E => ?_; refine Cw E HK (zcA rfl rfl) fun a E => ?_; refine CanB.wpCan_nil ?_
  try (simp only [jH, jI, jF, jG])
  clear HS HK hsz; refine Vv E pka fun a E => ?_; refine hK9 _ _ ?_; refine wp_seq_k fun K10 hK10 => ?_
  replace H := H.know ((H.fact 1 rfl).imp fun w h => zAX ht64 h)
  replace H : Sep _ _ _ _ [_, _, _, _] [_, _, _] := H; refine zbr E H [] 29 [(0, false), (1, false), (2, false), (4, false), (7, false), (11, false), (12, false), (13, false), (14, false), (15, false), (16, false), (17, false), (18, false), (19, false), (20, false), (22, false), (23, false), (24, false), (26, false), (27, false), (28, false), (3, true), (5, true), (6, false), (8, true), (9, false), (10, false), (21, false), (25, false)] (by kernel_rfl) (by kernel_rfl) (fun w HS => ?_)
  (simp only [canOps, jD, jE, jF, jG])
  clear H
  have H := HS
  have hsz : w.heap.size ≤ w.heap.size := jV _
  have HK : CanB.Keep (fun k => k < w.heap.size ∧ k ∉ []) w w := CanB.Keep.refl _ _
  refine Cw E HK (zaY (i := 7) rfl (by kernel_rfl) rfl rfl rfl (show 7 < 8 by decide)) fun a E => ?_; refine Cw E HK (zaE (i := 7) (off := 0) HS 0 rfl (HS.inS 0 rfl (by simp)) rfl (show 7 < 8 by decide) rfl rfl rfl (by kernel_rfl)) fun a E => ?_; refine Cw E HK pkm fun a E => ?_; refine Cw E HK pkm fun a E => ?_; refine Cw E HK pkm fun a E => ?_; refine Cw E HK pkm fun a E => ?_; refine Cw E HK (zaY (i := 5) rfl (by kernel_rfl) rfl rfl rfl (show 5 < 8 by decide)) fun a E => ?_
  refine Cw E HK (zaE (i := 5) (off := 0) HS 0 rfl (HS.inS 0 rfl (by simp)) rfl (show 5 < 8 by decide) rfl rfl rfl (by kernel_rfl)) fun a E => ?_; refine Cw E HK (zfK rfl rfl rfl) fun a E => ?_; refine Cw E HK pkm fun a E => ?_; refine Cw E HK (zzf rfl rfl) fun a E => ?_; refine Cw E HK (zaY (i := 6) rfl (by kernel_rfl) rfl rfl rfl (show 6 < 8 by decide)) fun a E => ?_; refine Cw E HK (zaE (i := 6) (off := 0) HS 0 rfl (HS.inS 0 rfl (by simp)) rfl (show 6 < 8 by decide) rfl rfl rfl (by kernel_rfl)) fun a E => ?_
  refine Cw E HK (zfK rfl rfl rfl) fun a E => ?_; refine Cw E HK (zcC rfl rfl rfl) fun a E => ?_; refine Cw E HK pkm fun a E => ?_; refine Cw E HK (zaY (i := t) rfl (by kernel_rfl) rfl rfl rfl ht64) fun a E => ?_; refine Cw E HK (zcB (HS.fact 0 rfl) (fun k h _ => ⟨h, by simp⟩) rfl rfl rfl (by kernel_rfl)) fun a E => ?_; refine Cw E HK pkm fun a E => ?_; refine Cw E HK (zaY (i := t) rfl (by kernel_rfl) rfl rfl rfl ht64) fun a E => ?_
  refine Cw E HK (zaE (i := t) (off := 0) HS 1 rfl (HS.inS 1 rfl (by simp)) rfl ht64 rfl rfl rfl (by kernel_rfl)) fun a E => ?_; refine zfC E rfl (fun K hK => ?_); refine Vc E ?_; refine (zeR (n := 6) (by omega) (by omega) H.xk).mono ?_; rintro e w ⟨rfl, H1⟩
  have F := H1.frm
  replace H := H.call H1
  clear H1; replace H : Sep _ _ _ _ [_, _, _, _] [_, _, _] := H
  have hk := zaI (D := []) F hsz (by simp)
  refine hK _ _ hk ?_; clear hK K
  replace HK := HK.trans hk
  replace hsz := jU hsz (F).size
  clear hk; refine zfD E rfl rfl ?_; clear E a; intro a E; clear F; refine zfC E rfl (fun K hK => ?_); refine Vc E ?_; refine (zeR (n := 11) (by omega) (by omega) H.xk).mono ?_; rintro e w ⟨rfl, H1⟩
  have F := H1.frm
  replace H := H.call H1
  clear H1; replace H : Sep _ _ _ _ [_, _, _, _] [_, _, _] := H
  have hk := zaI (D := []) F hsz (by simp)
  refine hK _ _ hk ?_; clear hK K
  replace HK := HK.trans hk
  replace hsz := jU hsz (F).size
  clear hk; refine zfD E rfl rfl ?_; clear E a; intro a E; clear F; refine Cw E HK (zcC rfl rfl rfl) fun a E => ?_; refine zfC E rfl (fun K hK => ?_); refine Vc E ?_; refine (zeR (n := 25) (by omega) (by omega) H.xk).mono ?_; rintro e w ⟨rfl, H1⟩
  have F := H1.frm
  replace H := H.call H1
  clear H1; replace H : Sep _ _ _ _ [_, _, _, _] [_, _, _] := H
  have hk := zaI (D := []) F hsz (by simp)
  refine hK _ _ hk ?_; clear hK K
  replace HK := HK.trans hk
  replace hsz := jU hsz (F).size
  clear hk; refine zfD E rfl rfl ?_; clear E a; intro a E; clear F; refine Cw E HK (zcC rfl rfl rfl) fun a E => ?_; refine Cw E HK (zbO rfl rfl rfl) fun a E => ?_; refine Cw E HK (zbO rfl rfl rfl) fun a E => ?_; refine Cw E HK (zbO rfl rfl rfl) fun a E => ?_; refine CanB.wpCan_nil ?_
  try (simp only [jH, jI, jF, jG])
  clear HS HK hsz; refine Vv E (zbO rfl rfl rfl) fun a E => ?_; refine Vv E (zeY rfl rfl (congrArg (fun z => u32 z) (zAV gt tx vv ht64))) fun a E => ?_; refine hK10 _ _ ?_; refine wp_seq_k fun K11 hK11 => ?_; refine zbr E H [] 23 [(0, false), (2, false), (5, false), (8, false), (9, false), (10, false), (11, false), (12, false), (13, false), (14, false), (15, false), (16, false), (17, false), (18, false), (19, false), (20, false), (21, false), (22, false), (1, true), (3, true), (4, false), (6, true), (7, false)] (by kernel_rfl) (by kernel_rfl) (fun w HS => ?_)
  (simp only [canOps, jD, jE, jF, jG])
  clear H
  have H := HS
  have hsz : w.heap.size ≤ w.heap.size := jV _
  have HK : CanB.Keep (fun k => k < w.heap.size ∧ k ∉ []) w w := CanB.Keep.refl _ _
  refine Cw E HK pkm fun a E => ?_; refine Cw E HK pkm fun a E => ?_; refine Cw E HK pkm fun a E => ?_; refine Cw E HK pkm fun a E => ?_; refine Cw E HK (zaY (i := 1) rfl (by kernel_rfl) rfl rfl rfl (show 1 < 8 by decide)) fun a E => ?_; refine Cw E HK (zaE (i := 1) (off := 0) HS 0 rfl (HS.inS 0 rfl (by simp)) rfl (show 1 < 8 by decide) rfl rfl rfl (by kernel_rfl)) fun a E => ?_; refine Cw E HK (zfK rfl rfl rfl) fun a E => ?_
  refine Cw E HK pkm fun a E => ?_; refine Cw E HK (zaY (i := 2) rfl (by kernel_rfl) rfl rfl rfl (show 2 < 8 by decide)) fun a E => ?_; refine Cw E HK (zaE (i := 2) (off := 0) HS 0 rfl (HS.inS 0 rfl (by simp)) rfl (show 2 < 8 by decide) rfl rfl rfl (by kernel_rfl)) fun a E => ?_; refine Cw E HK (zfK rfl rfl rfl) fun a E => ?_; refine Cw E HK (zcC rfl rfl rfl) fun a E => ?_; refine Cw E HK (zaY (i := 1) rfl (by kernel_rfl) rfl rfl rfl (show 1 < 8 by decide)) fun a E => ?_
  refine Cw E HK (zaE (i := 1) (off := 0) HS 0 rfl (HS.inS 0 rfl (by simp)) rfl (show 1 < 8 by decide) rfl rfl rfl (by kernel_rfl)) fun a E => ?_; refine Cw E HK (zaY (i := 2) rfl (by kernel_rfl) rfl rfl rfl (show 2 < 8 by decide)) fun a E => ?_; refine Cw E HK (zaE (i := 2) (off := 0) HS 0 rfl (HS.inS 0 rfl (by simp)) rfl (show 2 < 8 by decide) rfl rfl rfl (by kernel_rfl)) fun a E => ?_; refine Cw E HK (zfK rfl rfl rfl) fun a E => ?_; refine Cw E HK (zcC rfl rfl rfl) fun a E => ?_; refine zfC E rfl (fun K hK => ?_); refine Vc E ?_; refine (zeR (n := 2) (by omega) (by omega) H.xk).mono ?_
  rintro e w ⟨rfl, H1⟩
  have F := H1.frm
  replace H := H.call H1
  clear H1; replace H : Sep _ _ _ _ [_, _, _, _] [_, _, _] := H
  have hk := zaI (D := []) F hsz (by simp)
  refine hK _ _ hk ?_; clear hK K
  replace HK := HK.trans hk
  replace hsz := jU hsz (F).size
  clear hk; refine zfD E rfl rfl ?_; clear E a; intro a E; clear F; refine zfC E rfl (fun K hK => ?_); refine Vc E ?_; refine (zeR (n := 13) (by omega) (by omega) H.xk).mono ?_; rintro e w ⟨rfl, H1⟩
  have F := H1.frm
  replace H := H.call H1
  clear H1; replace H : Sep _ _ _ _ [_, _, _, _] [_, _, _] := H
  have hk := zaI (D := []) F hsz (by simp)
  refine hK _ _ hk ?_; clear hK K
  replace HK := HK.trans hk
  replace hsz := jU hsz (F).size
  clear hk; refine zfD E rfl rfl ?_; clear E a; intro a E; clear F; refine Cw E HK (zcC rfl rfl rfl) fun a E => ?_; refine zfC E rfl (fun K hK => ?_); refine Vc E ?_; refine (zeR (n := 22) (by omega) (by omega) H.xk).mono ?_; rintro e w ⟨rfl, H1⟩
  have F := H1.frm
  replace H := H.call H1
  clear H1; replace H : Sep _ _ _ _ [_, _, _, _] [_, _, _] := H
  have hk := zaI (D := []) F hsz (by simp)
  refine hK _ _ hk ?_; clear hK K
  replace HK := HK.trans hk
  replace hsz := jU hsz (F).size
  clear hk; refine zfD E rfl rfl ?_; clear E a; intro a E; clear F; refine Cw E HK (zcC rfl rfl rfl) fun a E => ?_; refine CanB.wpCan_nil ?_
  try (simp only [jH, jI, jF, jG])
  clear HS HK hsz; refine Vv E (zbO rfl rfl rfl) fun a E => ?_; refine Vv E (zeY rfl rfl (congrArg (fun z => u32 z) (zAW vv))) fun a E => ?_; refine hK11 _ _ ?_; refine zaB ?_; refine Vv E pkm fun a E => ?_; refine Vv E pkm fun a E => ?_; refine Vv E (zbO rfl rfl rfl) fun a E => ?_; refine Vv E (zaY (i := 0) rfl (by kernel_rfl) rfl rfl rfl (show 0 < 8 by decide)) fun a E => ?_; refine Vv E (zaE (i := 0) (off := 0) H 0 rfl trivial rfl (show 0 < 8 by decide) rfl rfl rfl (by kernel_rfl)) fun a E => ?_; refine Vv E (zaY (i := 1) rfl (by kernel_rfl) rfl rfl rfl (show 1 < 8 by decide)) fun a E => ?_
  refine Vv E (zaE (i := 1) (off := 0) H 0 rfl trivial rfl (show 1 < 8 by decide) rfl rfl rfl (by kernel_rfl)) fun a E => ?_; refine Vv E (zaY (i := 2) rfl (by kernel_rfl) rfl rfl rfl (show 2 < 8 by decide)) fun a E => ?_; refine Vv E (zaE (i := 2) (off := 0) H 0 rfl trivial rfl (show 2 < 8 by decide) rfl rfl rfl (by kernel_rfl)) fun a E => ?_; refine Vv E (zaY (i := 3) rfl (by kernel_rfl) rfl rfl rfl (show 3 < 8 by decide)) fun a E => ?_; refine Vv E (zaE (i := 3) (off := 0) H 0 rfl trivial rfl (show 3 < 8 by decide) rfl rfl rfl (by kernel_rfl)) fun a E => ?_; refine Vv E pkm fun a E => ?_; refine Vv E (zbO rfl rfl rfl) fun a E => ?_
  refine Vv E (zaY (i := 4) rfl (by kernel_rfl) rfl rfl rfl (show 4 < 8 by decide)) fun a E => ?_; refine Vv E (zaE (i := 4) (off := 0) H 0 rfl trivial rfl (show 4 < 8 by decide) rfl rfl rfl (by kernel_rfl)) fun a E => ?_; refine Vv E (zaY (i := 5) rfl (by kernel_rfl) rfl rfl rfl (show 5 < 8 by decide)) fun a E => ?_; refine Vv E (zaE (i := 5) (off := 0) H 0 rfl trivial rfl (show 5 < 8 by decide) rfl rfl rfl (by kernel_rfl)) fun a E => ?_; refine Vv E (zaY (i := 6) rfl (by kernel_rfl) rfl rfl rfl (show 6 < 8 by decide)) fun a E => ?_; refine Vv E (zaE (i := 6) (off := 0) H 0 rfl trivial rfl (show 6 < 8 by decide) rfl rfl rfl (by kernel_rfl)) fun a E => ?_
  refine Vv E (zg0 (n := 8) (z := [.one (.int .u32 0), .one (.int .u32 0), .one (.int .u32 0), .one (.int .u32 0), .one (.int .u32 0), .one (.int .u32 0), .one (.int .u32 0), .one (.int .u32 0)]) (f := fun i => u32 (zgn vv (t1R gt tx vv t) (t2R vv) i)) rfl (by kernel_rfl) (by kernel_rfl) (⟨_, [.one _], 0, _, rfl, rfl, rfl, rfl, ⟨_, [.one _], 1, _, rfl, rfl, rfl, rfl, ⟨_, [.one _], 2, _, rfl, rfl, rfl, rfl, ⟨_, [.one _], 3, _, rfl, rfl, rfl, rfl, ⟨_, [.one _], 4, _, rfl, rfl, rfl, rfl, ⟨_, [.one _], 5, _, rfl, rfl, rfl, rfl, ⟨_, [.one _], 6, _, rfl, rfl, rfl, rfl, ⟨_, [.one _], 7, _, rfl, rfl, rfl, rfl, rfl⟩⟩⟩⟩⟩⟩⟩⟩) rfl) fun a E => ?_; refine Ws 0 E H fun w H => ?_; replace H : Sep _ _ _ _ [_, _, _, _] _ := H; refine hK7 _ _ ?_; refine zaB ?_; refine Vv E (zaK rfl rfl rfl rfl (zdf (by omega) (by omega))) fun a E => ?_; refine Vv E pkm fun a E => ?_; refine za9 ?_
  exact ⟨(t + 1, zgn vv (t1R gt tx vv t) (t2R vv)), ⟨E.to (by repeat (first | exact trivial | refine ⟨rfl, ?_⟩)), H.pop, ⟨by show t + 1 ≤ 64; omega, zze hM⟩⟩, by show 64 - (t + 1) < 64 - t; omega⟩
 ·skip
  clear E; intro c17 E
  obtain rfl : t = 64 := by have := c17; simp only [decide_eq_false_iff_not] at this; omega
  refine zaN E rfl ?_; refine wp_exit ?_
  repeat (first | refine za4 ?_ | refine za5 ?_ | refine zaW (by decide) ?_)
  refine hK3 _ _ ?_; refine wp_seq_k fun K12 hK12 => ?_; refine Vr ?_; refine Vv E pkm fun a E => ?_; refine Vn ?_; refine wp_block ?_
  have e0 : (fun i => u32 (zk0 h vv 0 i)) = fun i => u32 (h i) := by funext i; simp [zk0]
  rw [← e0] at H
  refine zbC (γ := Nat) [2, 4, 6] (fun n => [(98, .int .i64 (n : Int))]) (fun n => [.blk b6 (ca [.row 8 fun i => u32 (vv i)]) 146, .blk b5 (ca [.row 64 fun i => u32 (ziH tx 64 i)]) 170, .blk b4 (ca [.row 8 fun _ => .int .u32 0]) 146, .blk b2 (ca [.row 8 fun i => u32 (zk0 h vv n i)]) 146 ]) (fun n => [TxF A c tx, AtC ⟨1, 0, none⟩ [.row 64 fun i => u32 (gt i)]]) (fun n => n ≤ 8) (fun n => 8 - n) (0) E H (by repeat (first | exact trivial | refine ⟨rfl, ?_⟩)) (by omega) ?_; clear E H; intro n a w E H hφ; replace E : Env a _ [(98, _), (2, _), (4, _), (6, _)] := E; replace H : Sep _ _ _ _ [_, _, _, _] [_, _] := H; refine Vr ?_; refine Vv E pki fun a E => ?_; refine Vn ?_; refine wp_seq_k fun K15 hK15 => ?_
  refine zau (d := 99) E rfl ?_ ?_
  ·skip
   clear E; intro c99 E
   have hn : n < 8 := by have := c99; simp only [jS] at this; omega
   refine za7 E rfl ?_; refine wp_skip ?_; refine hK15 _ _ ?_; refine wp_seq_k fun K16 hK16 => ?_; refine wp_block ?_; refine Vr ?_; refine Vv E pkm fun a E => ?_; refine Vv E pka fun a E => ?_; refine Vn ?_; refine zbr E H [] 6 [(0, false), (1, false), (2, false), (3, false), (4, false), (5, false)] (by kernel_rfl) (by kernel_rfl) (fun w HS => ?_)
   (simp only [canOps, jD, jE, jF, jG])
   clear H
   have H := HS
   have hsz : w.heap.size ≤ w.heap.size := jV _
   have HK : CanB.Keep (fun k => k < w.heap.size ∧ k ∉ []) w w := CanB.Keep.refl _ _
   refine Cw E HK pkm fun a E => ?_; refine Cw E HK (zaY (i := n) rfl (by kernel_rfl) rfl rfl rfl hn) fun a E => ?_; refine Cw E HK (zaE (i := n) (off := 0) HS 3 rfl (HS.inS 3 rfl (by simp)) rfl hn rfl rfl rfl (by kernel_rfl)) fun a E => ?_; refine Cw E HK pkm fun a E => ?_; refine Cw E HK (zaY (i := n) rfl (by kernel_rfl) rfl rfl rfl hn) fun a E => ?_; refine Cw E HK (zaE (i := n) (off := 0) HS 0 rfl (HS.inS 0 rfl (by simp)) rfl hn rfl rfl rfl (by kernel_rfl)) fun a E => ?_; refine CanB.wpCan_nil ?_
   try (simp only [jH, jI, jF, jG])
   clear HS HK hsz; refine Vv E (zbO rfl rfl rfl) fun a E => ?_; refine Vv E (zaY (i := n) rfl (by kernel_rfl) rfl rfl rfl hn) fun a E => ?_; refine Ve E ?_; refine zbe (off := 0) (fun i => u32 (zk0 h vv (n + 1) i)) 3 E H rfl rfl rfl hn rfl rfl rfl rfl rfl rfl (by kernel_rfl) (fun j => by rw [zr3]; exact zmX _ _ n j) rfl ?_; clear H; intro w H F; replace H : Sep _ _ _ _ [_, _, _, _] _ := H; refine zdn rfl ?_; clear F; refine hK16 _ _ ?_; refine zaB ?_; refine Vv E (zaK rfl rfl rfl rfl (zdf (by omega) (by omega))) fun a E => ?_; refine Vv E pkm fun a E => ?_; refine za9 ?_
   exact ⟨n + 1, ⟨E.to (by repeat (first | exact trivial | refine ⟨rfl, ?_⟩)), H, by omega⟩, by omega⟩
  ·skip
   clear E; intro c99 E
   obtain rfl : n = 8 := by have := c99; simp only [decide_eq_false_iff_not] at this; omega
   refine zaN E rfl ?_; refine wp_exit ?_
   repeat (first | refine za4 ?_ | refine za5 ?_ | refine zaW (by decide) ?_)
   refine hK12 _ _ ?_; refine Vr ?_; refine Vv E (pkl 8 H 3) fun a E => ?_; refine Ws 2 E H fun w H => ?_; replace H : Sep _ _ _ _ [_, _, _, _] _ := H; refine Vn ?_; refine wp_ret ?_
   repeat (first | refine zat ?_ | refine zap ?_)
   refine zf8 rfl E (by exact zhT (n := 8) H 2 rfl rfl rfl (by kernel_rfl)) ?_
   have hB : zjK gt h tx = zk0 h vv 8 := by rw [zjK, ← hM]
   rw [hB]
   exact ⟨rfl, H.pop.pop.popL.popL.popL.popL⟩
end
section
open Go.RowKit
theorem zmy (gt : Nat → Nat) : ∀ (n : Nat) (h : Nat → Nat) (l b : List Nat), l.length ≤ n → zhr gt h (l ++ b) = zhr gt (zhr gt h l).1 ((zhr gt h l).2 ++ b)
 | 0, h, l, b, hl => by rw [zd8 (l := l) (by omega)]
 | n + 1, h, l, b, hl => by
  by_cases h1 : 64 ≤ l.length
  ·rw [zeZ (l := l ++ b) (by rw [jQ]; omega), zeZ h1, List.take_append_of_le_length h1, List.drop_append_of_le_length h1]
   exact zmy gt n _ _ _ (by rw [List.length_drop]; omega)
  ·rw [zd8 h1]
theorem zjM (gt : Nat → Nat) : ∀ (ps : List (List Nat)) (h : Nat → Nat) (n : Nat) (r : List Nat), r.length < 64 → ps.foldl (zr4 gt) (h, n, r) = ((zhr gt h (r ++ ps.flatten)).1, n + ps.flatten.length, (zhr gt h (r ++ ps.flatten)).2)
 | [], h, n, r, hr => by
  rw [List.foldl_nil, List.flatten_nil, List.append_nil, zd8 (by omega)]; rfl
 | p :: ps, h, n, r, hr => by
  rw [List.foldl_cons]
  have e : zr4 gt (h, n, r) p = ((zhr gt h (r ++ p)).1, n + p.length, (zhr gt h (r ++ p)).2) := rfl
  rw [e, zjM gt ps _ _ _ (zk2 gt _ _ _ (jV _)), ← zmy gt _ _ _ _ (jV _), List.flatten_cons, List.append_assoc, jQ, Nat.add_assoc]
theorem zjN (gt : Nat → Nat) (ps : List (List Nat)) : zhs gt ps = zdC (zhr gt iv0 (ps.flatten ++ zcs ps.flatten.length)).1 8 := by
 have h := zjM gt ps iv0 0 [] (by show 0 < 64; decide)
 rw [List.nil_append, Nat.zero_add] at h
 rw [zhs, zA6, zg1, h, ← zmy gt _ _ _ _ (jV _)]
theorem zAY (m : Nat) : zqM m 8 = beL 8 m := rfl
theorem zzg (x : Nat) : zi4 x = beL 4 x := by
 show [x / 2 ^ (min 24 32) % 256, x / 2 ^ (min 16 32) % 256, x / 2 ^ (min 8 32) % 256, x % 256] = [x / 2 ^ (8 * (4 - 1 - 0)) % 256, x / 2 ^ (8 * (4 - 1 - 1)) % 256, x / 2 ^ (8 * (4 - 1 - 2)) % 256, x / 2 ^ (8 * (4 - 1 - 3)) % 256]
 simp
theorem zv9 (n : Nat) : (n + (zcs n).length) % 64 = 0 := by
 unfold zcs
 rw [jQ, zeF, zg2]
 omega
theorem zkD (n : Nat) : ∀ x ∈ zcs n, x < 256 := fun x hx => by
 rcases List.mem_append.1 hx with h | h
 ·exact zmZ n x h
 ·exact zm0 _ _ x h
theorem znS (n : Nat) : (zcs n).length ≤ 72 := by unfold zcs; rw [jQ, zg2, zeF]; omega
theorem zAZ (h v : Nat → Nat) (n i : Nat) (hi : i < n) : zk0 h v n i < 4294967296 := by
 unfold zk0
 rw [if_pos hi]
 exact Nat.mod_lt _ (by decide)
theorem zA0 : ∀ i, i < 8 → iv0 i < 4294967296 := by decide
theorem zhJ {ps : List (List Nat)} {i : Nat} {p : List Nat} (h : ps[i]? = some p) : (ps.take (i + 1)).flatten = (ps.take i).flatten ++ p := by
 rw [List.take_add_one, h, List.flatten_append]; simp
theorem zzh (ps : List (List Nat)) (i : Nat) : (ps.take i).flatten.length ≤ ps.flatten.length := by
 have h := congrArg (fun l => l.flatten.length) (List.take_append_drop i ps)
 simp only [List.flatten_append, jQ] at h
 omega
theorem zzi (l : List Nat) : ca [.row 32 fun j => bv (l.getD j 0)] = ca [.key l] := rfl
theorem zt1 (l : List Nat) (z j : Nat) : upd (fun j => bv (l.getD j 0)) l.length (bv z) j = bv ((l ++ [z]).getD j 0) := by
 unfold upd
 by_cases h : j = l.length
 ·subst h; simp
 ·rw [if_neg h]
  show bv (l.getD j 0) = bv ((l ++ [z]).getD j 0)
  rw [jR, jR]
  by_cases h2 : j < l.length
  ·rw [List.getElem?_append_left h2]
  ·rw [List.getElem?_eq_none (by omega), List.getElem?_eq_none (by rw [jQ, List.length_singleton]; omega)]
theorem zt2 (gt h : Nat → Nat) (k : List Nat) : ∀ i, i < 8 → zcY gt h k i < 4294967296 := fun i hi => by
 unfold zcY; exact zAZ _ _ 8 i hi
theorem zzj {l : List Nat} (h : ∀ x ∈ l, x < 256) : ∀ i, l.getD i 0 < 256 := fun i => by
 rw [jR]
 cases hq : l[i]? with
 | none => simp
 | some z => exact h z (List.mem_of_getElem? hq)
attribute [local irreducible] zdg zdM zfE orW zjU ziT ztW ztV zgJ zcY zjK beL
section
variable {X : List Nat} {w0 w : World} {A : Option Addr} {c : Nat} {k : List Nat} {Y : List Nat}
theorem zzk {lo hi : Nat} (h : St (TxF A c k) w Y) (hlo : lo ≤ hi) (hhi : hi ≤ k.length) : ∃ A' c', zib A 1 lo hi c = .slice A' ((k.drop lo).take (hi - lo)).length c' ∧ St (TxF A' c' ((k.drop lo).take (hi - lo))) w Y := by
 obtain ⟨A', c', h1, h2⟩ := zeE (lo := lo) h (by omega)
 refine ⟨A', c', ?_, zdN h2 (by rw [List.length_drop]; omega)⟩
 unfold zib at h1 ⊢
 injection h1 with e1 e2 e3
 rw [e1, e3, List.length_take, List.length_drop, Nat.min_eq_left (by omega)]
theorem zzm {P : Program} {S : Nat → Prop} {ws : World} {l : List (Nat × Value)} {o : Oper} {t u : TypeId} {x y : Operand} {m n : Nat} (ho : o.op = .binOp .rem t x y u) (hx : ev l x = some (.int .i64 ((m : Nat) : Int))) (hy : ev l y = some (.int .i64 ((n : Nat) : Int))) (hn : n ≠ 0) : PK P S ws l o (.int .i64 ((m % n : Nat) : Int)) := by
 have h := zwJ (S := S) (ws := ws) (P := P) ho hx hy (by omega)
 rwa [← Int.ofNat_tmod] at h
theorem ziI (W n : Nat) (hW : W ≤ 8) (hn : n < 18446744073709551616) (hX : ∀ k ∈ X, k < w0.heap.size) :
  Calls Tryz.prog 63 #[.int .i64 W, .int .u64 n] w0 fun e w' => ∃ A' c', e = .returned (.slice A' (beL W n).length c') ∧ Sep X [] w0 w' [] [TxF A' c' (beL W n)] := by
 refine (zm5 W n hW hn w0).mono ?_
 rintro e w' ⟨v, rfl, ho, hb⟩
 obtain ⟨A', c', rfl, h1⟩ := zfg hX ho hb
 exact ⟨A', c', rfl, h1.rowTx (Sep.new_x h1) (by rw [zfj]; omega) (zmS _ _)⟩
theorem zjO (hX : ∀ k ∈ X, k < w0.heap.size) (h : St (TxF A c k) w0 X) :
  Calls Tryz.prog 40 #[.slice A k.length c] w0 fun e w' => ∃ A' c', e = .returned (.slice A' k.length c') ∧ Sep X [] w0 w' [.row (.slice A' k.length c') 5 1 k.length (k.map bv)] [] := by
 have hn := h.now
 refine (zuT A k.length c k w0 hn.txt hn.len).mono ?_
 rintro e w' ⟨v, rfl, ho, hb⟩
 obtain ⟨A', c', rfl, h1⟩ := zfg hX ho hb
 exact ⟨A', c', rfl, h1⟩
end
theorem zfu {PA : Option Addr} {pc : Nat} {ps : List (List Nat)} {pm : Nat → zav.μ} (hfl : ps.flatten.length ≤ 1000000000000) {X : List Nat} {w0 : World} (hX : ∀ k ∈ X, k < w0.heap.size) (hL : St (LiF zav PA pc ps pm) w0 X) :
  Calls Tryz.prog 88 #[.slice PA ps.length pc] w0 fun e w' => ∃ A' c', e = .returned (.slice A' ps.flatten.length c') ∧ Sep X [] w0 w' [] [TxF A' c' ps.flatten] := by
 have hpsl := hL.now.big
 refine zaz Tryz.ntmps88 Tryz.func88 rfl rfl fun a E => ?_
 replace E : Env a _ [(0, _)] := E
 have H : Sep X [] w0 w0 [] [(LiF zav PA pc ps pm)] := Sep.start hX (jJ.2 ⟨hL, fun _ h => by cases h⟩)
 refine Vr ?_
 refine Vv E pka fun a E => ?_
 refine Vn ?_
 refine Vr ?_
 refine Vv E pka fun a E => ?_
 refine Vn ?_
 refine wp_seq_k fun K2 hK2 => ?_
 refine Vr ?_
 refine Vv E pkm fun a E => ?_
 refine Vv E pkn fun a E => ?_
 refine Vv E pkm fun a E => ?_
 refine Vn ?_
 refine wp_block ?_
 refine zbC (γ := Nat × Option Addr × Nat) [6, 7] (fun g => [(3, .slice g.2.1 (ps.take g.1).flatten.length g.2.2), (8, .int .i64 (g.1 : Int))]) (fun g => [.row (.slice g.2.1 (ps.take g.1).flatten.length g.2.2) 5 1 (ps.take g.1).flatten.length ((ps.take g.1).flatten.map bv)]) (fun g => [LiF zav PA pc ps pm]) (fun g => g.1 ≤ ps.length ∧ ∀ x ∈ (ps.take g.1).flatten, x < 256) (fun g => ps.length - g.1) ((0, none, 0)) E (H.rownil _ _) (by repeat (first | exact trivial | refine ⟨rfl, ?_⟩)) (⟨Nat.zero_le _, fun x hx => by cases hx⟩) ?_
 clear E H
 intro g a w E H hφ
 replace E : Env a _ [(3, _), (8, _), (6, _), (7, _)] := E
 replace H : Sep _ _ _ _ [_] [_] := H
 obtain ⟨i, Ag, cg⟩ := g
 simp only at E H hφ ⊢
 obtain ⟨hi, hib⟩ := hφ
 refine Vr ?_
 refine Vv E pki fun a E => ?_
 refine Vn ?_
 refine wp_seq_k fun K5 hK5 => ?_
 refine zau (d := 9) E rfl ?_ ?_
 ·skip
  clear E
  intro c9 E
  have hik : i < ps.length := by have := c9; simp only [jS] at this; omega
  have hx0 : ps[i]? = some ps[i] := jP hik
  have hle := zzh ps (i + 1)
  rw [zhJ hx0, jQ] at hle
  refine za7 E rfl ?_
  refine wp_skip ?_
  refine hK5 _ _ ?_
  refine wp_seq_k fun K6 hK6 => ?_
  refine wp_block ?_
  refine Vr ?_
  obtain ⟨ad10, hA10, hc10, hn10⟩ := LiF.get (A := PA) (T := zav) (i := i) (x := ps[i]) (by exact H.fact 0 rfl) hx0
  refine Vv E (zb7 (sz := 1) hA10 rfl (by kernel_rfl) rfl rfl rfl (by omega)) fun a E => ?_
  replace H := (H.know hn10).know hc10
  clear hn10 hc10
  replace H : Sep _ _ _ _ _ [_, _, _] := H
  first | (refine zgV E (pko H 0) rfl rfl rfl ?_; trace "@@zfu:0:0") | (refine zgV E (ziR (H.fact 0 rfl) (fun _ _ _ => trivial) rfl rfl rfl (by kernel_rfl)) rfl rfl rfl ?_; trace "@@zfu:0:1") | (refine zgV E (ziR (H.fact 1 rfl) (fun _ _ _ => trivial) rfl rfl rfl (by kernel_rfl)) rfl rfl rfl ?_; trace "@@zfu:0:2") | (refine zgV E (ziR (H.fact 2 rfl) (fun _ _ _ => trivial) rfl rfl rfl (by kernel_rfl)) rfl rfl rfl ?_; trace "@@zfu:0:3") | (refine zgV E (zcB (H.fact 0 rfl) (fun _ _ _ => trivial) rfl rfl rfl (by kernel_rfl)) rfl rfl rfl ?_; trace "@@zfu:0:4") | (refine zgV E (zcB (H.fact 1 rfl) (fun _ _ _ => trivial) rfl rfl rfl (by kernel_rfl)) rfl rfl rfl ?_; trace "@@zfu:0:5") | (refine zgV E (zcB (H.fact 2 rfl) (fun _ _ _ => trivial) rfl rfl rfl (by kernel_rfl)) rfl rfl rfl ?_; trace "@@zfu:0:6")
  clear E a
  intro a E
  refine Vv E pka fun a E => ?_
  refine Vn ?_
  refine zaB ?_
  refine Vv E pkm fun a E => ?_
  refine Vv E pkm fun a E => ?_
  refine Ve E ?_
  refine zdO (k := (ps.take i).flatten) (m := ps[i]) 0 E H (H.fact 1 rfl) rfl rfl rfl rfl ⟨Tryz.underlying24, by kernel_rfl⟩ (by omega) ?_
  clear H
  intro A14 c14 w H F
  replace H : Sep _ _ _ _ [_] _ := H
  refine Vp E fun a E => ?_
  clear F
  refine Vv E pka fun a E => ?_
  refine hK6 _ _ ?_
  refine zaB ?_
  refine Vv E (zaK rfl rfl rfl rfl (zdf (by omega) (by omega))) fun a E => ?_
  refine Vv E pkm fun a E => ?_
  have hpb : ∀ x ∈ ps[i], x < 256 := (St.now (H.fact 1 rfl : St (TxF (pm i).1 (pm i).2 ps[i]) w _)).byt
  rw [← zhJ hx0] at E H
  refine za9 ?_
  exact ⟨(i + 1, A14, c14), ⟨E.to (by repeat (first | exact trivial | refine ⟨rfl, ?_⟩)), H.pop.pop, ⟨by show i + 1 ≤ ps.length; omega, fun x hx => by rw [zhJ hx0] at hx; rcases List.mem_append.1 hx with h1 | h1; exact hib x h1; exact hpb x h1⟩⟩, by show ps.length - (i + 1) < ps.length - i; omega⟩
 ·skip
  clear E
  intro c9 E
  obtain rfl : i = ps.length := by have := c9; simp only [decide_eq_false_iff_not] at this; omega
  rw [List.take_length] at E H hib
  refine zaN E rfl ?_
  refine wp_exit ?_
  repeat (first | refine za4 ?_ | refine za5 ?_ | refine zaW (by decide) ?_)
  refine hK2 _ _ ?_
  refine Vr ?_
  refine Vv E pkm fun a E => ?_
  refine Vv E pka fun a E => ?_
  refine Vn ?_
  refine wp_ret ?_
  repeat (first | refine zat ?_ | refine zap ?_)
  refine zf8 rfl E (zbT rfl) ?_
  have hT := H.rowTx (Sep.new_x H) (by omega) hib
  exact ⟨Ag, cg, rfl, hT.refacts (jJ.2 ⟨hT.fact 0 rfl, jK _⟩)⟩
theorem zrj {A : Option Addr} {c : Nat} {k : List Nat} (hkl : k.length ≤ 1000000000000) {X : List Nat} {w0 : World} (hX : ∀ k ∈ X, k < w0.heap.size) (hk : St (TxF A c k) w0 X) :
  Calls Tryz.prog 113 #[.slice A k.length c] w0 fun e w' => ∃ A' c', e = .returned (.slice A' (k ++ zcs k.length).length c') ∧ Sep X [] w0 w' [] [TxF A' c' (k ++ zcs k.length)] := by
 refine zaz Tryz.ntmps113 Tryz.func113 rfl rfl fun a E => ?_; replace E : Env a _ [(0, _)] := E
 have H : Sep X [] w0 w0 [] [(TxF A c k)] := Sep.start hX (jJ.2 ⟨hk, fun _ h => by cases h⟩)
 refine Vr ?_; refine Vv E pka fun a E => ?_; refine Vn ?_; refine Vr ?_; refine Vv E pkm fun a E => ?_; refine Ve E ?_; refine Vc E ?_; refine (zjO H.xk (H.fact 0 rfl)).mono ?_; rintro e w ⟨A5, c5, rfl, H1⟩
 replace H := H.call H1
 clear H1; replace H : Sep _ _ _ _ [_] [_] := H; refine Vp E fun a E => ?_; refine Ve E ?_; refine zaP (sz := 1) (z := [.one (.int .u8 0)]) E H rfl Tryz.underlying24 (by kernel_rfl) (by decide) (by kernel_rfl) ⟨_, [.one _], 0, _, rfl, rfl, rfl, rfl, rfl⟩ ?_; clear H; intro b6 w H _; refine Vp E fun a E => ?_; refine Ve E ?_; refine zk3 (k := k) (z := 128) 1 0 E H rfl rfl rfl rfl rfl ⟨Tryz.underlying24, by kernel_rfl⟩ (by omega) ?_; clear H; intro A7 c7 w H F; replace H : Sep _ _ _ _ [_, _] _ := H; refine Vp E fun a E => ?_; clear F; refine Vv E pka fun a E => ?_; refine Vn ?_; refine wp_seq_k fun K2 hK2 => ?_
 refine wp_block ?_; refine zbC (γ := Nat × Option Addr × Nat) [0] (fun g => [(3, .slice g.2.1 (k ++ 128 :: List.replicate g.1 0).length g.2.2)]) (fun g => [.row (.slice g.2.1 (k ++ 128 :: List.replicate g.1 0).length g.2.2) 5 1 (k ++ 128 :: List.replicate g.1 0).length ((k ++ 128 :: List.replicate g.1 0).map bv)]) (fun g => [TxF A c k]) (fun g => g.1 ≤ 63 - (k.length + 8) % 64) (fun g => 64 - g.1) ((0, A7, c7)) E H.popL (by repeat (first | exact trivial | refine ⟨rfl, ?_⟩)) (Nat.zero_le _) ?_; clear E H; intro g a w E H hφ; replace E : Env a _ [(3, _), (0, _)] := E; replace H : Sep _ _ _ _ [_] [_] := H
 obtain ⟨j, Ag, cg⟩ := g
 simp only at E H hφ ⊢
 have hjl : (k ++ 128 :: List.replicate j 0).length = k.length + 1 + j := by rw [jQ, List.length_cons, List.length_replicate]; omega
 refine wp_seq_k fun K3 hK3 => ?_; refine Vr ?_; refine Vv E pkm fun a E => ?_; refine Vv E pkn fun a E => ?_; refine Vv E (zzm (n := 64) rfl rfl rfl (by decide)) fun a E => ?_; refine Vv E pki fun a E => ?_; refine Vn ?_; refine zau (d := 11) E rfl ?_ ?_
 ·skip
  clear E; intro c11 E
  have hne : k.length + 1 + j - (k.length + 1 + j) / 64 * 64 ≠ 56 := by
   have h := c11
   rw [bne_iff_ne, hjl] at h
   omega
  refine za7 E rfl ?_; refine wp_skip ?_; refine hK3 _ _ ?_; refine wp_block ?_; refine zaB ?_; refine Vv E pkm fun a E => ?_; refine Ve E ?_; refine zaP (sz := 1) (z := [.one (.int .u8 0)]) E H rfl Tryz.underlying24 (by kernel_rfl) (by decide) (by kernel_rfl) ⟨_, [.one _], 0, _, rfl, rfl, rfl, rfl, rfl⟩ ?_; clear H; intro b13 w H _; refine Vp E fun a E => ?_; refine Ve E ?_; refine zk3 (k := (k ++ 128 :: List.replicate j 0)) (z := 0) 1 0 E H rfl rfl rfl rfl rfl ⟨Tryz.underlying24, by kernel_rfl⟩ (by omega) ?_; clear H; intro A14 c14 w H F; replace H : Sep _ _ _ _ [_, _] _ := H; refine Vp E fun a E => ?_; clear F
  refine Vv E pka fun a E => ?_
  rw [show (k ++ 128 :: List.replicate j 0) ++ [0] = (k ++ 128 :: List.replicate (j + 1) 0) from by rw [List.replicate_succ', List.append_assoc]; rfl] at E H
  refine zhw (za9 ?_)
  exact ⟨(j + 1, A14, c14), ⟨E.to (by repeat (first | exact trivial | refine ⟨rfl, ?_⟩)), H.popL, by show j + 1 ≤ 63 - (k.length + 8) % 64; omega⟩, by show 64 - (j + 1) < 64 - j; omega⟩
 ·skip
  clear E; intro c11 E
  have heq : (k.length + 1 + j) % 64 = 56 := by
   have h := c11
   rw [bne_eq_false_iff_eq, hjl] at h
   omega
  obtain rfl : j = 63 - (k.length + 8) % 64 := by omega
  refine zaN E rfl ?_; refine wp_exit ?_
  repeat (first | refine za4 ?_ | refine za5 ?_ | refine zaW (by decide) ?_)
  refine hK2 _ _ ?_; refine Vr ?_; refine Vv E pkm fun a E => ?_; refine Vv E pkm fun a E => ?_; refine Vv E pkn fun a E => ?_; refine Vv E (zd7 rfl rfl (by kernel_rfl) (by kernel_rfl) (zrS (by omega) (by omega))) fun a E => ?_; refine Vv E (zaK rfl rfl rfl rfl (zrS (by omega) (by omega))) fun a E => ?_
  rw [show (8 : Int) * ((k.length : Nat) : Int) = ((8 * k.length : Nat) : Int) from by omega] at E
  refine Ve E ?_; refine Vc E ?_; refine (ziI 8 (8 * k.length) (by decide) (by omega) H.xk).mono ?_; rintro e w ⟨A20, c20, rfl, H1⟩
  replace H := H.call H1
  clear H1; replace H : Sep _ _ _ _ [_] [_, _] := H; refine Vp E fun a E => ?_; refine Ve E ?_; refine zdO (k := (k ++ 128 :: List.replicate (63 - (k.length + 8) % 64) 0)) (m := beL 8 (8 * k.length)) 0 E H (H.fact 0 rfl) rfl rfl rfl rfl ⟨Tryz.underlying24, by kernel_rfl⟩ (by rw [hjl, zfj]; omega) ?_; clear H; intro A21 c21 w H F; replace H : Sep _ _ _ _ [_] _ := H; refine Vp E fun a E => ?_; clear F; refine Vv E pka fun a E => ?_; refine Vn ?_; refine wp_ret ?_
  repeat (first | refine zat ?_ | refine zap ?_)
  refine zf8 rfl E (zbT rfl) ?_
  have et : (k ++ 128 :: List.replicate (63 - (k.length + 8) % 64) 0) ++ beL 8 (8 * k.length) = k ++ zcs k.length := by
   rw [zcs, zn7, zAY, show k.length * 2 ^ 3 % 18446744073709551616 = 8 * k.length from by omega, List.append_assoc]
  rw [et] at H
  have hT := H.rowTx (Sep.new_x H) (by have := znS k.length; rw [jQ]; omega) (fun x hx => by rcases List.mem_append.1 hx with h1 | h1; exact hk.now.byt x h1; exact zkD _ x h1)
  exact ⟨A21, c21, by rw [et], hT.refacts (jJ.2 ⟨hT.fact 0 rfl, jK _⟩)⟩
theorem zrk  {X : List Nat} {w0 : World} (hX : ∀ k ∈ X, k < w0.heap.size) :
  Calls Tryz.prog 114 #[] w0 fun e w' => e = .returned (.agg (ca [.row 8 (fun i => u32 (iv0 i))])) ∧ Sep X [] w0 w' [] [] := by
 refine zaz Tryz.ntmps114 Tryz.func114 rfl rfl fun a E => ?_; replace E : Env a _ [] := E
 have H : Sep X [] w0 w0 [] [] := Sep.start hX (fun _ h => by cases h)
 refine Vr ?_; refine Wa (z := [.row 8 fun _ => .int .u32 0]) E H fun b0 w a H E => ?_; refine Vn ?_; refine Vr ?_
 refine Vv E (zg0 (n := 8) (z := [.one (.int .u32 0), .one (.int .u32 0), .one (.int .u32 0), .one (.int .u32 0), .one (.int .u32 0), .one (.int .u32 0), .one (.int .u32 0), .one (.int .u32 0)]) (f := fun i => u32 (iv0 i)) rfl (by kernel_rfl) (by kernel_rfl) (⟨_, [.one _], 0, _, rfl, rfl, rfl, rfl, ⟨_, [.one _], 1, _, rfl, rfl, rfl, rfl, ⟨_, [.one _], 2, _, rfl, rfl, rfl, rfl, ⟨_, [.one _], 3, _, rfl, rfl, rfl, rfl, ⟨_, [.one _], 4, _, rfl, rfl, rfl, rfl, ⟨_, [.one _], 5, _, rfl, rfl, rfl, rfl, ⟨_, [.one _], 6, _, rfl, rfl, rfl, rfl, ⟨_, [.one _], 7, _, rfl, rfl, rfl, rfl, rfl⟩⟩⟩⟩⟩⟩⟩⟩) rfl) fun a E => ?_; refine Ws 0 E H fun w H => ?_; replace H : Sep _ _ _ _ [_] _ := H; refine Vn ?_; refine wp_ret ?_
 repeat (first | refine zat ?_ | refine zap ?_)
 refine zf8 rfl E (by exact zhT (n := 8) H 0 rfl rfl rfl (by kernel_rfl)) ?_
 exact ⟨rfl, H.popL⟩
theorem zwa {h : Nat → Nat} (hh : ∀ i, i < 8 → h i < 4294967296) {X : List Nat} {w0 : World} (hX : ∀ k ∈ X, k < w0.heap.size) :
  Calls Tryz.prog 116 #[.agg (ca [.row 8 fun i => u32 (h i)])] w0 fun e w' => e = .returned (.agg (ca [.key (zdC h 8)])) ∧ Sep X [] w0 w' [] [] := by
 refine zaz Tryz.ntmps116 Tryz.func116 rfl rfl fun a E => ?_; replace E : Env a _ [(0, _)] := E
 have H : Sep X [] w0 w0 [] [] := Sep.start hX (fun _ h => by cases h)
 refine Vr ?_; refine Wb E H fun b1 w a H E => ?_; refine Wa (z := [.key []]) E H fun b2 w a H E => ?_; refine Vn ?_; refine Vr ?_; refine Wa (z := [.key []]) E H fun b3 w a H E => ?_; refine Vn ?_; refine wp_seq_k fun K2 hK2 => ?_; refine Vr ?_
 refine Vv E (pkl 8 H 2) fun a E => ?_; refine Vv E pkm fun a E => ?_; refine Vn ?_; refine wp_block ?_; refine zbC (γ := Nat) [2, 3, 8] (fun i => [(9, .int .i64 (i : Int))]) (fun i => [.blk b3 (ca [.row 32 fun j => bv ((zdC h i).getD j 0)]) 23, .blk b2 (ca [.key []]) 23, .blk b1 (ca [.row 8 fun i => u32 (h i)]) 146 ]) (fun i => []) (fun i => i ≤ 8) (fun i => 8 - i) (0) E H (by repeat (first | exact trivial | refine ⟨rfl, ?_⟩)) (by omega) ?_; clear E H; intro i a w E H hφ; replace E : Env a _ [(9, _), (2, _), (3, _), (8, _)] := E; replace H : Sep _ _ _ _ [_, _, _] [] := H; refine Vr ?_; refine Vv E pki fun a E => ?_; refine Vn ?_
 refine wp_seq_k fun K5 hK5 => ?_; refine zau (d := 10) E rfl ?_ ?_
 ·skip
  clear E; intro c10 E
  have hi8 : i < 8 := by have := c10; simp only [jS] at this; omega
  have hhi := hh i hi8
  have hbl : (beL 4 (h i)).length = 4 := zfj 4 _
  have hwl : (zdC h i).length = 4 * i := zf9 h i
  refine za7 E rfl ?_; refine wp_skip ?_; refine hK5 _ _ ?_; refine wp_seq_k fun K6 hK6 => ?_; refine wp_block ?_; refine Vr ?_; refine Vv E pkm fun a E => ?_; refine Vv E (ziq (i := i) rfl (by kernel_rfl) rfl rfl rfl hi8) fun a E => ?_; refine Vv E pka fun a E => ?_; refine Vv E pka fun a E => ?_; refine Vn ?_; refine Vr ?_; refine Vv E pkm fun a E => ?_; refine Vv E (zd7 rfl rfl (by kernel_rfl) (by kernel_rfl) (zrS (by omega) (by omega))) fun a E => ?_; refine Ve E ?_; refine Vc E ?_
  refine (ziI 4 (h i) (by decide) (by omega) H.xk).mono ?_; rintro e w ⟨A15, c15, rfl, H1⟩
  replace H := H.call H1
  clear H1; replace H : Sep _ _ _ _ [_, _, _] [_] := H; refine Vp E fun a E => ?_; refine Vv E pkn fun a E => ?_; refine Vv E pkm fun a E => ?_; refine Vn ?_; refine wp_block ?_; refine zbC (γ := Nat) [2, 3, 4, 8, 9, 15, 16] (fun m => [(17, .int .i64 (m : Int))]) (fun m => [.blk b3 (ca [.row 32 fun j => bv ((zdC h i ++ (beL 4 (h i)).take m).getD j 0)]) 23, .blk b2 (ca [.key []]) 23, .blk b1 (ca [.row 8 fun i => u32 (h i)]) 146 ]) (fun m => [TxF A15 c15 (beL 4 (h i))]) (fun m => m ≤ 4) (fun m => 4 - m) (0) E (by rw [jI, List.append_nil]; exact H) (by repeat (first | exact trivial | refine ⟨rfl, ?_⟩)) (by omega) ?_; clear E H; intro m a w E H hφ
  replace E : Env a _ [(17, _), (2, _), (3, _), (4, _), (8, _), (9, _), (15, _), (16, _)] := E; replace H : Sep _ _ _ _ [_, _, _] [_] := H; refine Vr ?_; refine Vv E pki fun a E => ?_; refine Vn ?_; refine wp_seq_k fun K10 hK10 => ?_; refine zau (d := 18) E rfl ?_ ?_
  ·skip
   clear E; intro c18 E
   have hm4 : m < 4 := by have := c18; simp only [jS] at this; omega
   obtain ⟨z, hz⟩ : ∃ z, (beL 4 (h i))[m]? = some z := ⟨_, jP (by omega)⟩
   have hlm : (zdC h i ++ (beL 4 (h i)).take m).length = 4 * i + m := by rw [jQ, hwl, List.length_take]; omega
   refine za7 E rfl ?_; refine wp_skip ?_; refine hK10 _ _ ?_; refine wp_seq_k fun K11 hK11 => ?_; refine wp_block ?_; refine Vr ?_; refine Vv E pkm fun a E => ?_
   obtain ⟨ad, hA⟩ : ∃ ad, A15 = some ad := by
    cases hq : A15 with
    | some ad => exact ⟨ad, rfl⟩
    | none => have := ((St.now (H.fact 0 rfl)).nil hq).1; omega
   refine Vv E (zb7 (sz := 1) (i := m) hA rfl (by kernel_rfl) rfl rfl rfl (by omega)) fun a E => ?_; refine Vv E (zc6 (H.fact 0 rfl) (fun _ _ _ => trivial) hA rfl rfl hz (by kernel_rfl)) fun a E => ?_; refine Vv E pka fun a E => ?_; refine Vv E pka fun a E => ?_; refine Vn ?_; refine zaB ?_; refine Vv E pkm fun a E => ?_; refine Vv E (zaK rfl rfl rfl rfl (zdf (by omega) (by omega))) fun a E => ?_; refine Vv E pkm fun a E => ?_; refine Vv E (zaK rfl rfl rfl rfl (zdf (by omega) (by omega))) fun a E => ?_; refine Vv E pkm fun a E => ?_
   refine Vv E (zaY (M := 32) (i := 4 * i + m) rfl (by kernel_rfl) rfl rfl (by omega) (by omega)) fun a E => ?_; refine Ve E ?_; refine zbe (off := 0) (fun j => bv ((zdC h i ++ (beL 4 (h i)).take (m + 1)).getD j 0)) 0 E H rfl rfl rfl (show 4 * i + m < 32 by omega) rfl rfl rfl rfl rfl rfl (by kernel_rfl) (fun j => by rw [← hlm, zt1, List.append_assoc, List.take_add_one, hz]; rfl) rfl ?_; clear H; intro w H F; replace H : Sep _ _ _ _ [_, _, _] _ := H; refine zdn rfl ?_; clear F; refine hK11 _ _ ?_; refine zaB ?_; refine Vv E (zaK rfl rfl rfl rfl (zdf (by omega) (by omega))) fun a E => ?_; refine Vv E pkm fun a E => ?_; refine za9 ?_
   exact ⟨m + 1, ⟨E.to (by repeat (first | exact trivial | refine ⟨rfl, ?_⟩)), H, by omega⟩, by omega⟩
  ·skip
   clear E; intro c18 E
   obtain rfl : m = 4 := by have := c18; simp only [decide_eq_false_iff_not] at this; omega
   rw [show zdC h i ++ (beL 4 (h i)).take 4 = zdC h (i + 1) from by rw [List.take_of_length_le (by omega), ← zzg, zgB]] at H
   refine zaN E rfl ?_; refine wp_exit ?_
   repeat (first | refine za4 ?_ | refine za5 ?_ | refine zaW (by decide) ?_)
   refine hK6 _ _ ?_; refine zaB ?_; refine Vv E (zaK rfl rfl rfl rfl (zdf (by omega) (by omega))) fun a E => ?_; refine Vv E pkm fun a E => ?_; refine za9 ?_
   exact ⟨i + 1, ⟨E.to (by repeat (first | exact trivial | refine ⟨rfl, ?_⟩)), H.pop, by omega⟩, by omega⟩
 ·skip
  clear E; intro c10 E
  obtain rfl : i = 8 := by have := c10; simp only [decide_eq_false_iff_not] at this; omega
  refine zaN E rfl ?_; refine wp_exit ?_
  repeat (first | refine za4 ?_ | refine za5 ?_ | refine zaW (by decide) ?_)
  refine hK2 _ _ ?_; refine wp_seq_k fun K13 hK13 => ?_
  rw [zzi] at H
  refine zaB ?_; refine Vv E (pkl 32 H 0) fun a E => ?_; refine Ws 1 E H fun w H => ?_; replace H : Sep _ _ _ _ [_, _, _] _ := H; refine hK13 _ _ ?_; refine wp_ret ?_
  repeat (first | refine zat ?_ | refine zap ?_)
  refine zf8 rfl E (by exact zhT (n := 32) H 1 rfl rfl rfl (by kernel_rfl)) ?_
  exact ⟨rfl, H.popL.popL.popL⟩
theorem zbB {PA : Option Addr} {pc : Nat} {ps : List (List Nat)} {pm : Nat → zav.μ} {gt : Nat → Nat} (hfl : ps.flatten.length ≤ 100000000000) {X : List Nat} {w0 : World} (hX : ∀ k ∈ X, k < w0.heap.size) (hL : St (LiF zav PA pc ps pm) w0 X) (hG : St (AtC ⟨1, 0, none⟩ [.row 64 fun i => u32 (gt i)]) w0 X) :
  Calls Tryz.prog 86 #[.slice PA ps.length pc] w0 fun e w' => e = .returned (.agg (ca [.key (zhs gt ps)])) ∧ Sep X [] w0 w' [] [] := by
 have htl := znS ps.flatten.length
 have htm := zv9 ps.flatten.length
 have htb : ∀ x ∈ (ps.flatten ++ zcs ps.flatten.length), x < 256 := fun x hx => by
  rcases List.mem_append.1 hx with h1 | h1
  ·obtain ⟨p, hp, hx⟩ := List.mem_flatten.1 h1
   obtain ⟨q, hq⟩ := List.mem_iff_getElem?.1 hp
   obtain ⟨_, _, _, h3⟩ := LiF.get hL hq
   exact (St.now h3 : TxF _ _ _ _).byt x hx
  ·exact zkD _ x h1
 have hPl : (ps.flatten ++ zcs ps.flatten.length).length = ps.flatten.length + (zcs ps.flatten.length).length := jQ ..
 refine zaz Tryz.ntmps86 Tryz.func86 rfl rfl fun a E => ?_
 replace E : Env a _ [(0, _)] := E
 have H : Sep X [] w0 w0 [] [(LiF zav PA pc ps pm), (AtC ⟨1, 0, none⟩ [.row 64 fun i => u32 (gt i)])] := Sep.start hX (jJ.2 ⟨hL, jJ.2 ⟨hG, fun _ h => by cases h⟩⟩)
 refine Vr ?_
 refine Wa (z := [.key []]) E H fun b2 w a H E => ?_
 refine Vn ?_
 refine Vr ?_
 refine Vv E pkm fun a E => ?_
 refine Ve E ?_
 refine Vc E ?_
 refine (zfu (by omega) H.xk (H.fact 0 rfl)).mono ?_
 rintro e w ⟨A7, c7, rfl, H1⟩
 replace H := H.call H1
 clear H1
 replace H : Sep _ _ _ _ [_] [_, _, _] := H
 refine Vp E fun a E => ?_
 refine Ve E ?_
 refine Vc E ?_
 refine (zrj (k := ps.flatten) (by omega) H.xk (H.fact 0 rfl)).mono ?_
 rintro e w ⟨A8, c8, rfl, H1⟩
 replace H := H.call H1
 clear H1
 replace H : Sep _ _ _ _ [_] [_, _, _, _] := H
 refine Vp E fun a E => ?_
 refine Vv E pka fun a E => ?_
 refine Vn ?_
 refine Vr ?_
 refine Ve E ?_
 refine Vc E ?_
 refine (zrk H.xk).mono ?_
 rintro e w ⟨rfl, H1⟩
 replace H := H.call H1
 clear H1
 replace H : Sep _ _ _ _ [_] [_, _, _, _] := H
 refine Vp E fun a E => ?_
 refine Wa (z := [.row 8 fun _ => .int .u32 0]) E H fun b4 w a H E => ?_
 refine Ve E ?_
 first | (refine Vs 0 E H ?_; trace "@@zbB:0:0") | (refine Vs 1 E H ?_; trace "@@zbB:0:1")
 clear H
 intro w H _
 replace H : Sep _ _ _ _ [_, _] _ := H
 refine zdn rfl ?_
 refine Vn ?_
 refine wp_seq_k fun K3 hK3 => ?_
 refine Vr ?_
 refine Vv E pka fun a E => ?_
 refine Vn ?_
 refine wp_block ?_
 refine zbC (γ := Nat × (Nat → Nat)) [2, 3, 4] (fun g => [(5, .int .i64 ((64 * g.1 : Nat) : Int))]) (fun g => [.blk b4 (ca [.row 8 fun i => u32 (g.2 i)]) 146, .blk b2 (ca [.key []]) 23 ]) (fun g => [TxF A8 c8 (ps.flatten ++ zcs ps.flatten.length), AtC ⟨1, 0, none⟩ [.row 64 fun i => u32 (gt i)]]) (fun g => 64 * g.1 ≤ (ps.flatten ++ zcs ps.flatten.length).length ∧ (zhr gt g.2 ((ps.flatten ++ zcs ps.flatten.length).drop (64 * g.1))).1 = (zhr gt iv0 (ps.flatten ++ zcs ps.flatten.length)).1 ∧ ∀ i, i < 8 → g.2 i < 4294967296) (fun g => (ps.flatten ++ zcs ps.flatten.length).length - 64 * g.1) ((0, iv0)) E (H.refacts (jJ.2 ⟨H.fact 0 rfl, jJ.2 ⟨H.fact 3 rfl, jK _⟩⟩)) (by repeat (first | exact trivial | refine ⟨rfl, ?_⟩)) (⟨Nat.zero_le _, by rw [Nat.mul_zero, jG], zA0⟩) ?_
 clear E H
 intro g a w E H hφ
 replace E : Env a _ [(5, _), (2, _), (3, _), (4, _)] := E
 replace H : Sep _ _ _ _ [_, _] [_, _] := H
 obtain ⟨j, hh⟩ := g
 simp only at E H hφ ⊢
 obtain ⟨hj, hfd, hlt⟩ := hφ
 refine wp_seq_k fun K5 hK5 => ?_
 refine Vr ?_
 refine Vv E pkm fun a E => ?_
 refine Vv E pkm fun a E => ?_
 refine Vv E pkn fun a E => ?_
 refine Vv E pki fun a E => ?_
 refine Vn ?_
 refine zau (d := 13) E rfl ?_ ?_
 ·skip
  clear E
  intro c13 E
  have hjl : 64 * j + 64 ≤ (ps.flatten ++ zcs ps.flatten.length).length := by have := c13; simp only [jS] at this; omega
  refine za7 E rfl ?_
  refine wp_skip ?_
  refine hK5 _ _ ?_
  refine wp_seq_k fun K7 hK7 => ?_
  refine wp_block ?_
  refine zbr E H [] 6 [(0, false), (1, false), (2, false), (3, false), (4, false), (5, false)] (by kernel_rfl) (by kernel_rfl) (fun w HS => ?_)
  (simp only [canOps, jD, jE, jF, jG])
  clear H
  have H := HS
  have hsz : w.heap.size ≤ w.heap.size := jV _
  have HK : CanB.Keep (fun k => k < w.heap.size ∧ k ∉ []) w w := CanB.Keep.refl _ _
  first | (refine zof E HK (zcr (n := 8) HS 0 rfl rfl rfl (HS.inS 0 rfl (by simp)) rfl (by kernel_rfl)) rfl rfl rfl (fun _ _ _ _ h => h) ?_; trace "@@zbB:1:0") | (refine zof E HK (zcr (n := 8) HS 1 rfl rfl rfl (HS.inS 1 rfl (by simp)) rfl (by kernel_rfl)) rfl rfl rfl (fun _ _ _ _ h => h) ?_; trace "@@zbB:1:1") | (refine zof E HK (zff (n := 8) (HS.fact 0 rfl) (fun k h _ => ⟨h, by simp⟩) rfl rfl rfl (by kernel_rfl)) rfl rfl rfl (fun _ _ _ _ h => h) ?_; trace "@@zbB:1:2") | (refine zof E HK (zff (n := 8) (HS.fact 1 rfl) (fun k h _ => ⟨h, by simp⟩) rfl rfl rfl (by kernel_rfl)) rfl rfl rfl (fun _ _ _ _ h => h) ?_; trace "@@zbB:1:3") | (refine zof E HK (zio (n := 8) (HS.fact 0 rfl) (fun k h _ => ⟨h, by simp⟩) rfl rfl rfl (by kernel_rfl)) rfl rfl rfl (fun _ _ _ _ h => h) ?_; trace "@@zbB:1:4") | (refine zof E HK (zio (n := 8) (HS.fact 1 rfl) (fun k h _ => ⟨h, by simp⟩) rfl rfl rfl (by kernel_rfl)) rfl rfl rfl (fun _ _ _ _ h => h) ?_; trace "@@zbB:1:5")
  clear E a
  intro a E
  refine Cw E HK pkm fun a E => ?_
  refine Cw E HK pkm fun a E => ?_
  refine Cw E HK pkm fun a E => ?_
  refine Cw E HK (zaK rfl rfl rfl rfl (zdf (by omega) (by omega))) fun a E => ?_
  obtain ⟨A21, c21, h21, hT21⟩ := zzk (lo := 64 * j) (hi := 64 * j + 64) (HS.fact 0 rfl) (by omega) (by omega)
  refine Cw E HK (zrT (sz := 1) (lo := 64 * j) (hi := 64 * j + 64) rfl (by kernel_rfl) rfl rfl rfl (by omega) (by omega) (by omega) (by have := (St.now (HS.fact 0 rfl)).cap; omega)) fun a E => ?_
  rw [h21, show 64 * j + 64 - 64 * j = 64 from by omega] at E
  rw [show 64 * j + 64 - 64 * j = 64 from by omega] at hT21
  refine CanB.wpCan_nil ?_
  try (simp only [jH, jI, jF, jG])
  clear HS HK hsz
  refine Ve E ?_
  refine Vc E ?_
  replace H := H.know (hT21.step (jV _) (fun _ _ _ => rfl) (fun k hk => .inl hk))
  replace H : Sep _ _ _ _ [_, _] [_, _, _] := H
  refine (zt0 (h := hh) (gt := gt) (tx := ((ps.flatten ++ zcs ps.flatten.length).drop (64 * j)).take 64) (by rw [List.length_take, List.length_drop]; omega) H.xk (H.fact 0 rfl) (H.fact 2 rfl)).mono ?_
  rintro e w ⟨rfl, H1⟩
  replace H := H.call H1
  clear H1
  replace H : Sep _ _ _ _ [_, _] [_, _, _] := H
  refine Vp E fun a E => ?_
  refine Ve E ?_
  first | (refine Vs 0 E H ?_; trace "@@zbB:2:0") | (refine Vs 1 E H ?_; trace "@@zbB:2:1")
  clear H
  intro w H _
  replace H : Sep _ _ _ _ [_, _] _ := H
  refine zdn rfl ?_
  replace H := H.pop
  replace H : Sep _ _ _ _ [_, _] [_, _] := H
  rw [← zv7 gt hh _ (zzj (fun x hx => htb x (List.mem_of_mem_drop (List.mem_of_mem_take hx))))] at H
  refine hK7 _ _ ?_
  refine zaB ?_
  refine Vv E pkm fun a E => ?_
  refine Vv E (zaK rfl rfl rfl rfl (zdf (by omega) (by omega))) fun a E => ?_
  refine Vv E pka fun a E => ?_
  rw [show ((64 * j : Nat) : Int) + 64 = ((64 * (j + 1) : Nat) : Int) from by omega] at E
  refine za9 ?_
  exact ⟨(j + 1, zcY gt hh (((ps.flatten ++ zcs ps.flatten.length).drop (64 * j)).take 64)), ⟨E.to (by repeat (first | exact trivial | refine ⟨rfl, ?_⟩)), H, ⟨by show 64 * (j + 1) ≤ (ps.flatten ++ zcs ps.flatten.length).length; omega, by show (zhr gt (zcY gt hh (((ps.flatten ++ zcs ps.flatten.length).drop (64 * j)).take 64)) ((ps.flatten ++ zcs ps.flatten.length).drop (64 * (j + 1)))).1 = _; rw [show (ps.flatten ++ zcs ps.flatten.length).drop (64 * (j + 1)) = ((ps.flatten ++ zcs ps.flatten.length).drop (64 * j)).drop 64 from by rw [List.drop_drop]; rfl, ← zeZ (by rw [List.length_drop]; omega)]; exact hfd, fun i hi => zt2 gt hh _ i hi⟩⟩, by show (ps.flatten ++ zcs ps.flatten.length).length - 64 * (j + 1) < (ps.flatten ++ zcs ps.flatten.length).length - 64 * j; omega⟩
 ·skip
  clear E
  intro c13 E
  have hje : ¬ 64 ≤ ((ps.flatten ++ zcs ps.flatten.length).drop (64 * j)).length := by have := c13; simp only [decide_eq_false_iff_not] at this; rw [List.length_drop]; omega
  rw [zd8 hje] at hfd
  simp only at hfd
  refine zaN E rfl ?_
  refine wp_exit ?_
  repeat (first | refine za4 ?_ | refine za5 ?_ | refine zaW (by decide) ?_)
  refine hK3 _ _ ?_
  refine Vr ?_
  first | (refine zgV E (pkl 8 H 0) rfl rfl rfl ?_; trace "@@zbB:3:0") | (refine zgV E (pkl 8 H 1) rfl rfl rfl ?_; trace "@@zbB:3:1") | (refine zgV E (zff (n := 8) (H.fact 0 rfl) (fun _ _ _ => trivial) rfl rfl rfl (by kernel_rfl)) rfl rfl rfl ?_; trace "@@zbB:3:2") | (refine zgV E (zff (n := 8) (H.fact 1 rfl) (fun _ _ _ => trivial) rfl rfl rfl (by kernel_rfl)) rfl rfl rfl ?_; trace "@@zbB:3:3") | (refine zgV E (zio (n := 8) (H.fact 0 rfl) (fun _ _ _ => trivial) rfl rfl rfl (by kernel_rfl)) rfl rfl rfl ?_; trace "@@zbB:3:4") | (refine zgV E (zio (n := 8) (H.fact 1 rfl) (fun _ _ _ => trivial) rfl rfl rfl (by kernel_rfl)) rfl rfl rfl ?_; trace "@@zbB:3:5")
  clear E a
  intro a E
  refine Ve E ?_
  refine Vc E ?_
  refine (zwa (h := hh) hlt H.xk).mono ?_
  rintro e w ⟨rfl, H1⟩
  replace H := H.call H1
  clear H1
  replace H : Sep _ _ _ _ [_, _] [_, _] := H
  refine Vp E fun a E => ?_
  refine Ve E ?_
  first | (refine Vs 0 E H ?_; trace "@@zbB:4:0") | (refine Vs 1 E H ?_; trace "@@zbB:4:1")
  clear H
  intro w H _
  replace H : Sep _ _ _ _ [_, _] _ := H
  refine zdn rfl ?_
  refine Vn ?_
  refine wp_ret ?_
  repeat (first | refine zat ?_ | refine zap ?_)
  refine zf8 rfl E (by first | (exact zhT (n := 32) H 0 rfl rfl rfl (by kernel_rfl); trace "@@zbB:5:0") | (exact zhT (n := 32) H 1 rfl rfl rfl (by kernel_rfl); trace "@@zbB:5:1")) ?_
  refine ⟨?_, (H.refacts (jK _)).popL.popL⟩
  rw [zjN, ← hfd]
end
section
open Go.RowKit
theorem zmz (a b : Nat) (h1 : a < 256) (h3 : b < 256) (w : World) :
  Calls Tryz.prog 134 #[.int .u8 a, .int .u8 b] w fun e w' => e = .returned (.int .u8 (zgC a b)) ∧ w = w' := by
 go_enter Tryz.func134, Tryz.ntmps134
 go_wp2
 go_loopg [5, 8] 8 (fun n p i wr => ∃ m : Nat, m + n = 8 ∧ i = .int .i64 m ∧ p = .int .i64 (zpx a b m) ∧ w = wr)
 case atStart => exact ⟨0, rfl, rfl, rfl, rfl⟩
 case round =>
  obtain ⟨m, hm, rfl, rfl, rfl⟩ := hrel
  have hm' := Lib.hid hm
  clear hm
  by_cases hlt : m < 8
  ·have hs := Lib.hid (zvb a b m h1 hlt)
   have hu : Hid (zpx a b (m + 1) = if b / 2 ^ m % 2 = 1 then zpx a b m ^^^ (a * 2 ^ m) else zpx a b m) := rfl
   by_cases hb : b / 2 ^ m % 2 = 1
   ·have ht : (((b : Int) / 2 ^ m).tmod 2 == 1) = true := by rw [ziv]; simp [hb]
    have hb' := Lib.hid hb
    clear hb
    go_wp2
    go_roundg (gk - 1)
    case measure => have := hm'.out; omega
    case rel =>
     have hm'' := hm'.out
     exact ⟨m + 1, by omega, by go_num, by rw [hs.out, hu.out, if_pos hb'.out], rfl⟩
   ·have ht : (((b : Int) / 2 ^ m).tmod 2 == 1) = false := by rw [ziv]; simp [hb]
    have hb' := Lib.hid hb
    clear hb
    go_wp2
    go_roundg (gk - 1)
    case measure => have := hm'.out; omega
    case rel =>
     have hm'' := hm'.out
     exact ⟨m + 1, by omega, by go_num, by rw [hu.out, if_neg hb'.out], rfl⟩
  ·obtain rfl : m = 8 := by have := hm'.out; omega
   have hP := zk5 a b h1 8 (by omega)
   have hR : Hid (zgC a b = zn8 (zpx a b 8) 7 % 256) := rfl
   generalize zpx a b 8 = P at *
   go_wp2
   go_loopg [5, 7] 7 (fun n p i wr => ∃ m j : Nat, m + n = 7 ∧ j + m = 14 ∧ i = .int .i64 j ∧ p = .int .i64 (zn8 P m) ∧ w = wr)
   case atStart => exact ⟨0, 14, rfl, rfl, rfl, rfl, rfl⟩
   case round =>
    obtain ⟨m, j, hm, hj, rfl, rfl, rfl⟩ := hrel
    have hm' := Lib.hid hm
    have hj' := Lib.hid hj
    have hq := zot P hP m (by omega)
    by_cases hlt : m < 7
    ·have hj1 : 8 ≤ j := by omega
     have hj2 : j ≤ 14 := by omega
     clear hm hj
     have hs := Lib.hid (zvc (zn8 P m) j hq hj1 hj2)
     have hu : Hid (zn8 P (m + 1) = if zn8 P m / 2 ^ (14 - m) % 2 = 1 then zn8 P m ^^^ (283 * 2 ^ (6 - m)) else zn8 P m) := rfl
     by_cases hb : zn8 P m / 2 ^ j % 2 = 1
     ·have ht : ((((zn8 P m : Nat) : Int) / 2 ^ j).tmod 2 == 1) = true := by rw [ziv]; simp [hb]
      have hb' := Lib.hid hb
      clear hb
      go_wp2
      go_roundg (gk - 1)
      case measure => have := hm'.out; omega
      case rel =>
       have hm'' := hm'.out
       have hj'' := hj'.out
       refine ⟨m + 1, j - 1, by omega, by omega, by go_num, ?_, rfl⟩
       rw [hs.out, hu.out, show 14 - m = j from by omega, if_pos hb'.out, show 6 - m = j - 8 from by omega]
     ·have ht : ((((zn8 P m : Nat) : Int) / 2 ^ j).tmod 2 == 1) = false := by rw [ziv]; simp [hb]
      have hb' := Lib.hid hb
      clear hb
      go_wp2
      go_roundg (gk - 1)
      case measure => have := hm'.out; omega
      case rel =>
       have hm'' := hm'.out
       have hj'' := hj'.out
       refine ⟨m + 1, j - 1, by omega, by omega, by go_num, ?_, rfl⟩
       rw [hu.out, show 14 - m = j from by omega, if_neg hb'.out]
    ·obtain rfl : m = 7 := by omega
     obtain rfl : j = 7 := by omega
     clear hm hj
     go_wp2
     go_ret
     refine ⟨?_, rfl⟩
     rw [hR.out]
     exact congrArg (fun z => Ending.returned (.int .u8 z)) (by omega)
end
end Go.Proofs.YtfolbgiekbimpaaGreatDoor
