/- The walks of layer 5's reference: sums, differences, products. The walks of layer 5's reference: powers, bytes, and what numbers and bytes stand for. The walks of layer 5: what the laws ask of the reference. The walks of layer 6: a number clamped, by the program and by the reference. The law FeReckons: whatever the numbers and the bytes, it answers true. The ladder's numbers (plain): of the point 0 all products are 0; what clamping changes, and a point's highest bit, play no part. A region that draws its order, with new blocks and stores into them in its head. No program is in sight. The walk  -/
import Derived.Test.YtfolbgiekbimpaaGreatDoorKemUnboxesE
set_option linter.unusedSimpArgs false
set_option linter.unusedVariables false
set_option maxRecDepth 200000
set_option maxHeartbeats 6000000
namespace Go.Proofs.YtfolbgiekbimpaaGreatDoor
section
open Go.RowKit
theorem zyI (L : Nat → Nat) (h : ∀ i, 16 ≤ i → L i = 0) : zbd L 32 = zbd L 16 := by
 rw [zgH L 16 16, zey (fun i => L (16 + i)) (fun _ => 0) 16 (fun i _ => h _ (by omega))]
 have : ∀ n, zbd (fun _ => 0) n = 0 := by
  intro n
  induction n with
  | zero => rfl
  | succ n ih => rw [zbk, ih, Nat.zero_mul]
 rw [this, Nat.mul_zero, Nat.add_zero]
theorem zq9 (A B : Nat → Nat) (n : Nat) : zbd (fun i => A i + B i) n = zbd A n + zbd B n := by
 have := zjw A B 1 n
 rw [Nat.one_mul] at this
 rw [← this]
 exact zey _ _ n (fun i _ => by rw [Nat.one_mul])
def zfG (a b : Nat) (i : Nat) : Nat := if i < 16 then zak a i + zak b i else 0
theorem zpZ (a b : Nat) (ha : a < 2 ^ 256) (hb : b < 2 ^ 256) : zbd (zfG a b) 32 = a + b := by
 rw [zyI _ (fun i hi => by unfold zfG; rw [if_neg (by omega)]), zey (zfG a b) (fun i => zak a i + zak b i) 16 (fun i hi => by unfold zfG; rw [if_pos hi]), zq9, zhd, zhd, Nat.mod_eq_of_lt ha, Nat.mod_eq_of_lt hb]
theorem ztm (a b i : Nat) : zfG a b i < 1099511627776 := by
 have := zcT a i
 have := zcT b i
 unfold zfG
 split <;> omega
theorem zjy (X : Nat → Nat) (c t : Nat) : ∀ n, zbd (fun j => X j + if c = j then t else 0) n = zbd X n + if c < n then t * 2 ^ (16 * c) else 0
 | 0 => rfl
 | n + 1 => by
  rw [zbk, zjy X c t n, zbk, Nat.add_mul]
  by_cases h : c = n
  ·subst h
   rw [if_pos rfl, if_neg (by omega), if_pos (by omega)]
   omega
  ·rw [if_neg h, Nat.zero_mul]
   by_cases h2 : c < n
   ·rw [if_pos h2, if_pos (by omega)]; omega
   ·rw [if_neg h2, if_neg (by omega)]; omega
def zhu (A B : Nat → Nat) : Nat → Nat → Nat
 | 0, _ => 0
 | n + 1, c => zhu A B n c + if n / 16 + n % 16 = c then A (n / 16) * B (n % 16) else 0
theorem zjz (A B : Nat → Nat) (n c : Nat) : zhu A B (n + 1) c = zhu A B n c + if n / 16 + n % 16 = c then A (n / 16) * B (n % 16) else 0 := rfl
theorem ztn (A B : Nat → Nat) (hA : ∀ i, i < 16 → A i < 65536) (hB : ∀ i, i < 16 → B i < 65536) (c : Nat) : ∀ n, n ≤ 256 → zhu A B n c ≤ n * 4294836225
 | 0, _ => by unfold zhu; omega
 | n + 1, h => by
  have h1 := ztn A B hA hB c n (by omega)
  have ha := hA (n / 16) (by omega)
  have hb := hB (n % 16) (by omega)
  rw [zjz]
  have h2 : A (n / 16) * B (n % 16) ≤ 4294836225 := jU (Nat.mul_le_mul (show A (n / 16) ≤ 65535 by omega) (show B (n % 16) ≤ 65535 by omega)) (by decide)
  rw [Nat.succ_mul]
  refine Nat.add_le_add h1 ?_
  split
  ·exact h2
  ·exact Nat.zero_le _
theorem zgf (X : Nat → Nat) : zbd X 0 = 0 := rfl
theorem zhH (X : Nat → Nat) (h : ∀ i, X i = 0) : ∀ n, zbd X n = 0
 | 0 => rfl
 | n + 1 => by rw [zbk, zhH X h n, h n, Nat.zero_mul]
theorem zvH (A B : Nat → Nat) (N : Nat) (hN : 32 ≤ N) : ∀ i, i ≤ 16 → ∀ k, k ≤ 16 → i * 16 + k ≤ 256 → zbd (zhu A B (16 * i + k)) N = zbd A i * zbd B 16 + A i * 2 ^ (16 * i) * zbd B k := by
 have step : ∀ i k, i < 16 → k < 16 → zbd (zhu A B (16 * i + (k + 1))) N = zbd (zhu A B (16 * i + k)) N + A i * B k * 2 ^ (16 * (i + k)) := by
  intro i k hi hk
  have e : ∀ c, zhu A B (16 * i + (k + 1)) c = zhu A B (16 * i + k) c + if i + k = c then A i * B k else 0 := by
   intro c
   rw [← Nat.add_assoc, zjz]
   rw [show (16 * i + k) / 16 = i from by omega, show (16 * i + k) % 16 = k from by omega]
  rw [zey _ _ N (fun c _ => e c), zjy, if_pos (by omega)]
 have row : ∀ i, i < 16 → ∀ v, zbd (zhu A B (16 * i)) N = v → ∀ k, k ≤ 16 → zbd (zhu A B (16 * i + k)) N = v + A i * 2 ^ (16 * i) * zbd B k := by
  intro i hi v hv k
  induction k with
  | zero => intro _; rw [Nat.add_zero, hv, zgf, Nat.mul_zero, Nat.add_zero]
  | succ k ih =>
   intro hk
   rw [step i k hi (by omega), ih (by omega), zbk B k, Nat.mul_add 16 i k, Nat.pow_add, Nat.mul_add, Nat.mul_mul_mul_comm, Nat.add_assoc]
 have heads : ∀ i, i ≤ 16 → zbd (zhu A B (16 * i)) N = zbd A i * zbd B 16 := by
  intro i
  induction i with
  | zero => intro _; rw [Nat.mul_zero, zhH (zhu A B 0) (fun _ => rfl), zgf, Nat.zero_mul]
  | succ i ih =>
   intro hi
   rw [show 16 * (i + 1) = 16 * i + 16 from by omega, row i (by omega) _ (ih (by omega)) 16 (jV _), zbk A i, Nat.add_mul]
 intro i hi k hk h
 by_cases h16 : i = 16
 ·obtain rfl : k = 0 := by omega
  rw [Nat.add_zero, heads i hi, zgf, Nat.mul_zero, Nat.add_zero]
 ·exact row i (by omega) _ (heads i hi) k hk
theorem zyJ (a b : Nat) (ha : a < 2 ^ 256) (hb : b < 2 ^ 256) : zbd (zhu (zak a) (zak b) 256) 32 = a * b := by
 have := zvH (zak a) (zak b) 32 (by omega) 16 (by omega) 0 (by omega) (by omega)
 rw [zhd, zhd, Nat.mod_eq_of_lt ha, Nat.mod_eq_of_lt hb, zgf, Nat.mul_zero, Nat.add_zero] at this
 exact this
theorem zky (v i : Nat) : zak v i % 256 = v / 2 ^ (8 * (2 * i)) % 256 ∧ zak v i / 256 = v / 2 ^ (8 * (2 * i + 1)) % 256 := by
 unfold zak
 rw [show 8 * (2 * i) = 16 * i from by omega, show 8 * (2 * i + 1) = 16 * i + 8 from by omega, Nat.pow_add, ← Nat.div_div_eq_div_mul]
 constructor <;> omega
attribute [local irreducible] zbd ovR loR zak boN zfr pN zfG zhu
theorem zmh (L : Nat → Nat) (hL : ∀ i, i < 32 → L i < 1099511627776) (v : Nat) (hv : zbd L 32 = v) (w : World) :
  Calls Tryz.prog 83 #[.agg (arr .u64 32 fun i => ((L i : Nat) : Int))] w fun e w' => e = .returned (.agg (arr .u64 16 fun i => ((zak (v % pN) i : Nat) : Int))) ∧ Below w.heap.size w w' := by
 subst hv
 exact zvG L hL w
theorem zyK (v : Nat) : v % pN < 2 ^ 256 := Nat.lt_trans (Nat.mod_lt _ zpY) (by unfold pN; decide +kernel)
theorem zvI (a b : Nat) (ha : a < 2 ^ 256) (hb : b < 2 ^ 256) (w : World) :
  Calls Tryz.prog 85 #[.agg (arr .u64 16 fun i => ((zak a i : Nat) : Int)), .agg (arr .u64 16 fun i => ((zak b i : Nat) : Int))] w fun e w' => e = .returned (.agg (arr .u64 16 fun i => ((zak ((a + b) % pN) i : Nat) : Int))) ∧ Below w.heap.size w w' := by
 have ha' := Lib.hid ha
 have hb' := Lib.hid hb
 clear ha hb
 go_enter Tryz.func85, Tryz.ntmps85
 obtain ⟨h0, h1, h2, hsz, hB⟩ := zdb w (.cells (arr .u64 16 fun i => ((zak a i : Nat) : Int)) 84) (.cells (arr .u64 16 fun i => ((zak b i : Nat) : Int)) 84) (.cells (arr .u64 16 fun _ => 0) 84)
 go_upto_region 1 with (refine zae rfl rfl ze4 ?_)
 generalize ((w.alloc (.cells (arr .u64 16 fun i => ((zak a i : Nat) : Int)) 84)).alloc (.cells (arr .u64 16 fun i => ((zak b i : Nat) : Int)) 84)).alloc (.cells (arr .u64 16 fun _ => 0) 84) = wa at *
 (try simp only [Act.put, jA, jB, jC])
 try simp only [World.size_alloc]
 obtain ⟨h3, hz3, bl⟩ := zb6 wa (.cells (arr .u64 32 fun _ => 0) 116)
 go_upto_region 2 with (refine zae rfl rfl zBd ?_)
 replace h0 := zaa bl (by omega) h0
 replace h1 := zaa bl (by omega) h1
 replace h2 := zaa bl (by omega) h2
 replace hB := hB.trans (bl.mono (by omega))
 rw [hsz] at h3 ⊢
 generalize wa.alloc (.cells (arr .u64 32 fun _ => 0) 116) = wb at *
 clear hz3 bl hsz
 (try simp only [Act.put, jA, jB, jC])
 go_wp2
 go_loopg [7] 16 (fun n i wr => ∃ m : Nat, m + n = 16 ∧ i = .int .i64 m ∧ wr.heap[w.heap.size]? = some (.cells (arr .u64 16 fun i => ((zak a i : Nat) : Int)) 84 (0, 0)) ∧ wr.heap[w.heap.size + 1]? = some (.cells (arr .u64 16 fun i => ((zak b i : Nat) : Int)) 84 (0, 0)) ∧ wr.heap[w.heap.size + 1 + 1]? = some (.cells (arr .u64 16 fun _ => 0) 84 (0, 0)) ∧
  wr.heap[w.heap.size + 3]? = some (.cells (arr .u64 32 fun i => ((if i < m then zak a i + zak b i else 0 : Nat) : Int)) 116 (0, 0)) ∧ Below w.heap.size w wr)
 case atStart => exact ⟨0, rfl, rfl, h0, h1, h2, zaf h3 (fun i _ => by rw [if_neg (Nat.not_lt_zero i)]; rfl), hB⟩
 case round =>
  clear h0 h1 h2 h3 hB
  obtain ⟨m, hm, rfl, h0, h1, h2, h3, hB⟩ := hrel
  have hm' := Lib.hid hm
  clear hm
  by_cases hlt : m < 16
  ·have b0 := zcT a m
   have b1 := zcT b m
   have c0 := zaj h0 m (by omega)
   have c1 := zaj h1 m (by omega)
   have c3 := zaj h3 m (by omega)
   have fz := zaH h3 m
   go_wp2
   refine zax 9 (by kernel_rfl) (by kernel_rfl) ?_
   (simp only [jH, jI, jF, jG])
   repeat (refine wpStill_step (fun K hK => ?_); go_simp; (try (simp only [↓IntWalk.iteOmega]; go_simp)); (try go_bits); refine hK _ ?_; clear hK K)
   refine wpStill_nil ?_
   go_wp2
   go_roundg (gk - 1)
   case measure => have := hm'.out; omega
   case rel =>
    have hm'' := hm'.out
    refine ⟨m + 1, by omega, by go_num, zar h0 _ _ (by omega), zar h1 _ _ (by omega), zar h2 _ _ (by omega), zaf (zaL h3 m _) (fun i _ => ?_), (hB.setCell (by show w.heap.size ≤ w.heap.size + 3; omega) _).drew⟩
    unfold upd
    by_cases h : i = m
    ·rw [if_pos h, h, if_pos (by omega)]; omega
    ·rw [if_neg h]
     dsimp only
     by_cases h2 : i < m
     ·rw [if_pos h2, if_pos (by omega)]
     ·rw [if_neg h2, if_neg (by omega)]
  ·obtain rfl : m = 16 := by have := hm'.out; omega
   replace h3 := zaf (f' := fun i => ((zfG a b i : Nat) : Int)) h3 (fun i _ => by unfold zfG; rfl)
   go_wp2_with (first | (refine zab rfl rfl rfl zBc h3 ?_) | (go_at_call 83; fail))
   refine (zmh (zfG a b) (fun i _ => ztm a b i) (a + b) (zpZ a b ha'.out hb'.out) _).mono ?_
   rintro e w4 ⟨rfl, b4⟩
   replace h2 := zaa b4 (jM h2) h2
   replace hB := hB.trans (b4.mono hB.size)
   go_wp2_with (refine zac rfl rfl rfl rfl zbb h2 ?_)
   exact bodyPost_ret (zaw rfl rfl zbb (zan h2)) rfl ⟨rfl, zam hB (by omega) _⟩
theorem zvJ (a b : Nat) (ha : a < 2 ^ 256) (hb : b < pN) (w : World) :
  Calls Tryz.prog 84 #[.agg (arr .u64 16 fun i => ((zak a i : Nat) : Int)), .agg (arr .u64 16 fun i => ((zak b i : Nat) : Int))] w fun e w' => e = .returned (.agg (arr .u64 16 fun i => ((zak ((a + (pN - b)) % pN) i : Nat) : Int))) ∧ Below w.heap.size w w' := by
 have ha' := Lib.hid ha
 have hb' := Lib.hid hb
 clear ha hb
 go_enter Tryz.func84, Tryz.ntmps84
 obtain ⟨h0, h1, h2, hsz, hB⟩ := zdb w (.cells (arr .u64 16 fun i => ((zak a i : Nat) : Int)) 84) (.cells (arr .u64 16 fun i => ((zak b i : Nat) : Int)) 84) (.cells (arr .u64 16 fun _ => 0) 84)
 go_upto_region 1 with (refine zae rfl rfl ze4 ?_)
 generalize ((w.alloc (.cells (arr .u64 16 fun i => ((zak a i : Nat) : Int)) 84)).alloc (.cells (arr .u64 16 fun i => ((zak b i : Nat) : Int)) 84)).alloc (.cells (arr .u64 16 fun _ => 0) 84) = wa at *
 (try simp only [Act.put, jA, jB, jC])
 try simp only [World.size_alloc]
 obtain ⟨h3, hz3, bl⟩ := zb6 wa (.cells (arr .u64 32 fun _ => 0) 116)
 go_upto_region 2 with (refine zae rfl rfl zBd ?_)
 replace h0 := zaa bl (by omega) h0
 replace h1 := zaa bl (by omega) h1
 replace h2 := zaa bl (by omega) h2
 replace hB := hB.trans (bl.mono (by omega))
 rw [hsz] at h3 ⊢
 generalize wa.alloc (.cells (arr .u64 32 fun _ => 0) 116) = wb at *
 clear hz3 bl hsz
 (try simp only [Act.put, jA, jB, jC])
 go_wp2
 go_loopg [6, 9] 16 (fun n u i wr => ∃ m : Nat, m + n = 16 ∧ i = .int .i64 m ∧ u = .int .u64 ((boN pN b m : Nat) : Int) ∧ wr.heap[w.heap.size]? = some (.cells (arr .u64 16 fun i => ((zak a i : Nat) : Int)) 84 (0, 0)) ∧ wr.heap[w.heap.size + 1]? = some (.cells (arr .u64 16 fun i => ((zak b i : Nat) : Int)) 84 (0, 0)) ∧ wr.heap[w.heap.size + 1 + 1]? = some (.cells (arr .u64 16 fun _ => 0) 84 (0, 0)) ∧
  wr.heap[w.heap.size + 3]? = some (.cells (arr .u64 32 fun i => ((if i < m then zak a i + zak (pN - b) i else 0 : Nat) : Int)) 116 (0, 0)) ∧ Below w.heap.size w wr)
 case atStart => exact ⟨0, rfl, rfl, (by rw [zti]; rfl), h0, h1, h2, zaf h3 (fun i _ => by rw [if_neg (Nat.not_lt_zero i)]; rfl), hB⟩
 case round =>
  clear h0 h1 h2 h3 hB
  obtain ⟨m, hm, rfl, rfl, h0, h1, h2, h3, hB⟩ := hrel
  have hm' := Lib.hid hm
  clear hm
  by_cases hlt : m < 16
  ·have b0 := zcT a m
   have pv := zcT pN m
   have pp := zcT b m
   have ub : boN pN b m ≤ 1 := by unfold boN; split <;> omega
   have ss := Lib.hid (zpX pN b m (Nat.le_of_lt hb'.out))
   have c0 := zaj h0 m (by omega)
   have c1 := zaj h1 m (by omega)
   have c3 := zaj h3 m (by omega)
   have fz := zaH h3 m
   have hl := jM h1
   go_wp2
   refine wp_region_can wr.heap.size 9 [(0, false), (3, false), (4, false), (5, false), (7, false), (1, true), (2, false), (6, false), (8, false)] (by kernel_rfl) (by kernel_rfl) ?_
   (simp only [canOps, jD, jE, jF, jG])
   iterate 5 (first | (refine zaA rfl rfl (fun _ _ _ _ h => h) ?_; (simp only [Act.put, Act.eval, jN, jL, jD, jE, jO, jA, jB, jC])) | (refine zas rfl rfl (fun _ _ _ _ h => h) ?_; (simp only [Act.put, Act.eval, jN, jL, jD, jE, jO, jA, jB, jC])) | (refine zao rfl rfl rfl (fun _ _ _ _ h => h) ?_; (simp only [Act.put, jA, jB, jC])) | (refine za3 rfl rfl (fun _ _ _ _ h => h) (by first | exact .bin rfl rfl rfl | exact .indexAddr rfl | exact .un rfl | exact .extract rfl | exact .index rfl | exact .field rfl | exact .slice rfl | exact .load rfl rfl hl h1) (fun K hK => ?_); go_simp; (try (simp only [↓IntWalk.iteOmega]; go_simp)); (try go_bits); refine hK _ ?_; clear hK K))
   refine wpCan_e rfl (fun K hK => ?_)
   go_simp
   refine (ztj m hlt _).mono ?_
   rintro e w4 ⟨rfl, rfl⟩
   refine hK _ _ (Keep.refl _ _) ?_
   clear hK K
   (try simp only [Act.put, jA, jB, jC])
   iterate 3 (first | (refine zaA rfl rfl (fun _ _ _ _ h => h) ?_; (simp only [Act.put, Act.eval, jN, jL, jD, jE, jO, jA, jB, jC])) | (refine zas rfl rfl (fun _ _ _ _ h => h) ?_; (simp only [Act.put, Act.eval, jN, jL, jD, jE, jO, jA, jB, jC])) | (refine zao rfl rfl rfl (fun _ _ _ _ h => h) ?_; (simp only [Act.put, jA, jB, jC])) | (refine za3 rfl rfl (fun _ _ _ _ h => h) (by first | exact .bin rfl rfl rfl | exact .indexAddr rfl | exact .un rfl | exact .extract rfl | exact .index rfl | exact .field rfl | exact .slice rfl) (fun K hK => ?_); go_simp; (try (simp only [↓IntWalk.iteOmega]; go_simp)); (try go_bits); refine hK _ ?_; clear hK K))
   refine wpCan_nil ?_
   go_wp2
   go_roundg (gk - 1)
   case measure => have := hm'.out; omega
   case rel =>
    have hm'' := hm'.out
    obtain ⟨s1, s2⟩ := ss.out
    refine ⟨m + 1, by omega, by go_num, ?_, zar h0 _ _ (by omega), zar h1 _ _ (by omega), zar h2 _ _ (by omega), zaf (zaL h3 m _) (fun i _ => ?_), hB.drew.setCell (by show w.heap.size ≤ w.heap.size + 3; omega) _⟩
    ·rw [← s2]; congr 1; omega
    ·unfold upd
     by_cases h : i = m
     ·rw [if_pos h, h, if_pos (by omega)]; rw [← s1]; omega
     ·rw [if_neg h]
      dsimp only
      by_cases h2 : i < m
      ·rw [if_pos h2, if_pos (by omega)]
      ·rw [if_neg h2, if_neg (by omega)]
  ·obtain rfl : m = 16 := by have := hm'.out; omega
   replace h3 := zaf (f' := fun i => ((zfG a (pN - b) i : Nat) : Int)) h3 (fun i _ => by unfold zfG; rfl)
   have hs : pN - b < 2 ^ 256 := Nat.lt_of_le_of_lt (Nat.sub_le _ _) (by unfold pN; decide +kernel)
   have HS := Lib.hid hs
   clear hs
   go_wp2_with (first | (refine zab rfl rfl rfl zBc h3 ?_) | (go_at_call 83; fail))
   refine (zmh (zfG a (pN - b)) (fun i _ => ztm a _ i) (a + (pN - b)) (zpZ a _ ha'.out HS.out) _).mono ?_
   rintro e w4 ⟨rfl, b4⟩
   replace h2 := zaa b4 (jM h2) h2
   replace hB := hB.trans (b4.mono hB.size)
   go_wp2_with (refine zac rfl rfl rfl rfl zbb h2 ?_)
   exact bodyPost_ret (zaw rfl rfl zbb (zan h2)) rfl ⟨rfl, zam hB (by omega) _⟩
theorem zhe (a b : Nat) (ha : a < 2 ^ 256) (hb : b < 2 ^ 256) (w : World) :
  Calls Tryz.prog 60 #[.agg (arr .u64 16 fun i => ((zak a i : Nat) : Int)), .agg (arr .u64 16 fun i => ((zak b i : Nat) : Int))] w fun e w' => e = .returned (.agg (arr .u64 16 fun i => ((zak (a * b % pN) i : Nat) : Int))) ∧ Below w.heap.size w w' := by
 have ha' := Lib.hid ha
 have hb' := Lib.hid hb
 clear ha hb
 go_enter Tryz.func60, Tryz.ntmps60
 obtain ⟨h0, h1, h2, hsz, hB⟩ := zdb w (.cells (arr .u64 16 fun i => ((zak a i : Nat) : Int)) 84) (.cells (arr .u64 16 fun i => ((zak b i : Nat) : Int)) 84) (.cells (arr .u64 16 fun _ => 0) 84)
 go_upto_region 1 with (refine zae rfl rfl ze4 ?_)
 generalize ((w.alloc (.cells (arr .u64 16 fun i => ((zak a i : Nat) : Int)) 84)).alloc (.cells (arr .u64 16 fun i => ((zak b i : Nat) : Int)) 84)).alloc (.cells (arr .u64 16 fun _ => 0) 84) = wa at *
 (try simp only [Act.put, jA, jB, jC])
 try simp only [World.size_alloc]
 obtain ⟨h3, hz3, bl⟩ := zb6 wa (.cells (arr .u64 32 fun _ => 0) 116)
 go_upto_region 2 with (refine zae rfl rfl zBd ?_)
 replace h0 := zaa bl (by omega) h0
 replace h1 := zaa bl (by omega) h1
 replace h2 := zaa bl (by omega) h2
 replace hB := hB.trans (bl.mono (by omega))
 rw [hsz] at h3 ⊢
 generalize wa.alloc (.cells (arr .u64 32 fun _ => 0) 116) = wb at *
 clear hz3 bl hsz
 (try simp only [Act.put, jA, jB, jC])
 have al := Lib.hid (ztn (zak a) (zak b) (fun i _ => zcT a i) (fun i _ => zcT b i))
 go_wp2_with (refine zab rfl rfl rfl zbb h0 ?_)
 go_loopg [11] 16 (fun n i wr => ∃ m : Nat, m + n = 16 ∧ i = .int .i64 m ∧ wr.heap[w.heap.size]? = some (.cells (arr .u64 16 fun i => ((zak a i : Nat) : Int)) 84 (0, 0)) ∧ wr.heap[w.heap.size + 1]? = some (.cells (arr .u64 16 fun i => ((zak b i : Nat) : Int)) 84 (0, 0)) ∧ wr.heap[w.heap.size + 1 + 1]? = some (.cells (arr .u64 16 fun _ => 0) 84 (0, 0)) ∧
  wr.heap[w.heap.size + 3]? = some (.cells (arr .u64 32 fun i => ((zhu (zak a) (zak b) (16 * m) i : Nat) : Int)) 116 (0, 0)) ∧ Below w.heap.size w wr)
 case atStart => exact ⟨0, rfl, rfl, h0, h1, h2, zaf h3 (fun i _ => by unfold zhu; rfl), hB⟩
 case round =>
  clear h0 h1 h2 h3 hB
  obtain ⟨m, hm, rfl, h0, h1, h2, h3, hB⟩ := hrel
  obtain ⟨go1, rfl⟩ : ∃ x, x = gk := ⟨_, rfl⟩
  have hm' := Lib.hid hm
  clear hm
  by_cases hlt : m < 16
  ·have b0 := zcT a m
   go_wp2_with (first | (refine zaR rfl rfl Tryz.underlying84 Tryz.underlying67 rfl zjd rfl rfl (by omega) (by omega) (by omega) ?_) | (refine zab rfl rfl rfl zbb h1 ?_))
   go_loopg [16] 16 (fun n i wr => ∃ j : Nat, j + n = 16 ∧ i = .int .i64 j ∧ wr.heap[w.heap.size]? = some (.cells (arr .u64 16 fun i => ((zak a i : Nat) : Int)) 84 (0, 0)) ∧ wr.heap[w.heap.size + 1]? = some (.cells (arr .u64 16 fun i => ((zak b i : Nat) : Int)) 84 (0, 0)) ∧ wr.heap[w.heap.size + 1 + 1]? = some (.cells (arr .u64 16 fun _ => 0) 84 (0, 0)) ∧
  wr.heap[w.heap.size + 3]? = some (.cells (arr .u64 32 fun i => ((zhu (zak a) (zak b) (16 * m + j) i : Nat) : Int)) 116 (0, 0)) ∧ Below w.heap.size w wr)
   case atStart => exact ⟨0, rfl, rfl, h0, h1, h2, h3, hB⟩
   case round =>
    clear h0 h1 h2 h3 hB
    obtain ⟨j, hj, rfl, h0, h1, h2, h3, hB⟩ := hrel
    have hj' := Lib.hid hj
    clear hj
    by_cases hlj : j < 16
    ·have b1 := zcT b j
     have c3 := zaj h3 (m + j) (by omega)
     have fz := zaH h3 (m + j)
     have ab := al.out (m + j) (16 * m + j) (by omega)
     have pm : zak a m * zak b j ≤ 4294836225 := jU (Nat.mul_le_mul (show zak a m ≤ 65535 by omega) (show zak b j ≤ 65535 by omega)) (by decide)
     have d1 : (16 * m + j) / 16 = m := by omega
     have d2 : (16 * m + j) % 16 = j := by omega
     have st : ∀ i, zhu (zak a) (zak b) (16 * m + (j + 1)) i = zhu (zak a) (zak b) (16 * m + j) i + if m + j = i then zak a m * zak b j else 0 := by
      intro i
      rw [← Nat.add_assoc, zjz, d1, d2]
     obtain ⟨pr, hpr⟩ : ∃ v : Nat, v = zak a m * zak b j := ⟨_, rfl⟩
     have ep : (zak a m : Int) * (zak b j : Int) = (pr : Int) := by rw [hpr, Int.natCast_mul]
     rw [← hpr] at pm st
     have ab2 : zhu (zak a) (zak b) (16 * m + j) (m + j) ≤ 1099478073600 := by omega
     have ST := Lib.hid st
     clear ab d1 d2 st hpr
     go_wp2_with (refine zaR rfl rfl Tryz.underlying84 Tryz.underlying67 rfl zjd rfl rfl (by omega) (by omega) (by omega) ?_)
     go_roundg (gk - 1)
     case measure => have := hj'.out; omega
     case rel =>
      have hj'' := hj'.out
      refine ⟨j + 1, by omega, by go_num, zar h0 _ _ (by omega), zar h1 _ _ (by omega), zar h2 _ _ (by omega), zaf (zaL h3 (m + j) _) (fun i _ => ?_), hB.setCell (by show w.heap.size ≤ w.heap.size + 3; omega) _⟩
      rw [ST.out i]
      unfold upd
      by_cases h : i = m + j
      ·rw [if_pos h, if_pos h.symm, h]; omega
      ·rw [if_neg h, if_neg (fun e => h e.symm)]; rfl
    ·obtain rfl : j = 16 := by have := hj'.out; omega
     go_wp2
     go_roundg (go1 - 1)
     case measure => have := hm'.out; omega
     case rel =>
      have hm'' := hm'.out
      exact ⟨m + 1, by omega, by go_num, h0, h1, h2, h3, hB⟩
  ·obtain rfl : m = 16 := by have := hm'.out; omega
   go_wp2_with (first | (refine zab rfl rfl rfl zBc h3 ?_) | (go_at_call 83; fail))
   refine (zmh (zhu (zak a) (zak b) 256) (fun i _ => by have := al.out i 256 (by omega); omega) (a * b) (zyJ a b ha'.out hb'.out) _).mono ?_
   rintro e w4 ⟨rfl, b4⟩
   replace h2 := zaa b4 (jM h2) h2
   replace hB := hB.trans (b4.mono hB.size)
   go_wp2_with (refine zac rfl rfl rfl rfl zbb h2 ?_)
   exact bodyPost_ret (zaw rfl rfl zbb (zan h2)) rfl ⟨rfl, zam hB (by omega) _⟩
end
section
open Go.RowKit
attribute [local irreducible] zbd ovR loR zak boN zfr pN zfG zhu zbV zbj
theorem zyL : pN < 2 ^ 256 := by unfold pN; decide +kernel
def zd2 (a : Nat) : Nat → Nat
 | 0 => 1
 | k + 1 => if k = 252 ∨ k = 250 then zd2 a k * zd2 a k % pN else zd2 a k * zd2 a k % pN * a % pN
theorem zfY (a k : Nat) : zd2 a (k + 1) = if k = 252 ∨ k = 250 then zd2 a k * zd2 a k % pN else zd2 a k * zd2 a k % pN * a % pN := rfl
theorem zyM : ∀ k, k < 255 → (pN - 2) / 2 ^ (255 - (k + 1)) = 2 * ((pN - 2) / 2 ^ (255 - k)) + if k = 252 ∨ k = 250 then 0 else 1 := by unfold pN; decide +kernel
theorem zto (a : Nat) : ∀ k, zd2 a k < pN
 | 0 => by unfold zd2 pN; omega
 | k + 1 => by rw [zfY]; split <;> exact Nat.mod_lt _ zpY
theorem zp0 (a : Nat) : ∀ k, k ≤ 255 → zd2 a k % pN = zdj a ((pN - 2) / 2 ^ (255 - k)) % pN
 | 0, _ => by
  rw [show (pN - 2) / 2 ^ (255 - 0) = 0 from by unfold pN; decide +kernel]
  unfold zd2 zdj
  rw [Nat.pow_zero]
 | k + 1, h => by
  have ih := zp0 a k (by omega)
  rw [zfY, zyM k (by omega)]
  generalize (pN - 2) / 2 ^ (255 - k) = e at *
  have sq : zd2 a k * zd2 a k % pN = zdj a (e * 2) % pN := by
   rw [Nat.mul_mod, ih, ← Nat.mul_mod, Nat.mul_two, ← ziC]
  split
  ·rw [Nat.mod_mod, sq, Nat.add_zero, Nat.mul_comm]
  ·rw [Nat.mod_mod, Nat.mul_mod, Nat.mod_mod, sq, ← Nat.mul_mod, Nat.mul_comm 2, ← ziC, zmd]
theorem zvK (a : Nat) : zd2 a 255 % pN = zdj a (pN - 2) % pN := by
 have := zp0 a 255 (jV _)
 rwa [Nat.sub_self, Nat.pow_zero, Nat.div_one] at this
attribute [local irreducible] zd2 zdj
theorem zjA : Tryz.prog.built 84 [(0, .int .u64 1)] = some (arr .u64 16 fun i => ((zak 1 i : Nat) : Int)) := by kernel_rfl
theorem zoN (a : Nat) (ha : a < pN) (w : World) :
  Calls Tryz.prog 61 #[.agg (arr .u64 16 fun i => ((zak a i : Nat) : Int))] w fun e w' => e = .returned (.agg (arr .u64 16 fun i => ((zak (zd2 a 255) i : Nat) : Int))) ∧ Below w.heap.size w w' := by
 go_enter Tryz.func61, Tryz.ntmps61
 obtain ⟨h0, h1, hsz, hb⟩ := zcb w (.cells (arr .u64 16 fun i => ((zak a i : Nat) : Int)) 84) (.cells (arr .u64 16 fun _ => 0) 84)
 go_upto_region 1 with (refine zae rfl rfl ze4 ?_)
 generalize (w.alloc (.cells (arr .u64 16 fun i => ((zak a i : Nat) : Int)) 84)).alloc (.cells (arr .u64 16 fun _ => 0) 84) = wa at *
 (try simp only [Act.put, jA, jB, jC])
 try simp only [World.size_alloc]
 have ha' := Lib.hid (Nat.lt_trans ha zyL)
 clear ha
 go_upto_region 2 with (first | (refine za8 rfl (zaJ rfl (by simp [Act.eval, Act.put]) zjA) ?_) | (refine zay rfl rfl rfl rfl ze4 zbb rfl rfl ?_; intro w8 h2 b8 hs8))
 replace h0 := zaa b8 (by omega) h0
 replace h1 := zaa b8 (by omega) h1
 replace hb := hb.trans (b8.mono (by omega))
 rw [hsz] at h2 ⊢
 clear b8 hs8 hsz
 (try simp only [Act.put, jA, jB, jC])
 go_wp2
 go_loopg [4] 255 (fun n i wr => i = .int .i64 ((n : Int) - 1) ∧ n ≤ 255 ∧ wr.heap[w.heap.size]? = some (.cells (arr .u64 16 fun i => ((zak a i : Nat) : Int)) 84 (0, 0)) ∧ wr.heap[w.heap.size + 1]? = some (.cells (arr .u64 16 fun _ => 0) 84 (0, 0)) ∧
  wr.heap[w.heap.size + 2]? = some (.cells (arr .u64 16 fun i => ((zak (zd2 a (255 - n)) i : Nat) : Int)) 84 (0, 0)) ∧ Below w.heap.size w wr)
 case atStart => exact ⟨rfl, jV _, h0, h1, (by rw [Nat.sub_self]; unfold zd2; exact h2), hb⟩
 case round =>
  clear h0 h1 h2 hb
  obtain ⟨rfl, hn, h0, h1, h2, hB⟩ := hrel
  rcases Nat.eq_zero_or_pos gk with hz | hz
  ·subst hz
   rw [Nat.sub_zero] at h2
   go_wp2_with (first | (refine zab rfl rfl rfl zbb h2 ?_) | (refine zac rfl rfl rfl rfl zbb h1 ?_))
   exact bodyPost_ret (zaw rfl rfl zbb (zan h1)) rfl ⟨rfl, zam hB (by omega) _⟩
  ·obtain ⟨k, rfl⟩ : ∃ k, gk = k + 1 := ⟨gk - 1, by omega⟩
   have ek : ((k + 1 : Nat) : Int) - 1 = (k : Int) := by omega
   rw [ek]
   obtain ⟨t, ht⟩ : ∃ t, t = 255 - (k + 1) := ⟨_, rfl⟩
   rw [← ht] at h2
   have ht2 : 255 - k = t + 1 := by omega
   have HT := Lib.hid ht
   have HT2 := Lib.hid ht2
   have ok := Lib.hid (Nat.lt_trans (zto a t) zyL)
   have ok2 := Lib.hid (zyK (zd2 a t * zd2 a t))
   clear ek hz ht ht2
   by_cases hk2 : k = 2
   ·subst hk2
    have st : zd2 a (t + 1) = zd2 a t * zd2 a t % pN := by rw [zfY, if_pos (.inl (by have := HT.out; omega))]
    have ST := Lib.hid st
    clear st
    go_wp2_with (first | (refine zab rfl rfl rfl zbb h2 ?_) | (go_at_call 60; fail))
    refine (zhe _ _ ok.out ok.out _).mono ?_
    rintro e w4 ⟨rfl, b4⟩
    replace h0 := zaa b4 (jM h0) h0
    replace h1 := zaa b4 (jM h1) h1
    replace h2 := zaa b4 (jM h2) h2
    replace hB := hB.trans (b4.mono hB.size)
    clear b4
    go_wp2_with (refine zac rfl rfl rfl rfl zbb h2 ?_)
    go_roundg 2
    case measure => omega
    case rel => exact ⟨by go_num, by omega, zad h0 (by omega), zad h1 (by omega), (by rw [HT2.out, ST.out]; exact zan h2), zam hB (by omega) _⟩
   ·by_cases hk4 : k = 4
    ·subst hk4
     have st : zd2 a (t + 1) = zd2 a t * zd2 a t % pN := by rw [zfY, if_pos (.inr (by have := HT.out; omega))]
     have ST := Lib.hid st
     clear st hk2
     go_wp2_with (first | (refine zab rfl rfl rfl zbb h2 ?_) | (go_at_call 60; fail))
     refine (zhe _ _ ok.out ok.out _).mono ?_
     rintro e w4 ⟨rfl, b4⟩
     replace h0 := zaa b4 (jM h0) h0
     replace h1 := zaa b4 (jM h1) h1
     replace h2 := zaa b4 (jM h2) h2
     replace hB := hB.trans (b4.mono hB.size)
     clear b4
     go_wp2_with (refine zac rfl rfl rfl rfl zbb h2 ?_)
     go_roundg 4
     case measure => omega
     case rel => exact ⟨by go_num, by omega, zad h0 (by omega), zad h1 (by omega), (by rw [HT2.out, ST.out]; exact zan h2), zam hB (by omega) _⟩
    ·have e2 : ((k : Int) != 2) = true := by rw [bne_iff_ne]; omega
     have e4 : ((k : Int) != 4) = true := by rw [bne_iff_ne]; omega
     have st : zd2 a (t + 1) = zd2 a t * zd2 a t * a % pN := by rw [zfY, if_neg (by have := HT.out; omega), Nat.mod_mul_mod]
     have ST := Lib.hid st
     clear st hk2 hk4
     go_wp2_with (first | (refine zab rfl rfl rfl zbb h2 ?_) | (go_at_call 60; fail))
     refine (zhe _ _ ok.out ok.out _).mono ?_
     rintro e w4 ⟨rfl, b4⟩
     replace h0 := zaa b4 (jM h0) h0
     replace h1 := zaa b4 (jM h1) h1
     replace h2 := zaa b4 (jM h2) h2
     replace hB := hB.trans (b4.mono hB.size)
     clear b4
     go_upto_region 6 with (refine zac rfl rfl rfl rfl zbb h2 ?_)
     have lB : w.heap.size ≤ w.heap.size + 2 := by omega
     replace h0 := zad (c' := arr .u64 16 fun i => ((zak (zd2 a t * zd2 a t % pN) i : Nat) : Int)) h0 (show w.heap.size ≠ w.heap.size + 2 by omega)
     replace h1 := zad (c' := arr .u64 16 fun i => ((zak (zd2 a t * zd2 a t % pN) i : Nat) : Int)) h1 (show w.heap.size + 1 ≠ w.heap.size + 2 by omega)
     replace hB := zam hB lB (arr .u64 16 fun i => ((zak (zd2 a t * zd2 a t % pN) i : Nat) : Int))
     replace h2 := zan (c' := arr .u64 16 fun i => ((zak (zd2 a t * zd2 a t % pN) i : Nat) : Int)) h2
     generalize w4.setRow (w.heap.size + 2) (arr .u64 16 fun i => ((zak (zd2 a t * zd2 a t % pN) i : Nat) : Int)) = w5 at *
     (try simp only [Act.put, jA, jB, jC])
     go_wp2_with (first | (refine zab rfl rfl rfl zbb h2 ?_) | (refine zab rfl rfl rfl zbb h0 ?_) | (go_at_call 60; fail))
     refine (zhe _ _ ok2.out ha'.out _).mono ?_
     rintro e w4 ⟨rfl, b4⟩
     replace h0 := zaa b4 (jM h0) h0
     replace h1 := zaa b4 (jM h1) h1
     replace h2 := zaa b4 (jM h2) h2
     replace hB := hB.trans (b4.mono hB.size)
     clear b4
     go_wp2_with (refine zac rfl rfl rfl rfl zbb h2 ?_)
     go_roundg k
     case measure => omega
     case rel => exact ⟨by go_num, by omega, zad h0 (by omega), zad h1 (by omega), (by rw [HT2.out, ST.out]; exact zan h2), zam hB lB _⟩
theorem zvL (v i : Nat) : zak v i % 256 = zbj v (2 * i) := by rw [(zky v i).1]; unfold zbj; rfl
theorem ztp (v i : Nat) : zak v i / 256 = zbj v (2 * i + 1) := by rw [(zky v i).2]; unfold zbj; rfl
theorem zra (v : Nat) (w : World) :
  Calls Tryz.prog 59 #[.agg (arr .u64 16 fun i => ((zak v i : Nat) : Int))] w fun e w' => e = .returned (.agg (arr .u8 32 fun k => ((zbj v k : Nat) : Int))) ∧ Below w.heap.size w w' := by
 go_enter Tryz.func59, Tryz.ntmps59
 obtain ⟨h0, h1, hsz, hb⟩ := zcb w (.cells (arr .u64 16 fun i => ((zak v i : Nat) : Int)) 84) (.cells (arr .u8 32 fun _ => 0) 23)
 go_upto_region 1 with (refine zae rfl rfl zii ?_)
 generalize (w.alloc (.cells (arr .u64 16 fun i => ((zak v i : Nat) : Int)) 84)).alloc (.cells (arr .u8 32 fun _ => 0) 23) = wa at *
 (try simp only [Act.put, jA, jB, jC])
 try simp only [World.size_alloc]
 obtain ⟨h2, hz3, bl⟩ := zb6 wa (.cells (arr .u8 32 fun _ => 0) 23)
 go_upto_region 2 with (refine zae rfl rfl zii ?_)
 replace h0 := zaa bl (by omega) h0
 replace h1 := zaa bl (by omega) h1
 replace hb := hb.trans (bl.mono (by omega))
 rw [hsz] at h2 ⊢
 generalize wa.alloc (.cells (arr .u8 32 fun _ => 0) 23) = wb at *
 clear hz3 bl hsz
 (try simp only [Act.put, jA, jB, jC])
 go_wp2_with (refine zab rfl rfl rfl zbb h0 ?_)
 go_loopg [7] 16 (fun n i wr => ∃ m : Nat, m + n = 16 ∧ i = .int .i64 m ∧ wr.heap[w.heap.size + 1]? = some (.cells (arr .u8 32 fun _ => 0) 23 (0, 0)) ∧ wr.heap[w.heap.size + 2]? = some (.cells (arr .u8 32 fun q => ((if q < 2 * m then zbj v q else 0 : Nat) : Int)) 23 (0, 0)) ∧ Below w.heap.size w wr)
 case atStart => exact ⟨0, rfl, rfl, h1, zaf h2 (fun q _ => by rw [if_neg (by omega)]; rfl), hb⟩
 case round =>
  clear h0 h1 h2 hb
  obtain ⟨m, hm, rfl, h1, h2, hB⟩ := hrel
  have hm' := Lib.hid hm
  clear hm
  by_cases hlt : m < 16
  ·have b0 := zcT v m
   have c0 := zaj h2 (2 * m) (by omega)
   have c1 := zaj h2 (2 * m + 1) (by omega)
   have fz0 := zaH h2 (2 * m)
   have fz1 := zaH h2 (2 * m + 1)
   have q1 : zak v m % 256 < 256 := Nat.mod_lt _ (by omega)
   have q2 : zak v m / 256 < 256 := by omega
   go_wp2_with (refine zaR rfl rfl Tryz.underlying84 Tryz.underlying67 rfl zjd rfl rfl (by omega) (by omega) (by omega) ?_)
   go_roundg (gk - 1)
   case measure => have := hm'.out; omega
   case rel =>
    have hm'' := hm'.out
    refine ⟨m + 1, by omega, by go_num, zar (zar h1 _ _ (by omega)) _ _ (by omega), zaf (zaL (zaL h2 (2 * m) _) (2 * m + 1) _) (fun q _ => ?_), (hB.setCell (by show w.heap.size ≤ w.heap.size + 2; omega) _).setCell (by show w.heap.size ≤ w.heap.size + 2; omega) _⟩
    unfold upd
    by_cases e1 : q = 2 * m + 1
    ·rw [if_pos e1, if_pos (by omega), e1, ← ztp]; omega
    ·rw [if_neg e1]
     by_cases e0 : q = 2 * m
     ·rw [if_pos e0, if_pos (by omega), e0, ← zvL]; omega
     ·rw [if_neg e0]
      dsimp only
      by_cases e2 : q < 2 * m
      ·rw [if_pos e2, if_pos (by omega)]
      ·rw [if_neg e2, if_neg (by omega)]
  ·obtain rfl : m = 16 := by have := hm'.out; omega
   replace h2 := zaf (f' := fun k => ((zbj v k : Nat) : Int)) h2 (fun q hq => by rw [if_pos (by omega)])
   go_wp2_with (first | (refine zab rfl rfl rfl zch h2 ?_) | (refine zac rfl rfl rfl rfl zch h1 ?_))
   exact bodyPost_ret (zaw rfl rfl zch (zan h1)) rfl ⟨rfl, zam hB (by omega) _⟩
theorem hi8 (x m : Nat) (h : m % 2 = 1) : 256 * x * 2 ^ (16 * (m / 2)) = x * 2 ^ (8 * m) := by
 rw [show 8 * m = 16 * (m / 2) + 8 from by omega, Nat.pow_add]
 generalize 2 ^ (16 * (m / 2)) = z
 rw [show (2 : Nat) ^ 8 = 256 from rfl, Nat.mul_comm 256 x, Nat.mul_assoc, Nat.mul_comm 256 z]
theorem zBA : (Tryz.prog.info? 5).map (·.size) = some 1 := by kernel_rfl
theorem zoO (L : Nat → Nat) (c t v : Nat) (hc : c < 32) (h : zbd L 32 + t * 2 ^ (16 * c) = v) : zbd (fun j => L j + if c = j then t else 0) 32 = v := by
 rw [zjy, if_pos hc, h]
theorem znC (k : Nat → Nat) (hk : ∀ i, i < 32 → k i < 256) (w : World) :
  Calls Tryz.prog 56 #[.agg (arr .u8 32 fun i => ((k i : Nat) : Int))] w fun e w' => e = .returned (.agg (arr .u64 16 fun i => ((zak (kvN (zht k) 32 % pN) i : Nat) : Int))) ∧ Below w.heap.size w w' := by
 go_enter Tryz.func56, Tryz.ntmps56
 obtain ⟨h0, h1, hsz, hb⟩ := zcb w (.cells (arr .u8 32 fun i => ((k i : Nat) : Int)) 23) (.cells (arr .u64 16 fun _ => 0) 84)
 go_upto_region 1 with (refine zae rfl rfl ze4 ?_)
 generalize (w.alloc (.cells (arr .u8 32 fun i => ((k i : Nat) : Int)) 23)).alloc (.cells (arr .u64 16 fun _ => 0) 84) = wa at *
 (try simp only [Act.put, jA, jB, jC])
 try simp only [World.size_alloc]
 obtain ⟨h2, hz3, bl⟩ := zb6 wa (.cells (arr .u64 32 fun _ => 0) 116)
 go_upto_region 2 with (refine zae rfl rfl zBd ?_)
 replace h0 := zaa bl (by omega) h0
 replace h1 := zaa bl (by omega) h1
 replace hb := hb.trans (bl.mono (by omega))
 rw [hsz] at h2 ⊢
 generalize wa.alloc (.cells (arr .u64 32 fun _ => 0) 116) = wb at *
 clear hz3 bl hsz
 (try simp only [Act.put, jA, jB, jC])
 have hk' := Lib.hid hk
 clear hk
 go_wp2_with (refine zab rfl rfl rfl zch h0 ?_)
 go_loopg [8] 32 (fun n i wr => ∃ (m : Nat) (L : Nat → Nat), m + n = 32 ∧ i = .int .i64 m ∧ (∀ c, L c ≤ m * 65280) ∧ zbd L 32 = kvN (zht k) m ∧ wr.heap[w.heap.size + 1]? = some (.cells (arr .u64 16 fun _ => 0) 84 (0, 0)) ∧ wr.heap[w.heap.size + 2]? = some (.cells (arr .u64 32 fun q => ((L q : Nat) : Int)) 116 (0, 0)) ∧ Below w.heap.size w wr)
 case atStart => exact ⟨0, fun _ => 0, rfl, rfl, (fun _ => Nat.zero_le _), zhH _ (fun _ => rfl) 32, h1, h2, hb⟩
 case round =>
  clear h0 h1 h2 hb
  obtain ⟨m, L, hm, rfl, hLl, hLv, h1, h2, hB⟩ := hrel
  have hm' := Lib.hid hm
  have HL := Lib.hid hLl
  have HV := Lib.hid hLv
  clear hm hLl hLv
  by_cases hlt : m < 32
  ·have b0 := hk'.out m hlt
   have lb := HL.out (m / 2)
   have c0 := zaj h2 (m / 2) (by omega)
   have fz := zaH h2 (m / 2)
   have hodd : m % 2 = 0 ∨ (m % 2 = 1 ∧ m ≠ 31) ∨ m = 31 := by omega
   rcases hodd with ho | ⟨ho, h31⟩ | h31
   ·have e31 : ((m : Int) == 31) = false := by rw [beq_eq_false_iff_ne]; omega
    have eo : ((m : Int) % 2 == 1) = false := by rw [beq_eq_false_iff_ne]; omega
    have et : zht k m = k m := by unfold zht; rw [if_neg (by omega)]
    have ET := Lib.hid et
    have HO := Lib.hid ho
    clear ho et
    go_wp2_with (refine zaR rfl rfl Tryz.underlying23 Tryz.underlying5 rfl zBA rfl rfl (by omega) (by omega) (by omega) ?_)
    go_roundg (gk - 1)
    case measure => have := hm'.out; omega
    case rel =>
     have hm'' := hm'.out
     have ho := HO.out
     refine ⟨m + 1, fun j => L j + if m / 2 = j then k m else 0, by omega, by go_num, fun c => ?_, zoO L (m / 2) (k m) _ (by omega) ?_, zar h1 _ _ (by omega), zaf (zaL h2 (m / 2) _) (fun q _ => ?_), hB.setCell (by show w.heap.size ≤ w.heap.size + 2; omega) _⟩
     ·have h1 := HL.out c
      dsimp only
      rw [Nat.succ_mul m 65280]
      refine Nat.add_le_add h1 ?_
      split
      ·omega
      ·exact Nat.zero_le _
     ·rw [HV.out, zd9, ET.out, show 8 * m = 16 * (m / 2) from by omega]
     ·unfold upd
      dsimp only
      by_cases h : q = m / 2
      ·rw [if_pos h, if_pos h.symm, h]; omega
      ·rw [if_neg h, if_neg (fun e => h e.symm)]; rfl
   ·have e31 : ((m : Int) == 31) = false := by rw [beq_eq_false_iff_ne]; omega
    have eo : ((m : Int) % 2 == 1) = true := by rw [beq_iff_eq]; omega
    have et : zht k m = k m := by unfold zht; rw [if_neg h31]
    have ET := Lib.hid et
    have HO := Lib.hid ho
    clear ho et h31
    go_wp2_with (refine zaR rfl rfl Tryz.underlying23 Tryz.underlying5 rfl zBA rfl rfl (by omega) (by omega) (by omega) ?_)
    go_roundg (gk - 1)
    case measure => have := hm'.out; omega
    case rel =>
     have hm'' := hm'.out
     have ho := HO.out
     refine ⟨m + 1, fun j => L j + if m / 2 = j then 256 * k m else 0, by omega, by go_num, fun c => ?_, zoO L (m / 2) (256 * k m) _ (by omega) ?_, zar h1 _ _ (by omega), zaf (zaL h2 (m / 2) _) (fun q _ => ?_), hB.setCell (by show w.heap.size ≤ w.heap.size + 2; omega) _⟩
     ·have h1 := HL.out c
      dsimp only
      rw [Nat.succ_mul m 65280]
      refine Nat.add_le_add h1 ?_
      split
      ·omega
      ·exact Nat.zero_le _
     ·exact (by rw [hi8 (k m) m ho, HV.out, zd9, ← ET.out])
     ·unfold upd
      dsimp only
      by_cases h : q = m / 2
      ·rw [if_pos h, if_pos h.symm, h]; omega
      ·rw [if_neg h, if_neg (fun e => h e.symm)]; rfl
   ·subst h31
    clear lb c0 fz
    have lb := HL.out 15
    have c0 := zaj h2 15 (by omega)
    have fz := zaH h2 15
    have et : zht k 31 = k 31 % 128 := by unfold zht; rw [if_pos rfl]
    have ET := Lib.hid et
    clear et
    go_wp2_with (refine zaR rfl rfl Tryz.underlying23 Tryz.underlying5 rfl zBA rfl rfl (by omega) (by omega) (by omega) ?_)
    go_roundg (gk - 1)
    case measure => have := hm'.out; omega
    case rel =>
     have hm'' := hm'.out
     refine ⟨32, fun j => L j + if 15 = j then 256 * (k 31 % 128) else 0, by omega, by go_num, fun c => ?_, zoO L 15 (256 * (k 31 % 128)) _ (by omega) ?_, zar h1 _ _ (by omega), zaf (zaL h2 15 _) (fun q _ => ?_), hB.setCell (by show w.heap.size ≤ w.heap.size + 2; omega) _⟩
     ·have h1 := HL.out c
      dsimp only
      rw [show 32 * 65280 = 31 * 65280 + 65280 from rfl]
      refine Nat.add_le_add h1 ?_
      split
      ·omega
      ·exact Nat.zero_le _
     ·rw [HV.out, show kvN (zht k) 32 = kvN (zht k) 31 + zht k 31 * 2 ^ (8 * 31) from rfl, ET.out, ← hi8 _ 31 rfl]
     ·unfold upd
      dsimp only
      by_cases h : q = 15
      ·rw [if_pos h, if_pos h.symm, h]; omega
      ·rw [if_neg h, if_neg (fun e => h e.symm)]; rfl
  ·obtain rfl : m = 32 := by have := hm'.out; omega
   go_wp2_with (first | (refine zab rfl rfl rfl zBc h2 ?_) | (go_at_call 83; fail))
   refine (zmh L (fun i _ => by have := HL.out i; omega) _ HV.out _).mono ?_
   rintro e w4 ⟨rfl, b4⟩
   replace h1 := zaa b4 (jM h1) h1
   replace hB := hB.trans (b4.mono hB.size)
   go_wp2_with (refine zac rfl rfl rfl rfl zbb h1 ?_)
   exact bodyPost_ret (zaw rfl rfl zbb (zan h1)) rfl ⟨rfl, zam hB (by omega) _⟩
end
section
open Go.RowKit
theorem zjB {F : Nat → Nat} (hF : okF F 5) {v : Nat} (h : zbV F 5 % pN = v) (i : Nat) : ((zbY F i : Nat) : Int) = ((zbj v i : Nat) : Int) := by
 rw [zs0 F hF i, zsS F (fun i hi => zpF hF i hi), h]
attribute [local irreducible] zbd ovR loR zak boN zfr pN zfG zhu zbV zbj zbY zd2 zea zbG zdq zcR sqN zij zik zci zeH zdj
theorem znD (F : Nat → Nat) (hF : okF F 5) (w : World) : Calls Tryz.prog 49 #[.agg (arr .u64 5 fun i => ((F i : Nat) : Int))] w fun e w' => e = .returned (.tuple #[.agg (arr .u8 32 fun k => ((zbY F k : Nat) : Int)), .int .i64 0]) ∧ Below w.heap.size w w' :=
 (zoE F (zhX hF) w).mono fun e w' h => by rw [if_pos hF] at h; exact h
end
section
open Go.RowKit
attribute [local irreducible] zea zbj zbG zdq zcR sqN zij zik zci zbV zbY zeH ofN
theorem zp1 {k : Nat → Nat} (hk : ∀ i, i < 32 → k i < 256) (i : Nat) (hi : i < 32) : zag k i < 256 := by
 have := hk i hi
 have := hk 0 (by omega)
 unfold zag
 split
 ·omega
 ·split
  ·omega
  ·omega
theorem zCk (x : Nat) (h : x < 256) : bits .andNot .u8 (x : Int) 7 = ((x / 8 * 8 : Nat) : Int) := by
 have : ∀ x : Nat, x < 256 → bits .andNot .u8 (x : Int) 7 = ((x / 8 * 8 : Nat) : Int) := by decide +kernel
 exact this x h
theorem zCm (x : Nat) (h : x < 256) : bits .or .u8 ((x : Int) % 64) 64 = ((x % 64 + 64 : Nat) : Int) := by
 have : ∀ x : Nat, x < 256 → bits .or .u8 ((x : Int) % 64) 64 = ((x % 64 + 64 : Nat) : Int) := by decide +kernel
 exact this x h
theorem ztq (k : Nat → Nat) (hk : ∀ i, i < 32 → k i < 256) (w : World) :
  Calls Tryz.prog 41 #[.agg (arr .u8 32 fun i => ((k i : Nat) : Int))] w fun e w' => e = .returned (.agg (arr .u8 32 fun i => ((zag k i : Nat) : Int))) ∧ Below w.heap.size w w' := by
 obtain ⟨x, hx⟩ : ∃ x, k 0 = x := ⟨_, rfl⟩
 obtain ⟨y, hy⟩ : ∃ x, k 31 = x := ⟨_, rfl⟩
 have lx : x < 256 := hx ▸ hk 0 (by omega)
 have ly : y < 256 := hy ▸ hk 31 (by omega)
 have o7 := Lib.hid (zCk x lx)
 have o64 := Lib.hid (zCm y ly)
 clear hk
 go_enter Tryz.func41, Tryz.ntmps41
 obtain ⟨h0, h1, hsz, hb⟩ := zcb w (.cells (arr .u8 32 fun i => ((k i : Nat) : Int)) 23) (.cells (arr .u8 32 fun _ => 0) 23)
 go_upto_region 1 with (refine zae rfl rfl zii ?_)
 generalize (w.alloc (.cells (arr .u8 32 fun i => ((k i : Nat) : Int)) 23)).alloc (.cells (arr .u8 32 fun _ => 0) 23) = wa at *
 (try simp only [Act.put, jA, jB, jC])
 simp only [World.size_alloc]
 clear hsz
 have c0 : wa.cell? ⟨w.heap.size, 0, none⟩ = some (.int .u8 (x : Int)) := by rw [zaj h0 0 (by omega), hx]
 have f0 := zaH h0
 go_upto_region 2 with (fail)
 simp only [o7.out]
 have h0' := zaL h0 0 ((x / 8 * 8 : Nat) : Int)
 have h1' := zar (C := w.heap.size) h1 0 (.int .u8 ((x / 8 * 8 : Nat) : Int)) (by omega)
 have hb' := hb.setCell (p := ⟨w.heap.size, 0, none⟩) (jV _) (.int .u8 ((x / 8 * 8 : Nat) : Int))
 clear c0 f0 h0 h1 hb
 generalize wa.setCell ⟨w.heap.size, 0, none⟩ (.int .u8 ((x / 8 * 8 : Nat) : Int)) = wb at *
 have c1 : wb.cell? ⟨w.heap.size, 31, none⟩ = some (.int .u8 (y : Int)) := by rw [zaj h0' 31 (by omega)]; unfold upd; rw [if_neg (by omega)]; dsimp only; rw [hy]
 have f1 := zaH h0'
 go_upto_region 3 with (fail)
 simp only [o64.out]
 have h0 := zaL h0' 31 ((y % 64 + 64 : Nat) : Int)
 have h1 := zar (C := w.heap.size) h1' 31 (.int .u8 ((y % 64 + 64 : Nat) : Int)) (by omega)
 have hb := hb'.setCell (p := ⟨w.heap.size, 31, none⟩) (jV _) (.int .u8 ((y % 64 + 64 : Nat) : Int))
 clear c1 f1 h0' h1' hb'
 generalize wb.setCell ⟨w.heap.size, 31, none⟩ (.int .u8 ((y % 64 + 64 : Nat) : Int)) = wc at *
 replace h0 := zaf (f' := fun i => ((zag k i : Nat) : Int)) h0 (fun i hi => by
  unfold upd zag
  dsimp only
  rw [hx, hy]
  by_cases e1 : i = 31
  ·rw [if_pos e1, if_neg (by omega), if_pos e1]
  ·rw [if_neg e1]
   by_cases e2 : i = 0
   ·rw [if_pos e2, if_pos e2]
   ·rw [if_neg e2, if_neg e2, if_neg e1])
 go_wp2_with (first | (refine zab rfl rfl rfl zch h0 ?_) | (refine zac rfl rfl rfl rfl zch h1 ?_))
 exact bodyPost_ret (zaw rfl rfl zch (zan h1)) rfl ⟨rfl, zam hb (by omega) _⟩
theorem zrb (k : Nat → Nat) (hk : ∀ i, i < 32 → k i < 256) (w : World) :
  Calls Tryz.prog 55 #[.agg (arr .u8 32 fun i => ((k i : Nat) : Int))] w fun e w' => e = .returned (.agg (arr .u8 32 fun i => ((zag k i : Nat) : Int))) ∧ Below w.heap.size w w' := by
 obtain ⟨x, hx⟩ : ∃ x, k 0 = x := ⟨_, rfl⟩
 obtain ⟨y, hy⟩ : ∃ x, k 31 = x := ⟨_, rfl⟩
 have lx : x < 256 := hx ▸ hk 0 (by omega)
 have ly : y < 256 := hy ▸ hk 31 (by omega)
 have o7 := Lib.hid (zCk x lx)
 have o64 := Lib.hid (zCm y ly)
 clear hk
 go_enter Tryz.func55, Tryz.ntmps55
 obtain ⟨h0, h1, hsz, hb⟩ := zcb w (.cells (arr .u8 32 fun i => ((k i : Nat) : Int)) 23) (.cells (arr .u8 32 fun _ => 0) 23)
 go_upto_region 1 with (refine zae rfl rfl zii ?_)
 generalize (w.alloc (.cells (arr .u8 32 fun i => ((k i : Nat) : Int)) 23)).alloc (.cells (arr .u8 32 fun _ => 0) 23) = wa at *
 (try simp only [Act.put, jA, jB, jC])
 simp only [World.size_alloc]
 clear hsz
 have c0 : wa.cell? ⟨w.heap.size, 0, none⟩ = some (.int .u8 (x : Int)) := by rw [zaj h0 0 (by omega), hx]
 have f0 := zaH h0
 go_upto_region 2 with (fail)
 simp only [show ((x : Int) / 8 * 8) = ((x / 8 * 8 : Nat) : Int) from by omega]
 have h0' := zaL h0 0 ((x / 8 * 8 : Nat) : Int)
 have h1' := zar (C := w.heap.size) h1 0 (.int .u8 ((x / 8 * 8 : Nat) : Int)) (by omega)
 have hb' := hb.setCell (p := ⟨w.heap.size, 0, none⟩) (jV _) (.int .u8 ((x / 8 * 8 : Nat) : Int))
 clear c0 f0 h0 h1 hb
 generalize wa.setCell ⟨w.heap.size, 0, none⟩ (.int .u8 ((x / 8 * 8 : Nat) : Int)) = wb at *
 have c1 : wb.cell? ⟨w.heap.size, 31, none⟩ = some (.int .u8 (y : Int)) := by rw [zaj h0' 31 (by omega)]; unfold upd; rw [if_neg (by omega)]; dsimp only; rw [hy]
 have f1 := zaH h0'
 go_upto_region 3 with (fail)
 simp only [show ((y : Int) % 64 + 64) = ((y % 64 + 64 : Nat) : Int) from by omega]
 have h0 := zaL h0' 31 ((y % 64 + 64 : Nat) : Int)
 have h1 := zar (C := w.heap.size) h1' 31 (.int .u8 ((y % 64 + 64 : Nat) : Int)) (by omega)
 have hb := hb'.setCell (p := ⟨w.heap.size, 31, none⟩) (jV _) (.int .u8 ((y % 64 + 64 : Nat) : Int))
 clear c1 f1 h0' h1' hb'
 generalize wb.setCell ⟨w.heap.size, 31, none⟩ (.int .u8 ((y % 64 + 64 : Nat) : Int)) = wc at *
 replace h0 := zaf (f' := fun i => ((zag k i : Nat) : Int)) h0 (fun i hi => by
  unfold upd zag
  dsimp only
  rw [hx, hy]
  by_cases e1 : i = 31
  ·rw [if_pos e1, if_neg (by omega), if_pos e1]
  ·rw [if_neg e1]
   by_cases e2 : i = 0
   ·rw [if_pos e2, if_pos e2]
   ·rw [if_neg e2, if_neg e2, if_neg e1])
 go_wp2_with (first | (refine zab rfl rfl rfl zch h0 ?_) | (refine zac rfl rfl rfl rfl zch h1 ?_))
 exact bodyPost_ret (zaw rfl rfl zch (zan h1)) rfl ⟨rfl, zam hb (by omega) _⟩
end
section
open Go.RowKit
theorem ztr (k : Nat → Nat) (hk : ∀ i, i < 32 → k i < 256) : kvN (zht k) 32 = kvN k 32 % 57896044618658097711785492504343953926634992332820282019728792003956564819968 := by
 have e1 : kvN (zht k) 31 = kvN k 31 := zji _ _ 31 (fun i hi => by unfold zht; rw [if_neg (by omega)])
 have e2 : kvN (zht k) 32 = kvN (zht k) 31 + zht k 31 * 2 ^ (8 * 31) := rfl
 have e3 : kvN k 32 = kvN k 31 + k 31 * 2 ^ (8 * 31) := rfl
 have h1 := zkq k 31 (fun i hi => hk i (by omega)) 31 (jV _)
 have h2 : zht k 31 = k 31 % 128 := by unfold zht; rw [if_pos rfl]
 rw [e2, e3, e1, h2]
 generalize kvN k 31 = v at *
 generalize k 31 = x at *
 rw [show (2 : Nat) ^ (8 * 31) = 452312848583266388373324160190187140051835877600158453279131187530910662656 from rfl] at *
 omega
theorem zyN (k : Nat → Nat) (hk : ∀ i, i < 32 → k i < 256) : zbV (ofN k) 5 % pN = kvN (zht k) 32 % pN := by
 have e : zbV (ofN k) 5 = zbV (zA7 (kvN k 32)) 5 := by
  rw [zbh, zbh]
  simp only [zyi]
 rw [e, zyh, ztr k hk]
attribute [local irreducible] zbd ovR loR zak boN zfr pN zfG zhu zbV zbj zbY zd2 zea zbG zdq zcR sqN zij zik zci zeH zdj ofN kvN zht
end
section
open Go.RowKit
theorem zts (a : Nat) : fM 0 a = 0 := by unfold fM; rw [Nat.zero_mul, Nat.zero_mod]
theorem zyO (a : Nat) (h : a < pN) : fS a a = 0 := by
 unfold fS
 rw [show a + (pN - a) = pN by omega, Nat.mod_self]
theorem zyP (a : Nat) (h : a < pN) : fA a 0 = a := by unfold fA; rw [Nat.add_zero, Nat.mod_eq_of_lt h]
theorem zyQ (a : Nat) (h : a < pN) : fS a 0 = a := by unfold fS; rw [Nat.sub_zero, Nat.add_mod_right, Nat.mod_eq_of_lt h]
theorem zp2 (q s : Pt) : (zee 0 q s).z = 0 := zts _
theorem ztt {q : Pt} (h : q.x < pN) (hz : q.z = 0) : zoI q = 0 := by
 unfold zoI
 rw [hz, zyP _ h, zyQ _ h]
 exact zyO _ (zeQ _ _)
theorem zvM {q : Pt} (h : zoI q = 0) : (zeC q).z = 0 := by
 unfold zeC
 dsimp only
 rw [h]
 exact zts _
theorem zvN : zoI ⟨0, 1⟩ = 0 := by unfold zoI fS fM fA pN; decide +kernel
theorem zCn (k : Nat → Nat) : ∀ n, (zbf 0 k (n + 1)).1.z = 0 ∧ (zbf 0 k (n + 1)).2.z = 0
 | 0 => by
  rw [show zbf 0 k (0 + 1) = zhc 0 (zeK k 0) ⟨1, 0⟩ ⟨0, 1⟩ from rfl]
  unfold zhc
  split
  ·exact ⟨zp2 _ _, zvM zvN⟩
  ·exact ⟨zvM (ztt ziD rfl), zp2 _ _⟩
 | n + 1 => by
  have ih := zCn k n
  have ok := zkx 0 zc1 k (n + 1)
  rw [show zbf 0 k (n + 1 + 1) = zhc 0 (zeK k (n + 1)) (zbf 0 k (n + 1)).1 (zbf 0 k (n + 1)).2 from rfl]
  unfold zhc
  split
  ·exact ⟨zp2 _ _, zvM (ztt ok.2.1 ih.2)⟩
  ·exact ⟨zvM (ztt ok.1.1 ih.1), zp2 _ _⟩
theorem ztu (k : Nat → Nat) : zdA k 0 = 0 := by
 unfold zdA
 rw [(zCn (zag k) 254).1]
 unfold fM
 rw [Nat.mul_mod, znx _ pN 0 (by omega) (Nat.zero_mod _), Nat.mul_zero, Nat.zero_mod]
theorem ztv (k : Nat → Nat) (u : Nat) : zdA k u < pN := zeQ _ _
theorem zrc (i : Nat) : zbj 0 i = 0 := by unfold zbj; rw [Nat.zero_div, Nat.zero_mod]
theorem zyR : pN < 57896044618658097711785492504343953926634992332820282019728792003956564819968 := by unfold pN; decide +kernel
theorem zyS : pN < 2 ^ 256 := by unfold pN; decide +kernel
theorem zjC (v : Nat) (h : v < pN) : za2 (zbj v) = v := by
 unfold za2
 rw [ztr _ (fun i _ => zix v i), zpG]
 rw [show 8 * 32 = 256 from rfl, Nat.mod_eq_of_lt (Nat.lt_trans h zyS), Nat.mod_eq_of_lt (Nat.lt_trans h zyR), Nat.mod_eq_of_lt h]
theorem zkz {u v : Nat → Nat} (h : ∀ i, i < 32 → zht u i = zht v i) : za2 u = za2 v := by
 unfold za2
 rw [zji _ _ 32 h]
theorem ztw : za2 (fun i => if i = 0 then 9 else 0) = 9 := by unfold za2 pN; decide +kernel
end
section
open Go.RowKit
inductive HK where
 | val (r : zfF)
 | new (ty : TypeId) (k : IntKind) (m : Nat)
 | put (a : Nat) (f : Nat → Int)
def HK.fact : HK → zfF
 | .val r => r
 | _ => fun _ _ => True
def HK.putsIn (K : HK) (a : Nat) : Bool := match K with | .put b _ => b == a | _ => false
def zef (listed : Array Bool) (a : Nat) : List HK → Nat → Nat → Int
 | [], _ => fun _ => 0
 | .put b f :: l, i => if b = a ∧ listed.getD i true = true then f else zef listed a l (i + 1)
 | .val _ :: l, i => zef listed a l (i + 1)
 | .new _ _ _ :: l, i => zef listed a l (i + 1)
def zw9 (a : Nat) : List HK → Nat → Int
 | [] => fun _ => 0
 | .put b f :: l => if b = a then f else zw9 a l
 | .val _ :: l => zw9 a l
 | .new _ _ _ :: l => zw9 a l
theorem zhf (listed : Array Bool) (a : Nat) : ∀ (l : List HK) (i : Nat), (∀ j, i ≤ j → j < i + l.length → listed.getD j true = true) → zef listed a l i = zw9 a l
 | [], _, _ => rfl
 | .put b f :: l, i, h => by
  unfold zef zw9
  have := zhf listed a l (i + 1) (fun j h1 h2 => h j (by omega) (by simp only [List.length_cons]; omega))
  rw [this]
  by_cases hb : b = a
  ·rw [if_pos ⟨hb, h i (jV _) (by simp)⟩, if_pos hb]
  ·rw [if_neg (fun e => hb e.1), if_neg hb]
 | .val r :: l, i, h => by
  unfold zef zw9
  exact zhf listed a l (i + 1) (fun j h1 h2 => h j (by omega) (by simp only [List.length_cons]; omega))
 | .new _ _ _ :: l, i, h => by
  unfold zef zw9
  exact zhf listed a l (i + 1) (fun j h1 h2 => h j (by omega) (by simp only [List.length_cons]; omega))
theorem zc9 (listed : Array Bool) (a j : Nat) : ∀ (l : List HK) (i : Nat), (∀ K, i ≤ j → l[j - i]? = some K → K.putsIn a = false) → zef (listed.setIfInBounds j true) a l i = zef listed a l i
 | [], _, _ => rfl
 | .put b f :: l, i, h => by
  unfold zef
  rw [zc9 listed a j l (i + 1) (fun K h1 h2 => h K (by omega) (by rw [show j - i = (j - (i + 1)) + 1 by omega]; exact h2))]
  by_cases hj : i = j
  ·subst hj
   have := h (.put b f) (jV _) (by simp)
   have hb : ¬ b = a := by simpa [HK.putsIn] using this
   rw [if_neg (fun e => hb e.1), if_neg (fun e => hb e.1)]
  ·rw [getD_set_ne true (Ne.symm hj)]
 | .val r :: l, i, h => by
  unfold zef
  exact zc9 listed a j l (i + 1) (fun K h1 h2 => h K (by omega) (by rw [show j - i = (j - (i + 1)) + 1 by omega]; exact h2))
 | .new _ _ _ :: l, i, h => by
  unfold zef
  exact zc9 listed a j l (i + 1) (fun K h1 h2 => h K (by omega) (by rw [show j - i = (j - (i + 1)) + 1 by omega]; exact h2))
def zrd (a : Nat) (l : List HK) : Bool := decide ((l.filter fun K => K.putsIn a).length ≤ 1)
theorem znE (listed : Array Bool) (a j : Nat) (f : Nat → Int) (hl : listed.getD j true = false) : ∀ (l : List HK) (i : Nat), i ≤ j → l[j - i]? = some (.put a f) → zrd a l = true → zef (listed.setIfInBounds j true) a l i = f
 | [], _, _, h, _ => by simp at h
 | K :: l, i, hi, h, ho => by
  have hs : (listed.setIfInBounds j true).getD j true = true := by
   simp [Array.getElem?_setIfInBounds]
   split <;> simp
  by_cases hj : i = j
  ·subst hj
   rw [Nat.sub_self] at h
   simp only [jD, Option.some.injEq] at h
   subst h
   unfold zef
   rw [if_pos ⟨rfl, hs⟩]
  ·have h' : l[j - (i + 1)]? = some (.put a f) := by
    rw [show j - i = (j - (i + 1)) + 1 by omega, jE] at h
    exact h
   have hK : K.putsIn a = false := by
    cases hp : K.putsIn a with
    | false => rfl
    | true =>
     unfold zrd at ho
     rw [List.filter_cons, if_pos hp, jS] at ho
     have : (l.filter fun K => K.putsIn a) = [] := by
      apply List.eq_nil_of_length_eq_zero
      simp only [List.length_cons] at ho
      omega
     rw [List.filter_eq_nil_iff] at this
     exact absurd (by simp [HK.putsIn]) (this _ (List.mem_of_getElem? h'))
   have ho' : zrd a l = true := by
    unfold zrd at ho ⊢
    rw [List.filter_cons, if_neg (by rw [hK]; decide)] at ho
    exact ho
   have ih := znE listed a j f hl l (i + 1) (by omega) h' ho'
   cases K with
   | val r => unfold zef; exact ih
   | new _ _ _ => unfold zef; exact ih
   | put b g =>
    unfold zef
    have hb : ¬ b = a := by simpa [HK.putsIn] using hK
    rw [if_neg (fun e => hb e.1)]
    exact ih
def ztx (N : Nat) (x : Value) (w : World) (ty : TypeId) (k : IntKind) (m : Nat) (f : Nat → Int) : Prop := ∃ B, x = .pointer (some ⟨B, 0, none⟩) ∧ N ≤ B ∧ w.heap[B]? = some (.cells (arr k m f) ty (0, 0))
theorem ztx.below {N : Nat} {x : Value} {w w' : World} {ty : TypeId} {k : IntKind} {m : Nat} {f : Nat → Int} (h : ztx N x w ty k m f) (hb : Below w.heap.size w w') : ztx N x w' ty k m f := by
 obtain ⟨B, h1, h2, h3⟩ := h
 exact ⟨B, h1, h2, (hb.block B (jM h3)).trans h3⟩
def zdK (P : Program) (ops : Array Oper) (Q : Exit → Act → World → Prop) (Ks : List HK) (xs : List Value) (o : Oper) (r : HK) (js : List Nat) (a : Act) (w : World) : Prop :=
 match r with
 | .val r => zbX P ops Q o r a w
 | .new ty k m => Region.wanted o (yielded ops a.tmps) = true ∧ o.op = .alloc ty ∧ zcy P ty k m
 | .put b f => Region.wanted o (yielded ops a.tmps) = true ∧ ∃ ty k m x y, o.op = .store ty x y ∧ Ks[b]? = some (.new ty k m) ∧ b ∈ js ∧ zeT P ty m ∧ (∀ v, xs[b]? = some v → a.eval x = v) ∧ a.eval y = .agg (arr k m f)
def zdv (P : Program) (ops : Array Oper) (Q : Exit → Act → World → Prop) (n : Nat) (hd : List Oper) (a : Act) (w0 : World) (Ks : List HK) : List (Oper × HK × List Nat) → Prop
 | [] => True
 | (o, r, js) :: l => (zfO n fun xs => ∀ w', Below w0.heap.size w0 w' → zcD (Ks.map HK.fact) xs w' js (zdK P ops Q Ks xs o r js (zbQ hd a xs) w')) ∧ zdv P ops Q n hd a w0 Ks l
def zez (N : Nat) (Ks : List HK) (xs : List Value) (w : World) (p : Prop) : List HK → Nat → Prop
 | [], _ => p
 | .new ty k m :: l, i => (match xs[i]? with | some x => ztx N x w ty k m (zw9 i Ks) | none => True) → zez N Ks xs w p l (i + 1)
 | _ :: l, i => zez N Ks xs w p l (i + 1)
def zh1 (N : Nat) (K : HK) : Prop := ∀ v w w', Below N w w' → K.fact v w → K.fact v w'
theorem zba (N : Nat) (v : Value) : zh1 N (.val (Is v)) := fun _ _ _ _ h => h
theorem zmi (N : Nat) (ty : TypeId) (k : IntKind) (m : Nat) : zh1 N (.new ty k m) := fun _ _ _ _ _ => trivial
theorem zty (N : Nat) (a : Nat) (f : Nat → Int) : zh1 N (.put a f) := fun _ _ _ _ _ => trivial
theorem zmj (N : Nat) : ∀ K ∈ ([] : List HK), zh1 N K := fun _ h => by cases h
theorem zaD {N : Nat} {K : HK} {l : List HK} (h : zh1 N K) (hl : ∀ K ∈ l, zh1 N K) : ∀ K' ∈ K :: l, zh1 N K' := fun K' hK => by
 rcases List.mem_cons.1 hK with rfl | hK
 ·exact h
 ·exact hl _ hK
def HK.isNew : HK → Bool
 | .new _ _ _ => true
 | _ => false
def zoP (Ks : List HK) (D : List (Nat × Nat)) : Bool := D.all fun d => decide (d.1 < d.2) && (match Ks[d.1]? with | some K => K.isNew | none => false) && (match Ks[d.2]? with | some K => K.isNew | none => false)
def ztz (Ks : List HK) : Bool := (List.range Ks.length).all fun a => zrd a Ks
section
variable {P : Program} {Q : Exit → Act → World → Prop} {l : List Oper} {n : Nat} {a : Act} {w0 : World}
theorem zh2 {Ks : List HK} {hd : List Oper} : ∀ (items : List (Oper × HK × List Nat)), zdv P l.toArray Q n hd a w0 Ks items → ∀ (i : Nat) (o : Oper) (r : HK) (js : List Nat), items[i]? = some (o, r, js) →
  zfO n fun xs => ∀ w', Below w0.heap.size w0 w' → zcD (Ks.map HK.fact) xs w' js (zdK P l.toArray Q Ks xs o r js (zbQ hd a xs) w')
 | [], _, _, _, _, _, h => by simp at h
 | (o', r', js') :: items, h, 0, o, r, js, hi => by
  simp only [jD, Option.some.injEq, Prod.mk.injEq] at hi
  obtain ⟨rfl, rfl, rfl⟩ := hi
  exact h.1
 | (o', r', js') :: items, h, i + 1, o, r, js, hi => zh2 items h.2 i o r js (by simpa using hi)
structure NInv (N : Nat) (Ks : List HK) (listed : Array Bool) (xs : List Value) (w : World) : Prop where
 is : ∀ i ty k m, Ks[i]? = some (.new ty k m) → listed.getD i true = true → ∀ x, xs[i]? = some x → ztx N x w ty k m (zef listed i Ks 0)
 ap : ∀ i j ty k m ty' k' m', Ks[i]? = some (.new ty k m) → Ks[j]? = some (.new ty' k' m') → listed.getD i true = true → listed.getD j true = true → i ≠ j → zbp xs i j
theorem zp3 {K : HK} (h : K.isNew = true) : ∃ ty k m, K = .new ty k m := by
 cases K with
 | new ty k m => exact ⟨ty, k, m, rfl⟩
 | val r => cases h
 | put a f => cases h
theorem zAr {N : Nat} {Ks : List HK} {D : List (Nat × Nat)} {listed : Array Bool} {xs : List Value} {w : World} (hD : zoP Ks D = true) (hK : Ks.length = n) (h : NInv N Ks listed xs w) (hl : ∀ i, i < n → listed.getD i true = true) : ∀ d ∈ D, zbp xs d.1 d.2 := by
 intro d hd
 unfold zoP at hD
 rw [List.all_eq_true] at hD
 have h1 := hD d hd
 simp only [Bool.and_eq_true, jS] at h1
 obtain ⟨⟨h2, h4⟩, h5⟩ := h1
 split at h4
 ·rename_i K hk
  split at h5
  ·rename_i K' hk'
   obtain ⟨ty, k, m, rfl⟩ := zp3 h4
   obtain ⟨ty', k', m', rfl⟩ := zp3 h5
   have l1 : d.1 < Ks.length := (List.getElem?_eq_some_iff.1 hk).1
   have l2 : d.2 < Ks.length := (List.getElem?_eq_some_iff.1 hk').1
   exact h.ap d.1 d.2 _ _ _ _ _ _ hk hk' (hl _ (by omega)) (hl _ (by omega)) (by omega)
  ·cases h5
 ·cases h4
theorem zp4 {N : Nat} {Ks : List HK} {listed : Array Bool} {xs : List Value} {w : World} {p : Prop} (hK : Ks.length = n) (h : NInv N Ks listed xs w) (hl : ∀ i, i < n → listed.getD i true = true) : ∀ (L : List HK) (i : Nat), (∀ j, L[j]? = Ks[i + j]?) → zez N Ks xs w p L i → p
 | [], _, _, hp => hp
 | .new ty k m :: L, i, hL, hp => by
  unfold zez at hp
  have h0 : Ks[i]? = some (.new ty k m) := by have := hL 0; simpa using this.symm
  have hi : i < Ks.length := (List.getElem?_eq_some_iff.1 h0).1
  refine zp4 hK h hl L (i + 1) (fun j => by have := hL (j + 1); simp only [jE] at this; rw [this]; congr 1; omega) (hp ?_)
  cases hx : xs[i]? with
  | none => trivial
  | some x =>
   have := h.is i ty k m h0 (hl i (by omega)) x hx
   rw [zhf listed i Ks 0 (fun j _ hj => hl j (by omega))] at this
   exact this
 | .val r :: L, i, hL, hp => by
  unfold zez at hp
  exact zp4 hK h hl L (i + 1) (fun j => by have := hL (j + 1); simp only [jE] at this; rw [this]; congr 1; omega) hp
 | .put b f :: L, i, hL, hp => by
  unfold zez at hp
  exact zp4 hK h hl L (i + 1) (fun j => by have := hL (j + 1); simp only [jE] at this; rw [this]; congr 1; omega) hp
theorem zAs {N : Nat} {Ks : List HK} {listed : Array Bool} {xs : List Value} {w w2 : World} {j : Nat} {v : Value} {r : zfF} (h : NInv N Ks listed xs w) (hj : Ks[j]? = some (.val r)) (hb : Below w.heap.size w w2) : NInv N Ks (listed.setIfInBounds j true) (xs.set j v) w2 := by
 refine ⟨fun i ty k m hi hl x hx => ?_, fun i i' ty k m ty' k' m' hi hi' hl hl' hne => ?_⟩
 ·have hij : i ≠ j := fun e => by subst e; rw [hi] at hj; cases hj
  rw [getD_set_ne true (Ne.symm hij)] at hl
  rw [List.getElem?_set_ne (Ne.symm hij)] at hx
  rw [zc9 listed i j Ks 0 (fun K _ hK => by rw [Nat.sub_zero, hj] at hK; injection hK with hK; subst hK; rfl)]
  exact (h.is i ty k m hi hl x hx).below hb
 ·have hij : i ≠ j := fun e => by subst e; rw [hi] at hj; cases hj
  have hij' : i' ≠ j := fun e => by subst e; rw [hi'] at hj; cases hj
  rw [getD_set_ne true (Ne.symm hij)] at hl
  rw [getD_set_ne true (Ne.symm hij')] at hl'
  have := h.ap i i' _ _ _ _ _ _ hi hi' hl hl' hne
  unfold zbp at this ⊢
  rw [List.getElem?_set_ne (Ne.symm hij), List.getElem?_set_ne (Ne.symm hij')]
  exact this
theorem zgg (listed : Array Bool) (a : Nat) : ∀ (l : List HK) (i : Nat), (∀ j K, l[j]? = some K → K.putsIn a = true → listed.getD (i + j) true = false) → zef listed a l i = fun _ => 0
 | [], _, _ => rfl
 | .put b f :: l, i, h => by
  unfold zef
  have h2 := zgg listed a l (i + 1) (fun j K h1 h2 => by have := h (j + 1) K (by simpa using h1) h2; rwa [show i + (j + 1) = i + 1 + j by omega] at this)
  rw [h2]
  by_cases hb : b = a
  ·have := h 0 (.put b f) (by simp) (by simp [HK.putsIn, hb])
   rw [Nat.add_zero] at this
   rw [if_neg (by rw [this]; simp)]
  ·rw [if_neg (fun e => hb e.1)]
 | .val r :: l, i, h => by
  unfold zef
  exact zgg listed a l (i + 1) (fun j K h1 h2 => by have := h (j + 1) K (by simpa using h1) h2; rwa [show i + (j + 1) = i + 1 + j by omega] at this)
 | .new _ _ _ :: l, i, h => by
  unfold zef
  exact zgg listed a l (i + 1) (fun j K h1 h2 => by have := h (j + 1) K (by simpa using h1) h2; rwa [show i + (j + 1) = i + 1 + j by omega] at this)
theorem zBB {N : Nat} {Ks : List HK} {listed : Array Bool} {xs : List Value} {w : World} {j : Nat} {ty : TypeId} {k : IntKind} {m : Nat} (h : NInv N Ks listed xs w) (hj : Ks[j]? = some (.new ty k m)) (hjx : j < xs.length) (hN : N ≤ w.heap.size) (hz : ∀ i K, Ks[i]? = some K → K.putsIn j = true → listed.getD i true = false) :
  NInv N Ks (listed.setIfInBounds j true) (xs.set j (.pointer (some ⟨w.heap.size, 0, none⟩))) (w.alloc (.cells (arr k m fun _ => 0) ty)) := by
 have key : ∀ i ty' k' m', Ks[i]? = some (.new ty' k' m') → i ≠ j → listed.getD i true = true → zbp (xs.set j (.pointer (some ⟨w.heap.size, 0, none⟩))) i j := by
  intro i ty' k' m' hi hij hl
  unfold zbp
  rw [List.getElem?_set_ne (Ne.symm hij), List.getElem?_set_self hjx]
  split
  ·rename_i x y hx hy
   injection hy with hy
   subst hy
   obtain ⟨B, rfl, _, hB⟩ := h.is i ty' k' m' hi hl _ hx
   intro e
   injection e with e
   injection e with e
   injection e with e
   have := jM hB
   omega
  ·trivial
 refine ⟨fun i ty' k' m' hi hl x hx => ?_, fun i i' ty1 k1 m1 ty2 k2 m2 hi hi' hl hl' hne => ?_⟩
 ·by_cases hij : i = j
  ·subst hij
   rw [hj] at hi
   injection hi with hi
   injection hi with e1 e2 e3
   subst e1 e2 e3
   rw [List.getElem?_set_self hjx] at hx
   injection hx with hx
   subst hx
   rw [zc9 listed i i Ks 0 (fun K _ hK => by rw [Nat.sub_zero, hj] at hK; injection hK with hK; subst hK; rfl), zgg listed i Ks 0 (fun j K h1 h2 => by rw [Nat.zero_add]; exact hz j K h1 h2)]
   exact ⟨_, rfl, hN, heap_alloc_new _ _⟩
  ·rw [getD_set_ne true (Ne.symm hij)] at hl
   rw [List.getElem?_set_ne (Ne.symm hij)] at hx
   rw [zc9 listed i j Ks 0 (fun K _ hK => by rw [Nat.sub_zero, hj] at hK; injection hK with hK; subst hK; rfl)]
   exact (h.is i ty' k' m' hi hl x hx).below ((Below.refl _ _).alloc (jV _) _)
 ·by_cases hij : i = j
  ·subst hij
   rw [getD_set_ne true hne] at hl'
   exact zku (key i' ty2 k2 m2 hi' (Ne.symm hne) hl')
  ·by_cases hij' : i' = j
   ·subst hij'
    rw [getD_set_ne true (Ne.symm hij)] at hl
    exact key i ty1 k1 m1 hi hij hl
   ·rw [getD_set_ne true (Ne.symm hij)] at hl
    rw [getD_set_ne true (Ne.symm hij')] at hl'
    have := h.ap i i' _ _ _ _ _ _ hi hi' hl hl' hne
    unfold zbp at this ⊢
    rw [List.getElem?_set_ne (Ne.symm hij), List.getElem?_set_ne (Ne.symm hij')]
    exact this
theorem zBC {N : Nat} {Ks : List HK} {listed : Array Bool} {xs : List Value} {w : World} {j b B : Nat} {f : Nat → Int} {v : Value} {ty : TypeId} {k : IntKind} {m : Nat} (h : NInv N Ks listed xs w) (hj : Ks[j]? = some (.put b f)) (hb : Ks[b]? = some (.new ty k m)) (hbl : listed.getD b true = true) (hbx : xs[b]? = some (.pointer (some ⟨B, 0, none⟩)))
  (hjl : listed.getD j true = false) (ho : ztz Ks = true) (hB : w.heap[B]? = some (.cells (arr k m (zef listed b Ks 0)) ty (0, 0))) (hN : N ≤ B) : NInv N Ks (listed.setIfInBounds j true) (xs.set j v) (w.setRow B (arr k m f)) := by
 have hjb : j ≠ b := fun e => by subst e; rw [hj] at hb; cases hb
 refine ⟨fun i ty' k' m' hi hl x hx => ?_, fun i i' ty1 k1 m1 ty2 k2 m2 hi hi' hl hl' hne => ?_⟩
 ·have hij : i ≠ j := fun e => by subst e; rw [hi] at hj; cases hj
  rw [getD_set_ne true (Ne.symm hij)] at hl
  rw [List.getElem?_set_ne (Ne.symm hij)] at hx
  by_cases hib : i = b
  ·subst hib
   rw [hb] at hi
   injection hi with hi
   injection hi with e1 e2 e3
   subst e1 e2 e3
   rw [hbx] at hx
   injection hx with hx
   subst hx
   have hi2 : i < Ks.length := (List.getElem?_eq_some_iff.1 hb).1
   have hon : zrd i Ks = true := by
    unfold ztz at ho
    rw [List.all_eq_true] at ho
    exact ho i (List.mem_range.2 hi2)
   rw [znE listed i j f hjl Ks 0 (Nat.zero_le _) (by rw [Nat.sub_zero]; exact hj) hon]
   exact ⟨B, rfl, hN, zan hB⟩
  ·rw [zc9 listed i j Ks 0 (fun K _ hK => by
    rw [Nat.sub_zero, hj] at hK
    injection hK with hK
    subst hK
    simp only [HK.putsIn, beq_eq_false_iff_ne, ne_eq]
    exact fun e => hib e.symm)]
   obtain ⟨C, rfl, hC, hC2⟩ := h.is i ty' k' m' hi hl x hx
   have hap := h.ap i b _ _ _ _ _ _ hi hb hl hbl hib
   unfold zbp at hap
   rw [hx, hbx] at hap
   have hne : C ≠ B := fun e => hap (by rw [e])
   exact ⟨C, rfl, hC, zad hC2 hne⟩
 ·have hij : i ≠ j := fun e => by subst e; rw [hi] at hj; cases hj
  have hij' : i' ≠ j := fun e => by subst e; rw [hi'] at hj; cases hj
  rw [getD_set_ne true (Ne.symm hij)] at hl
  rw [getD_set_ne true (Ne.symm hij')] at hl'
  have := h.ap i i' _ _ _ _ _ _ hi hi' hl hl' hne
  unfold zbp at this ⊢
  rw [List.getElem?_set_ne (Ne.symm hij), List.getElem?_set_ne (Ne.symm hij')]
  exact this
def zjD (Ks : List HK) (ps : List (List Nat)) : Bool := (List.range Ks.length).all fun i => match Ks[i]?, ps[i]? with | some (.put b _), some js => js.contains b | some (.put _ _), none => false | _, _ => true
theorem zmk {Ks : List HK} {ps : List (List Nat)} (h : zjD Ks ps = true) (i : Nat) (K : HK) {b : Nat} (hi : Ks[i]? = some K) (hp : K.putsIn b = true) : Nonempty (∃ js, ps[i]? = some js ∧ b ∈ js) := by
 unfold zjD at h
 rw [List.all_eq_true] at h
 have := h i (List.mem_range.2 (List.getElem?_eq_some_iff.1 hi).1)
 rw [hi] at this
 cases K with
 | val r => cases hp
 | new _ _ _ => cases hp
 | put c f =>
  obtain rfl : c = b := by simpa [HK.putsIn] using hp
  cases hq : ps[i]? with
  | none => rw [hq] at this; cases this
  | some js =>
   rw [hq] at this
   exact ⟨js, rfl, by simpa using this⟩
theorem zdw {id : Nat} {w : World} (n : Nat) (Ks : List HK) (ps : List (List Nat)) (D : List (Nat × Nat)) (hm : P.follows .mixedOrders = true) (hB : zqK l n ps = true) (hD : (zoP Ks D && ztz Ks && zjD Ks ps) = true) (hR : Ks.length = n) (hst : ∀ K ∈ Ks, zh1 w.heap.size K)
  (hop : zdv P l.toArray Q n (l.take n) a w.drew Ks ((l.take n).zip (Ks.zip ps)))
  (hend : zfO n fun xs => ∀ w', Below w.heap.size w.drew w' → zcD (Ks.map HK.fact) xs w' (List.range n) (zez w.heap.size Ks xs w' (zdD xs D (wpList P l.toArray Q (l.drop n) (zbQ (l.take n) a xs) w')) Ks 0)) : (Code.region id l.toArray true).wp P Q a w := by
 simp only [zqK, Bool.and_eq_true, jS] at hB
 obtain ⟨⟨⟨⟨⟨⟨⟨hsel, hn⟩, hp⟩, hs⟩, hc⟩, hd⟩, hps⟩, hseq⟩ := hB
 simp only [Bool.and_eq_true] at hD
 obtain ⟨⟨hD, hOnce⟩, hPut⟩ := hD
 have hn' : n < l.toArray.size := by simpa using hn
 have inv0 : HeadInv .any l.toArray n (Array.replicate l.toArray.size false) :=
  ⟨by simp, fun j oj _ hl => (by rw [getD_replicate_false] at hl; cases hl), fun t _ ht => getD_in (by simpa using ht) (getD_replicate_false _ _)⟩
 have main : ∀ (f : Nat) (listed : Array Bool) (xs : List Value) (w' : World), HeadInv .any l.toArray n listed → zhx n listed = f → xs.length = n → Below w.heap.size w.drew w' →
   (∀ j, j < n → listed.getD j true = true → zbA (Ks.map HK.fact) xs w' j) → NInv w.heap.size Ks listed xs w' → (∀ i j K, i < n → j < n → Ks[i]? = some K → K.putsIn j = true → listed.getD i true = true → listed.getD j true = true) →
   zcc P .any l.toArray Q (fun _ => True) n (fun listed' a' w' => Region.seqB .any l.toArray (l.toArray.size - n) n listed' = true ∧ wpList P l.toArray Q (l.drop n) a' w') f listed (zbQ (l.take n) a xs) w' := by
  intro f
  induction f with
  | zero =>
   intro listed xs w' inv hr hx hb hf hap hord
   refine ⟨?_, zjt D (zp4 hR hap (zdo n listed hr) Ks 0 (fun j => by rw [Nat.zero_add]) (zfh _ (zgA n _ hend xs hx w' hb) (fun j hj => hf j (List.mem_range.1 hj) (zdo n listed hr j (List.mem_range.1 hj))))) (zAr hD hR hap (zdo n listed hr))⟩
   have e : listed = (List.replicate n true ++ List.replicate (l.length - n) false).toArray := by
    apply Array.ext_getElem?
    intro i
    have hsz := inv.size
    simp only [List.size_toArray] at hsz
    by_cases hi : i < n
    ·have h1 := zdo n listed hr i hi
     have h2 : i < listed.size := by omega
     simp [h2] at h1
     simp [List.getElem?_append, hi, h2, h1]
    ·by_cases hi2 : i < l.length
     ·have h1 := inv.tail i (by omega) (by simpa using hi2)
      have h2 : i < listed.size := by omega
      simp [h2] at h1
      simp only [jL, List.getElem?_append, List.length_replicate, hi, if_false, List.getElem?_replicate]
      rw [if_pos (by omega), Array.getElem?_eq_getElem h2, h1]
     ·rw [Array.getElem?_eq_none (by omega)]
      simp only [jL, List.getElem?_append, List.length_replicate, hi, if_false, List.getElem?_replicate]
      rw [if_neg (by omega)]
   rw [e]
   simpa using hseq
  | succ f ih =>
   intro listed xs w' inv hr hx hb hf hap hord
   obtain ⟨i, hi, hil, hmin⟩ := zkZ n listed hr
   refine ⟨?_, fun j hj => ?_⟩
   ·intro h0
    obtain ⟨o, ho, he, _⟩ := zdG l ps 0 hps i ps[i] (by simp)
    have : i ∈ Region.ready .any l.toArray listed := mem_ready.2 ⟨hil, o, by simpa using ho, fun e hee hbe => by
     have h1 := he e hee hbe
     have h2 := hmin e.on (by omega)
     have h3 : e.on < listed.size := by rw [inv.size]; simp; omega
     simp [h3] at h2 ⊢
     exact h2⟩
    rw [h0] at this
    cases this
   ·have hjn : j < n := by
     rcases Nat.lt_or_ge j n with h | h
     ·exact h
     ·exact absurd hj (tail_waits hs hc hn' inv _ i rfl hi hil j h)
    refine ⟨hjn, ?_⟩
    obtain ⟨hjl, oj, hoj, hall⟩ := mem_ready.1 hj
    have hoj' : l[j]? = some oj := by simpa using hoj
    have hjp : j < ps.length := by omega
    have hjR : j < Ks.length := by omega
    have hit : ((l.take n).zip (Ks.zip ps))[j]? = some (oj, Ks[j], ps[j]) := by
     rw [List.getElem?_zip_eq_some]
     refine ⟨by rw [List.getElem?_take, if_pos hjn]; exact hoj', ?_⟩
     rw [List.getElem?_zip_eq_some]
     exact ⟨by simp [hjR], by simp [hjp]⟩
    obtain ⟨oj', hoj2, _, hpj⟩ := zdG l ps 0 hps j ps[j] (by simp [hjp])
    have hOrd : ∀ i K, i < n → Ks[i]? = some K → K.putsIn j = true → listed.getD i true = true → listed.getD j true = true := fun i K hin hi hp hli => hord i j K hin hjn hi hp hli
    obtain rfl : oj' = oj := by
     rw [Nat.zero_add, hoj'] at hoj2
     exact (Option.some.inj hoj2).symm
    have hfree := zfh _ (zgA n _ (zh2 _ hop j oj' Ks[j] ps[j] hit) xs hx w' hb) (fun k hk => by
     obtain ⟨e, hee, hbe, hek⟩ := hpj k hk
     have h1 := hall e hee hbe
     rw [hek] at h1
     by_cases hkn : k < n
     ·refine hf k hkn ?_
      by_cases h2 : k < listed.size
      ·simp [h2] at h1 ⊢; exact h1
      ·simp [Array.getElem?_eq_none (Nat.le_of_not_lt h2)] at h1
     ·unfold zbA
      rw [List.getElem?_eq_none (l := Ks.map HK.fact) (by simp; omega)]
      trivial)
    have go : ∀ (v : Value) (w2 : World), Below w.heap.size w' w2 → Ks[j].fact v w2 → NInv w.heap.size Ks (listed.setIfInBounds j true) (xs.set j v) w2 →
      zcc P .any l.toArray Q (fun _ => True) n (fun listed' a' w' => Region.seqB .any l.toArray (l.toArray.size - n) n listed' = true ∧ wpList P l.toArray Q (l.drop n) a' w') f (listed.setIfInBounds j true) ((zbQ (l.take n) a xs).put oj'.dst v) w2 := by
     intro v w2 hb2 hv hal
     rw [zit (l.take n) j oj' a xs v hd (by rw [List.getElem?_take, if_pos hjn]; exact hoj') (by omega)]
     refine ih _ _ _ (inv.set hj hjn) ?_ (by simpa using hx) (hb.trans hb2) (fun k hk hkl => ?_) hal (fun i b K hin hbn hi hp hli => ?_)
     ·have := zkY n listed j hjn hjl
      omega
     ·by_cases hkj : k = j
      ·subst hkj
       unfold zbA
       simp only [List.getElem?_map, jP hjR, Option.map_some, List.getElem?_set_self (show k < xs.length by omega)]
       exact hv
      ·have h1 := hf k hk (by rwa [getD_set_ne true (Ne.symm hkj)] at hkl)
       unfold zbA at h1 ⊢
       rw [List.getElem?_set_ne (Ne.symm hkj)]
       have hkR : k < Ks.length := by omega
       have hkx : k < xs.length := by omega
       simp only [List.getElem?_map, jP hkR, Option.map_some, jP hkx] at h1 ⊢
       exact hst _ (List.getElem_mem hkR) _ _ _ hb2 h1
     ·by_cases hbj : b = j
      ·subst hbj
       simp [Array.getElem?_setIfInBounds]
       split <;> simp
      ·rw [getD_set_ne true (Ne.symm hbj)]
       by_cases hij : i = j
       ·subst hij
        obtain ⟨hm1⟩ := zmk hPut i K hi hp
        obtain ⟨js, hjs, hbm⟩ := hm1
        obtain rfl : js = ps[i] := by rw [jP hjp] at hjs; exact (Option.some.inj hjs).symm
        obtain ⟨e, hee, hbe, hek⟩ := hpj b hbm
        have h1 := hall e hee hbe
        rw [hek] at h1
        by_cases h2 : b < listed.size
        ·simp [h2] at h1 ⊢; exact h1
        ·simp [Array.getElem?_eq_none (Nat.le_of_not_lt h2)] at h1
       ·rw [getD_set_ne true (Ne.symm hij)] at hli
        exact hord i b K hin hbn hi hp hli
    have hKj : Ks[j]? = some Ks[j] := jP hjR
    have hsz : w.heap.size ≤ w'.heap.size := hb.size
    unfold wpOp
    simp only [hoj]
    generalize hq : Ks[j] = Kj at *
    cases Kj with
    | val r =>
     unfold zdK at hfree
     dsimp only at hfree
     unfold zbX at hfree
     split
     ·rename_i hw
      rw [if_pos hw] at hfree
      refine .inl (Oper.wp_mono (fun a' w2 h => ?_) hfree)
      obtain ⟨hb2, v, rfl, hv⟩ := h
      exact ⟨trivial, go v w2 (hb2.mono hsz) hv (zAs hap hKj hb2)⟩
     ·rename_i hw
      rw [if_neg hw] at hfree
      exact ⟨trivial, go undef w' (Below.refl _ _) hfree (zAs hap hKj (Below.refl _ _))⟩
    | new ty k m =>
     unfold zdK at hfree
     dsimp only at hfree
     obtain ⟨hw, hop2, hz⟩ := hfree
     rw [if_pos hw]
     refine .inl ?_
     unfold Oper.wp
     rw [zdd hop2 hz]
     refine ⟨trivial, go _ _ ((Below.refl _ _).alloc hsz _) trivial (zBB hap hKj (by omega) hsz (fun i K hi hp => ?_))⟩
     cases hli : listed.getD i true with
     | false => rfl
     | true =>
      have hin : i < n := by
       have := (List.getElem?_eq_some_iff.1 hi).1
       omega
      exact absurd (hOrd i K hin hi hp hli) (by rw [hjl]; decide)
    | put b fv =>
     unfold zdK at hfree
     dsimp only at hfree
     obtain ⟨hw, ty, k, m, x, y, hop2, hKb, hbj, hT, hxv, hyv⟩ := hfree
     have hbn : b < n := by
      have := (List.getElem?_eq_some_iff.1 hKb).1
      omega
     obtain ⟨e, hee, hbe, hek⟩ := hpj b hbj
     have hbl : listed.getD b true = true := by
      have h1 := hall e hee hbe
      rw [hek] at h1
      by_cases h2 : b < listed.size
      ·simp [h2] at h1 ⊢; exact h1
      ·simp [Array.getElem?_eq_none (Nat.le_of_not_lt h2)] at h1
     have hbx : xs[b]? = some xs[b] := jP (by omega)
     obtain ⟨B, hBx, hBN, hB⟩ := hap.is b ty k m hKb hbl _ hbx
     rw [hBx] at hbx
     have hxv' := hxv _ hbx
     rw [if_pos hw]
     refine .inl ?_
     unfold Oper.wp
     have hrun := zdc hop2 hxv' hyv (zc4 (off := 0) hT hB (by omega))
     rw [show arr k m (zcU (zef listed b Ks 0) 0 m fv) = arr k m fv from zcd fun i hi => zfa _ _ _ _ hi] at hrun
     rw [hrun]
     exact ⟨trivial, go _ _ (zam (Below.refl _ _) hBN _) trivial (zBC hap hKj hKb hbl hbx hjl hOnce hB hBN)⟩
 obtain ⟨xs0, hx0, hf0⟩ := zis (l.take n) a
 have H := main n (Array.replicate l.toArray.size false) xs0 w.drew inv0 (by
  unfold zhx
  rw [List.filter_eq_self.2 (fun i hi => ?_)]
  ·simp
  ·have := List.mem_range.1 hi
   have : i < l.length := by omega
   simp [this]) (by simp at hx0; omega) (Below.refl _ _) (fun j hj hl => by
  have : j < l.length := by omega
  simp [this] at hl) ⟨fun k ty kk m hk hl => by
  have : k < n := by
   have := (List.getElem?_eq_some_iff.1 hk).1
   omega
  have : k < l.length := by omega
  simp [this] at hl, fun i j ty k m ty' k' m' hi hj hl => by
  have : i < n := by
   have := (List.getElem?_eq_some_iff.1 hi).1
   omega
  have : i < l.length := by omega
  simp [this] at hl⟩ (fun i j K hi hj h1 h2 hl => by
  have : i < l.length := by omega
  simp [this] at hl)
 rw [hf0] at H
 refine wp_region_any hm ?_
 have hdl : (l.drop n).length = l.toArray.size - n := by simp
 have := zbE (g := l.toArray.size - n) (fun listed a' w' hL => by
  have := wpAny_of_seq (md := .any) (Q' := Q) (l.drop n) n listed a' w' (fun j => by simp [List.getElem?_drop]) (by rw [hdl]; exact hL.1) hL.2
  rwa [hdl] at this) _ _ _ _ H
 rw [show n + (l.toArray.size - n) = l.toArray.size by omega] at this
 exact this
end
end
section
open Go.RowKit
attribute [local irreducible] zea zbj zbG zdq zcR sqN zij zik zci zbV zbY zeH ofN zdj kvN zag sLX sLZ sHX sHZ zeC zee
theorem zmm : zcy Tryz.prog 72 .u64 10 := by unfold zcy; kernel_rfl
theorem znF (F : Nat → Nat) : Tryz.prog.built 72 [(0, .agg (arr .u64 5 fun i => ((F i : Nat) : Int)))] = some (arr .u64 10 fun i => ((zbW F (zci 0) i : Nat) : Int)) := by kernel_rfl
def zrF (F : Nat → Nat) (q : Pt) : Prop := ∃ X Z, F = zbW X Z ∧ zb1 X q.x ∧ zb1 Z q.z
theorem zrF.lt {F : Nat → Nat} {q : Pt} (h : zrF F q) (i : Nat) (hi : i < 10) : F i < 18446744073709551616 := by
 obtain ⟨X, Z, rfl, h1, h2⟩ := h
 unfold zbW
 split
 ·have := h1.1 i (by omega)
  omega
 ·have := h2.1 (i - 5) (by omega)
  omega
def zfs (b : Nat) (p : Pt × Pt) : Pt × Pt := if b = 1 then (p.2, p.1) else p
theorem zvO (F G : Nat → Nat) : zpO 1 F G = G := by funext i; unfold zpO; rw [if_pos rfl]
theorem ztA (F G : Nat → Nat) : zpO 0 F G = F := by funext i; unfold zpO; rw [if_neg (by omega)]
theorem ziE {F G : Nat → Nat} {p : Pt × Pt} {a b c : Nat} (ha : a = 0 ∨ a = 1) (hb : b = 0 ∨ b = 1) (hc : c = if a = b then 0 else 1) (hF : zrF F (zfs a p).1) (hG : zrF G (zfs a p).2) :
  zrF (zpO c F G) (zfs b p).1 ∧ zrF (zpO c G F) (zfs b p).2 := by
 subst hc
 rcases ha with rfl | rfl <;> rcases hb with rfl | rfl <;> simp [zfs, zvO, ztA] at * <;> exact ⟨by assumption, by assumption⟩
theorem zhg (u : Nat) (k : Nat → Nat) (n : Nat) : zfs (zeK k n) (zbf u k (n + 1)) = (zeC (zfs (zeK k n) (zbf u k n)).1, zee u (zfs (zeK k n) (zbf u k n)).1 (zfs (zeK k n) (zbf u k n)).2) := by
 rw [show zbf u k (n + 1) = zhc u (zeK k n) (zbf u k n).1 (zbf u k n).2 from rfl]
 unfold zhc zfs
 rcases zgG k n with h | h <;> simp [h]
def zrG (k : Nat → Nat) : Nat → Nat
 | 0 => 0
 | n + 1 => zeK k n
theorem zmn (k : Nat → Nat) : ∀ n, zrG k n = 0 ∨ zrG k n = 1
 | 0 => .inl rfl
 | n + 1 => zgG k n
theorem ztB {p : Pt × Pt} (b : Nat) (h : zhZ p.1 ∧ zhZ p.2) : zhZ (zfs b p).1 ∧ zhZ (zfs b p).2 := by unfold zfs; split; exact ⟨h.2, h.1⟩; exact h
theorem zAt (a b : Nat) (ha : a = 0 ∨ a = 1) (hb : b = 0 ∨ b = 1) : bits .xor .u64 (a : Int) (b : Int) = (((if a = b then 0 else 1) : Nat) : Int) := by
 rcases ha with rfl | rfl <;> rcases hb with rfl | rfl <;> decide
theorem zp5 (n : Int) : bits .and .i64 n 7 = n % 8 := by
 have h7 : (BitVec.ofInt 64 7).toNat = 2 ^ 3 - 1 := by decide
 have key : (BitVec.ofInt 64 n &&& BitVec.ofInt 64 7).toNat = (n % ((2 ^ 64 : Nat) : Int)).toNat % 2 ^ 3 := by
  rw [BitVec.toNat_and, BitVec.toNat_ofInt, h7, Nat.and_two_pow_sub_one_eq_mod]
 show IntKind.i64.wrap ((BitVec.ofInt 64 n &&& BitVec.ofInt 64 7).toNat : Nat) = n % 8
 rw [key, IntKind.wrap_i64]
 omega
theorem zxa (x r : Nat) (hx : x < 256) : bits .and .u64 (IntKind.u64.wrap ((x : Int) / 2 ^ r)) 1 = ((x / 2 ^ r % 2 : Nat) : Int) := by
 have h1 : (x : Int) / 2 ^ r = ((x / 2 ^ r : Nat) : Int) := by
  rw [Int.natCast_ediv, Int.natCast_pow]
  rfl
 have h2 : x / 2 ^ r < 256 := Nat.lt_of_le_of_lt (Nat.div_le_self _ _) hx
 rw [h1]
 generalize x / 2 ^ r = y at *
 have h3 : IntKind.u64.wrap (y : Int) = (y : Int) := by
  rw [IntKind.wrap_u64]
  omega
 rw [h3, show (1 : Int) = ((1 : Nat) : Int) from rfl, u64_and_nat y 1 (by omega) (by omega), Nat.and_one_is_mod]
def zBe (k u : Nat → Nat) (w : World) (B RV R LO HI FI m : Nat) : Prop :=
 ∃ L H, zrF L (zfs (zrG (zag k) m) (zbf (za2 u) (zag k) m)).1 ∧ zrF H (zfs (zrG (zag k) m) (zbf (za2 u) (zag k) m)).2 ∧ w.heap[B]? = some (.cells (arr .u8 32 fun i => ((zag k i : Nat) : Int)) 23 (0, 0)) ∧
  w.heap[B + 1 + 1]? = some (.cells (arr .u8 32 fun _ => 0) 23 (0, 0)) ∧ Lad w RV R LO HI FI L H (ofN u)
theorem zmo (u : Nat → Nat) (hu : ∀ i, i < 32 → u i < 256) : zb1 (ofN u) (za2 u) := ⟨zs1 u, by unfold za2; rw [Nat.mod_mod]; exact zyN u hu⟩
theorem zp6 (k u : Nat → Nat) (hk : ∀ i, i < 32 → k i < 256) (hu : ∀ i, i < 32 → u i < 256) (w : World) :
  Calls Tryz.prog 26 #[.agg (arr .u8 32 fun i => ((k i : Nat) : Int)), .agg (arr .u8 32 fun i => ((u i : Nat) : Int))] w fun e w' => e = .returned (.agg (arr .u8 32 fun i => ((zbj (zdA k (za2 u)) i : Nat) : Int))) ∧ Below w.heap.size w w' := by
 have hK := Lib.hid (zp1 hk)
 have HKK := Lib.hid hk
 have HU := Lib.hid hu
 clear hk hu
 go_enter Tryz.func26, Tryz.ntmps26
 obtain ⟨h0, h1, h2, hsz, hb⟩ := zdb w (.cells (arr .u8 32 fun i => ((k i : Nat) : Int)) 23) (.cells (arr .u8 32 fun i => ((u i : Nat) : Int)) 23) (.cells (arr .u8 32 fun _ => 0) 23)
 go_upto_region 1 with (refine zae rfl rfl zii ?_)
 generalize ((w.alloc (.cells (arr .u8 32 fun i => ((k i : Nat) : Int)) 23)).alloc (.cells (arr .u8 32 fun i => ((u i : Nat) : Int)) 23)).alloc (.cells (arr .u8 32 fun _ => 0) 23) = wa at *
 (try simp only [Act.put, jA, jB, jC])
 simp only [World.size_alloc]
 clear hsz
 go_wp2_with (first | (refine zab rfl rfl rfl zch h0 ?_) | (go_at_call 41; fail))
 refine (ztq k HKK.out _).mono ?_
 rintro e w4 ⟨rfl, b4⟩
 replace h0 := zaa b4 (jM h0) h0
 replace h1 := zaa b4 (jM h1) h1
 replace h2 := zaa b4 (jM h2) h2
 replace hb := hb.trans (b4.mono hb.size)
 clear b4
 go_upto_region 2 with (first | (refine zac rfl rfl rfl rfl zch h0 ?_))
 replace h1 := zad (g := w.heap.size) (c' := arr .u8 32 fun i => ((zag k i : Nat) : Int)) h1 (by omega)
 replace h2 := zad (g := w.heap.size) (c' := arr .u8 32 fun i => ((zag k i : Nat) : Int)) h2 (by omega)
 replace h0 := zan (c' := arr .u8 32 fun i => ((zag k i : Nat) : Int)) h0
 replace hb := zam hb (jV _) (arr .u8 32 fun i => ((zag k i : Nat) : Int))
 generalize w4.setRow w.heap.size (arr .u8 32 fun i => ((zag k i : Nat) : Int)) = wb at *
 (try simp only [Act.put, jA, jB, jC])
 go_upto_region 3 with (fail)
 obtain ⟨hr, hrv, hz2, b2⟩ := zcb wb (.cells (arr .i64 1 fun _ => 0) 66) (.cells #[.pointer (some ⟨wb.heap.size, 0, none⟩)] 64)
 replace h0 := zaa b2 (jM h0) h0
 replace h1 := zaa b2 (jM h1) h1
 replace h2 := zaa b2 (jM h2) h2
 replace hb := hb.trans (b2.mono hb.size)
 clear b2 hz2
 rw [show (#[Value.int .i64 0] : Array Value) = arr .i64 1 fun _ => 0 from rfl]
 generalize (wb.alloc (.cells (arr .i64 1 fun _ => 0) 66)).alloc (.cells #[.pointer (some ⟨wb.heap.size, 0, none⟩)] 64) = wc at *
 obtain ⟨R, hR⟩ : ∃ x, x = wb.heap.size := ⟨_, rfl⟩
 obtain ⟨RV, hRV⟩ : ∃ x, x = wb.heap.size + 1 := ⟨_, rfl⟩
 rw [← hRV] at hrv ⊢
 rw [← hR] at hrv hr ⊢
 clear hR hRV
 go_wp2_with (first | (refine zab rfl rfl rfl zch h1 ?_) | (go_at_call 42; fail))
 refine (zz9 u HU.out _).mono ?_
 rintro e w4 ⟨rfl, b4⟩
 clear h1
 replace h0 := zaa b4 (jM h0) h0
 replace h2 := zaa b4 (jM h2) h2
 replace hr := zaa b4 (jM hr) hr
 replace hrv := zaa b4 (jM hrv) hrv
 replace hb := hb.trans (b4.mono hb.size)
 clear b4
 go_upto_region 4 with (refine zay rfl rfl rfl rfl zga zbc rfl rfl ?_; intro w8 hfi b8 hs8)
 have l0 := jM h0
 replace h0 := zaa b8 (jM h0) h0
 replace h2 := zaa b8 (jM h2) h2
 replace hr := zaa b8 (jM hr) hr
 replace hrv := zaa b8 (jM hrv) hrv
 replace hb := hb.trans (b8.mono hb.size)
 clear b8 hs8
 obtain ⟨FI, hFI⟩ : ∃ B, B = w4.heap.size := ⟨_, rfl⟩
 rw [← hFI] at l0 hfi ⊢
 clear hFI
 (try simp only [Act.put, jA, jB, jC])
 obtain ⟨wq, rfl⟩ : ∃ x, x = w8 := ⟨_, rfl⟩
 have lw : w.heap.size ≤ wq.drew.heap.size := hb.size
 refine zj5 wq.drew.heap.size 8 (.fork [(0, false), (1, false), (2, false), (3, false), (4, false)] 5 (.done [(6, true), (7, true)]) 6 (.done [(5, true), (7, true)])) (by kernel_rfl) (by kernel_rfl) ?_
 unfold zfT
 try (simp only [canOps, jD, jE, jF, jG])
 refine zcz rfl (fun _ _ _ _ h => h) (fun w' => zaJ rfl (by simp [Act.eval, Act.put]) (zjr 1)) ?_
 (try simp only [Act.put, jA, jB, jC])
 refine zcz rfl (fun _ _ _ _ h => h) (fun w' => zaJ rfl (by simp [Act.eval, Act.put]) (znF (zci 1))) ?_
 (try simp only [Act.put, jA, jB, jC])
 refine zaq rfl rfl rfl (fun _ _ _ _ h => h) zbc (jM (w := wq) hfi) hfi ?_
 (try simp only [Act.put, jA, jB, jC])
 refine zcz rfl (fun _ _ _ _ h => h) (fun w' => zaJ rfl (by simp [Act.eval, Act.put]) (zjr 1)) ?_
 (try simp only [Act.put, jA, jB, jC])
 refine zcz rfl (fun _ _ _ _ h => h) (fun w' => zaJ rfl (by simp [Act.eval, Act.put]) (zgF (ofN u) (zci 1))) ?_
 (try simp only [Act.put, jA, jB, jC])
 refine wpCan_nil ⟨?_, ?_⟩
 ·
  try (simp only [canOps, jD, jE, jF, jG])
  refine zb8 rfl rfl zmm (jV _) ?_
  (try simp only [Act.put, jA, jB, jC])
  refine wpCan_nil ?_
  unfold zfT
  try (simp only [canOps, jD, jE, jF, jG])
  obtain ⟨hlo, hz1, b1⟩ := zb6 wq.drew (.cells (arr .u64 10 fun _ => 0) 72)
  replace h0 := zaa b1 (jM (w := wq) h0) h0
  replace h2 := zaa b1 (jM (w := wq) h2) h2
  replace hr := zaa b1 (jM (w := wq) hr) hr
  replace hrv := zaa b1 (jM (w := wq) hrv) hrv
  replace hfi := zaa b1 (jM (w := wq) hfi) hfi
  replace hb := hb.drew.trans (b1.mono hb.size)
  have bLO : wq.drew.heap.size ≤ wq.drew.heap.size := jV _
  obtain ⟨N0, hN0⟩ : ∃ B, B = wq.drew.heap.size := ⟨_, rfl⟩
  obtain ⟨LO, hLO⟩ : ∃ B, B = wq.drew.heap.size := ⟨_, rfl⟩
  have e0 : N0 = LO := hN0.trans hLO.symm
  have eP : wq.drew.heap.size + 1 = (wq.drew.alloc (.cells (arr .u64 10 fun _ => 0) 72)).heap.size := hz1.symm
  generalize wq.drew.alloc (.cells (arr .u64 10 fun _ => 0) 72) = w1 at *
  rw [← hLO] at hlo ⊢
  rw [← hLO] at lw b1 bLO eP
  clear hN0 hLO hz1 b1 bLO
  have l_h0 := jM h0
  have l_h2 := jM h2
  have l_hr := jM hr
  have l_hrv := jM hrv
  have l_hfi := jM hfi
  refine zb8 rfl rfl zmm (by omega) ?_
  (try simp only [Act.put, jA, jB, jC])
  obtain ⟨hhi, hz1, b1⟩ := zb6 w1 (.cells (arr .u64 10 fun _ => 0) 72)
  replace h0 := zaa b1 (jM h0) h0
  replace h2 := zaa b1 (jM h2) h2
  replace hr := zaa b1 (jM hr) hr
  replace hrv := zaa b1 (jM hrv) hrv
  replace hfi := zaa b1 (jM hfi) hfi
  replace hlo := zaa b1 (jM hlo) hlo
  replace hb := hb.trans (b1.mono hb.size)
  obtain ⟨HI, hHI⟩ : ∃ B, B = w1.heap.size := ⟨_, rfl⟩
  generalize w1.alloc (.cells (arr .u64 10 fun _ => 0) 72) = w2 at *
  rw [← hHI] at eP hhi b1 ⊢
  clear hz1 b1 hHI
  have nLH : LO ≠ HI := by omega
  have bLO : w.heap.size ≤ LO := by omega
  have bHI : w.heap.size ≤ HI := by omega
  refine zdm rfl rfl rfl rfl zhF (by omega) hlo ?_
  (try simp only [Act.put, jA, jB, jC])
  refine wpCan_nil ?_
  replace h0 := zad (g := LO) (c' := (arr .u64 10 fun i => ((zbW (zci 1) (zci 0) i : Nat) : Int))) h0 (zai h0 hlo (by decide))
  replace h2 := zad (g := LO) (c' := (arr .u64 10 fun i => ((zbW (zci 1) (zci 0) i : Nat) : Int))) h2 (zai h2 hlo (by decide))
  replace hr := zad (g := LO) (c' := (arr .u64 10 fun i => ((zbW (zci 1) (zci 0) i : Nat) : Int))) hr (zai hr hlo (by decide))
  replace hrv := zad (g := LO) (c' := (arr .u64 10 fun i => ((zbW (zci 1) (zci 0) i : Nat) : Int))) hrv (zai hrv hlo (by decide))
  replace hfi := zad (g := LO) (c' := (arr .u64 10 fun i => ((zbW (zci 1) (zci 0) i : Nat) : Int))) hfi (zai hfi hlo (by decide))
  replace hhi := zad (g := LO) (c' := (arr .u64 10 fun i => ((zbW (zci 1) (zci 0) i : Nat) : Int))) hhi (Ne.symm nLH)
  replace hlo := zan (c' := (arr .u64 10 fun i => ((zbW (zci 1) (zci 0) i : Nat) : Int))) hlo
  replace hb := zam hb bLO (arr .u64 10 fun i => ((zbW (zci 1) (zci 0) i : Nat) : Int))
  generalize w2.setRow LO (arr .u64 10 fun i => ((zbW (zci 1) (zci 0) i : Nat) : Int)) = w3 at *
  go_upto_region 5 with (refine zac rfl rfl rfl rfl zhF hhi ?_)
  replace h0 := zad (g := HI) (c' := (arr .u64 10 fun i => ((zbW (ofN u) (zci 1) i : Nat) : Int))) h0 (zai h0 hhi (by decide))
  replace h2 := zad (g := HI) (c' := (arr .u64 10 fun i => ((zbW (ofN u) (zci 1) i : Nat) : Int))) h2 (zai h2 hhi (by decide))
  replace hr := zad (g := HI) (c' := (arr .u64 10 fun i => ((zbW (ofN u) (zci 1) i : Nat) : Int))) hr (zai hr hhi (by decide))
  replace hrv := zad (g := HI) (c' := (arr .u64 10 fun i => ((zbW (ofN u) (zci 1) i : Nat) : Int))) hrv (zai hrv hhi (by decide))
  replace hfi := zad (g := HI) (c' := (arr .u64 10 fun i => ((zbW (ofN u) (zci 1) i : Nat) : Int))) hfi (zai hfi hhi (by decide))
  replace hlo := zad (g := HI) (c' := (arr .u64 10 fun i => ((zbW (ofN u) (zci 1) i : Nat) : Int))) hlo nLH
  replace hhi := zan (c' := (arr .u64 10 fun i => ((zbW (ofN u) (zci 1) i : Nat) : Int))) hhi
  replace hb := zam hb bHI (arr .u64 10 fun i => ((zbW (ofN u) (zci 1) i : Nat) : Int))
  generalize w3.setRow HI (arr .u64 10 fun i => ((zbW (ofN u) (zci 1) i : Nat) : Int)) = wn at *
  clear l_h0 l_h2 l_hr l_hrv l_hfi e0 eP lw
  (try simp only [Act.put, jA, jB, jC])
  have lf : zBe k u wn w.heap.size RV R LO HI FI 0 := ⟨_, _, ⟨_, _, rfl, zfo (x := 1) (by omega), zfo (x := 0) (by omega)⟩, ⟨_, _, rfl, zmo u HU.out, zfo (x := 1) (by omega)⟩, h0, h2, ⟨hrv, hr, hlo, hhi, hfi⟩⟩
  clear h0 h2 hrv hr hlo hhi hfi
  have NLH := Lib.hid nLH
  have l2 : 0 < 1 := by omega
  clear nLH l2
  go_wp2
  go_loopg [10, 28] 255 (fun n was i wr => ∃ m : Nat, m + n = 255 ∧ i = .int .i64 m ∧ was = .int .u64 ((zrG (zag k) m : Nat) : Int) ∧ zBe k u wr w.heap.size RV R LO HI FI m ∧ Below w.heap.size w wr)
  case atStart => exact ⟨0, rfl, rfl, rfl, lf, hb⟩
  case round =>
   clear lf hb
   obtain ⟨m, hm, rfl, rfl, lf, hb⟩ := hrel
   have hm' := Lib.hid hm
   clear hm
   by_cases hlt : m < 255
   ·obtain ⟨L, H, fL, fH, h0, h2, lad⟩ := lf
    have FL := Lib.hid fL
    have FH := Lib.hid fH
    have LA := Lib.hid lad
    clear fL fH lad
    obtain ⟨at_, hat⟩ : ∃ a : Nat, a = 254 - m := ⟨_, rfl⟩
    obtain ⟨q, hq⟩ : ∃ a : Nat, a = at_ / 8 := ⟨_, rfl⟩
    obtain ⟨r, hr⟩ : ∃ a : Nat, a = at_ % 8 := ⟨_, rfl⟩
    have a1 : (254 : Int) - (m : Int) = (at_ : Int) := by omega
    have a2 : (at_ : Int) / 8 = (q : Int) := by omega
    have a3 : bits .and .i64 (at_ : Int) 7 = (r : Int) := by rw [zp5]; omega
    have ql : q < 32 := by omega
    have rl : r < 8 := by omega
    obtain ⟨x, hx⟩ : ∃ x, zag k q = x := ⟨_, rfl⟩
    have xl : x < 256 := hx ▸ hK.out q ql
    have c0 : wr.cell? ⟨w.heap.size, q, none⟩ = some (.int .u8 (x : Int)) := by rw [zaj h0 q ql, hx]
    have eb : zeK (zag k) m = x / 2 ^ r % 2 := by unfold zeK; rw [← hat, ← hq, ← hr, hx]
    have EB := Lib.hid eb
    have AT := Lib.hid hat
    have AQ := Lib.hid hq
    have AR := Lib.hid hr
    have HX := Lib.hid hx
    clear eb hat hq hr hx
    go_upto_region 12 with (fail)
    rw [zxa x r xl, ← EB.out]
    have hwas := zmn (zag k) m
    have hbit := zgG (zag k) m
    obtain ⟨c, hc⟩ : ∃ c : Nat, c = if zrG (zag k) m = zeK (zag k) m then 0 else 1 := ⟨_, rfl⟩
    have hx0 := zAt _ _ hwas hbit
    rw [← hc] at hx0
    have c01 : c = 0 ∨ c = 1 := by rw [hc]; split <;> omega
    have ts := ziE hwas hbit hc FL.out FH.out
    have TS := Lib.hid ts
    clear ts hc a1 a2 a3 ql rl xl c0 hwas hbit
    go_wp2_with (go_at_call 48; fail)
    refine (ziB c c01 LO HI NLH.out L H FL.out.lt FH.out.lt _ LA.out.lo LA.out.hi).mono ?_
    rintro e w5 ⟨rfl, bar, hlo, hhi⟩
    obtain ⟨⟨X, Z, eX, fX, fZ⟩, X', Z', eX', fX', fZ'⟩ := TS.out
    rw [eX] at hlo
    rw [eX'] at hhi
    have h0' := bar.keep h0 (zai h0 LA.out.lo (by decide)) (zai h0 LA.out.hi (by decide))
    have h2' := bar.keep h2 (zai h2 LA.out.lo (by decide)) (zai h2 LA.out.hi (by decide))
    have lad : Lad w5 RV R LO HI FI (zbW X Z) (zbW X' Z') (ofN u) := ⟨bar.keep LA.out.rv (zai LA.out.rv LA.out.lo (by decide)) (zai LA.out.rv LA.out.hi (by decide)), bar.keep LA.out.r (zai LA.out.r LA.out.lo (by decide)) (zai LA.out.r LA.out.hi (by decide)), hlo, hhi, bar.keep LA.out.fi (zai LA.out.fi LA.out.lo (by decide)) (zai LA.out.fi LA.out.hi (by decide))⟩
    replace hb := bar.below hb bLO bHI hb.size
    have FX := Lib.hid fX
    have FZ := Lib.hid fZ
    have FX' := Lib.hid fX'
    have FZ' := Lib.hid fZ'
    clear bar hlo hhi h0 h2 hx0 eX eX' fX fZ fX' fZ'
    go_wp2_with (go_at_call 43; fail)
    refine (zpR RV R LO HI FI X Z X' Z' (ofN u) FX.out.1 FZ.out.1 FX'.out.1 FZ'.out.1 (zs1 u) NLH.out _ lad).mono ?_
    rintro e w6 ⟨rfl, bar, lad2⟩
    replace h0' := bar.keep h0' (zai h0' lad.lo (by decide)) (zai h0' lad.hi (by decide))
    replace h2' := bar.keep h2' (zai h2' lad.lo (by decide)) (zai h2' lad.hi (by decide))
    replace hb := bar.below hb bLO bHI hb.size
    have LL := Lib.hid lad2
    clear bar lad lad2
    go_wp2
    go_roundg (gk - 1)
    case measure => have := hm'.out; omega
    case rel =>
     have hm'' := hm'.out
     have ok1 := ztB (zeK (zag k) m) (zkx (za2 u) (Nat.mod_lt _ zc1) (zag k) m)
     refine ⟨m + 1, by omega, by go_num, rfl, ⟨_, _, ?_, ?_, h0', h2', LL.out⟩, hb⟩
     ·show zrF _ (zfs (zeK (zag k) m) (zbf (za2 u) (zag k) (m + 1))).1
      rw [zhg]
      exact ⟨_, _, rfl, zs9 FX.out FZ.out ok1.1, zta FX.out FZ.out ok1.1⟩
     ·show zrF _ (zfs (zeK (zag k) m) (zbf (za2 u) (zag k) (m + 1))).2
      rw [zhg]
      exact ⟨_, _, rfl, ztd FX.out FZ.out FX'.out FZ'.out ok1.1 ok1.2, zte FX.out FZ.out FX'.out FZ'.out ok1.1 ok1.2 (zmo u HU.out)⟩
   ·obtain rfl : m = 255 := by have := hm'.out; omega
    obtain ⟨L, H, fL, fH, h0, h2, lad⟩ := lf
    have FL := Lib.hid fL
    have FH := Lib.hid fH
    have LA := Lib.hid lad
    have hwas := zmn (zag k) 255
    have ts := ziE (b := 0) (c := zrG (zag k) 255) hwas (.inl rfl) (by rcases hwas with h | h <;> rw [h] <;> rfl) fL fH
    have TS := Lib.hid ts
    obtain ⟨c, hc⟩ : ∃ c : Nat, c = zrG (zag k) 255 := ⟨_, rfl⟩
    rw [← hc] at hwas TS ⊢
    clear fL fH lad ts hc
    go_wp2_with (go_at_call 48; fail)
    refine (ziB c hwas LO HI NLH.out L H FL.out.lt FH.out.lt _ LA.out.lo LA.out.hi).mono ?_
    rintro e w5 ⟨rfl, bar, hlo, hhi⟩
    obtain ⟨⟨X, Z, eX, fX, fZ⟩, X', Z', eX', fX', fZ'⟩ := TS.out
    rw [eX] at hlo
    replace fX : zb1 X (zbf (za2 u) (zag k) 255).1.x := fX
    replace fZ : zb1 Z (zbf (za2 u) (zag k) 255).1.z := fZ
    have h2' := bar.keep h2 (zai h2 LA.out.lo (by decide)) (zai h2 LA.out.hi (by decide))
    have hrv := bar.keep LA.out.rv (zai LA.out.rv LA.out.lo (by decide)) (zai LA.out.rv LA.out.hi (by decide))
    have hr := bar.keep LA.out.r (zai LA.out.r LA.out.lo (by decide)) (zai LA.out.r LA.out.hi (by decide))
    replace hb := bar.below hb bLO bHI hb.size
    have FX := Lib.hid fX
    have FZ := Lib.hid fZ
    have OK := Lib.hid (show okF (zbG X (zeH Z)) 5 from zev _ _ fX.1 (zpM fZ.1))
    have VV := Lib.hid (show zbV (zbG X (zeH Z)) 5 % pN = zdA k (za2 u) from by
     have h := (zh0 fX (zpS fZ)).2
     rw [h]
     unfold zdA fM
     rw [Nat.mod_mod])
    clear bar hhi h0 h2 eX eX' fX fZ fX' fZ' hwas
    go_upto_region 17 with (fail)
    (try simp only [Act.put, jA, jB, jC])
    have HSZ : w.heap.size ≤ w5.heap.size := hb.size
    have L2 : w.heap.size + 1 + 1 < w5.heap.size := jM h2'
    obtain ⟨wq, rfl⟩ : ∃ x, x = w5 := ⟨_, rfl⟩
    refine zdw 17 [.val (Is (.pointer (some ⟨R, 0, none⟩))), .val (Is (.pointer (some ⟨LO, 0, none⟩))), .val (Is (.agg (arr .u64 5 fun i => ((X i : Nat) : Int)))), .val (Is (.pointer (some ⟨R, 0, none⟩))), .val (Is (.pointer (some ⟨LO, 5, none⟩))), .val (Is (.agg (arr .u64 5 fun i => ((Z i : Nat) : Int)))), .val (Is (.tuple #[.agg (arr .u64 5 fun i => (((zeH Z) i : Nat) : Int)), .int .i64 0])), .val (Is (.agg (arr .u64 5 fun i => (((zeH Z) i : Nat) : Int)))), .val (Is (.int .i64 0)), .val (Is (.agg (arr .u64 5 fun i => (((zeH Z) i : Nat) : Int)))), .val (Is (.agg (arr .u64 5 fun i => (((zbG X (zeH Z)) i : Nat) : Int)))), .val (Is (.tuple #[.agg (arr .u8 32 fun k => ((zbY (zbG X (zeH Z)) k : Nat) : Int)), .int .i64 0])), .val (Is (.tuple #[.agg (arr .u8 32 fun k => ((zbY (zbG X (zeH Z)) k : Nat) : Int)), .int .i64 0])), .val (Is (.agg (arr .u8 32 fun k => ((zbY (zbG X (zeH Z)) k : Nat) : Int)))), .val (Is (.int .i64 0)), .new 23 .u8 32, .put 15 (fun k => ((zbY (zbG X (zeH Z)) k : Nat) : Int))] [[], [], [1], [], [], [4], [5], [6], [6], [3, 7, 8], [0, 2, 9], [10], [11], [12], [12], [], [13, 15]] [] (by kernel_rfl) (by kernel_rfl) (by kernel_rfl) rfl (zaD (zba _ _) (zaD (zba _ _) (zaD (zba _ _) (zaD (zba _ _) (zaD (zba _ _) (zaD (zba _ _) (zaD (zba _ _) (zaD (zba _ _) (zaD (zba _ _) (zaD (zba _ _) (zaD (zba _ _) (zaD (zba _ _) (zaD (zba _ _) (zaD (zba _ _) (zaD (zba _ _) (zaD (zmi _ _ _ _) (zaD (zty _ _ _) (zmj _)))))))))))))))))) ?_ ?_
    ·(simp only [jH, jI, jF, jG, List.zip_cons_cons, List.zip_nil_left, List.zip_nil_right, zdv, zdK, zfO, zcD, zdD, zez, zbp, zbA, HK.fact, List.map_cons, List.map_nil, zbQ, jD, jE, List.range_succ, List.range_zero, List.nil_append, List.cons_append, Act.put, jA, jB, jC])
     refine ⟨?_, ?_, ?_, ?_, ?_, ?_, ?_, ?_, ?_, ?_, ?_, ?_, ?_, ?_, ?_, ?_, ?_, trivial⟩
     ·intro x0 x1 x2 x3 x4 x5 x6 x7 x8 x9 x10 x11 x12 x13 x14 x15 x16 w' hb' 
      have cr := cell_of_row _ _ 0 _ _ _ (zaa hb' (jM (w := wq) hrv) hrv)
      refine zaS rfl (fun K hK => ?_)
      go_simp
      exact hK _ _ (Below.refl _ _) rfl
     ·intro x0 x1 x2 x3 x4 x5 x6 x7 x8 x9 x10 x11 x12 x13 x14 x15 x16 w' hb' 
      refine zaS rfl (fun K hK => ?_)
      go_simp
      exact hK _ _ (Below.refl _ _) rfl
     ·intro x0 x1 x2 x3 x4 x5 x6 x7 x8 x9 x10 x11 x12 x13 x14 x15 x16 w' hb' e0
      unfold Is at e0
      subst e0
      exact za0 (fun i => ((X i : Nat) : Int)) rfl rfl rfl zbc (zaa hb' (jM (w := wq) hlo) hlo) (by omega) (fun i hi => zkv _ _ i hi) rfl
     ·intro x0 x1 x2 x3 x4 x5 x6 x7 x8 x9 x10 x11 x12 x13 x14 x15 x16 w' hb' 
      have cr := cell_of_row _ _ 0 _ _ _ (zaa hb' (jM (w := wq) hrv) hrv)
      refine zaS rfl (fun K hK => ?_)
      go_simp
      exact hK _ _ (Below.refl _ _) rfl
     ·intro x0 x1 x2 x3 x4 x5 x6 x7 x8 x9 x10 x11 x12 x13 x14 x15 x16 w' hb' 
      refine zaS rfl (fun K hK => ?_)
      go_simp
      exact hK _ _ (Below.refl _ _) rfl
     ·intro x0 x1 x2 x3 x4 x5 x6 x7 x8 x9 x10 x11 x12 x13 x14 x15 x16 w' hb' e0
      unfold Is at e0
      subst e0
      exact za0 (fun i => ((Z i : Nat) : Int)) rfl rfl rfl zbc (zaa hb' (jM (w := wq) hlo) hlo) (by omega) (fun i hi => zkw _ _ i hi) rfl
     ·intro x0 x1 x2 x3 x4 x5 x6 x7 x8 x9 x10 x11 x12 x13 x14 x15 x16 w' hb' e0
      unfold Is at e0
      subst e0
      refine zaS rfl (fun K hK => ?_)
      go_simp
      refine (zkt Z FZ.out.1 _).mono ?_
      rintro e w4 ⟨rfl, b4⟩
      exact hK _ _ b4 rfl
     ·intro x0 x1 x2 x3 x4 x5 x6 x7 x8 x9 x10 x11 x12 x13 x14 x15 x16 w' hb' e0
      unfold Is at e0
      subst e0
      refine zaS rfl (fun K hK => ?_)
      go_simp
      exact hK _ _ (Below.refl _ _) rfl
     ·intro x0 x1 x2 x3 x4 x5 x6 x7 x8 x9 x10 x11 x12 x13 x14 x15 x16 w' hb' e0
      unfold Is at e0
      subst e0
      refine zaS rfl (fun K hK => ?_)
      go_simp
      exact hK _ _ (Below.refl _ _) rfl
     ·intro x0 x1 x2 x3 x4 x5 x6 x7 x8 x9 x10 x11 x12 x13 x14 x15 x16 w' hb' e0 e1 e2
      unfold Is at e0 e1 e2
      subst e0 e1 e2
      refine zaS rfl (fun K hK => ?_)
      go_simp
      refine (zeI R (zeH Z) _ (zaa hb' (jM (w := wq) hr) hr)).mono ?_
      rintro e w4 ⟨rfl, b4⟩
      exact hK _ _ b4 rfl
     ·intro x0 x1 x2 x3 x4 x5 x6 x7 x8 x9 x10 x11 x12 x13 x14 x15 x16 w' hb' e0 e1 e2
      unfold Is at e0 e1 e2
      subst e0 e1 e2
      refine zaS rfl (fun K hK => ?_)
      go_simp
      refine (zeJ R X (zeH Z) FX.out.1 (zpM FZ.out.1) _ (zaa hb' (jM (w := wq) hr) hr)).mono ?_
      rintro e w4 ⟨rfl, b4⟩
      exact hK _ _ b4 rfl
     ·intro x0 x1 x2 x3 x4 x5 x6 x7 x8 x9 x10 x11 x12 x13 x14 x15 x16 w' hb' e0
      unfold Is at e0
      subst e0
      refine zaS rfl (fun K hK => ?_)
      go_simp
      refine (znD (zbG X (zeH Z)) OK.out _).mono ?_
      rintro e w4 ⟨rfl, b4⟩
      exact hK _ _ b4 rfl
     ·intro x0 x1 x2 x3 x4 x5 x6 x7 x8 x9 x10 x11 x12 x13 x14 x15 x16 w' hb' e0
      unfold Is at e0
      subst e0
      refine zaS rfl (fun K hK => ?_)
      go_simp
      exact hK _ _ (Below.refl _ _) rfl
     ·intro x0 x1 x2 x3 x4 x5 x6 x7 x8 x9 x10 x11 x12 x13 x14 x15 x16 w' hb' e0
      unfold Is at e0
      subst e0
      refine zaS rfl (fun K hK => ?_)
      go_simp
      exact hK _ _ (Below.refl _ _) rfl
     ·intro x0 x1 x2 x3 x4 x5 x6 x7 x8 x9 x10 x11 x12 x13 x14 x15 x16 w' hb' e0
      unfold Is at e0
      subst e0
      refine zaS rfl (fun K hK => ?_)
      go_simp
      exact hK _ _ (Below.refl _ _) rfl
     ·intro x0 x1 x2 x3 x4 x5 x6 x7 x8 x9 x10 x11 x12 x13 x14 x15 x16 w' hb' 
      exact ⟨by first | rfl | trivial, by first | trivial | rfl, zii⟩
     ·intro x0 x1 x2 x3 x4 x5 x6 x7 x8 x9 x10 x11 x12 x13 x14 x15 x16 w' hb' e0 e1
      unfold Is at e0
      subst e0
      exact ⟨by first | trivial | rfl, _, _, _, _, _, rfl, rfl, by decide, zch, fun v hv => Option.some.inj hv, rfl⟩
    ·(simp only [jH, jI, jF, jG, List.zip_cons_cons, List.zip_nil_left, List.zip_nil_right, zdv, zdK, zfO, zcD, zdD, zez, zbp, zbA, HK.fact, List.map_cons, List.map_nil, zbQ, jD, jE, List.range_succ, List.range_zero, List.nil_append, List.cons_append, Act.put, jA, jB, jC])
     rintro x0 x1 x2 x3 x4 x5 x6 x7 x8 x9 x10 x11 x12 x13 x14 x15 x16 w5 hb' e0 e1 e2 e3 e4 e5 e6 e7 e8 e9 e10 e11 e12 e13 e14 e15 e16 N15 
     unfold Is at e0 e1 e2 e3 e4 e5 e6 e7 e8 e9 e10 e11 e12 e13 e14
     subst e0 e1 e2 e3 e4 e5 e6 e7 e8 e9 e10 e11 e12 e13 e14
     obtain ⟨BO, rfl, lBO, ho⟩ := N15
     replace ho : w5.heap[BO]? = some (.cells (arr .u8 32 (fun k => ((zbY (zbG X (zeH Z)) k : Nat) : Int))) 23 (0, 0)) := ho
     replace lBO : wq.heap.size ≤ BO := lBO
     replace h2' := zaa hb' (jM (w := wq) h2') h2'
     replace hr := zaa hb' (jM (w := wq) hr) hr
     replace hrv := zaa hb' (jM (w := wq) hrv) hrv
     replace hlo := zaa hb' (jM (w := wq) hlo) hlo
     replace hb := (hb.drew).trans (hb'.mono hb.size)
     obtain ⟨w6, rfl⟩ : ∃ x, x = w5 := ⟨_, rfl⟩
     go_upto_region 18 with (fail)
     (try simp only [Act.put, jA, jB, jC])
     have c_rv : w6.cell? ⟨RV, 0, none⟩ = some (.pointer (some ⟨R, 0, none⟩)) := cell_of_row _ _ 0 _ _ _ hrv
     go_wp2_with (first | (refine za8 rfl (zaJ rfl (by simp [Act.eval, Act.put]) znr) ?_) | (go_at_call 50; fail))
     refine (zeI R (zci 0) _ hr).mono ?_
     rintro e w7 ⟨rfl, b7⟩
     replace h2' := zaa b7 (jM h2') h2'
     replace hr := zaa b7 (jM hr) hr
     replace hrv := zaa b7 (jM hrv) hrv
     replace ho := zaa b7 (jM ho) ho
     replace hb := hb.trans (b7.mono hb.size)
     clear b7 c_rv
     have c_rv : w7.cell? ⟨RV, 0, none⟩ = some (.pointer (some ⟨R, 0, none⟩)) := cell_of_row _ _ 0 _ _ _ hrv
     have c_r := zaj hr 0 (by omega)
     go_wp2_with (first | (refine zab rfl rfl rfl zch ho ?_) | (refine zac rfl rfl rfl rfl zch h2' ?_))
     refine bodyPost_ret (zaw rfl rfl zch (zan h2')) rfl ⟨?_, zam hb (by omega) _⟩
     rw [zcd (fun i _ => zjB OK.out VV.out i)]
 ·
  try (simp only [canOps, jD, jE, jF, jG])
  refine zb8 rfl rfl zmm (jV _) ?_
  (try simp only [Act.put, jA, jB, jC])
  refine wpCan_nil ?_
  unfold zfT
  try (simp only [canOps, jD, jE, jF, jG])
  obtain ⟨hhi, hz1, b1⟩ := zb6 wq.drew (.cells (arr .u64 10 fun _ => 0) 72)
  replace h0 := zaa b1 (jM (w := wq) h0) h0
  replace h2 := zaa b1 (jM (w := wq) h2) h2
  replace hr := zaa b1 (jM (w := wq) hr) hr
  replace hrv := zaa b1 (jM (w := wq) hrv) hrv
  replace hfi := zaa b1 (jM (w := wq) hfi) hfi
  replace hb := hb.drew.trans (b1.mono hb.size)
  have bHI : wq.drew.heap.size ≤ wq.drew.heap.size := jV _
  obtain ⟨N0, hN0⟩ : ∃ B, B = wq.drew.heap.size := ⟨_, rfl⟩
  obtain ⟨HI, hHI⟩ : ∃ B, B = wq.drew.heap.size := ⟨_, rfl⟩
  have e0 : N0 = HI := hN0.trans hHI.symm
  have eP : wq.drew.heap.size + 1 = (wq.drew.alloc (.cells (arr .u64 10 fun _ => 0) 72)).heap.size := hz1.symm
  generalize wq.drew.alloc (.cells (arr .u64 10 fun _ => 0) 72) = w1 at *
  rw [← hHI] at hhi ⊢
  rw [← hHI] at lw b1 bHI eP
  clear hN0 hHI hz1 b1 bHI
  have l_h0 := jM h0
  have l_h2 := jM h2
  have l_hr := jM hr
  have l_hrv := jM hrv
  have l_hfi := jM hfi
  refine zb8 rfl rfl zmm (by omega) ?_
  (try simp only [Act.put, jA, jB, jC])
  obtain ⟨hlo, hz1, b1⟩ := zb6 w1 (.cells (arr .u64 10 fun _ => 0) 72)
  replace h0 := zaa b1 (jM h0) h0
  replace h2 := zaa b1 (jM h2) h2
  replace hr := zaa b1 (jM hr) hr
  replace hrv := zaa b1 (jM hrv) hrv
  replace hfi := zaa b1 (jM hfi) hfi
  replace hhi := zaa b1 (jM hhi) hhi
  replace hb := hb.trans (b1.mono hb.size)
  obtain ⟨LO, hLO⟩ : ∃ B, B = w1.heap.size := ⟨_, rfl⟩
  generalize w1.alloc (.cells (arr .u64 10 fun _ => 0) 72) = w2 at *
  rw [← hLO] at eP hlo b1 ⊢
  clear hz1 b1 hLO
  have nLH : LO ≠ HI := by omega
  have bLO : w.heap.size ≤ LO := by omega
  have bHI : w.heap.size ≤ HI := by omega
  refine zdm rfl rfl rfl rfl zhF (by omega) hlo ?_
  (try simp only [Act.put, jA, jB, jC])
  refine wpCan_nil ?_
  replace h0 := zad (g := LO) (c' := (arr .u64 10 fun i => ((zbW (zci 1) (zci 0) i : Nat) : Int))) h0 (zai h0 hlo (by decide))
  replace h2 := zad (g := LO) (c' := (arr .u64 10 fun i => ((zbW (zci 1) (zci 0) i : Nat) : Int))) h2 (zai h2 hlo (by decide))
  replace hr := zad (g := LO) (c' := (arr .u64 10 fun i => ((zbW (zci 1) (zci 0) i : Nat) : Int))) hr (zai hr hlo (by decide))
  replace hrv := zad (g := LO) (c' := (arr .u64 10 fun i => ((zbW (zci 1) (zci 0) i : Nat) : Int))) hrv (zai hrv hlo (by decide))
  replace hfi := zad (g := LO) (c' := (arr .u64 10 fun i => ((zbW (zci 1) (zci 0) i : Nat) : Int))) hfi (zai hfi hlo (by decide))
  replace hhi := zad (g := LO) (c' := (arr .u64 10 fun i => ((zbW (zci 1) (zci 0) i : Nat) : Int))) hhi (Ne.symm nLH)
  replace hlo := zan (c' := (arr .u64 10 fun i => ((zbW (zci 1) (zci 0) i : Nat) : Int))) hlo
  replace hb := zam hb bLO (arr .u64 10 fun i => ((zbW (zci 1) (zci 0) i : Nat) : Int))
  generalize w2.setRow LO (arr .u64 10 fun i => ((zbW (zci 1) (zci 0) i : Nat) : Int)) = w3 at *
  go_upto_region 5 with (refine zac rfl rfl rfl rfl zhF hhi ?_)
  replace h0 := zad (g := HI) (c' := (arr .u64 10 fun i => ((zbW (ofN u) (zci 1) i : Nat) : Int))) h0 (zai h0 hhi (by decide))
  replace h2 := zad (g := HI) (c' := (arr .u64 10 fun i => ((zbW (ofN u) (zci 1) i : Nat) : Int))) h2 (zai h2 hhi (by decide))
  replace hr := zad (g := HI) (c' := (arr .u64 10 fun i => ((zbW (ofN u) (zci 1) i : Nat) : Int))) hr (zai hr hhi (by decide))
  replace hrv := zad (g := HI) (c' := (arr .u64 10 fun i => ((zbW (ofN u) (zci 1) i : Nat) : Int))) hrv (zai hrv hhi (by decide))
  replace hfi := zad (g := HI) (c' := (arr .u64 10 fun i => ((zbW (ofN u) (zci 1) i : Nat) : Int))) hfi (zai hfi hhi (by decide))
  replace hlo := zad (g := HI) (c' := (arr .u64 10 fun i => ((zbW (ofN u) (zci 1) i : Nat) : Int))) hlo nLH
  replace hhi := zan (c' := (arr .u64 10 fun i => ((zbW (ofN u) (zci 1) i : Nat) : Int))) hhi
  replace hb := zam hb bHI (arr .u64 10 fun i => ((zbW (ofN u) (zci 1) i : Nat) : Int))
  generalize w3.setRow HI (arr .u64 10 fun i => ((zbW (ofN u) (zci 1) i : Nat) : Int)) = wn at *
  clear l_h0 l_h2 l_hr l_hrv l_hfi e0 eP lw
  (try simp only [Act.put, jA, jB, jC])
  have lf : zBe k u wn w.heap.size RV R LO HI FI 0 := ⟨_, _, ⟨_, _, rfl, zfo (x := 1) (by omega), zfo (x := 0) (by omega)⟩, ⟨_, _, rfl, zmo u HU.out, zfo (x := 1) (by omega)⟩, h0, h2, ⟨hrv, hr, hlo, hhi, hfi⟩⟩
  clear h0 h2 hrv hr hlo hhi hfi
  have NLH := Lib.hid nLH
  have l2 : 0 < 1 := by omega
  clear nLH l2
  go_wp2
  go_loopg [10, 28] 255 (fun n was i wr => ∃ m : Nat, m + n = 255 ∧ i = .int .i64 m ∧ was = .int .u64 ((zrG (zag k) m : Nat) : Int) ∧ zBe k u wr w.heap.size RV R LO HI FI m ∧ Below w.heap.size w wr)
  case atStart => exact ⟨0, rfl, rfl, rfl, lf, hb⟩
  case round =>
   clear lf hb
   obtain ⟨m, hm, rfl, rfl, lf, hb⟩ := hrel
   have hm' := Lib.hid hm
   clear hm
   by_cases hlt : m < 255
   ·obtain ⟨L, H, fL, fH, h0, h2, lad⟩ := lf
    have FL := Lib.hid fL
    have FH := Lib.hid fH
    have LA := Lib.hid lad
    clear fL fH lad
    obtain ⟨at_, hat⟩ : ∃ a : Nat, a = 254 - m := ⟨_, rfl⟩
    obtain ⟨q, hq⟩ : ∃ a : Nat, a = at_ / 8 := ⟨_, rfl⟩
    obtain ⟨r, hr⟩ : ∃ a : Nat, a = at_ % 8 := ⟨_, rfl⟩
    have a1 : (254 : Int) - (m : Int) = (at_ : Int) := by omega
    have a2 : (at_ : Int) / 8 = (q : Int) := by omega
    have a3 : bits .and .i64 (at_ : Int) 7 = (r : Int) := by rw [zp5]; omega
    have ql : q < 32 := by omega
    have rl : r < 8 := by omega
    obtain ⟨x, hx⟩ : ∃ x, zag k q = x := ⟨_, rfl⟩
    have xl : x < 256 := hx ▸ hK.out q ql
    have c0 : wr.cell? ⟨w.heap.size, q, none⟩ = some (.int .u8 (x : Int)) := by rw [zaj h0 q ql, hx]
    have eb : zeK (zag k) m = x / 2 ^ r % 2 := by unfold zeK; rw [← hat, ← hq, ← hr, hx]
    have EB := Lib.hid eb
    have AT := Lib.hid hat
    have AQ := Lib.hid hq
    have AR := Lib.hid hr
    have HX := Lib.hid hx
    clear eb hat hq hr hx
    go_upto_region 12 with (fail)
    rw [zxa x r xl, ← EB.out]
    have hwas := zmn (zag k) m
    have hbit := zgG (zag k) m
    obtain ⟨c, hc⟩ : ∃ c : Nat, c = if zrG (zag k) m = zeK (zag k) m then 0 else 1 := ⟨_, rfl⟩
    have hx0 := zAt _ _ hwas hbit
    rw [← hc] at hx0
    have c01 : c = 0 ∨ c = 1 := by rw [hc]; split <;> omega
    have ts := ziE hwas hbit hc FL.out FH.out
    have TS := Lib.hid ts
    clear ts hc a1 a2 a3 ql rl xl c0 hwas hbit
    go_wp2_with (go_at_call 48; fail)
    refine (ziB c c01 LO HI NLH.out L H FL.out.lt FH.out.lt _ LA.out.lo LA.out.hi).mono ?_
    rintro e w5 ⟨rfl, bar, hlo, hhi⟩
    obtain ⟨⟨X, Z, eX, fX, fZ⟩, X', Z', eX', fX', fZ'⟩ := TS.out
    rw [eX] at hlo
    rw [eX'] at hhi
    have h0' := bar.keep h0 (zai h0 LA.out.lo (by decide)) (zai h0 LA.out.hi (by decide))
    have h2' := bar.keep h2 (zai h2 LA.out.lo (by decide)) (zai h2 LA.out.hi (by decide))
    have lad : Lad w5 RV R LO HI FI (zbW X Z) (zbW X' Z') (ofN u) := ⟨bar.keep LA.out.rv (zai LA.out.rv LA.out.lo (by decide)) (zai LA.out.rv LA.out.hi (by decide)), bar.keep LA.out.r (zai LA.out.r LA.out.lo (by decide)) (zai LA.out.r LA.out.hi (by decide)), hlo, hhi, bar.keep LA.out.fi (zai LA.out.fi LA.out.lo (by decide)) (zai LA.out.fi LA.out.hi (by decide))⟩
    replace hb := bar.below hb bLO bHI hb.size
    have FX := Lib.hid fX
    have FZ := Lib.hid fZ
    have FX' := Lib.hid fX'
    have FZ' := Lib.hid fZ'
    clear bar hlo hhi h0 h2 hx0 eX eX' fX fZ fX' fZ'
    go_wp2_with (go_at_call 43; fail)
    refine (zpR RV R LO HI FI X Z X' Z' (ofN u) FX.out.1 FZ.out.1 FX'.out.1 FZ'.out.1 (zs1 u) NLH.out _ lad).mono ?_
    rintro e w6 ⟨rfl, bar, lad2⟩
    replace h0' := bar.keep h0' (zai h0' lad.lo (by decide)) (zai h0' lad.hi (by decide))
    replace h2' := bar.keep h2' (zai h2' lad.lo (by decide)) (zai h2' lad.hi (by decide))
    replace hb := bar.below hb bLO bHI hb.size
    have LL := Lib.hid lad2
    clear bar lad lad2
    go_wp2
    go_roundg (gk - 1)
    case measure => have := hm'.out; omega
    case rel =>
     have hm'' := hm'.out
     have ok1 := ztB (zeK (zag k) m) (zkx (za2 u) (Nat.mod_lt _ zc1) (zag k) m)
     refine ⟨m + 1, by omega, by go_num, rfl, ⟨_, _, ?_, ?_, h0', h2', LL.out⟩, hb⟩
     ·show zrF _ (zfs (zeK (zag k) m) (zbf (za2 u) (zag k) (m + 1))).1
      rw [zhg]
      exact ⟨_, _, rfl, zs9 FX.out FZ.out ok1.1, zta FX.out FZ.out ok1.1⟩
     ·show zrF _ (zfs (zeK (zag k) m) (zbf (za2 u) (zag k) (m + 1))).2
      rw [zhg]
      exact ⟨_, _, rfl, ztd FX.out FZ.out FX'.out FZ'.out ok1.1 ok1.2, zte FX.out FZ.out FX'.out FZ'.out ok1.1 ok1.2 (zmo u HU.out)⟩
   ·obtain rfl : m = 255 := by have := hm'.out; omega
    obtain ⟨L, H, fL, fH, h0, h2, lad⟩ := lf
    have FL := Lib.hid fL
    have FH := Lib.hid fH
    have LA := Lib.hid lad
    have hwas := zmn (zag k) 255
    have ts := ziE (b := 0) (c := zrG (zag k) 255) hwas (.inl rfl) (by rcases hwas with h | h <;> rw [h] <;> rfl) fL fH
    have TS := Lib.hid ts
    obtain ⟨c, hc⟩ : ∃ c : Nat, c = zrG (zag k) 255 := ⟨_, rfl⟩
    rw [← hc] at hwas TS ⊢
    clear fL fH lad ts hc
    go_wp2_with (go_at_call 48; fail)
    refine (ziB c hwas LO HI NLH.out L H FL.out.lt FH.out.lt _ LA.out.lo LA.out.hi).mono ?_
    rintro e w5 ⟨rfl, bar, hlo, hhi⟩
    obtain ⟨⟨X, Z, eX, fX, fZ⟩, X', Z', eX', fX', fZ'⟩ := TS.out
    rw [eX] at hlo
    replace fX : zb1 X (zbf (za2 u) (zag k) 255).1.x := fX
    replace fZ : zb1 Z (zbf (za2 u) (zag k) 255).1.z := fZ
    have h2' := bar.keep h2 (zai h2 LA.out.lo (by decide)) (zai h2 LA.out.hi (by decide))
    have hrv := bar.keep LA.out.rv (zai LA.out.rv LA.out.lo (by decide)) (zai LA.out.rv LA.out.hi (by decide))
    have hr := bar.keep LA.out.r (zai LA.out.r LA.out.lo (by decide)) (zai LA.out.r LA.out.hi (by decide))
    replace hb := bar.below hb bLO bHI hb.size
    have FX := Lib.hid fX
    have FZ := Lib.hid fZ
    have OK := Lib.hid (show okF (zbG X (zeH Z)) 5 from zev _ _ fX.1 (zpM fZ.1))
    have VV := Lib.hid (show zbV (zbG X (zeH Z)) 5 % pN = zdA k (za2 u) from by
     have h := (zh0 fX (zpS fZ)).2
     rw [h]
     unfold zdA fM
     rw [Nat.mod_mod])
    clear bar hhi h0 h2 eX eX' fX fZ fX' fZ' hwas
    go_upto_region 17 with (fail)
    (try simp only [Act.put, jA, jB, jC])
    have HSZ : w.heap.size ≤ w5.heap.size := hb.size
    have L2 : w.heap.size + 1 + 1 < w5.heap.size := jM h2'
    obtain ⟨wq, rfl⟩ : ∃ x, x = w5 := ⟨_, rfl⟩
    refine zdw 17 [.val (Is (.pointer (some ⟨R, 0, none⟩))), .val (Is (.pointer (some ⟨LO, 0, none⟩))), .val (Is (.agg (arr .u64 5 fun i => ((X i : Nat) : Int)))), .val (Is (.pointer (some ⟨R, 0, none⟩))), .val (Is (.pointer (some ⟨LO, 5, none⟩))), .val (Is (.agg (arr .u64 5 fun i => ((Z i : Nat) : Int)))), .val (Is (.tuple #[.agg (arr .u64 5 fun i => (((zeH Z) i : Nat) : Int)), .int .i64 0])), .val (Is (.agg (arr .u64 5 fun i => (((zeH Z) i : Nat) : Int)))), .val (Is (.int .i64 0)), .val (Is (.agg (arr .u64 5 fun i => (((zeH Z) i : Nat) : Int)))), .val (Is (.agg (arr .u64 5 fun i => (((zbG X (zeH Z)) i : Nat) : Int)))), .val (Is (.tuple #[.agg (arr .u8 32 fun k => ((zbY (zbG X (zeH Z)) k : Nat) : Int)), .int .i64 0])), .val (Is (.tuple #[.agg (arr .u8 32 fun k => ((zbY (zbG X (zeH Z)) k : Nat) : Int)), .int .i64 0])), .val (Is (.agg (arr .u8 32 fun k => ((zbY (zbG X (zeH Z)) k : Nat) : Int)))), .val (Is (.int .i64 0)), .new 23 .u8 32, .put 15 (fun k => ((zbY (zbG X (zeH Z)) k : Nat) : Int))] [[], [], [1], [], [], [4], [5], [6], [6], [3, 7, 8], [0, 2, 9], [10], [11], [12], [12], [], [13, 15]] [] (by kernel_rfl) (by kernel_rfl) (by kernel_rfl) rfl (zaD (zba _ _) (zaD (zba _ _) (zaD (zba _ _) (zaD (zba _ _) (zaD (zba _ _) (zaD (zba _ _) (zaD (zba _ _) (zaD (zba _ _) (zaD (zba _ _) (zaD (zba _ _) (zaD (zba _ _) (zaD (zba _ _) (zaD (zba _ _) (zaD (zba _ _) (zaD (zba _ _) (zaD (zmi _ _ _ _) (zaD (zty _ _ _) (zmj _)))))))))))))))))) ?_ ?_
    ·(simp only [jH, jI, jF, jG, List.zip_cons_cons, List.zip_nil_left, List.zip_nil_right, zdv, zdK, zfO, zcD, zdD, zez, zbp, zbA, HK.fact, List.map_cons, List.map_nil, zbQ, jD, jE, List.range_succ, List.range_zero, List.nil_append, List.cons_append, Act.put, jA, jB, jC])
     refine ⟨?_, ?_, ?_, ?_, ?_, ?_, ?_, ?_, ?_, ?_, ?_, ?_, ?_, ?_, ?_, ?_, ?_, trivial⟩
     ·intro x0 x1 x2 x3 x4 x5 x6 x7 x8 x9 x10 x11 x12 x13 x14 x15 x16 w' hb' 
      have cr := cell_of_row _ _ 0 _ _ _ (zaa hb' (jM (w := wq) hrv) hrv)
      refine zaS rfl (fun K hK => ?_)
      go_simp
      exact hK _ _ (Below.refl _ _) rfl
     ·intro x0 x1 x2 x3 x4 x5 x6 x7 x8 x9 x10 x11 x12 x13 x14 x15 x16 w' hb' 
      refine zaS rfl (fun K hK => ?_)
      go_simp
      exact hK _ _ (Below.refl _ _) rfl
     ·intro x0 x1 x2 x3 x4 x5 x6 x7 x8 x9 x10 x11 x12 x13 x14 x15 x16 w' hb' e0
      unfold Is at e0
      subst e0
      exact za0 (fun i => ((X i : Nat) : Int)) rfl rfl rfl zbc (zaa hb' (jM (w := wq) hlo) hlo) (by omega) (fun i hi => zkv _ _ i hi) rfl
     ·intro x0 x1 x2 x3 x4 x5 x6 x7 x8 x9 x10 x11 x12 x13 x14 x15 x16 w' hb' 
      have cr := cell_of_row _ _ 0 _ _ _ (zaa hb' (jM (w := wq) hrv) hrv)
      refine zaS rfl (fun K hK => ?_)
      go_simp
      exact hK _ _ (Below.refl _ _) rfl
     ·intro x0 x1 x2 x3 x4 x5 x6 x7 x8 x9 x10 x11 x12 x13 x14 x15 x16 w' hb' 
      refine zaS rfl (fun K hK => ?_)
      go_simp
      exact hK _ _ (Below.refl _ _) rfl
     ·intro x0 x1 x2 x3 x4 x5 x6 x7 x8 x9 x10 x11 x12 x13 x14 x15 x16 w' hb' e0
      unfold Is at e0
      subst e0
      exact za0 (fun i => ((Z i : Nat) : Int)) rfl rfl rfl zbc (zaa hb' (jM (w := wq) hlo) hlo) (by omega) (fun i hi => zkw _ _ i hi) rfl
     ·intro x0 x1 x2 x3 x4 x5 x6 x7 x8 x9 x10 x11 x12 x13 x14 x15 x16 w' hb' e0
      unfold Is at e0
      subst e0
      refine zaS rfl (fun K hK => ?_)
      go_simp
      refine (zkt Z FZ.out.1 _).mono ?_
      rintro e w4 ⟨rfl, b4⟩
      exact hK _ _ b4 rfl
     ·intro x0 x1 x2 x3 x4 x5 x6 x7 x8 x9 x10 x11 x12 x13 x14 x15 x16 w' hb' e0
      unfold Is at e0
      subst e0
      refine zaS rfl (fun K hK => ?_)
      go_simp
      exact hK _ _ (Below.refl _ _) rfl
     ·intro x0 x1 x2 x3 x4 x5 x6 x7 x8 x9 x10 x11 x12 x13 x14 x15 x16 w' hb' e0
      unfold Is at e0
      subst e0
      refine zaS rfl (fun K hK => ?_)
      go_simp
      exact hK _ _ (Below.refl _ _) rfl
     ·intro x0 x1 x2 x3 x4 x5 x6 x7 x8 x9 x10 x11 x12 x13 x14 x15 x16 w' hb' e0 e1 e2
      unfold Is at e0 e1 e2
      subst e0 e1 e2
      refine zaS rfl (fun K hK => ?_)
      go_simp
      refine (zeI R (zeH Z) _ (zaa hb' (jM (w := wq) hr) hr)).mono ?_
      rintro e w4 ⟨rfl, b4⟩
      exact hK _ _ b4 rfl
     ·intro x0 x1 x2 x3 x4 x5 x6 x7 x8 x9 x10 x11 x12 x13 x14 x15 x16 w' hb' e0 e1 e2
      unfold Is at e0 e1 e2
      subst e0 e1 e2
      refine zaS rfl (fun K hK => ?_)
      go_simp
      refine (zeJ R X (zeH Z) FX.out.1 (zpM FZ.out.1) _ (zaa hb' (jM (w := wq) hr) hr)).mono ?_
      rintro e w4 ⟨rfl, b4⟩
      exact hK _ _ b4 rfl
     ·intro x0 x1 x2 x3 x4 x5 x6 x7 x8 x9 x10 x11 x12 x13 x14 x15 x16 w' hb' e0
      unfold Is at e0
      subst e0
      refine zaS rfl (fun K hK => ?_)
      go_simp
      refine (znD (zbG X (zeH Z)) OK.out _).mono ?_
      rintro e w4 ⟨rfl, b4⟩
      exact hK _ _ b4 rfl
     ·intro x0 x1 x2 x3 x4 x5 x6 x7 x8 x9 x10 x11 x12 x13 x14 x15 x16 w' hb' e0
      unfold Is at e0
      subst e0
      refine zaS rfl (fun K hK => ?_)
      go_simp
      exact hK _ _ (Below.refl _ _) rfl
     ·intro x0 x1 x2 x3 x4 x5 x6 x7 x8 x9 x10 x11 x12 x13 x14 x15 x16 w' hb' e0
      unfold Is at e0
      subst e0
      refine zaS rfl (fun K hK => ?_)
      go_simp
      exact hK _ _ (Below.refl _ _) rfl
     ·intro x0 x1 x2 x3 x4 x5 x6 x7 x8 x9 x10 x11 x12 x13 x14 x15 x16 w' hb' e0
      unfold Is at e0
      subst e0
      refine zaS rfl (fun K hK => ?_)
      go_simp
      exact hK _ _ (Below.refl _ _) rfl
     ·intro x0 x1 x2 x3 x4 x5 x6 x7 x8 x9 x10 x11 x12 x13 x14 x15 x16 w' hb' 
      exact ⟨by first | rfl | trivial, by first | trivial | rfl, zii⟩
     ·intro x0 x1 x2 x3 x4 x5 x6 x7 x8 x9 x10 x11 x12 x13 x14 x15 x16 w' hb' e0 e1
      unfold Is at e0
      subst e0
      exact ⟨by first | trivial | rfl, _, _, _, _, _, rfl, rfl, by decide, zch, fun v hv => Option.some.inj hv, rfl⟩
    ·(simp only [jH, jI, jF, jG, List.zip_cons_cons, List.zip_nil_left, List.zip_nil_right, zdv, zdK, zfO, zcD, zdD, zez, zbp, zbA, HK.fact, List.map_cons, List.map_nil, zbQ, jD, jE, List.range_succ, List.range_zero, List.nil_append, List.cons_append, Act.put, jA, jB, jC])
     rintro x0 x1 x2 x3 x4 x5 x6 x7 x8 x9 x10 x11 x12 x13 x14 x15 x16 w5 hb' e0 e1 e2 e3 e4 e5 e6 e7 e8 e9 e10 e11 e12 e13 e14 e15 e16 N15 
     unfold Is at e0 e1 e2 e3 e4 e5 e6 e7 e8 e9 e10 e11 e12 e13 e14
     subst e0 e1 e2 e3 e4 e5 e6 e7 e8 e9 e10 e11 e12 e13 e14
     obtain ⟨BO, rfl, lBO, ho⟩ := N15
     replace ho : w5.heap[BO]? = some (.cells (arr .u8 32 (fun k => ((zbY (zbG X (zeH Z)) k : Nat) : Int))) 23 (0, 0)) := ho
     replace lBO : wq.heap.size ≤ BO := lBO
     replace h2' := zaa hb' (jM (w := wq) h2') h2'
     replace hr := zaa hb' (jM (w := wq) hr) hr
     replace hrv := zaa hb' (jM (w := wq) hrv) hrv
     replace hlo := zaa hb' (jM (w := wq) hlo) hlo
     replace hb := (hb.drew).trans (hb'.mono hb.size)
     obtain ⟨w6, rfl⟩ : ∃ x, x = w5 := ⟨_, rfl⟩
     go_upto_region 18 with (fail)
     (try simp only [Act.put, jA, jB, jC])
     have c_rv : w6.cell? ⟨RV, 0, none⟩ = some (.pointer (some ⟨R, 0, none⟩)) := cell_of_row _ _ 0 _ _ _ hrv
     go_wp2_with (first | (refine za8 rfl (zaJ rfl (by simp [Act.eval, Act.put]) znr) ?_) | (go_at_call 50; fail))
     refine (zeI R (zci 0) _ hr).mono ?_
     rintro e w7 ⟨rfl, b7⟩
     replace h2' := zaa b7 (jM h2') h2'
     replace hr := zaa b7 (jM hr) hr
     replace hrv := zaa b7 (jM hrv) hrv
     replace ho := zaa b7 (jM ho) ho
     replace hb := hb.trans (b7.mono hb.size)
     clear b7 c_rv
     have c_rv : w7.cell? ⟨RV, 0, none⟩ = some (.pointer (some ⟨R, 0, none⟩)) := cell_of_row _ _ 0 _ _ _ hrv
     have c_r := zaj hr 0 (by omega)
     go_wp2_with (first | (refine zab rfl rfl rfl zch ho ?_) | (refine zac rfl rfl rfl rfl zch h2' ?_))
     refine bodyPost_ret (zaw rfl rfl zch (zan h2')) rfl ⟨?_, zam hb (by omega) _⟩
     rw [zcd (fun i _ => zjB OK.out VV.out i)]
end
section
open Go.RowKit
theorem zre : Tryz.prog.built 84 [(0, .int .u64 56129), (1, .int .u64 1)] = some (arr .u64 16 fun i => ((zak 121665 i : Nat) : Int)) := by kernel_rfl
attribute [local irreducible] zbd ovR loR zak boN zfr pN zfG zhu zbV zbj zbY zd2 zea zbG zdq zcR sqN zij zik zci zeH zdj
theorem zAu (w : World) (a b c d : Obj) : ((((w.alloc a).alloc b).alloc c).alloc d).heap[w.heap.size]? = some a ∧ ((((w.alloc a).alloc b).alloc c).alloc d).heap[w.heap.size + 1]? = some b ∧
  ((((w.alloc a).alloc b).alloc c).alloc d).heap[w.heap.size + 1 + 1]? = some c ∧ ((((w.alloc a).alloc b).alloc c).alloc d).heap[w.heap.size + 1 + 1 + 1]? = some d ∧ ((((w.alloc a).alloc b).alloc c).alloc d).heap.size = w.heap.size + 1 + 1 + 1 + 1 ∧ Below w.heap.size w ((((w.alloc a).alloc b).alloc c).alloc d) := by
 obtain ⟨h1, h2, h3, h4, h5⟩ := zdb w a b c
 obtain ⟨g1, g2, g3⟩ := zb6 (((w.alloc a).alloc b).alloc c) d
 rw [h4] at g1
 exact ⟨zaa g3 (jM h1) h1, zaa g3 (jM h2) h2, zaa g3 (jM h3) h3, g1, by rw [g2, h4], h5.trans (g3.mono h5.size)⟩
def zbR (F G : Nat → Nat) (i : Nat) : Nat := if i < 16 then F i else G (i - 16)
theorem zjE (F G : Nat → Nat) (i : Nat) (hi : i < 16) : ((zbR F G (0 + i) : Nat) : Int) = ((F i : Nat) : Int) := by unfold zbR; rw [if_pos (by omega), Nat.zero_add]
theorem zjF (F G : Nat → Nat) (i : Nat) (hi : i < 16) : ((zbR F G (16 + i) : Nat) : Int) = ((G i : Nat) : Int) := by unfold zbR; rw [if_neg (by omega), Nat.add_sub_cancel_left]
theorem zd3 : zeT Tryz.prog 87 32 := ⟨_, Tryz.underlying87, rfl, by kernel_rfl⟩
theorem zp7 : zcy Tryz.prog 87 .u64 32 := by unfold zcy; kernel_rfl
theorem ztC : zhR Tryz.prog 87 0 := ⟨_, _, 15, Tryz.underlying87, rfl, by kernel_rfl⟩
theorem ztD : zhR Tryz.prog 87 1 := ⟨_, _, 15, Tryz.underlying87, rfl, by kernel_rfl⟩
theorem zhI (F G : Nat → Nat) : Tryz.prog.built 87 [(0, .agg (arr .u64 16 fun i => ((F i : Nat) : Int))), (1, .agg (arr .u64 16 fun i => ((G i : Nat) : Int)))] = some (arr .u64 32 fun i => ((zbR F G i : Nat) : Int)) := by kernel_rfl
theorem ztE {a : Nat} (h : a < pN) : a < 2 ^ 256 := Nat.lt_trans h zyL
theorem znG (a b : Nat) (ha : a < pN) (hb : b < pN) (w : World) :
  Calls Tryz.prog 85 #[.agg (arr .u64 16 fun i => ((zak a i : Nat) : Int)), .agg (arr .u64 16 fun i => ((zak b i : Nat) : Int))] w fun e w' => e = .returned (.agg (arr .u64 16 fun i => ((zak (fA a b) i : Nat) : Int))) ∧ Below w.heap.size w w' := zvI a b (ztE ha) (ztE hb) w
theorem znH (a b : Nat) (ha : a < pN) (hb : b < pN) (w : World) :
  Calls Tryz.prog 84 #[.agg (arr .u64 16 fun i => ((zak a i : Nat) : Int)), .agg (arr .u64 16 fun i => ((zak b i : Nat) : Int))] w fun e w' => e = .returned (.agg (arr .u64 16 fun i => ((zak (fS a b) i : Nat) : Int))) ∧ Below w.heap.size w w' := zvJ a b (ztE ha) hb w
theorem zfZ (a b : Nat) (ha : a < pN) (hb : b < pN) (w : World) :
  Calls Tryz.prog 60 #[.agg (arr .u64 16 fun i => ((zak a i : Nat) : Int)), .agg (arr .u64 16 fun i => ((zak b i : Nat) : Int))] w fun e w' => e = .returned (.agg (arr .u64 16 fun i => ((zak (fM a b) i : Nat) : Int))) ∧ Below w.heap.size w w' := zhe a b (ztE ha) (ztE hb) w
theorem ztF : 121665 < pN := by
 unfold pN
 decide +kernel
attribute [local irreducible] fA fS fM zbR
theorem zjG (q : Pt) (hq : zhZ q) (w : World) :
  Calls Tryz.prog 58 #[.agg (arr .u64 32 fun i => ((zbR (zak q.x) (zak q.z) i : Nat) : Int))] w fun e w' => e = .returned (.agg (arr .u64 32 fun i => ((zbR (zak (zeC q).x) (zak (zeC q).z) i : Nat) : Int))) ∧ Below w.heap.size w w' := by
 have hQ := Lib.hid hq
 clear hq
 go_enter Tryz.func58, Tryz.ntmps58
 obtain ⟨h0, h1, hsz, hb⟩ := zcb w (.cells (arr .u64 32 fun i => ((zbR (zak q.x) (zak q.z) i : Nat) : Int)) 87) (.cells (arr .u64 32 fun _ => 0) 87)
 go_upto_region 1 with (refine zae rfl rfl zp7 ?_)
 generalize ((w).alloc (.cells (arr .u64 32 fun i => ((zbR (zak q.x) (zak q.z) i : Nat) : Int)) 87)).alloc (.cells (arr .u64 32 fun _ => 0) 87) = wa at *
 (try simp only [Act.put, jA, jB, jC])
 simp only [World.size_alloc]
 clear hsz
 go_wp2_with (first | (refine zbx (fun i => ((zak q.x i : Nat) : Int)) rfl rfl rfl zbb h0 (by omega) (fun i hi => zjE _ _ i hi) ?_) | (refine zbx (fun i => ((zak q.z i : Nat) : Int)) rfl rfl rfl zbb h0 (by omega) (fun i hi => zjF _ _ i hi) ?_) | (go_at_call 85; fail))
 refine (znG q.x q.z hQ.out.1 hQ.out.2 _).mono ?_
 rintro e w4 ⟨rfl, b4⟩
 replace h0 := zaa b4 (jM h0) h0
 replace h1 := zaa b4 (jM h1) h1
 replace hb := hb.trans (b4.mono hb.size)
 clear b4
 go_upto_region 2 with (refine zay rfl rfl rfl rfl ze4 zbb rfl rfl ?_; intro w8 h3 b8 hs8)
 have l0 := jM h0
 replace h0 := zaa b8 (jM h0) h0
 replace h1 := zaa b8 (jM h1) h1
 replace hb := hb.trans (b8.mono hb.size)
 clear b8 hs8
 obtain ⟨Bh3, hBh3⟩ : ∃ B, B = w4.heap.size := ⟨_, rfl⟩
 rw [← hBh3] at l0 h3 ⊢
 clear hBh3
 (try simp only [Act.put, jA, jB, jC])
 go_wp2_with (first | (refine zbx (fun i => ((zak q.x i : Nat) : Int)) rfl rfl rfl zbb h0 (by omega) (fun i hi => zjE _ _ i hi) ?_) | (refine zbx (fun i => ((zak q.z i : Nat) : Int)) rfl rfl rfl zbb h0 (by omega) (fun i hi => zjF _ _ i hi) ?_) | (go_at_call 84; fail))
 refine (znH q.x q.z hQ.out.1 hQ.out.2 _).mono ?_
 rintro e w4 ⟨rfl, b4⟩
 replace h0 := zaa b4 (jM h0) h0
 replace h1 := zaa b4 (jM h1) h1
 replace h3 := zaa b4 (jM h3) h3
 replace hb := hb.trans (b4.mono hb.size)
 clear b4
 go_upto_region 3 with (refine zay rfl rfl rfl rfl ze4 zbb rfl rfl ?_; intro w8 h4 b8 hs8)
 have l0 := jM h0
 replace h0 := zaa b8 (jM h0) h0
 replace h1 := zaa b8 (jM h1) h1
 replace h3 := zaa b8 (jM h3) h3
 replace hb := hb.trans (b8.mono hb.size)
 clear b8 hs8
 obtain ⟨Bh4, hBh4⟩ : ∃ B, B = w4.heap.size := ⟨_, rfl⟩
 rw [← hBh4] at l0 h4 ⊢
 clear hBh4
 (try simp only [Act.put, jA, jB, jC])
 clear h0
 go_wp2_with (first | (refine zab rfl rfl rfl zbb h3 ?_) | (go_at_call 60; fail))
 refine (zfZ (fA q.x q.z) (fA q.x q.z) (zoJ _ _) (zoJ _ _) _).mono ?_
 rintro e w4 ⟨rfl, b4⟩
 replace h1 := zaa b4 (jM h1) h1
 replace h3 := zaa b4 (jM h3) h3
 replace h4 := zaa b4 (jM h4) h4
 replace hb := hb.trans (b4.mono hb.size)
 clear b4
 go_upto_region 4 with (refine zay rfl rfl rfl rfl ze4 zbb rfl rfl ?_; intro w8 h5 b8 hs8)
 have l0 := jM h1
 replace h1 := zaa b8 (jM h1) h1
 replace h3 := zaa b8 (jM h3) h3
 replace h4 := zaa b8 (jM h4) h4
 replace hb := hb.trans (b8.mono hb.size)
 clear b8 hs8
 obtain ⟨Bh5, hBh5⟩ : ∃ B, B = w4.heap.size := ⟨_, rfl⟩
 rw [← hBh5] at l0 h5 ⊢
 clear hBh5
 (try simp only [Act.put, jA, jB, jC])
 go_wp2_with (first | (refine zab rfl rfl rfl zbb h4 ?_) | (go_at_call 60; fail))
 refine (zfZ (fS q.x q.z) (fS q.x q.z) (zoK _ _) (zoK _ _) _).mono ?_
 rintro e w4 ⟨rfl, b4⟩
 replace h1 := zaa b4 (jM h1) h1
 replace h3 := zaa b4 (jM h3) h3
 replace h4 := zaa b4 (jM h4) h4
 replace h5 := zaa b4 (jM h5) h5
 replace hb := hb.trans (b4.mono hb.size)
 clear b4
 go_upto_region 5 with (refine zay rfl rfl rfl rfl ze4 zbb rfl rfl ?_; intro w8 h6 b8 hs8)
 have l0 := jM h1
 replace h1 := zaa b8 (jM h1) h1
 replace h3 := zaa b8 (jM h3) h3
 replace h4 := zaa b8 (jM h4) h4
 replace h5 := zaa b8 (jM h5) h5
 replace hb := hb.trans (b8.mono hb.size)
 clear b8 hs8
 obtain ⟨Bh6, hBh6⟩ : ∃ B, B = w4.heap.size := ⟨_, rfl⟩
 rw [← hBh6] at l0 h6 ⊢
 clear hBh6
 (try simp only [Act.put, jA, jB, jC])
 clear h3 h4
 go_wp2_with (first | (refine zab rfl rfl rfl zbb h5 ?_) | (refine zab rfl rfl rfl zbb h6 ?_) | (go_at_call 84; fail))
 refine (znH (fM (fA q.x q.z) (fA q.x q.z)) (fM (fS q.x q.z) (fS q.x q.z)) (zeQ _ _) (zeQ _ _) _).mono ?_
 rintro e w4 ⟨rfl, b4⟩
 replace h1 := zaa b4 (jM h1) h1
 replace h5 := zaa b4 (jM h5) h5
 replace h6 := zaa b4 (jM h6) h6
 replace hb := hb.trans (b4.mono hb.size)
 clear b4
 rw [show fS (fM (fA q.x q.z) (fA q.x q.z)) (fM (fS q.x q.z) (fS q.x q.z)) = zoI q from rfl]
 go_upto_region 6 with (refine zay rfl rfl rfl rfl ze4 zbb rfl rfl ?_; intro w8 h7 b8 hs8)
 have l0 := jM h1
 replace h1 := zaa b8 (jM h1) h1
 replace h5 := zaa b8 (jM h5) h5
 replace h6 := zaa b8 (jM h6) h6
 replace hb := hb.trans (b8.mono hb.size)
 clear b8 hs8
 obtain ⟨Bh7, hBh7⟩ : ∃ B, B = w4.heap.size := ⟨_, rfl⟩
 rw [← hBh7] at l0 h7 ⊢
 clear hBh7
 (try simp only [Act.put, jA, jB, jC])
 go_upto_region 7 with (first | (refine za8 rfl (zaJ rfl (by simp [Act.eval, Act.put]) zre) ?_) | (refine zay rfl rfl rfl rfl ze4 zbb rfl rfl ?_; intro w8 h8 b8 hs8))
 have l0 := jM h1
 skip
 replace h1 := zaa b8 (jM h1) h1
 replace h5 := zaa b8 (jM h5) h5
 replace h6 := zaa b8 (jM h6) h6
 replace h7 := zaa b8 (jM h7) h7
 replace hb := hb.trans (b8.mono hb.size)
 clear b8 hs8
 obtain ⟨wr, rfl⟩ : ∃ x, x = w8 := ⟨_, rfl⟩
 (try simp only [Act.put, jA, jB, jC])
 have eE : zoI q < pN := zoK _ _
 refine wp_region_can wr.heap.size 11 [(0, false), (1, false), (3, false), (4, false), (5, false), (6, false), (2, true), (7, true), (8, true), (9, true), (10, false)] (by kernel_rfl) (by kernel_rfl) ?_
 (simp only [canOps, jD, jE, jF, jG])
 refine zaq rfl rfl rfl (fun _ _ _ _ h => h) zbb (jM (w := wr) h5) h5 ?_
 (try simp only [Act.put, jA, jB, jC])
 refine zaq rfl rfl rfl (fun _ _ _ _ h => h) zbb (jM (w := wr) h6) h6 ?_
 (try simp only [Act.put, jA, jB, jC])
 refine zaq rfl rfl rfl (fun _ _ _ _ h => h) zbb (jM (w := wr) h7) h7 ?_
 (try simp only [Act.put, jA, jB, jC])
 refine zaq rfl rfl rfl (fun _ _ _ _ h => h) zbb (jM (w := wr) h5) h5 ?_
 (try simp only [Act.put, jA, jB, jC])
 refine zaq rfl rfl rfl (fun _ _ _ _ h => h) zbb (jM (w := wr) h8) h8 ?_
 (try simp only [Act.put, jA, jB, jC])
 refine zaq rfl rfl rfl (fun _ _ _ _ h => h) zbb (jM (w := wr) h7) h7 ?_
 (try simp only [Act.put, jA, jB, jC])
 refine wpCan_e rfl (fun K hK => ?_)
 go_simp
 refine (zfZ (fM (fA q.x q.z) (fA q.x q.z)) (fM (fS q.x q.z) (fS q.x q.z)) (zeQ _ _) (zeQ _ _) _).mono ?_
 rintro e v1 ⟨rfl, b1⟩
 refine hK _ _ (Keep.of_below b1 (jV _)) ?_
 clear hK K
 (try simp only [Act.put, jA, jB, jC])
 have cb := b1
 clear b1
 refine wpCan_e rfl (fun K hK => ?_)
 go_simp
 refine (zfZ 121665 (zoI q) ztF eE _).mono ?_
 rintro e v2 ⟨rfl, b2⟩
 refine hK _ _ (Keep.of_below b2 cb.size) ?_
 clear hK K
 (try simp only [Act.put, jA, jB, jC])
 replace cb := cb.trans (b2.mono cb.size)
 clear b2
 refine wpCan_e rfl (fun K hK => ?_)
 go_simp
 refine (znG (fM (fA q.x q.z) (fA q.x q.z)) (fM 121665 (zoI q)) (zeQ _ _) (zeQ _ _) _).mono ?_
 rintro e v3 ⟨rfl, b3⟩
 refine hK _ _ (Keep.of_below b3 cb.size) ?_
 clear hK K
 (try simp only [Act.put, jA, jB, jC])
 replace cb := cb.trans (b3.mono cb.size)
 clear b3
 refine wpCan_e rfl (fun K hK => ?_)
 go_simp
 refine (zfZ (zoI q) (fA (fM (fA q.x q.z) (fA q.x q.z)) (fM 121665 (zoI q))) eE (zoJ _ _) _).mono ?_
 rintro e v4 ⟨rfl, b4⟩
 refine hK _ _ (Keep.of_below b4 cb.size) ?_
 clear hK K
 (try simp only [Act.put, jA, jB, jC])
 replace cb := cb.trans (b4.mono cb.size)
 clear b4
 refine zcz rfl (fun _ _ _ _ h => h) (fun w' => zaJ rfl (by simp [Act.eval, Act.put]; exact ⟨rfl, rfl⟩) (zhI (zak (zeC q).x) (zak (zeC q).z))) ?_
 (try simp only [Act.put, jA, jB, jC])
 refine wpCan_nil ?_
 replace h1 := zaa (w := wr.drew) cb (jM (w := wr) h1) h1
 replace hb := hb.drew.trans (cb.mono hb.size)
 go_wp2_with (first | (refine zac rfl rfl rfl rfl zd3 h1 ?_))
 exact bodyPost_ret (zaw rfl rfl zd3 (zan h1)) rfl ⟨rfl, zam hb (by omega) _⟩
theorem znI (u : Nat) (hu : u < pN) (q s : Pt) (hq : zhZ q) (hs : zhZ s) (w : World) :
  Calls Tryz.prog 57 #[.agg (arr .u64 16 fun i => ((zak u i : Nat) : Int)), .agg (arr .u64 32 fun i => ((zbR (zak q.x) (zak q.z) i : Nat) : Int)), .agg (arr .u64 32 fun i => ((zbR (zak s.x) (zak s.z) i : Nat) : Int))] w fun e w' => e = .returned (.agg (arr .u64 32 fun i => ((zbR (zak (zee u q s).x) (zak (zee u q s).z) i : Nat) : Int))) ∧ Below w.heap.size w w' := by
 have hQ := Lib.hid hq
 have hS := Lib.hid hs
 have hU := Lib.hid hu
 clear hq hs hu
 go_enter Tryz.func57, Tryz.ntmps57
 obtain ⟨h0, h1, h2, h3, hsz, hb⟩ := zAu w (.cells (arr .u64 16 fun i => ((zak u i : Nat) : Int)) 84) (.cells (arr .u64 32 fun i => ((zbR (zak q.x) (zak q.z) i : Nat) : Int)) 87) (.cells (arr .u64 32 fun i => ((zbR (zak s.x) (zak s.z) i : Nat) : Int)) 87) (.cells (arr .u64 32 fun _ => 0) 87)
 go_upto_region 1 with (refine zae rfl rfl zp7 ?_)
 generalize ((((w).alloc (.cells (arr .u64 16 fun i => ((zak u i : Nat) : Int)) 84)).alloc (.cells (arr .u64 32 fun i => ((zbR (zak q.x) (zak q.z) i : Nat) : Int)) 87)).alloc (.cells (arr .u64 32 fun i => ((zbR (zak s.x) (zak s.z) i : Nat) : Int)) 87)).alloc (.cells (arr .u64 32 fun _ => 0) 87) = wa at *
 (try simp only [Act.put, jA, jB, jC])
 simp only [World.size_alloc]
 clear hsz
 obtain ⟨wq, rfl⟩ : ∃ x, x = wa := ⟨_, rfl⟩
 have c1 : zed q s < pN := zeQ _ _
 have c2 : zd0 q s < pN := zeQ _ _
 refine zdw 12 [.val (Is (.pointer (some ⟨w.heap.size + 1 + 1, 0, none⟩))), .val (Is (.agg (arr .u64 16 fun i => ((zak s.x i : Nat) : Int)))), .val (Is (.pointer (some ⟨w.heap.size + 1 + 1, 16, none⟩))), .val (Is (.agg (arr .u64 16 fun i => ((zak s.z i : Nat) : Int)))), .val (Is (.agg (arr .u64 16 fun i => ((zak (fS s.x s.z) i : Nat) : Int)))), .val (Is (.pointer (some ⟨w.heap.size + 1, 0, none⟩))), .val (Is (.agg (arr .u64 16 fun i => ((zak q.x i : Nat) : Int)))), .val (Is (.pointer (some ⟨w.heap.size + 1, 16, none⟩))), .val (Is (.agg (arr .u64 16 fun i => ((zak q.z i : Nat) : Int)))), .val (Is (.agg (arr .u64 16 fun i => ((zak (fA q.x q.z) i : Nat) : Int)))), .val (Is (.agg (arr .u64 16 fun i => ((zak (zed q s) i : Nat) : Int)))), .new 84 .u64 16] [[], [0], [], [2], [1, 3], [], [5], [], [7], [6, 8], [4, 9], []] [] (by kernel_rfl) (by kernel_rfl) (by kernel_rfl) rfl (zaD (zba _ _) (zaD (zba _ _) (zaD (zba _ _) (zaD (zba _ _) (zaD (zba _ _) (zaD (zba _ _) (zaD (zba _ _) (zaD (zba _ _) (zaD (zba _ _) (zaD (zba _ _) (zaD (zba _ _) (zaD (zmi _ _ _ _) (zmj _))))))))))))) ?_ ?_
 ·(simp only [jH, jI, jF, jG, List.zip_cons_cons, List.zip_nil_left, List.zip_nil_right, zdv, zdK, zfO, zcD, zdD, zez, zbp, zbA, HK.fact, List.map_cons, List.map_nil, zbQ, jD, jE, List.range_succ, List.range_zero, List.nil_append, List.cons_append, Act.put, jA, jB, jC])
  refine ⟨?_, ?_, ?_, ?_, ?_, ?_, ?_, ?_, ?_, ?_, ?_, ?_, trivial⟩
  ·intro x0 x1 x2 x3 x4 x5 x6 x7 x8 x9 x10 x11 w' hb' 
   refine zaS rfl (fun K hK => ?_)
   go_simp
   exact hK _ _ (Below.refl _ _) rfl
  ·intro x0 x1 x2 x3 x4 x5 x6 x7 x8 x9 x10 x11 w' hb' e0
   unfold Is at e0
   subst e0
   exact za0 (fun i => ((zak s.x i : Nat) : Int)) rfl rfl rfl zbb (zaa hb' (jM (w := wq) h2) h2) (by omega) (fun i hi => zjE _ _ i hi) rfl
  ·intro x0 x1 x2 x3 x4 x5 x6 x7 x8 x9 x10 x11 w' hb' 
   refine zaS rfl (fun K hK => ?_)
   go_simp
   exact hK _ _ (Below.refl _ _) rfl
  ·intro x0 x1 x2 x3 x4 x5 x6 x7 x8 x9 x10 x11 w' hb' e0
   unfold Is at e0
   subst e0
   exact za0 (fun i => ((zak s.z i : Nat) : Int)) rfl rfl rfl zbb (zaa hb' (jM (w := wq) h2) h2) (by omega) (fun i hi => zjF _ _ i hi) rfl
  ·intro x0 x1 x2 x3 x4 x5 x6 x7 x8 x9 x10 x11 w' hb' e0 e1
   unfold Is at e0 e1
   subst e0 e1
   refine zaS rfl (fun K hK => ?_)
   go_simp
   refine (znH s.x s.z hS.out.1 hS.out.2 _).mono ?_
   rintro e w4 ⟨rfl, b4⟩
   exact hK _ _ b4 (by unfold Is; rfl)
  ·intro x0 x1 x2 x3 x4 x5 x6 x7 x8 x9 x10 x11 w' hb' 
   refine zaS rfl (fun K hK => ?_)
   go_simp
   exact hK _ _ (Below.refl _ _) rfl
  ·intro x0 x1 x2 x3 x4 x5 x6 x7 x8 x9 x10 x11 w' hb' e0
   unfold Is at e0
   subst e0
   exact za0 (fun i => ((zak q.x i : Nat) : Int)) rfl rfl rfl zbb (zaa hb' (jM (w := wq) h1) h1) (by omega) (fun i hi => zjE _ _ i hi) rfl
  ·intro x0 x1 x2 x3 x4 x5 x6 x7 x8 x9 x10 x11 w' hb' 
   refine zaS rfl (fun K hK => ?_)
   go_simp
   exact hK _ _ (Below.refl _ _) rfl
  ·intro x0 x1 x2 x3 x4 x5 x6 x7 x8 x9 x10 x11 w' hb' e0
   unfold Is at e0
   subst e0
   exact za0 (fun i => ((zak q.z i : Nat) : Int)) rfl rfl rfl zbb (zaa hb' (jM (w := wq) h1) h1) (by omega) (fun i hi => zjF _ _ i hi) rfl
  ·intro x0 x1 x2 x3 x4 x5 x6 x7 x8 x9 x10 x11 w' hb' e0 e1
   unfold Is at e0 e1
   subst e0 e1
   refine zaS rfl (fun K hK => ?_)
   go_simp
   refine (znG q.x q.z hQ.out.1 hQ.out.2 _).mono ?_
   rintro e w4 ⟨rfl, b4⟩
   exact hK _ _ b4 (by unfold Is; rfl)
  ·intro x0 x1 x2 x3 x4 x5 x6 x7 x8 x9 x10 x11 w' hb' e0 e1
   unfold Is at e0 e1
   subst e0 e1
   refine zaS rfl (fun K hK => ?_)
   go_simp
   refine (zfZ (fS s.x s.z) (fA q.x q.z) (zoK _ _) (zoJ _ _) _).mono ?_
   rintro e w4 ⟨rfl, b4⟩
   exact hK _ _ b4 (by unfold Is; rfl)
  ·intro x0 x1 x2 x3 x4 x5 x6 x7 x8 x9 x10 x11 w' hb' 
   exact ⟨by first | rfl | trivial, by first | trivial | rfl, ze4⟩
 ·(simp only [jH, jI, jF, jG, List.zip_cons_cons, List.zip_nil_left, List.zip_nil_right, zdv, zdK, zfO, zcD, zdD, zez, zbp, zbA, HK.fact, List.map_cons, List.map_nil, zbQ, jD, jE, List.range_succ, List.range_zero, List.nil_append, List.cons_append, Act.put, jA, jB, jC])
  rintro x0 x1 x2 x3 x4 x5 x6 x7 x8 x9 x10 x11 w5 hb' e0 e1 e2 e3 e4 e5 e6 e7 e8 e9 e10 e11 N11 
  unfold Is at e0 e1 e2 e3 e4 e5 e6 e7 e8 e9 e10
  subst e0 e1 e2 e3 e4 e5 e6 e7 e8 e9 e10
  obtain ⟨Bh5, rfl, lBh5, h5⟩ := N11
  replace h5 : w5.heap[Bh5]? = some (.cells (arr .u64 16 (fun _ => 0)) 84 (0, 0)) := h5
  replace lBh5 : wq.heap.size ≤ Bh5 := lBh5
  have l_h0 := jM (w := wq) h0
  replace h0 := zaa hb' l_h0 h0
  have l_h1 := jM (w := wq) h1
  replace h1 := zaa hb' l_h1 h1
  have l_h2 := jM (w := wq) h2
  replace h2 := zaa hb' l_h2 h2
  have l_h3 := jM (w := wq) h3
  replace h3 := zaa hb' l_h3 h3
  replace hb := hb.drew.trans (hb'.mono hb.size)
  have lw : w.heap.size ≤ wq.heap.size := jU (Nat.le_of_lt (by omega)) (Nat.le_of_lt l_h3)
  go_upto_region 2 with (first | (refine zac rfl rfl rfl rfl zbb h5 ?_))
  replace h0 := zad (g := Bh5) (c' := (arr .u64 16 fun i => ((zak (zed q s) i : Nat) : Int))) h0 (Nat.ne_of_lt (jT l_h0 lBh5))
  replace h1 := zad (g := Bh5) (c' := (arr .u64 16 fun i => ((zak (zed q s) i : Nat) : Int))) h1 (Nat.ne_of_lt (jT l_h1 lBh5))
  replace h2 := zad (g := Bh5) (c' := (arr .u64 16 fun i => ((zak (zed q s) i : Nat) : Int))) h2 (Nat.ne_of_lt (jT l_h2 lBh5))
  replace h3 := zad (g := Bh5) (c' := (arr .u64 16 fun i => ((zak (zed q s) i : Nat) : Int))) h3 (Nat.ne_of_lt (jT l_h3 lBh5))
  replace h5 := zan (c' := (arr .u64 16 fun i => ((zak (zed q s) i : Nat) : Int))) h5
  replace hb := zam hb (jU lw lBh5) (arr .u64 16 fun i => ((zak (zed q s) i : Nat) : Int))
  generalize w5.setRow Bh5 (arr .u64 16 fun i => ((zak (zed q s) i : Nat) : Int)) = wn at *
  (try simp only [Act.put, jA, jB, jC])
  clear lw l_h0 l_h1 l_h2 l_h3 lBh5 hb'
  clear wq
  obtain ⟨wq, rfl⟩ : ∃ x, x = wn := ⟨_, rfl⟩
  refine zdw 12 [.val (Is (.pointer (some ⟨w.heap.size + 1 + 1, 0, none⟩))), .val (Is (.agg (arr .u64 16 fun i => ((zak s.x i : Nat) : Int)))), .val (Is (.pointer (some ⟨w.heap.size + 1 + 1, 16, none⟩))), .val (Is (.agg (arr .u64 16 fun i => ((zak s.z i : Nat) : Int)))), .val (Is (.agg (arr .u64 16 fun i => ((zak (fA s.x s.z) i : Nat) : Int)))), .val (Is (.pointer (some ⟨w.heap.size + 1, 0, none⟩))), .val (Is (.agg (arr .u64 16 fun i => ((zak q.x i : Nat) : Int)))), .val (Is (.pointer (some ⟨w.heap.size + 1, 16, none⟩))), .val (Is (.agg (arr .u64 16 fun i => ((zak q.z i : Nat) : Int)))), .val (Is (.agg (arr .u64 16 fun i => ((zak (fS q.x q.z) i : Nat) : Int)))), .val (Is (.agg (arr .u64 16 fun i => ((zak (zd0 q s) i : Nat) : Int)))), .new 84 .u64 16] [[], [0], [], [2], [1, 3], [], [5], [], [7], [6, 8], [4, 9], []] [] (by kernel_rfl) (by kernel_rfl) (by kernel_rfl) rfl (zaD (zba _ _) (zaD (zba _ _) (zaD (zba _ _) (zaD (zba _ _) (zaD (zba _ _) (zaD (zba _ _) (zaD (zba _ _) (zaD (zba _ _) (zaD (zba _ _) (zaD (zba _ _) (zaD (zba _ _) (zaD (zmi _ _ _ _) (zmj _))))))))))))) ?_ ?_
  ·(simp only [jH, jI, jF, jG, List.zip_cons_cons, List.zip_nil_left, List.zip_nil_right, zdv, zdK, zfO, zcD, zdD, zez, zbp, zbA, HK.fact, List.map_cons, List.map_nil, zbQ, jD, jE, List.range_succ, List.range_zero, List.nil_append, List.cons_append, Act.put, jA, jB, jC])
   refine ⟨?_, ?_, ?_, ?_, ?_, ?_, ?_, ?_, ?_, ?_, ?_, ?_, trivial⟩
   ·intro x0 x1 x2 x3 x4 x5 x6 x7 x8 x9 x10 x11 w' hb' 
    refine zaS rfl (fun K hK => ?_)
    go_simp
    exact hK _ _ (Below.refl _ _) rfl
   ·intro x0 x1 x2 x3 x4 x5 x6 x7 x8 x9 x10 x11 w' hb' e0
    unfold Is at e0
    subst e0
    exact za0 (fun i => ((zak s.x i : Nat) : Int)) rfl rfl rfl zbb (zaa hb' (jM (w := wq) h2) h2) (by omega) (fun i hi => zjE _ _ i hi) rfl
   ·intro x0 x1 x2 x3 x4 x5 x6 x7 x8 x9 x10 x11 w' hb' 
    refine zaS rfl (fun K hK => ?_)
    go_simp
    exact hK _ _ (Below.refl _ _) rfl
   ·intro x0 x1 x2 x3 x4 x5 x6 x7 x8 x9 x10 x11 w' hb' e0
    unfold Is at e0
    subst e0
    exact za0 (fun i => ((zak s.z i : Nat) : Int)) rfl rfl rfl zbb (zaa hb' (jM (w := wq) h2) h2) (by omega) (fun i hi => zjF _ _ i hi) rfl
   ·intro x0 x1 x2 x3 x4 x5 x6 x7 x8 x9 x10 x11 w' hb' e0 e1
    unfold Is at e0 e1
    subst e0 e1
    refine zaS rfl (fun K hK => ?_)
    go_simp
    refine (znG s.x s.z hS.out.1 hS.out.2 _).mono ?_
    rintro e w4 ⟨rfl, b4⟩
    exact hK _ _ b4 (by unfold Is; rfl)
   ·intro x0 x1 x2 x3 x4 x5 x6 x7 x8 x9 x10 x11 w' hb' 
    refine zaS rfl (fun K hK => ?_)
    go_simp
    exact hK _ _ (Below.refl _ _) rfl
   ·intro x0 x1 x2 x3 x4 x5 x6 x7 x8 x9 x10 x11 w' hb' e0
    unfold Is at e0
    subst e0
    exact za0 (fun i => ((zak q.x i : Nat) : Int)) rfl rfl rfl zbb (zaa hb' (jM (w := wq) h1) h1) (by omega) (fun i hi => zjE _ _ i hi) rfl
   ·intro x0 x1 x2 x3 x4 x5 x6 x7 x8 x9 x10 x11 w' hb' 
    refine zaS rfl (fun K hK => ?_)
    go_simp
    exact hK _ _ (Below.refl _ _) rfl
   ·intro x0 x1 x2 x3 x4 x5 x6 x7 x8 x9 x10 x11 w' hb' e0
    unfold Is at e0
    subst e0
    exact za0 (fun i => ((zak q.z i : Nat) : Int)) rfl rfl rfl zbb (zaa hb' (jM (w := wq) h1) h1) (by omega) (fun i hi => zjF _ _ i hi) rfl
   ·intro x0 x1 x2 x3 x4 x5 x6 x7 x8 x9 x10 x11 w' hb' e0 e1
    unfold Is at e0 e1
    subst e0 e1
    refine zaS rfl (fun K hK => ?_)
    go_simp
    refine (znH q.x q.z hQ.out.1 hQ.out.2 _).mono ?_
    rintro e w4 ⟨rfl, b4⟩
    exact hK _ _ b4 (by unfold Is; rfl)
   ·intro x0 x1 x2 x3 x4 x5 x6 x7 x8 x9 x10 x11 w' hb' e0 e1
    unfold Is at e0 e1
    subst e0 e1
    refine zaS rfl (fun K hK => ?_)
    go_simp
    refine (zfZ (fA s.x s.z) (fS q.x q.z) (zoJ _ _) (zoK _ _) _).mono ?_
    rintro e w4 ⟨rfl, b4⟩
    exact hK _ _ b4 (by unfold Is; rfl)
   ·intro x0 x1 x2 x3 x4 x5 x6 x7 x8 x9 x10 x11 w' hb' 
    exact ⟨by first | rfl | trivial, by first | trivial | rfl, ze4⟩
  ·(simp only [jH, jI, jF, jG, List.zip_cons_cons, List.zip_nil_left, List.zip_nil_right, zdv, zdK, zfO, zcD, zdD, zez, zbp, zbA, HK.fact, List.map_cons, List.map_nil, zbQ, jD, jE, List.range_succ, List.range_zero, List.nil_append, List.cons_append, Act.put, jA, jB, jC])
   rintro x0 x1 x2 x3 x4 x5 x6 x7 x8 x9 x10 x11 w5 hb' e0 e1 e2 e3 e4 e5 e6 e7 e8 e9 e10 e11 N11 
   unfold Is at e0 e1 e2 e3 e4 e5 e6 e7 e8 e9 e10
   subst e0 e1 e2 e3 e4 e5 e6 e7 e8 e9 e10
   obtain ⟨Bh6, rfl, lBh6, h6⟩ := N11
   replace h6 : w5.heap[Bh6]? = some (.cells (arr .u64 16 (fun _ => 0)) 84 (0, 0)) := h6
   replace lBh6 : wq.heap.size ≤ Bh6 := lBh6
   have l_h0 := jM (w := wq) h0
   replace h0 := zaa hb' l_h0 h0
   have l_h1 := jM (w := wq) h1
   replace h1 := zaa hb' l_h1 h1
   have l_h2 := jM (w := wq) h2
   replace h2 := zaa hb' l_h2 h2
   have l_h3 := jM (w := wq) h3
   replace h3 := zaa hb' l_h3 h3
   have l_h5 := jM (w := wq) h5
   replace h5 := zaa hb' l_h5 h5
   replace hb := hb.drew.trans (hb'.mono hb.size)
   have lw : w.heap.size ≤ wq.heap.size := jU (Nat.le_of_lt (by omega)) (Nat.le_of_lt l_h3)
   go_upto_region 3 with (first | (refine zac rfl rfl rfl rfl zbb h6 ?_))
   replace h0 := zad (g := Bh6) (c' := (arr .u64 16 fun i => ((zak (zd0 q s) i : Nat) : Int))) h0 (Nat.ne_of_lt (jT l_h0 lBh6))
   replace h1 := zad (g := Bh6) (c' := (arr .u64 16 fun i => ((zak (zd0 q s) i : Nat) : Int))) h1 (Nat.ne_of_lt (jT l_h1 lBh6))
   replace h2 := zad (g := Bh6) (c' := (arr .u64 16 fun i => ((zak (zd0 q s) i : Nat) : Int))) h2 (Nat.ne_of_lt (jT l_h2 lBh6))
   replace h3 := zad (g := Bh6) (c' := (arr .u64 16 fun i => ((zak (zd0 q s) i : Nat) : Int))) h3 (Nat.ne_of_lt (jT l_h3 lBh6))
   replace h5 := zad (g := Bh6) (c' := (arr .u64 16 fun i => ((zak (zd0 q s) i : Nat) : Int))) h5 (Nat.ne_of_lt (jT l_h5 lBh6))
   replace h6 := zan (c' := (arr .u64 16 fun i => ((zak (zd0 q s) i : Nat) : Int))) h6
   replace hb := zam hb (jU lw lBh6) (arr .u64 16 fun i => ((zak (zd0 q s) i : Nat) : Int))
   generalize w5.setRow Bh6 (arr .u64 16 fun i => ((zak (zd0 q s) i : Nat) : Int)) = wn at *
   (try simp only [Act.put, jA, jB, jC])
   clear lw l_h0 l_h1 l_h2 l_h3 l_h5 lBh6 hb'
   clear h1 h2
   clear wq
   go_wp2_with (first | (refine zab rfl rfl rfl zbb h5 ?_) | (refine zab rfl rfl rfl zbb h6 ?_) | (go_at_call 85; fail))
   refine (znG (zed q s) (zd0 q s) c1 c2 _).mono ?_
   rintro e w4 ⟨rfl, b4⟩
   replace h0 := zaa b4 (jM h0) h0
   replace h3 := zaa b4 (jM h3) h3
   replace h5 := zaa b4 (jM h5) h5
   replace h6 := zaa b4 (jM h6) h6
   replace hb := hb.trans (b4.mono hb.size)
   clear b4
   go_upto_region 4 with (refine zay rfl rfl rfl rfl ze4 zbb rfl rfl ?_; intro w8 h7 b8 hs8)
   have l0 := jM h0
   replace h0 := zaa b8 (jM h0) h0
   replace h3 := zaa b8 (jM h3) h3
   replace h5 := zaa b8 (jM h5) h5
   replace h6 := zaa b8 (jM h6) h6
   replace hb := hb.trans (b8.mono hb.size)
   clear b8 hs8
   obtain ⟨Bh7, hBh7⟩ : ∃ B, B = w4.heap.size := ⟨_, rfl⟩
   rw [← hBh7] at l0 h7 ⊢
   clear hBh7
   (try simp only [Act.put, jA, jB, jC])
   go_wp2_with (first | (refine zab rfl rfl rfl zbb h5 ?_) | (refine zab rfl rfl rfl zbb h6 ?_) | (go_at_call 84; fail))
   refine (znH (zed q s) (zd0 q s) c1 c2 _).mono ?_
   rintro e w4 ⟨rfl, b4⟩
   replace h0 := zaa b4 (jM h0) h0
   replace h3 := zaa b4 (jM h3) h3
   replace h5 := zaa b4 (jM h5) h5
   replace h6 := zaa b4 (jM h6) h6
   replace h7 := zaa b4 (jM h7) h7
   replace hb := hb.trans (b4.mono hb.size)
   clear b4
   go_upto_region 5 with (refine zay rfl rfl rfl rfl ze4 zbb rfl rfl ?_; intro w8 h8 b8 hs8)
   have l0 := jM h0
   replace h0 := zaa b8 (jM h0) h0
   replace h3 := zaa b8 (jM h3) h3
   replace h5 := zaa b8 (jM h5) h5
   replace h6 := zaa b8 (jM h6) h6
   replace h7 := zaa b8 (jM h7) h7
   replace hb := hb.trans (b8.mono hb.size)
   clear b8 hs8
   obtain ⟨Bh8, hBh8⟩ : ∃ B, B = w4.heap.size := ⟨_, rfl⟩
   rw [← hBh8] at l0 h8 ⊢
   clear hBh8
   (try simp only [Act.put, jA, jB, jC])
   obtain ⟨wr, rfl⟩ : ∃ x, x = w8 := ⟨_, rfl⟩
   refine wp_region_can wr.heap.size 9 [(0, false), (1, false), (3, false), (4, false), (5, false), (2, true), (6, true), (7, true), (8, false)] (by kernel_rfl) (by kernel_rfl) ?_
   (simp only [canOps, jD, jE, jF, jG])
   refine zaq rfl rfl rfl (fun _ _ _ _ h => h) zbb (jM (w := wr) h7) h7 ?_
   (try simp only [Act.put, jA, jB, jC])
   refine zaq rfl rfl rfl (fun _ _ _ _ h => h) zbb (jM (w := wr) h7) h7 ?_
   (try simp only [Act.put, jA, jB, jC])
   refine zaq rfl rfl rfl (fun _ _ _ _ h => h) zbb (jM (w := wr) h0) h0 ?_
   (try simp only [Act.put, jA, jB, jC])
   refine zaq rfl rfl rfl (fun _ _ _ _ h => h) zbb (jM (w := wr) h8) h8 ?_
   (try simp only [Act.put, jA, jB, jC])
   refine zaq rfl rfl rfl (fun _ _ _ _ h => h) zbb (jM (w := wr) h8) h8 ?_
   (try simp only [Act.put, jA, jB, jC])
   refine wpCan_e rfl (fun K hK => ?_)
   go_simp
   refine (zfZ (fA (zed q s) (zd0 q s)) (fA (zed q s) (zd0 q s)) (zoJ _ _) (zoJ _ _) _).mono ?_
   rintro e v1 ⟨rfl, b1⟩
   refine hK _ _ (Keep.of_below b1 (jV _)) ?_
   clear hK K
   (try simp only [Act.put, jA, jB, jC])
   have cb := b1
   clear b1
   refine wpCan_e rfl (fun K hK => ?_)
   go_simp
   refine (zfZ (fS (zed q s) (zd0 q s)) (fS (zed q s) (zd0 q s)) (zoK _ _) (zoK _ _) _).mono ?_
   rintro e v2 ⟨rfl, b2⟩
   refine hK _ _ (Keep.of_below b2 cb.size) ?_
   clear hK K
   (try simp only [Act.put, jA, jB, jC])
   replace cb := cb.trans (b2.mono cb.size)
   clear b2
   refine wpCan_e rfl (fun K hK => ?_)
   go_simp
   refine (zfZ u (fM (fS (zed q s) (zd0 q s)) (fS (zed q s) (zd0 q s))) hU.out (zeQ _ _) _).mono ?_
   rintro e v3 ⟨rfl, b3⟩
   refine hK _ _ (Keep.of_below b3 cb.size) ?_
   clear hK K
   (try simp only [Act.put, jA, jB, jC])
   replace cb := cb.trans (b3.mono cb.size)
   clear b3
   refine zcz rfl (fun _ _ _ _ h => h) (fun w' => zaJ rfl (by simp [Act.eval, Act.put]; exact ⟨rfl, rfl⟩) (zhI (zak (zee u q s).x) (zak (zee u q s).z))) ?_
   (try simp only [Act.put, jA, jB, jC])
   refine wpCan_nil ?_
   replace h3 := zaa (w := wr.drew) cb (jM (w := wr) h3) h3
   replace hb := hb.drew.trans (cb.mono hb.size)
   go_wp2_with (first | (refine zac rfl rfl rfl rfl zd3 h3 ?_))
   exact bodyPost_ret (zaw rfl rfl zd3 (zan h3)) rfl ⟨rfl, zam hb (by omega) _⟩
end
end Go.Proofs.YtfolbgiekbimpaaGreatDoor
