/- Plain law of layer 4's reference: the box out of the inverse. The walks of the reference for layer 4: a byte's inverse. The walks of the reference for layer 4: a block's rounds. The walks of the reference for layer 4: the columns mixed. The law AesKeys: whatever the key, it answers true. The walk of the reference for layer 4: a key's keys. The walk of the reference for layer 4: a block encrypted. The walk of the reference's Ctr where there is a text. Arguments that come in, opened: rows of integers by value. No program is in sight. Arguments that come in, opened: texts, and structs of four wit -/
import Derived.Test.YtfolbgiekbimpaaGreatDoorKemUnboxesG
import Derived.ProofKit
import Derived.OpenShut
import Derived.ShutString
import Derived.ChangeOld
import Derived.ChangeSlices
import Derived.Lib.SmallJoins
import Derived.Lib.LaidU8
import Derived.LaidHandle
import Derived.LaidLaws
import Derived.Handed
import Derived.Deep.DeepLaidRun
set_option linter.unusedSimpArgs false
set_option linter.unusedVariables false
set_option maxRecDepth 200000
set_option maxHeartbeats 6000000
namespace Go.Proofs.YtfolbgiekbimpaaGreatDoor
section
open Go.RowKit
def zhK (x : Nat) : Nat → Nat
 | 0 => 1
 | n + 1 => zgC (zhK x n) x
theorem zt3 (x n : Nat) : zhK x n < 256 := by
 cases n with
 | zero => unfold zhK; omega
 | succ n => unfold zhK zgC; exact Nat.mod_lt _ (by omega)
theorem zt4 (x n : Nat) : zhK x (n + 1) = zgC (zhK x n) x := rfl
theorem zrm (x : Nat) : zhK x 0 = 1 := rfl
def zBS (y : Int) (m : Nat) : Int := bits .xor .u8 (bits .xor .u8 (bits .xor .u8 (bits .xor .u8 (bits .xor .u8 (99 / 2 ^ m) (y / 2 ^ m)) (y / 2 ^ ((m + 4) % 8))) (y / 2 ^ ((m + 5) % 8))) (y / 2 ^ ((m + 6) % 8))) (y / 2 ^ ((m + 7) % 8))
def zt5 (y : Int) : Nat → Int
 | 0 => 0
 | m + 1 => (zt5 y m + (zBS y m).tmod 2 * 2 ^ m % 256) % 256
theorem zt6 (y : Int) : zt5 y 0 = 0 := rfl
theorem zt7 (y : Int) (m : Nat) : zt5 y (m + 1) = (zt5 y m + (zBS y m).tmod 2 * 2 ^ m % 256) % 256 := rfl
def okR (x : Nat) : Bool := decide (zt5 (zhK x 254) 8 = zbK x)
theorem zCV : (List.range 8).all (fun j => okR (0 + j)) = true := by kernel_rfl
theorem zCW : (List.range 8).all (fun j => okR (8 + j)) = true := by kernel_rfl
theorem zCX : (List.range 8).all (fun j => okR (16 + j)) = true := by kernel_rfl
theorem zCY : (List.range 8).all (fun j => okR (24 + j)) = true := by kernel_rfl
theorem zCZ : (List.range 8).all (fun j => okR (32 + j)) = true := by kernel_rfl
theorem zC0 : (List.range 8).all (fun j => okR (40 + j)) = true := by kernel_rfl
theorem zC1 : (List.range 8).all (fun j => okR (48 + j)) = true := by kernel_rfl
theorem zC2 : (List.range 8).all (fun j => okR (56 + j)) = true := by kernel_rfl
theorem zC3 : (List.range 8).all (fun j => okR (64 + j)) = true := by kernel_rfl
theorem zC4 : (List.range 8).all (fun j => okR (72 + j)) = true := by kernel_rfl
theorem zBT : (List.range 8).all (fun j => okR (80 + j)) = true := by kernel_rfl
theorem zBU : (List.range 8).all (fun j => okR (88 + j)) = true := by kernel_rfl
theorem zBV : (List.range 8).all (fun j => okR (96 + j)) = true := by kernel_rfl
theorem zBW : (List.range 8).all (fun j => okR (104 + j)) = true := by kernel_rfl
theorem zBX : (List.range 8).all (fun j => okR (112 + j)) = true := by kernel_rfl
theorem zBY : (List.range 8).all (fun j => okR (120 + j)) = true := by kernel_rfl
theorem zBZ : (List.range 8).all (fun j => okR (128 + j)) = true := by kernel_rfl
theorem zB0 : (List.range 8).all (fun j => okR (136 + j)) = true := by kernel_rfl
theorem zB1 : (List.range 8).all (fun j => okR (144 + j)) = true := by kernel_rfl
theorem zB2 : (List.range 8).all (fun j => okR (152 + j)) = true := by kernel_rfl
theorem zB3 : (List.range 8).all (fun j => okR (160 + j)) = true := by kernel_rfl
theorem zB4 : (List.range 8).all (fun j => okR (168 + j)) = true := by kernel_rfl
theorem zB5 : (List.range 8).all (fun j => okR (176 + j)) = true := by kernel_rfl
theorem zB6 : (List.range 8).all (fun j => okR (184 + j)) = true := by kernel_rfl
theorem zB7 : (List.range 8).all (fun j => okR (192 + j)) = true := by kernel_rfl
theorem zB8 : (List.range 8).all (fun j => okR (200 + j)) = true := by kernel_rfl
theorem zB9 : (List.range 8).all (fun j => okR (208 + j)) = true := by kernel_rfl
theorem zCa : (List.range 8).all (fun j => okR (216 + j)) = true := by kernel_rfl
theorem zCb : (List.range 8).all (fun j => okR (224 + j)) = true := by kernel_rfl
theorem zCc : (List.range 8).all (fun j => okR (232 + j)) = true := by kernel_rfl
theorem zCd : (List.range 8).all (fun j => okR (240 + j)) = true := by kernel_rfl
theorem zCe : (List.range 8).all (fun j => okR (248 + j)) = true := by kernel_rfl
theorem zzn (x : Nat) (hx : x < 256) : zt5 (zhK x 254) 8 = zbK x := by
 have key : okR x = true := by
  have hq : x = 8 * (x / 8) + x % 8 := by omega
  have hr : x % 8 < 8 := by omega
  have hd : x / 8 < 32 := by omega
  rw [hq]
  generalize x % 8 = r at *
  generalize x / 8 = q at *
  clear hq hx
  have pick : ∀ b, (List.range 8).all (fun j => okR (b + j)) = true → okR (b + r) = true := fun b h => List.all_eq_true.1 h r (List.mem_range.2 hr)
  match q, hd with
  | 0, _ => exact pick _ zCV
  | 1, _ => exact pick _ zCW
  | 2, _ => exact pick _ zCX
  | 3, _ => exact pick _ zCY
  | 4, _ => exact pick _ zCZ
  | 5, _ => exact pick _ zC0
  | 6, _ => exact pick _ zC1
  | 7, _ => exact pick _ zC2
  | 8, _ => exact pick _ zC3
  | 9, _ => exact pick _ zC4
  | 10, _ => exact pick _ zBT
  | 11, _ => exact pick _ zBU
  | 12, _ => exact pick _ zBV
  | 13, _ => exact pick _ zBW
  | 14, _ => exact pick _ zBX
  | 15, _ => exact pick _ zBY
  | 16, _ => exact pick _ zBZ
  | 17, _ => exact pick _ zB0
  | 18, _ => exact pick _ zB1
  | 19, _ => exact pick _ zB2
  | 20, _ => exact pick _ zB3
  | 21, _ => exact pick _ zB4
  | 22, _ => exact pick _ zB5
  | 23, _ => exact pick _ zB6
  | 24, _ => exact pick _ zB7
  | 25, _ => exact pick _ zB8
  | 26, _ => exact pick _ zB9
  | 27, _ => exact pick _ zCa
  | 28, _ => exact pick _ zCb
  | 29, _ => exact pick _ zCc
  | 30, _ => exact pick _ zCd
  | 31, _ => exact pick _ zCe
  | n + 32, h => omega
 exact of_decide_eq_true key
end
section
open Go.RowKit
attribute [local irreducible] zbK
attribute [local irreducible] zhK zgC zt5
theorem zo0 (x : Nat) (hx : x < 256) (w : World) :
  Calls Tryz.prog 140 #[.int .u8 x] w fun e w' => e = .returned (.int .u8 (zhK x 254)) ∧ w = w' := by
 go_enter Tryz.func140, Tryz.ntmps140
 go_wp2
 go_loopg [3, 4] 254 (fun n y i wr => ∃ m : Nat, m + n = 254 ∧ i = .int .i64 m ∧ y = .int .u8 (zhK x m) ∧ w = wr)
 case atStart => exact ⟨0, rfl, rfl, by rw [zrm]; rfl, rfl⟩
 case round =>
  obtain ⟨m, hm, rfl, rfl, rfl⟩ := hrel
  have hm' := Lib.hid hm
  clear hm
  have hl := zt3 x m
  by_cases hlt : m < 254
  ·go_wp2_with (go_at_call 134; (with_reducible refine (zmz _ _ hl hx _).mono ?_); rintro e w' ⟨rfl, rfl⟩)
   go_roundg (gk - 1)
   case measure => have := hm'.out; omega
   case rel =>
    have hm'' := hm'.out
    exact ⟨m + 1, by omega, by go_num, by rw [zt4], rfl⟩
  ·obtain rfl : m = 254 := by have := hm'.out; omega
   go_wp2
   go_ret
   exact ⟨rfl, rfl⟩
theorem zrn (x : Nat) (hx : x < 256) (w : World) :
  Calls Tryz.prog 133 #[.int .u8 x] w fun e w' => e = .returned (.int .u8 (zbK x)) ∧ ∃ d, w' = w.drewN d := by
 go_enter Tryz.func133, Tryz.ntmps133
 go_wp2_with (go_at_call 140; (with_reducible refine (zo0 _ hx _).mono ?_); rintro e w' ⟨rfl, rfl⟩)
 have hl := zt3 x 254
 have hR := Lib.hid (zzn x hx)
 generalize zhK x 254 = y at *
 go_loopg [4, 9] 8 (fun n o i wr => ∃ m : Nat, m + n = 8 ∧ i = .int .i64 m ∧ o = .int .u8 (zt5 y m) ∧ ∃ d, wr = w.drewN d)
 case atStart => exact ⟨0, rfl, rfl, by rw [zt6], 0, rfl⟩
 case round =>
  obtain ⟨m, hm, rfl, rfl, d, rfl⟩ := hrel
  have hm' := Lib.hid hm
  clear hm
  by_cases hlt : m < 8
  ·have hs : Hid (zt5 y (m + 1) = (zt5 y m + (zBS y m).tmod 2 * 2 ^ m % 256) % 256) := Lib.hid (zt7 y m)
   generalize zt5 y m = q at *
   go_wp2
   go_quiet (fail)
   go_wp2
   go_roundg (gk - 1)
   case measure => have := hm'.out; omega
   case rel =>
    have hm'' := hm'.out
    exact ⟨m + 1, by omega, by go_num, by rw [hs.out]; rfl, _, rfl⟩
  ·obtain rfl : m = 8 := by have := hm'.out; omega
   rw [hR.out]
   go_wp2
   go_ret
   exact ⟨rfl, _, rfl⟩
end
section
open Go.RowKit
attribute [local irreducible] zbK zgC
theorem zzo : (List.range 256).all (fun x => decide (((zgC 2 x : Nat) : Int) = zdT x)) = true := by kernel_rfl
theorem zzp : (List.range 256).all (fun x => decide (((zgC 3 x : Nat) : Int) = bits .xor .u8 (zdT x) x)) = true := by kernel_rfl
def zBf (s : Nat → Int) (c r : Nat) : Int := bits .xor .u8 (bits .xor .u8 (bits .xor .u8 (zdT (s (4 * c + r % 4))) (bits .xor .u8 (zdT (s (4 * c + (r + 1) % 4))) (s (4 * c + (r + 1) % 4)))) (s (4 * c + (r + 2) % 4))) (s (4 * c + (r + 3) % 4))
theorem zzq (x s : Nat → Int) (c : Nat) (hx : ∀ i, i < 4 → 0 ≤ x i ∧ x i < 256) (hs : ∀ i, i < 4 → s (4 * c + i) = x i) (r : Nat) (hr : r < 4) : zBf s c r = znb x r := by
 refine zAQ (zfQ _ _ _) (zsr _ _) ?_
 rw [zAS]
 unfold zBf C8
 rw [hs _ (by omega), hs _ (by omega), hs _ (by omega), hs _ (by omega)]
 rw [zj9, zj9, zj9, zj9, zmw (hx _ (by omega)), zmw (hx _ (by omega))]
 simp only [zAR]
 have h : r = 0 ∨ r = 1 ∨ r = 2 ∨ r = 3 := by omega
 rcases h with rfl | rfl | rfl | rfl
 all_goals
  simp only [Nat.reduceAdd, Nat.reduceMod]
  generalize T8 (b8 (x 0)) = A
  generalize T8 (b8 (x 1)) = B
  generalize T8 (b8 (x 2)) = C
  generalize T8 (b8 (x 3)) = D
  generalize b8 (x 0) = a
  generalize b8 (x 1) = b
  generalize b8 (x 2) = c
  generalize b8 (x 3) = d
  ext j hj
  simp only [BitVec.getElem_xor]
  generalize a[j] = a
  generalize b[j] = b
  generalize c[j] = c
  generalize d[j] = d
  generalize A[j] = A
  generalize B[j] = B
  generalize C[j] = C
  generalize D[j] = D
  revert a b c d A B C D
  decide +kernel
theorem zhL (f g : Nat → Int) (w : World) :
  Calls Tryz.prog 123 #[.agg (arr .u8 16 f), .agg (arr .u8 16 g)] w fun e w' => e = .returned (.agg (arr .u8 16 (zj3 f g))) ∧ Below w.heap.size w w' := by
 go_enter Tryz.func123, Tryz.ntmps123
 go_wp2_with (refine zae rfl rfl zdI ?_)
 obtain ⟨h0, h1, h2, hsz, hb⟩ := zdb w (.cells (arr .u8 16 f) 49) (.cells (arr .u8 16 g) 49) (.cells (arr .u8 16 fun _ => 0) 49)
 go_loopg [6] 16 (fun n i wr => ∃ m : Nat, m + n = 16 ∧ i = .int .i64 m ∧ wr.heap[w.heap.size]? = some (.cells (arr .u8 16 fun i => if i < m then zj3 f g i else f i) 49 (0, 0)) ∧
  wr.heap[w.heap.size + 1]? = some (.cells (arr .u8 16 g) 49 (0, 0)) ∧ wr.heap[w.heap.size + 1 + 1]? = some (.cells (arr .u8 16 fun _ => 0) 49 (0, 0)) ∧ Below w.heap.size w wr)
 case atStart => exact ⟨0, rfl, rfl, by simpa using h0, h1, h2, hb⟩
 case round =>
  obtain ⟨m, hm, rfl, g0, g1, g2, hB⟩ := hrel
  have hm' := Lib.hid hm
  clear h0 h1 h2 hsz hb hm
  by_cases hlt : m < 16
  ·have c0 := zaj g0 m hlt
   have c1 := zaj g1 m hlt
   have fz := zaH g0 m
   simp only [Nat.lt_irrefl, if_false] at c0
   go_wp2
   refine zax 8 (by kernel_rfl) (by kernel_rfl) ?_
   (simp only [jH, jI, jF, jG])
   repeat (refine wpStill_step (fun K hK => ?_); go_simp; (try (simp only [↓IntWalk.iteOmega]; go_simp)); (try go_bits); refine hK _ ?_; clear hK K)
   refine wpStill_nil ?_
   go_wp2
   go_roundg (gk - 1)
   case measure => have := hm'.out; omega
   case rel =>
    have hm'' := hm'.out
    exact ⟨m + 1, by omega, by go_num, zaf (zaL g0 m _) (fun i _ => ziK f (zj3 f g) m i), zar g1 _ _ (by omega), zar g2 _ _ (by omega), (hB.setCell (jV _) _).drew⟩
  ·obtain rfl : m = 16 := by have := hm'.out; omega
   have g0' := zaf (f' := zj3 f g) g0 (fun i hi => if_pos hi)
   clear g0
   go_wp2_with (first | (refine zab rfl rfl rfl zaQ g0' ?_) | (refine zac rfl rfl rfl rfl zaQ g2 ?_))
   exact bodyPost_ret (zaw rfl rfl zaQ (zan g2)) rfl ⟨rfl, zam hB (by omega) _⟩
theorem ze6 (x : Int) (h0 : 0 ≤ x) (h1 : x < 256) (w : World) :
  Calls Tryz.prog 133 #[.int .u8 x] w fun e w' => e = .returned (.int .u8 (zbK x.toNat)) ∧ Below w.heap.size w w' := by
 obtain ⟨n, rfl⟩ := Int.eq_ofNat_of_zero_le h0
 refine (zrn n (by omega) w).mono ?_
 rintro e w' ⟨rfl, d, rfl⟩
 exact ⟨rfl, Go.below_drewN (Below.refl _ _) d⟩
theorem zwb (x : Int) (hx : 0 ≤ x ∧ x < 256) (w : World) :
  Calls Tryz.prog 134 #[.int .u8 2, .int .u8 x] w fun e w' => e = .returned (.int .u8 (zdT x)) ∧ w = w' := by
 obtain ⟨n, rfl⟩ := Int.eq_ofNat_of_zero_le hx.1
 have := zmz 2 n (by omega) (by omega) w
 rw [of_decide_eq_true (List.all_eq_true.1 zzo n (List.mem_range.2 (by omega)))] at this
 exact this
theorem zt8 (x : Int) (hx : 0 ≤ x ∧ x < 256) (w : World) :
  Calls Tryz.prog 134 #[.int .u8 3, .int .u8 x] w fun e w' => e = .returned (.int .u8 (bits .xor .u8 (zdT x) x)) ∧ w = w' := by
 obtain ⟨n, rfl⟩ := Int.eq_ofNat_of_zero_le hx.1
 have := zmz 3 n (by omega) (by omega) w
 rw [of_decide_eq_true (List.all_eq_true.1 zzp n (List.mem_range.2 (by omega)))] at this
 exact this
theorem zqq (s : Nat → Int) (c r : Nat) (hc : c < 4) (hr : r < 8) (w : World) :
  Calls Tryz.prog 135 #[.agg (arr .u8 16 s), .int .i64 c, .int .i64 r] w fun e w' => e = .returned (.int .u8 (s (4 * c + r % 4))) ∧ Below w.heap.size w w' := by
 go_enter Tryz.func135, Tryz.ntmps135
 obtain ⟨g0, hz, hb0⟩ := zb6 w (.cells (arr .u8 16 s) 49)
 have c0 := zaj g0 (4 * c + r % 4) (by omega)
 go_wp2
 go_ret
 exact ⟨rfl, hb0⟩
def zcv (s : Nat → Int) (q : Nat) : Int := zmI s (q / 4) (q % 4)
theorem zro (s : Nat → Int) (hs : ∀ i, i < 16 → 0 ≤ s i ∧ s i < 256) (w : World) :
  Calls Tryz.prog 124 #[.agg (arr .u8 16 s)] w fun e w' => e = .returned (.agg (arr .u8 16 (zcv s))) ∧ Below w.heap.size w w' := by
 go_enter Tryz.func124, Tryz.ntmps124
 go_wp2_with (refine zae rfl rfl zdI ?_)
 obtain ⟨h0, h1, h2, hsz, hb⟩ := zdb w (.cells (arr .u8 16 s) 49) (.cells (arr .u8 16 fun _ => 0) 49) (.cells (arr .u8 16 fun _ => 0) 49)
 have hs' := Lib.hid hs
 clear hs
 go_loopg [6] 4 (fun n i wr => ∃ m : Nat, m + n = 4 ∧ i = .int .i64 m ∧ wr.heap[w.heap.size]? = some (.cells (arr .u8 16 s) 49 (0, 0)) ∧
  wr.heap[w.heap.size + 1]? = some (.cells (arr .u8 16 fun _ => 0) 49 (0, 0)) ∧ wr.heap[w.heap.size + 1 + 1]? = some (.cells (arr .u8 16 fun i => if i < 4 * m then zcv s i else 0) 49 (0, 0)) ∧ Below w.heap.size w wr)
 case atStart => exact ⟨0, rfl, rfl, h0, h1, zaf h2 (fun i _ => (if_neg (by omega)).symm), hb⟩
 case round =>
  obtain ⟨m, hm, rfl, g0, g1, g2, hB⟩ := hrel
  obtain ⟨go1, rfl⟩ : ∃ x, x = gk := ⟨_, rfl⟩
  have hm' := Lib.hid hm
  clear h0 h1 h2 hsz hb hm
  by_cases hlt : m < 4
  ·go_upto_region 5 with (fail)
   (try simp only [Act.put, jA, jB, jC])
   rw [show decide ((m : Int) < 4) = true from decide_eq_true (by omega)]
   go_wp2
   go_loopg [9] 4 (fun n i wr => ∃ r : Nat, r + n = 4 ∧ i = .int .i64 r ∧ wr.heap[w.heap.size]? = some (.cells (arr .u8 16 s) 49 (0, 0)) ∧
    wr.heap[w.heap.size + 1]? = some (.cells (arr .u8 16 fun _ => 0) 49 (0, 0)) ∧ wr.heap[w.heap.size + 1 + 1]? = some (.cells (arr .u8 16 fun i => if i < 4 * m + r then zcv s i else 0) 49 (0, 0)) ∧ Below w.heap.size w wr)
   case atStart => exact ⟨0, rfl, rfl, g0, g1, g2, hB⟩
   case round =>
    clear g0 g1 g2 hB
    obtain ⟨r, hr, rfl, g0, g1, g2, hB⟩ := hrel
    have hr' := Lib.hid hr
    clear hr
    by_cases hlr : r < 4
    ·have hsb := hs'.out (4 * ((m + r) % 4) + r) (by omega)
     have c0 := zaj g0 (4 * ((m + r) % 4) + r) (by omega)
     go_wp2_with (fail)
     refine (ze6 _ (by omega) (by omega) _).mono ?_
     rintro e w4 ⟨rfl, b4⟩
     have e0 := zaa b4 (jM g0) g0
     have e1 := zaa b4 (jM g1) g1
     have e2 := zaa b4 (jM g2) g2
     have hBq := hB.trans (b4.mono hB.size)
     clear b4 g0 g1 g2 hB c0
     have c2 := zaj e2 (4 * m + r) (by omega)
     have fz := zaH e2 (4 * m + r)
     simp only [Nat.lt_irrefl, if_false] at c2
     go_wp2
     go_roundg (gk - 1)
     case measure => have := hr'.out; omega
     case rel =>
      have hr'' := hr'.out
      refine ⟨r + 1, by omega, by go_num, zar e0 _ _ (by omega), zar e1 _ _ (by omega), zaf (zaL e2 _ _) (fun i _ => ?_), hBq.setCell (by show w.heap.size ≤ w.heap.size + 1 + 1; omega) _⟩
      have := zdH (zcv s) (4 * m + r) i
      rw [show zcv s (4 * m + r) = zbK (s (4 * ((m + r) % 4) + r)).toNat from by unfold zcv zmI; rw [show (4 * m + r) / 4 = m from by omega, show (4 * m + r) % 4 = r from by omega]] at this
      exact this
    ·obtain rfl : r = 4 := by have := hr'.out; omega
     go_wp2
     go_roundg (go1 - 1)
     case measure => have := hm'.out; omega
     case rel =>
      have hm'' := hm'.out
      exact ⟨m + 1, by omega, by go_num, g0, g1, zaf g2 (fun i _ => by rw [show 4 * (m + 1) = 4 * m + 4 from by omega]), hB⟩
  ·obtain rfl : m = 4 := by have := hm'.out; omega
   have g2' := zaf (f' := zcv s) g2 (fun i hi => if_pos (by omega))
   clear g2
   go_wp2_with (first | (refine zab rfl rfl rfl zaQ g2' ?_) | (refine zac rfl rfl rfl rfl zaQ g1 ?_))
   exact bodyPost_ret (zaw rfl rfl zaQ (zan g1)) rfl ⟨rfl, zam hB (by omega) _⟩
end
section
open Go.RowKit
attribute [local irreducible] zbK zgC
def zgK (s : Nat → Int) (q : Nat) : Int := zBf s (q / 4) (q % 4)
theorem zt9 (s : Nat → Int) (hs : ∀ i, i < 16 → 0 ≤ s i ∧ s i < 256) (w : World) :
  Calls Tryz.prog 125 #[.agg (arr .u8 16 s)] w fun e w' => e = .returned (.agg (arr .u8 16 (zgK s))) ∧ Below w.heap.size w w' := by
 go_enter Tryz.func125, Tryz.ntmps125
 go_wp2_with (refine zae rfl rfl zdI ?_)
 obtain ⟨h0, h1, h2, hsz, hb⟩ := zdb w (.cells (arr .u8 16 s) 49) (.cells (arr .u8 16 fun _ => 0) 49) (.cells (arr .u8 16 fun _ => 0) 49)
 have hs' := Lib.hid hs
 clear hs
 go_loopg [6] 4 (fun n i wr => ∃ m : Nat, m + n = 4 ∧ i = .int .i64 m ∧ wr.heap[w.heap.size]? = some (.cells (arr .u8 16 s) 49 (0, 0)) ∧
  wr.heap[w.heap.size + 1]? = some (.cells (arr .u8 16 fun _ => 0) 49 (0, 0)) ∧ wr.heap[w.heap.size + 1 + 1]? = some (.cells (arr .u8 16 fun i => if i < 4 * m then zgK s i else 0) 49 (0, 0)) ∧ Below w.heap.size w wr)
 case atStart => exact ⟨0, rfl, rfl, h0, h1, zaf h2 (fun i _ => (if_neg (by omega)).symm), hb⟩
 case round =>
  obtain ⟨m, hm, rfl, g0, g1, g2, hB⟩ := hrel
  obtain ⟨go1, rfl⟩ : ∃ x, x = gk := ⟨_, rfl⟩
  have hm' := Lib.hid hm
  clear h0 h1 h2 hsz hb hm
  by_cases hlt : m < 4
  ·go_upto_region 5 with (fail)
   (try simp only [Act.put, jA, jB, jC])
   rw [show decide ((m : Int) < 4) = true from decide_eq_true (by omega)]
   go_wp2
   go_loopg [9] 4 (fun n i wr => ∃ r : Nat, r + n = 4 ∧ i = .int .i64 r ∧ wr.heap[w.heap.size]? = some (.cells (arr .u8 16 s) 49 (0, 0)) ∧
    wr.heap[w.heap.size + 1]? = some (.cells (arr .u8 16 fun _ => 0) 49 (0, 0)) ∧ wr.heap[w.heap.size + 1 + 1]? = some (.cells (arr .u8 16 fun i => if i < 4 * m + r then zgK s i else 0) 49 (0, 0)) ∧ Below w.heap.size w wr)
   case atStart => exact ⟨0, rfl, rfl, g0, g1, g2, hB⟩
   case round =>
    clear g0 g1 g2 hB
    obtain ⟨r, hr, rfl, g0, g1, g2, hB⟩ := hrel
    have hr' := Lib.hid hr
    clear hr
    by_cases hlr : r < 4
    ·have hsb := hs'.out (4 * m + r % 4) (by omega)
     have hsc := hs'.out (4 * m + (r + 1) % 4) (by omega)
     have hl0 := jM g0
     have hl1 := jM g1
     have hl2 := jM g2
     go_upto_region 8 with (fail)
     (try simp only [Act.put, jA, jB, jC])
     refine wp_region_can wr.heap.size 29 [(0, false), (1, false), (2, false), (3, false), (4, false), (5, false), (6, false), (9, false), (10, false), (11, false), (12, false), (16, false), (17, false), (18, false), (19, false), (22, false), (23, false), (24, false), (25, false), (7, true), (8, true), (13, true), (14, true), (15, false), (20, true), (21, false), (26, true), (27, false), (28, false)] (by kernel_rfl) (by kernel_rfl) ?_
     (simp only [canOps, jD, jE, jF, jG])
     iterate 4 (first | (refine zaA rfl rfl (fun _ _ _ _ h => h) ?_; (simp only [Act.put, Act.eval, jN, jL, jD, jE, jO, jA, jB, jC])) | (refine zas rfl rfl (fun _ _ _ _ h => h) ?_; (simp only [Act.put, Act.eval, jN, jL, jD, jE, jO, jA, jB, jC])) | (refine zao rfl rfl rfl (fun _ _ _ _ h => h) ?_; (simp only [Act.put, jA, jB, jC])) | (refine za3 rfl rfl (fun _ _ _ _ h => h) (by first | exact .bin rfl rfl rfl | exact .indexAddr rfl | exact .un rfl | exact .extract rfl | exact .index rfl | exact .field rfl | exact .slice rfl) (fun K hK => ?_); go_simp; (try (simp only [↓IntWalk.iteOmega]; go_simp)); (try go_bits); refine hK _ ?_; clear hK K))
     refine zaq rfl rfl rfl (fun _ _ _ _ h => h) zaQ hl0 g0 ?_
     (try simp only [Act.put, jA, jB, jC])
     iterate 2 (first | (refine zaA rfl rfl (fun _ _ _ _ h => h) ?_; (simp only [Act.put, Act.eval, jN, jL, jD, jE, jO, jA, jB, jC])) | (refine zas rfl rfl (fun _ _ _ _ h => h) ?_; (simp only [Act.put, Act.eval, jN, jL, jD, jE, jO, jA, jB, jC])) | (refine zao rfl rfl rfl (fun _ _ _ _ h => h) ?_; (simp only [Act.put, jA, jB, jC])) | (refine za3 rfl rfl (fun _ _ _ _ h => h) (by first | exact .bin rfl rfl rfl | exact .indexAddr rfl | exact .un rfl | exact .extract rfl | exact .index rfl | exact .field rfl | exact .slice rfl) (fun K hK => ?_); go_simp; (try (simp only [↓IntWalk.iteOmega]; go_simp)); (try go_bits); refine hK _ ?_; clear hK K))
     refine zaq rfl rfl rfl (fun _ _ _ _ h => h) zaQ hl0 g0 ?_
     (try simp only [Act.put, jA, jB, jC])
     iterate 3 (first | (refine zaA rfl rfl (fun _ _ _ _ h => h) ?_; (simp only [Act.put, Act.eval, jN, jL, jD, jE, jO, jA, jB, jC])) | (refine zas rfl rfl (fun _ _ _ _ h => h) ?_; (simp only [Act.put, Act.eval, jN, jL, jD, jE, jO, jA, jB, jC])) | (refine zao rfl rfl rfl (fun _ _ _ _ h => h) ?_; (simp only [Act.put, jA, jB, jC])) | (refine za3 rfl rfl (fun _ _ _ _ h => h) (by first | exact .bin rfl rfl rfl | exact .indexAddr rfl | exact .un rfl | exact .extract rfl | exact .index rfl | exact .field rfl | exact .slice rfl) (fun K hK => ?_); go_simp; (try (simp only [↓IntWalk.iteOmega]; go_simp)); (try go_bits); refine hK _ ?_; clear hK K))
     refine zaq rfl rfl rfl (fun _ _ _ _ h => h) zaQ hl0 g0 ?_
     (try simp only [Act.put, jA, jB, jC])
     iterate 3 (first | (refine zaA rfl rfl (fun _ _ _ _ h => h) ?_; (simp only [Act.put, Act.eval, jN, jL, jD, jE, jO, jA, jB, jC])) | (refine zas rfl rfl (fun _ _ _ _ h => h) ?_; (simp only [Act.put, Act.eval, jN, jL, jD, jE, jO, jA, jB, jC])) | (refine zao rfl rfl rfl (fun _ _ _ _ h => h) ?_; (simp only [Act.put, jA, jB, jC])) | (refine za3 rfl rfl (fun _ _ _ _ h => h) (by first | exact .bin rfl rfl rfl | exact .indexAddr rfl | exact .un rfl | exact .extract rfl | exact .index rfl | exact .field rfl | exact .slice rfl) (fun K hK => ?_); go_simp; (try (simp only [↓IntWalk.iteOmega]; go_simp)); (try go_bits); refine hK _ ?_; clear hK K))
     refine zaq rfl rfl rfl (fun _ _ _ _ h => h) zaQ hl0 g0 ?_
     (try simp only [Act.put, jA, jB, jC])
     iterate 3 (first | (refine zaA rfl rfl (fun _ _ _ _ h => h) ?_; (simp only [Act.put, Act.eval, jN, jL, jD, jE, jO, jA, jB, jC])) | (refine zas rfl rfl (fun _ _ _ _ h => h) ?_; (simp only [Act.put, Act.eval, jN, jL, jD, jE, jO, jA, jB, jC])) | (refine zao rfl rfl rfl (fun _ _ _ _ h => h) ?_; (simp only [Act.put, jA, jB, jC])) | (refine za3 rfl rfl (fun _ _ _ _ h => h) (by first | exact .bin rfl rfl rfl | exact .indexAddr rfl | exact .un rfl | exact .extract rfl | exact .index rfl | exact .field rfl | exact .slice rfl) (fun K hK => ?_); go_simp; (try (simp only [↓IntWalk.iteOmega]; go_simp)); (try go_bits); refine hK _ ?_; clear hK K))
     refine wpCan_e rfl (fun K hK => ?_)
     go_simp
     refine (zqq s m r hlt (by omega) _).mono ?_
     rintro e w4 ⟨rfl, b4⟩
     refine hK _ _ (Keep.of_below b4 (jV _)) ?_
     clear hK K
     (try simp only [Act.put, jA, jB, jC])
     refine wpCan_e rfl (fun K hK => ?_)
     go_simp
     refine (zwb _ hsb _).mono ?_
     rintro e w5 ⟨rfl, rfl⟩
     refine hK _ _ (Keep.refl _ _) ?_
     clear hK K
     (try simp only [Act.put, jA, jB, jC])
     refine wpCan_e rfl (fun K hK => ?_)
     go_simp
     refine (zqq s m (r + 1) hlt (by omega) _).mono ?_
     rintro e w6 ⟨rfl, b6⟩
     refine hK _ _ (Keep.of_below b6 b4.size) ?_
     clear hK K
     (try simp only [Act.put, jA, jB, jC])
     refine wpCan_e rfl (fun K hK => ?_)
     go_simp
     refine (zt8 _ hsc _).mono ?_
     rintro e w7 ⟨rfl, rfl⟩
     refine hK _ _ (Keep.refl _ _) ?_
     clear hK K
     (try simp only [Act.put, jA, jB, jC])
     (first | (refine zaA rfl rfl (fun _ _ _ _ h => h) ?_; (simp only [Act.put, Act.eval, jN, jL, jD, jE, jO, jA, jB, jC])) | (refine zas rfl rfl (fun _ _ _ _ h => h) ?_; (simp only [Act.put, Act.eval, jN, jL, jD, jE, jO, jA, jB, jC])) | (refine zao rfl rfl rfl (fun _ _ _ _ h => h) ?_; (simp only [Act.put, jA, jB, jC])) | (refine za3 rfl rfl (fun _ _ _ _ h => h) (by first | exact .bin rfl rfl rfl | exact .indexAddr rfl | exact .un rfl | exact .extract rfl | exact .index rfl | exact .field rfl | exact .slice rfl) (fun K hK => ?_); go_simp; (try (simp only [↓IntWalk.iteOmega]; go_simp)); (try go_bits); refine hK _ ?_; clear hK K))
     refine wpCan_e rfl (fun K hK => ?_)
     go_simp
     refine (zqq s m (r + 2) hlt (by omega) _).mono ?_
     rintro e w8 ⟨rfl, b8w⟩
     refine hK _ _ (Keep.of_below b8w (jU b4.size b6.size)) ?_
     clear hK K
     (try simp only [Act.put, jA, jB, jC])
     (first | (refine zaA rfl rfl (fun _ _ _ _ h => h) ?_; (simp only [Act.put, Act.eval, jN, jL, jD, jE, jO, jA, jB, jC])) | (refine zas rfl rfl (fun _ _ _ _ h => h) ?_; (simp only [Act.put, Act.eval, jN, jL, jD, jE, jO, jA, jB, jC])) | (refine zao rfl rfl rfl (fun _ _ _ _ h => h) ?_; (simp only [Act.put, jA, jB, jC])) | (refine za3 rfl rfl (fun _ _ _ _ h => h) (by first | exact .bin rfl rfl rfl | exact .indexAddr rfl | exact .un rfl | exact .extract rfl | exact .index rfl | exact .field rfl | exact .slice rfl) (fun K hK => ?_); go_simp; (try (simp only [↓IntWalk.iteOmega]; go_simp)); (try go_bits); refine hK _ ?_; clear hK K))
     refine wpCan_e rfl (fun K hK => ?_)
     go_simp
     refine (zqq s m (r + 3) hlt (by omega) _).mono ?_
     rintro e w9 ⟨rfl, b9⟩
     refine hK _ _ (Keep.of_below b9 (jU b4.size (jU b6.size b8w.size))) ?_
     clear hK K
     (try simp only [Act.put, jA, jB, jC])
     iterate 2 (first | (refine zaA rfl rfl (fun _ _ _ _ h => h) ?_; (simp only [Act.put, Act.eval, jN, jL, jD, jE, jO, jA, jB, jC])) | (refine zas rfl rfl (fun _ _ _ _ h => h) ?_; (simp only [Act.put, Act.eval, jN, jL, jD, jE, jO, jA, jB, jC])) | (refine zao rfl rfl rfl (fun _ _ _ _ h => h) ?_; (simp only [Act.put, jA, jB, jC])) | (refine za3 rfl rfl (fun _ _ _ _ h => h) (by first | exact .bin rfl rfl rfl | exact .indexAddr rfl | exact .un rfl | exact .extract rfl | exact .index rfl | exact .field rfl | exact .slice rfl) (fun K hK => ?_); go_simp; (try (simp only [↓IntWalk.iteOmega]; go_simp)); (try go_bits); refine hK _ ?_; clear hK K))
     refine wpCan_nil ?_
     have b5 := b4.trans (b6.mono b4.size)
     have b7 := b5.trans (b8w.mono b5.size)
     have b10 := b7.trans (b9.mono b7.size)
     have e0 := zaa (w := wr.drew) b10 hl0 g0
     have e1 := zaa (w := wr.drew) b10 hl1 g1
     have e2 := zaa (w := wr.drew) b10 hl2 g2
     have hBq := hB.drew.trans (b10.mono hB.size)
     clear b4 b5 b6 b7 b8w b9 b10 g0 g1 g2 hB hsb hsc hl0 hl1 hl2
     have c2 := zaj e2 (4 * m + r) (by omega)
     have fz := zaH e2 (4 * m + r)
     simp only [Nat.lt_irrefl, if_false] at c2
     go_wp2
     go_roundg (gk - 1)
     case measure => have := hr'.out; omega
     case rel =>
      have hr'' := hr'.out
      refine ⟨r + 1, by omega, by go_num, zar e0 _ _ (by omega), zar e1 _ _ (by omega), zaf (zaL e2 _ _) (fun i _ => ?_), hBq.setCell (by show w.heap.size ≤ w.heap.size + 1 + 1; omega) _⟩
      have := zdH (zgK s) (4 * m + r) i
      rw [show zgK s (4 * m + r) = zBf s m r from by unfold zgK; rw [show (4 * m + r) / 4 = m from by omega, show (4 * m + r) % 4 = r from by omega]] at this
      exact this
    ·obtain rfl : r = 4 := by have := hr'.out; omega
     go_wp2
     go_roundg (go1 - 1)
     case measure => have := hm'.out; omega
     case rel =>
      have hm'' := hm'.out
      exact ⟨m + 1, by omega, by go_num, g0, g1, zaf g2 (fun i _ => by rw [show 4 * (m + 1) = 4 * m + 4 from by omega]), hB⟩
  ·obtain rfl : m = 4 := by have := hm'.out; omega
   have g2' := zaf (f' := zgK s) g2 (fun i hi => if_pos (by omega))
   clear g2
   go_wp2_with (first | (refine zab rfl rfl rfl zaQ g2' ?_) | (refine zac rfl rfl rfl rfl zaQ g1 ?_))
   exact bodyPost_ret (zaw rfl rfl zaQ (zan g1)) rfl ⟨rfl, zam hB (by omega) _⟩
end
section
open Go.RowKit
attribute [local irreducible] zbK
theorem zzr (x : Int) (h0 : 0 ≤ x) (h1 : x < 256) (w : World) :
  Calls Tryz.prog 134 #[.int .u8 x, .int .u8 2] w fun e w' => e = .returned (.int .u8 (zdT x)) ∧ w = w' := by
 obtain ⟨n, rfl⟩ := Int.eq_ofNat_of_zero_le h0
 have := zmz n 2 (by omega) (by omega) w
 rw [zve n (by omega)] at this
 exact this
end
section
open Go.RowKit
attribute [local irreducible] zbK zgC
def zfv (k : Nat → Int) (q : Nat) : Int := ze1 k (q / 16) (q % 16)
theorem zrp (k : Nat → Int) (q : Nat) (h : q < 16) : zfv k q = k q := by
 unfold zfv
 rw [show q / 16 = 0 from by omega, show q % 16 = q from by omega]
 rfl
theorem zhj (k : Nat → Int) (hk : ∀ i, i < 16 → 0 ≤ k i ∧ k i < 256) (q : Nat) : 0 ≤ zfv k q ∧ zfv k q < 256 := zm9 k hk _ _ (by omega)
def zhk (k : Nat → Int) (i : Nat) : Nat → Int
 | 0 => bits .xor .u8 (zbK (zfv k (4 * (i - 1) + 1)).toNat) (zkm ((i - 1) / 4))
 | 1 => zbK (zfv k (4 * (i - 1) + 2)).toNat
 | 2 => zbK (zfv k (4 * (i - 1) + 3)).toNat
 | _ => zbK (zfv k (4 * (i - 1))).toNat
theorem zrq (k : Nat → Int) (i n : Nat) (h4 : 4 ≤ i) (hi : i % 4 = 0) (hn : n < 4) : bits .xor .u8 (zfv k (4 * (i - 4) + n)) (zhk k i n) = zfv k (4 * i + n) := by
 obtain ⟨j, rfl⟩ : ∃ j, i = 4 * (j + 1) := ⟨i / 4 - 1, by omega⟩
 have e1 : zfv k (4 * (4 * (j + 1) - 4) + n) = ze1 k j n := by
  unfold zfv; rw [show (4 * (4 * (j + 1) - 4) + n) / 16 = j from by omega, show (4 * (4 * (j + 1) - 4) + n) % 16 = n from by omega]
 have e2 : zfv k (4 * (4 * (j + 1)) + n) = zcE (ze1 k j) (zkm j) n := by
  unfold zfv; rw [show (4 * (4 * (j + 1)) + n) / 16 = j + 1 from by omega, show (4 * (4 * (j + 1)) + n) % 16 = n from by omega]; rfl
 have e3 : ∀ m, m < 4 → zfv k (4 * (4 * (j + 1) - 1) + m) = ze1 k j (12 + m) := fun m hm => by
  unfold zfv; rw [show (4 * (4 * (j + 1) - 1) + m) / 16 = j from by omega, show (4 * (4 * (j + 1) - 1) + m) % 16 = 12 + m from by omega]
 have e0 := e3 0 (by omega)
 rw [Nat.add_zero, Nat.add_zero] at e0
 rw [e1, e2]
 have h : n = 0 ∨ n = 1 ∨ n = 2 ∨ n = 3 := by omega
 rcases h with rfl | rfl | rfl | rfl
 ·unfold zhk zcE; rw [e3 1 (by omega), show (4 * (j + 1) - 1) / 4 = j from by omega, zx3 (zkm j)]; rfl
 ·unfold zhk zcE; rw [e3 2 (by omega)]; rfl
 ·unfold zhk zcE; rw [e3 3 (by omega)]; rfl
 ·unfold zhk zcE; rw [e0]; rfl
theorem zrr (k : Nat → Int) (i n : Nat) (h4 : 4 ≤ i) (hi : i % 4 ≠ 0) (hn : n < 4) : bits .xor .u8 (zfv k (4 * (i - 4) + n)) (zfv k (4 * (i - 1) + n)) = zfv k (4 * i + n) := by
 obtain ⟨j, c, rfl, hc0, hc⟩ : ∃ j c, i = 4 * (j + 1) + c ∧ 0 < c ∧ c < 4 := ⟨i / 4 - 1, i % 4, by omega, by omega, by omega⟩
 unfold zfv
 rw [show (4 * (4 * (j + 1) + c - 4) + n) / 16 = j from by omega, show (4 * (4 * (j + 1) + c - 4) + n) % 16 = 4 * c + n from by omega]
 rw [show (4 * (4 * (j + 1) + c - 1) + n) / 16 = j + 1 from by omega, show (4 * (4 * (j + 1) + c - 1) + n) % 16 = 4 * c + n - 4 from by omega]
 rw [show (4 * (4 * (j + 1) + c) + n) / 16 = j + 1 from by omega, show (4 * (4 * (j + 1) + c) + n) % 16 = 4 * c + n from by omega]
 exact (zhV (ze1 k j) (zkm j) (4 * c + n) (by omega)).symm
theorem zqr (k : Nat → Int) (i : Nat) (h4 : 4 ≤ i) : (i % 4 = 0 → zdT (zkm ((i - 1) / 4)) = zkm ((i + 1 - 1) / 4)) ∧ (i % 4 ≠ 0 → zkm ((i - 1) / 4) = zkm ((i + 1 - 1) / 4)) := by
 constructor
 ·intro h
  rw [show (i + 1 - 1) / 4 = (i - 1) / 4 + 1 from by omega]
  rfl
 ·intro h
  rw [show (i + 1 - 1) / 4 = (i - 1) / 4 from by omega]
theorem zzs : zeT Tryz.prog 173 176 := ⟨_, Tryz.underlying173, rfl, by kernel_rfl⟩
theorem zzt : zcy Tryz.prog 173 .u8 176 := by unfold zcy; kernel_rfl
theorem znT (g : Nat → Int) : Tryz.prog.built 161 [(0, .int .u8 (g 0)), (1, .int .u8 (g 1)), (2, .int .u8 (g 2)), (3, .int .u8 (g 3))] = some (arr .u8 4 g) := by kernel_rfl
theorem zrs (g : Nat → Int) (m i : Nat) (c : Nat → Int) (hc : ∀ r, r < 4 → c r = g (4 * m + r)) : zcU (fun i => if i < 4 * m then g i else 0) (m * 4) 4 c i = if i < 4 * (m + 1) then g i else 0 := by
 unfold zcU
 by_cases h : m * 4 ≤ i ∧ i < m * 4 + 4
 ·rw [if_pos h, if_pos (by omega), hc _ (by omega), show 4 * m + (i - m * 4) = i from by omega]
 ·rw [if_neg h]
  by_cases h2 : i < 4 * m
  ·rw [if_pos (show i < 4 * (m + 1) by omega)]; exact if_pos h2
  ·rw [if_neg (show ¬ i < 4 * (m + 1) by omega)]; exact if_neg h2
theorem zo1 (k : Nat → Int) (hk : ∀ i, i < 16 → 0 ≤ k i ∧ k i < 256) (w : World) :
  Calls Tryz.prog 122 #[.agg (arr .u8 16 k)] w fun e w' => e = .returned (.agg (arr .u8 176 fun i => ze1 k (i / 16) (i % 16))) ∧ Below w.heap.size w w' := by
 go_enter Tryz.func122, Tryz.ntmps122
 obtain ⟨h0, h1, h2, hsz, hb⟩ := zdb w (.cells (arr .u8 16 k) 49) (.cells (arr .u8 176 fun _ => 0) 120) (.cells (arr .u8 176 fun _ => 0) 173)
 go_wp2_with (first | (refine zae rfl rfl zsz ?_) | (refine zae rfl rfl zzt ?_))
 go_loopg [14] 4 (fun n i wr => ∃ m : Nat, m + n = 4 ∧ i = .int .i64 m ∧ wr.heap[w.heap.size]? = some (.cells (arr .u8 16 k) 49 (0, 0)) ∧
  wr.heap[w.heap.size + 1]? = some (.cells (arr .u8 176 fun _ => 0) 120 (0, 0)) ∧ wr.heap[w.heap.size + 1 + 1]? = some (.cells (arr .u8 176 fun i => if i < 4 * m then zfv k i else 0) 173 (0, 0)) ∧ Below w.heap.size w wr)
 case atStart => exact ⟨0, rfl, rfl, h0, h1, zaf h2 (fun i _ => (if_neg (by omega)).symm), hb⟩
 case round =>
  obtain ⟨m, hm, rfl, g0, g1, g2, hB⟩ := hrel
  have hm' := Lib.hid hm
  clear h0 h1 h2 hsz hb hm
  by_cases hlt : m < 4
  ·have c0 := zaj g0 (4 * m) (by omega)
   have c1 := zaj g0 (4 * m + 1) (by omega)
   have c2 := zaj g0 (4 * m + 2) (by omega)
   have c3 := zaj g0 (4 * m + 3) (by omega)
   go_wp2
   refine zax 22 (by kernel_rfl) (by kernel_rfl) ?_
   (simp only [jH, jI, jF, jG])
   iterate 20 (refine wpStill_step (fun K hK => ?_); go_simp; (try (simp only [↓IntWalk.iteOmega]; go_simp)); (try go_bits); refine hK _ ?_; clear hK K)
   refine zdE rfl (zaJ rfl (by simp [Act.eval]) (znT (fun i => k (4 * m + i)))) ?_
   (try simp only [Act.put, jA, jB, jC])
   iterate 1 (refine wpStill_step (fun K hK => ?_); go_simp; (try (simp only [↓IntWalk.iteOmega]; go_simp)); (try go_bits); refine hK _ ?_; clear hK K)
   refine wpStill_nil ?_
   refine zcm (f' := fun i => k (4 * m + i)) rfl rfl rfl rfl zig (w := wr.drew) g2 (by omega) ?_
   have e2 := zaf (f' := fun i => if i < 4 * (m + 1) then zfv k i else 0) (zan (w := wr.drew) (c' := arr .u8 176 (zcU (fun i => if i < 4 * m then zfv k i else 0) (m * 4) 4 fun i => k (4 * m + i))) g2) (fun i _ => zrs (zfv k) m i (fun i => k (4 * m + i)) (fun r hr => (zrp k _ (by omega)).symm))
   go_wp2
   go_roundg (gk - 1)
   case measure => have := hm'.out; omega
   case rel =>
    have hm'' := hm'.out
    exact ⟨m + 1, by omega, by go_num, zad (w := wr.drew) g0 (by omega), zad (w := wr.drew) g1 (by omega), e2, zam hB.drew (by omega) _⟩
  ·obtain rfl : m = 4 := by have := hm'.out; omega
   clear hm' hlt
   go_wp2
   try rw [show ((4 : Nat) : Int) = 4 from rfl]
   go_loopg [5, 6] 40 (fun n r x wr => ∃ i : Nat, 4 ≤ i ∧ i + n = 44 ∧ r = .int .u8 (zkm ((i - 1) / 4)) ∧ x = .int .i64 i ∧ wr.heap[w.heap.size]? = some (.cells (arr .u8 16 k) 49 (0, 0)) ∧
    wr.heap[w.heap.size + 1]? = some (.cells (arr .u8 176 fun _ => 0) 120 (0, 0)) ∧ wr.heap[w.heap.size + 1 + 1]? = some (.cells (arr .u8 176 fun q => if q < 4 * i then zfv k q else 0) 173 (0, 0)) ∧ Below w.heap.size w wr)
   case atStart => exact ⟨4, by omega, rfl, rfl, rfl, g0, g1, g2, hB⟩
   case round =>
    clear g0 g1 g2 hB
    obtain ⟨i, h4, hi, rfl, rfl, g0, g1, g2, hB⟩ := hrel
    obtain ⟨go1, rfl⟩ : ∃ x, x = gk := ⟨_, rfl⟩
    have hi' := Lib.hid hi
    clear hi
    by_cases hlt : i < 44
    ·go_upto_region 12 with (first | (refine zay rfl rfl rfl rfl zvi zig rfl rfl ?_; intro w5 q3 hb5 hs5) | (refine zbx (off := (i - 1) * 4) (fun n => zfv k (4 * (i - 1) + n)) rfl rfl rfl zig g2 (by omega) (fun n hn => by rw [if_pos (by omega), show (i - 1) * 4 + n = 4 * (i - 1) + n from by omega]) ?_))
     have q0 := zaa hb5 (jM g0) g0
     have q1 := zaa hb5 (jM g1) g1
     have q2 := zaa hb5 (jM g2) g2
     have hBq := hB.trans (hb5.mono hB.size)
     have hl0 := jM g0
     have hl1 := jM g1
     have hl2 := jM g2
     have hlB := jM q3
     clear hb5 hs5 g0 g1 g2 hB
     generalize wr.heap.size = B at *
     (try simp only [Act.put, jA, jB, jC])
     by_cases hc : i % 4 = 0
     ·go_upto_region 13 with (fail)
      (try simp only [Act.put, jA, jB, jC])
      rw [show decide ((i : Int) < 44) = true from decide_eq_true (by omega), show ((i : Int) % 4 == 0) = true from beq_iff_eq.2 (by omega)]
      have c0 := zaj q3 0 (by omega)
      have c1 := zaj q3 1 (by omega)
      have c2 := zaj q3 2 (by omega)
      have c3 := zaj q3 3 (by omega)
      rw [Nat.add_zero] at c0
      have k0 := zhj k hk (4 * (i - 1))
      have k1 := zhj k hk (4 * (i - 1) + 1)
      have k2 := zhj k hk (4 * (i - 1) + 2)
      have k3 := zhj k hk (4 * (i - 1) + 3)
      refine wp_region_can w5.heap.size 15 [(0, false), (1, false), (3, false), (5, false), (6, false), (8, false), (9, false), (11, false), (12, false), (2, true), (4, false), (7, true), (10, true), (13, true), (14, false)] (by kernel_rfl) (by kernel_rfl) ?_
      (simp only [canOps, jD, jE, jF, jG])
      iterate 9 (first | (refine zaA rfl rfl (fun _ _ _ _ h => h) ?_; (simp only [Act.put, Act.eval, jN, jL, jD, jE, jO, jA, jB, jC])) | (refine zas rfl rfl (fun _ _ _ _ h => h) ?_; (simp only [Act.put, Act.eval, jN, jL, jD, jE, jO, jA, jB, jC])) | (refine zao rfl rfl rfl (fun _ _ _ _ h => h) ?_; (simp only [Act.put, jA, jB, jC])) | (refine za3 rfl rfl (fun _ _ _ _ h => h) (by first | exact .bin rfl rfl rfl | exact .indexAddr rfl | exact .un rfl | exact .extract rfl | exact .index rfl | exact .field rfl | exact .slice rfl | exact .load rfl rfl hlB q3) (fun K hK => ?_); go_simp; (try (simp only [↓IntWalk.iteOmega]; go_simp)); (try go_bits); refine hK _ ?_; clear hK K))
      refine wpCan_e rfl (fun K hK => ?_)
      go_simp
      refine (ze6 _ k1.1 k1.2 _).mono ?_
      rintro e w6 ⟨rfl, b6⟩
      refine hK _ _ (Keep.of_below b6 (jV _)) ?_
      clear hK K
      (try simp only [Act.put, jA, jB, jC])
      (first | (refine zaA rfl rfl (fun _ _ _ _ h => h) ?_; (simp only [Act.put, Act.eval, jN, jL, jD, jE, jO, jA, jB, jC])) | (refine zas rfl rfl (fun _ _ _ _ h => h) ?_; (simp only [Act.put, Act.eval, jN, jL, jD, jE, jO, jA, jB, jC])) | (refine zao rfl rfl rfl (fun _ _ _ _ h => h) ?_; (simp only [Act.put, jA, jB, jC])) | (refine za3 rfl rfl (fun _ _ _ _ h => h) (by first | exact .bin rfl rfl rfl | exact .indexAddr rfl | exact .un rfl | exact .extract rfl | exact .index rfl | exact .field rfl | exact .slice rfl) (fun K hK => ?_); go_simp; (try (simp only [↓IntWalk.iteOmega]; go_simp)); (try go_bits); refine hK _ ?_; clear hK K))
      refine wpCan_e rfl (fun K hK => ?_)
      go_simp
      refine (ze6 _ k2.1 k2.2 _).mono ?_
      rintro e w7 ⟨rfl, b7⟩
      refine hK _ _ (Keep.of_below b7 b6.size) ?_
      clear hK K
      (try simp only [Act.put, jA, jB, jC])
      refine wpCan_e rfl (fun K hK => ?_)
      go_simp
      refine (ze6 _ k3.1 k3.2 _).mono ?_
      rintro e w8 ⟨rfl, b8w⟩
      refine hK _ _ (Keep.of_below b8w (jU b6.size b7.size)) ?_
      clear hK K
      (try simp only [Act.put, jA, jB, jC])
      refine wpCan_e rfl (fun K hK => ?_)
      go_simp
      refine (ze6 _ k0.1 k0.2 _).mono ?_
      rintro e w9 ⟨rfl, b9⟩
      refine hK _ _ (Keep.of_below b9 (jU b6.size (jU b7.size b8w.size))) ?_
      clear hK K
      (try simp only [Act.put, jA, jB, jC])
      refine zcz rfl (fun _ _ _ _ h => h) (fun w' => zaJ rfl (by simp [Act.eval, zhk]) (znT (zhk k i))) ?_
      (try simp only [Act.put, jA, jB, jC])
      refine wpCan_nil ?_
      have b10 := b6.trans (b7.mono b6.size)
      have b11 := b10.trans (b8w.mono b10.size)
      have b12 := b11.trans (b9.mono b11.size)
      have e3 := zaa (w := w5.drew) b12 hlB q3
      have l0 := jM q0
      have l1 := jM q1
      have l2 := jM q2
      have e0 := zad (w := w9) (c' := arr .u8 4 (zhk k i)) (g := B) (zaa (w := w5.drew) b12 l0 q0) (by omega)
      have e1 := zad (w := w9) (c' := arr .u8 4 (zhk k i)) (g := B) (zaa (w := w5.drew) b12 l1 q1) (by omega)
      have e2 := zad (w := w9) (c' := arr .u8 4 (zhk k i)) (g := B) (zaa (w := w5.drew) b12 l2 q2) (by omega)
      have e4 := zan (w := w9) (c' := arr .u8 4 (zhk k i)) e3
      have hBe := zam (hBq.drew.trans (b12.mono hBq.size)) (g := B) (by omega) (arr .u8 4 (zhk k i))
      clear c0 c1 c2 c3 k0 k1 k2 k3 b6 b7 b8w b9 b10 b11 b12 q0 q1 q2 q3 hBq hlB l0 l1 l2
      have ab := zm8 ((i - 1) / 4)
      refine zac rfl rfl rfl rfl zig e3 ?_
      clear e3
      generalize w9.setRow B (arr .u8 4 (zhk k i)) = wr at *
      have q0 := e0
      have q1 := e1
      have q2 := e2
      have q3 := e4
      have hBq := hBe
      clear e0 e1 e2 e4 hBe
      go_wp2_with (go_at_call 134; (with_reducible refine (zzr _ (by omega) (by omega) _).mono ?_); rintro e w' ⟨rfl, rfl⟩)
      go_loopg [68] 4 (fun n x wr => ∃ m : Nat, m + n = 4 ∧ x = .int .i64 m ∧ wr.heap[w.heap.size]? = some (.cells (arr .u8 16 k) 49 (0, 0)) ∧
       wr.heap[w.heap.size + 1]? = some (.cells (arr .u8 176 fun _ => 0) 120 (0, 0)) ∧ wr.heap[w.heap.size + 1 + 1]? = some (.cells (arr .u8 176 fun q => if q < 4 * i + m then zfv k q else 0) 173 (0, 0)) ∧
       wr.heap[B]? = some (.cells (arr .u8 4 (zhk k i)) 161 (0, 0)) ∧ Below w.heap.size w wr)
      case atStart => exact ⟨0, rfl, rfl, q0, q1, q2, q3, hBq⟩
      case round =>
       clear q0 q1 q2 q3 hBq
       obtain ⟨m, hm, rfl, q0, q1, q2, q3, hBq⟩ := hrel
       have hm' := Lib.hid hm
       clear hm
       by_cases hlm : m < 4
       ·have c1 := zaj q2 ((i - 4) * 4 + m) (by omega)
        have c2 := zaj q3 m hlm
        have c3 := zaj q2 (i * 4 + m) (by omega)
        have fz := zaH q2 (i * 4 + m)
        simp only [if_pos (show (i - 4) * 4 + m < 4 * i + m from by omega)] at c1
        simp only [if_neg (show ¬ i * 4 + m < 4 * i + m from by omega)] at c3
        go_wp2
        refine zax 14 (by kernel_rfl) (by kernel_rfl) ?_
        (simp only [jH, jI, jF, jG])
        repeat (refine wpStill_step (fun K hK => ?_); go_simp; (try (simp only [↓IntWalk.iteOmega]; go_simp)); (try go_bits); refine hK _ ?_; clear hK K)
        refine wpStill_nil ?_
        go_wp2
        go_roundg (gk - 1)
        case measure => have := hm'.out; omega
        case rel =>
         have hm'' := hm'.out
         refine ⟨m + 1, by omega, by go_num, zar q0 _ _ (by omega), zar q1 _ _ (by omega), zaf (zaL q2 _ _) (fun q _ => ?_), zar q3 _ _ (by omega), (hBq.setCell (by show w.heap.size ≤ w.heap.size + 1 + 1; omega) _).drew⟩
         have e := zdH (zfv k) (4 * i + m) q
         rw [← zrq k i m h4 hc hlm] at e
         rw [show (i - 4) * 4 + m = 4 * (i - 4) + m from by omega, show i * 4 + m = 4 * i + m from by omega]
         exact e
       ·obtain rfl : m = 4 := by have := hm'.out; omega
        go_wp2
        go_roundg (go1 - 1)
        case measure => have := hi'.out; omega
        case rel =>
         have hi'' := hi'.out
         refine ⟨i + 1, by omega, by omega, ?_, by go_num, q0, q1, zaf q2 (fun q _ => by rw [show 4 * (i + 1) = 4 * i + 4 from by omega]), hBq⟩
         rw [(zqr k i h4).1 hc]
     ·go_upto_region 15 with (fail)
      (try simp only [Act.put, jA, jB, jC])
      rw [show decide ((i : Int) < 44) = true from decide_eq_true (by omega), show ((i : Int) % 4 == 0) = false from by rw [beq_eq_false_iff_ne]; omega]
      generalize w5 = wr at *
      go_wp2
      go_loopg [68] 4 (fun n x wr => ∃ m : Nat, m + n = 4 ∧ x = .int .i64 m ∧ wr.heap[w.heap.size]? = some (.cells (arr .u8 16 k) 49 (0, 0)) ∧
       wr.heap[w.heap.size + 1]? = some (.cells (arr .u8 176 fun _ => 0) 120 (0, 0)) ∧ wr.heap[w.heap.size + 1 + 1]? = some (.cells (arr .u8 176 fun q => if q < 4 * i + m then zfv k q else 0) 173 (0, 0)) ∧
       wr.heap[B]? = some (.cells (arr .u8 4 (fun n => zfv k (4 * (i - 1) + n))) 161 (0, 0)) ∧ Below w.heap.size w wr)
      case atStart => exact ⟨0, rfl, rfl, q0, q1, q2, q3, hBq⟩
      case round =>
       clear q0 q1 q2 q3 hBq
       obtain ⟨m, hm, rfl, q0, q1, q2, q3, hBq⟩ := hrel
       have hm' := Lib.hid hm
       clear hm
       by_cases hlm : m < 4
       ·have c1 := zaj q2 ((i - 4) * 4 + m) (by omega)
        have c2 := zaj q3 m hlm
        have c3 := zaj q2 (i * 4 + m) (by omega)
        have fz := zaH q2 (i * 4 + m)
        simp only [if_pos (show (i - 4) * 4 + m < 4 * i + m from by omega)] at c1
        simp only [if_neg (show ¬ i * 4 + m < 4 * i + m from by omega)] at c3
        go_wp2
        refine zax 14 (by kernel_rfl) (by kernel_rfl) ?_
        (simp only [jH, jI, jF, jG])
        repeat (refine wpStill_step (fun K hK => ?_); go_simp; (try (simp only [↓IntWalk.iteOmega]; go_simp)); (try go_bits); refine hK _ ?_; clear hK K)
        refine wpStill_nil ?_
        go_wp2
        go_roundg (gk - 1)
        case measure => have := hm'.out; omega
        case rel =>
         have hm'' := hm'.out
         refine ⟨m + 1, by omega, by go_num, zar q0 _ _ (by omega), zar q1 _ _ (by omega), zaf (zaL q2 _ _) (fun q _ => ?_), zar q3 _ _ (by omega), (hBq.setCell (by show w.heap.size ≤ w.heap.size + 1 + 1; omega) _).drew⟩
         have e := zdH (zfv k) (4 * i + m) q
         rw [← zrr k i m h4 hc hlm] at e
         rw [show (i - 4) * 4 + m = 4 * (i - 4) + m from by omega, show i * 4 + m = 4 * i + m from by omega]
         exact e
       ·obtain rfl : m = 4 := by have := hm'.out; omega
        go_wp2
        go_roundg (go1 - 1)
        case measure => have := hi'.out; omega
        case rel =>
         have hi'' := hi'.out
         refine ⟨i + 1, by omega, by omega, ?_, by go_num, q0, q1, zaf q2 (fun q _ => by rw [show 4 * (i + 1) = 4 * i + 4 from by omega]), hBq⟩
         rw [(zqr k i h4).2 hc]
    ·obtain rfl : i = 44 := by have := hi'.out; omega
     clear hi' hlt h4
     have p2 := zaf (f' := zfv k) g2 (fun q hq => if_pos (by omega))
     clear g2
     go_upto_region 21 with (refine zae rfl rfl zsz ?_)
     have bl := (zb6 wr (.cells (arr .u8 176 fun _ => 0) 120)).2.2
     have q3 := heap_alloc_new wr (.cells (arr .u8 176 fun _ => 0) 120)
     have q1 := zaa bl (jM g1) g1
     have q2 := zaa bl (jM p2) p2
     have hBq := hB.trans (bl.mono hB.size)
     have hl1 := jM g1
     have hl2 := jM p2
     clear bl g0 g1 p2 hB
     generalize wr.alloc (.cells (arr .u8 176 fun _ => 0) 120) = w4 at *
     generalize wr.heap.size = B at *
     (try simp only [Act.put, jA, jB, jC])
     try rw [show ((44 : Nat) : Int) = 44 from rfl]
     go_wp2_with (refine zab rfl rfl rfl zzs q2 ?_)
     go_loopg [87] 44 (fun n x wr => ∃ i : Nat, i + n = 44 ∧ x = .int .i64 i ∧
      wr.heap[w.heap.size + 1]? = some (.cells (arr .u8 176 fun _ => 0) 120 (0, 0)) ∧ wr.heap[B]? = some (.cells (arr .u8 176 fun q => if q < 4 * i then zfv k q else 0) 120 (0, 0)) ∧ Below w.heap.size w wr)
     case atStart => exact ⟨0, rfl, rfl, q1, zaf q3 (fun q _ => (if_neg (by omega)).symm), hBq⟩
     case round =>
      clear q1 q2 q3 hBq
      obtain ⟨i, hi, rfl, g1, g3, hB⟩ := hrel
      obtain ⟨go2, rfl⟩ : ∃ x, x = gk := ⟨_, rfl⟩
      have hi' := Lib.hid hi
      clear hi
      by_cases hlt : i < 44
      ·go_upto_region 24 with (first | (refine zfB rfl rfl Tryz.underlying173 zig rfl rfl (by omega) (by omega) (by omega) (fun n => zfv k (4 * i + n)) (fun n hn => by congr 1; omega) ?_) | (refine zae rfl rfl zvi ?_) | (refine zac rfl rfl rfl rfl zig (heap_alloc_new _ _) ?_))
       obtain ⟨q4, bl, hs4⟩ := zd5 wr 161 4 .u8 (fun n => zfv k (4 * i + n))
       have q1 := zaa bl (jM g1) g1
       have q3 := zaa bl (jM g3) g3
       have hBq := hB.trans (bl.mono hB.size)
       have hl3 := jM g3
       clear bl g1 g3 hB hs4
       generalize (wr.alloc (.cells (arr .u8 4 fun _ => 0) 161)).setRow wr.heap.size (arr .u8 4 (fun n => zfv k (4 * i + n))) = w5 at *
       generalize wr.heap.size = B4 at *
       (try simp only [Act.put, jA, jB, jC])
       try rw [show decide ((i : Int) < 44) = true from decide_eq_true (by omega)]
       go_wp2_with (refine zab rfl rfl rfl zig q4 ?_)
       go_loopg [92] 4 (fun n x wr => ∃ m : Nat, m + n = 4 ∧ x = .int .i64 m ∧
        wr.heap[w.heap.size + 1]? = some (.cells (arr .u8 176 fun _ => 0) 120 (0, 0)) ∧ wr.heap[B]? = some (.cells (arr .u8 176 fun q => if q < 4 * i + m then zfv k q else 0) 120 (0, 0)) ∧ Below w.heap.size w wr)
       case atStart => exact ⟨0, rfl, rfl, q1, q3, hBq⟩
       case round =>
        clear q1 q3 q4 hBq
        obtain ⟨m, hm, rfl, q1, q3, hBq⟩ := hrel
        have hm' := Lib.hid hm
        clear hm
        by_cases hlm : m < 4
        ·have c3 := zaj q3 (i / 4 * 16 + (4 * (i % 4) + m)) (by omega)
         have fz := zaH q3 (i / 4 * 16 + (4 * (i % 4) + m))
         simp only [if_neg (show ¬ i / 4 * 16 + (4 * (i % 4) + m) < 4 * i + m from by omega)] at c3
         go_wp2_with (refine zaR rfl rfl Tryz.underlying161 Tryz.underlying5 rfl zhW rfl rfl (by omega) (by omega) (by omega) ?_)
         go_roundg (gk - 1)
         case measure => have := hm'.out; omega
         case rel =>
          have hm'' := hm'.out
          refine ⟨m + 1, by omega, by go_num, zar q1 _ _ (by omega), zaf (zaL q3 _ _) (fun q _ => ?_), hBq.setCell (by show w.heap.size ≤ B; omega) _⟩
          have e := zdH (zfv k) (4 * i + m) q
          rw [show i / 4 * 16 + (4 * (i % 4) + m) = 4 * i + m from by omega]
          exact e
        ·obtain rfl : m = 4 := by have := hm'.out; omega
         go_wp2
         go_roundg (go2 - 1)
         case measure => have := hi'.out; omega
         case rel =>
          have hi'' := hi'.out
          exact ⟨i + 1, by omega, by go_num, q1, zaf q3 (fun q _ => by rw [show 4 * (i + 1) = 4 * i + 4 from by omega]), hBq⟩
      ·obtain rfl : i = 44 := by have := hi'.out; omega
       have p3 := zaf (f' := zfv k) g3 (fun q hq => if_pos (by omega))
       go_wp2_with (first | (refine zab rfl rfl rfl zpA p3 ?_) | (refine zac rfl rfl rfl rfl zpA g1 ?_))
       exact bodyPost_ret (zaw rfl rfl zpA (zan g1)) rfl ⟨rfl, zam hB (by omega) _⟩
end
section
open Go.RowKit
attribute [local irreducible] zbK zgC
theorem zua (s : Nat → Int) (hs : ∀ i, i < 16 → 0 ≤ s i ∧ s i < 256) (q : Nat) (hq : q < 16) : zgK (zcv s) q = zet s false q := by
 unfold zgK
 rw [zzq (zmI s (q / 4)) (zcv s) (q / 4) (fun i hi => znc s hs _ _ hi) (fun i hi => by unfold zcv; rw [show (4 * (q / 4) + i) / 4 = q / 4 from by omega, show (4 * (q / 4) + i) % 4 = i from by omega]) (q % 4) (by omega)]
 unfold zet
 rw [if_neg Bool.false_ne_true]
theorem zo2 (s : Nat → Int) (hs : ∀ i, i < 16 → 0 ≤ s i ∧ s i < 256) (q : Nat) : 0 ≤ zcv s q ∧ zcv s q < 256 := znc s hs _ _ (by omega)
theorem znU (k s : Nat → Int) (j : Nat) : zi8 k s (j + 1) = zj3 (zet (zi8 k s j) (decide (j + 1 = 10))) (ze1 k (j + 1)) := rfl
theorem zwc (k s : Nat → Int) (j i : Nat) (hj : j + 1 < 10) (hi : i < 16) : zj3 (zgK (zcv (zi8 k s j))) (ze1 k (j + 1)) i = zi8 k s (j + 1) i := by
 rw [znU]
 unfold zj3
 rw [zua _ (fun i _ => zg4 k s j i) i hi, show decide (j + 1 = 10) = false from decide_eq_false (by omega)]
theorem zub (k s : Nat → Int) (j i : Nat) (hj : ¬ j + 1 < 10) (hj' : j < 10) : zj3 (zcv (zi8 k s j)) (ze1 k (j + 1)) i = zi8 k s (j + 1) i := by
 rw [znU]
 unfold zj3
 rw [show decide (j + 1 = 10) = true from decide_eq_true (by omega)]
 rfl
theorem zka (k s : Nat → Int) (hk : ∀ i, i < 16 → 0 ≤ k i ∧ k i < 256) (hs : ∀ i, i < 16 → 0 ≤ s i ∧ s i < 256) (w : World) :
  Calls Tryz.prog 97 #[.agg (arr .u8 16 k), .agg (arr .u8 16 s)] w fun e w' => e = .returned (.agg (arr .u8 16 (zuH k s))) ∧ Below w.heap.size w w' := by
 go_enter Tryz.func97, Tryz.ntmps97
 obtain ⟨h0, h1, h2, hsz, hb⟩ := zdb w (.cells (arr .u8 16 k) 49) (.cells (arr .u8 16 s) 49) (.cells (arr .u8 16 fun _ => 0) 49)
 go_wp2_with (first | (refine zae rfl rfl zdI ?_) | (refine zab rfl rfl rfl zaQ h0 ?_) | (go_at_call 122; fail))
 refine (zo1 k hk _).mono ?_
 rintro e w1 ⟨rfl, b1⟩
 have g1 := zaa b1 (by omega) h1
 have g2 := zaa b1 (by omega) h2
 have hB1 := hb.trans (b1.mono (by omega))
 clear h0 h1 h2 hsz hb b1
 go_upto_region 2 with (refine zay rfl rfl rfl rfl zsz zpA rfl rfl ?_; intro w2 g3 b2 hs2)
 have f1 := zaa b2 (jM g1) g1
 have f2 := zaa b2 (jM g2) g2
 have hB2 := hB1.trans (b2.mono hB1.size)
 have l2 := jM g2
 clear g1 g2 b2 hs2 hB1
 generalize w1.heap.size = BK at *
 (try simp only [Act.put, jA, jB, jC])
 go_wp2_with (first | (refine zab rfl rfl rfl zaQ f1 ?_) | (refine zbx (off := 0 * 16) (ze1 k 0) rfl rfl rfl zaQ g3 (by omega) (fun i hi => zou k 0 i hi) ?_) | (go_at_call 123; fail))
 refine (zhL _ _ _).mono ?_
 rintro e w3 ⟨rfl, b3⟩
 have m2 := zaa b3 (jM f2) f2
 have m3 := zaa b3 (jM g3) g3
 have hB3 := hB2.trans (b3.mono hB2.size)
 have l3 := jM m3
 clear f1 f2 g3 b3 hB2
 go_upto_region 3 with (refine zay rfl rfl rfl rfl zdI zaQ rfl rfl ?_; intro w4 m4 b4 hs4)
 have q2 := zaa b4 (jM m2) m2
 have q3 := zaa b4 l3 m3
 have hB4 := hB3.trans (b4.mono hB3.size)
 clear m2 m3 b4 hs4 hB3
 generalize w3.heap.size = BX at *
 (try simp only [Act.put, jA, jB, jC])
 go_wp2
 go_loopg [7] 10 (fun n i wr => ∃ j : Nat, j + n = 10 ∧ i = .int .i64 ((j : Int) + 1) ∧ wr.heap[w.heap.size + 1 + 1]? = some (.cells (arr .u8 16 fun _ => 0) 49 (0, 0)) ∧
   wr.heap[BK]? = some (.cells (arr .u8 176 fun i => ze1 k (i / 16) (i % 16)) 120 (0, 0)) ∧ wr.heap[BX]? = some (.cells (arr .u8 16 (zi8 k s j)) 49 (0, 0)) ∧ Below w.heap.size w wr)
 case atStart => exact ⟨0, rfl, rfl, q2, q3, m4, hB4⟩
 case round =>
  clear q2 q3 m4 hB4
  obtain ⟨j, hj, rfl, g2, g3, g4, hB⟩ := hrel
  have hj' := Lib.hid hj
  clear hj
  by_cases hlt : j < 10
  ·go_upto_region 7 with (first | (refine zab rfl rfl rfl zaQ g4 ?_) | (go_at_call 124; refine (zro _ (fun i _ => zg4 k s j i) _).mono ?_; rintro e w5 ⟨rfl, b5⟩; have e4 := zaa b5 (jM g4) g4) | (refine zac rfl rfl rfl rfl zaQ e4 ?_))
   have q2 := zad (w := w5) (c' := arr .u8 16 (zcv (zi8 k s j))) (g := BX) (zaa b5 (jM g2) g2) (by omega)
   have q3 := zad (w := w5) (c' := arr .u8 16 (zcv (zi8 k s j))) (g := BX) (zaa b5 (jM g3) g3) (by omega)
   have q4 := zan (w := w5) (c' := arr .u8 16 (zcv (zi8 k s j))) e4
   have hBq := zam (hB.trans (b5.mono hB.size)) (g := BX) (by omega) (arr .u8 16 (zcv (zi8 k s j)))
   clear e4 b5 g2 g3 g4 hB
   generalize w5.setRow BX (arr .u8 16 (zcv (zi8 k s j))) = wz at *
   (try simp only [Act.put, jA, jB, jC])
   by_cases hc : j + 1 < 10
   ·go_upto_region 9 with (first | (refine zab rfl rfl rfl zaQ q4 ?_) | (go_at_call 125; refine (zt9 _ (fun i _ => zo2 _ (fun i _ => zg4 k s j i) i) _).mono ?_; rintro e w6 ⟨rfl, b6⟩; have e4 := zaa b6 (jM q4) q4) | (refine zac rfl rfl rfl rfl zaQ e4 ?_))
    have e2 := zad (w := w6) (c' := arr .u8 16 (zgK (zcv (zi8 k s j)))) (g := BX) (zaa b6 (jM q2) q2) (by omega)
    have e3 := zad (w := w6) (c' := arr .u8 16 (zgK (zcv (zi8 k s j)))) (g := BX) (zaa b6 (jM q3) q3) (by omega)
    have e5 := zan (w := w6) (c' := arr .u8 16 (zgK (zcv (zi8 k s j)))) e4
    have hBe := zam (hBq.trans (b6.mono hBq.size)) (g := BX) (by omega) (arr .u8 16 (zgK (zcv (zi8 k s j))))
    clear e4 b6 q2 q3 q4 hBq
    generalize w6.setRow BX (arr .u8 16 (zgK (zcv (zi8 k s j)))) = wz at *
    have q2 := e2
    have q3 := e3
    have q4 := e5
    have hBq := hBe
    clear e2 e3 e5 hBe
    (try simp only [Act.put, jA, jB, jC])
    refine wp_region_can wz.heap.size 5 [(0, false), (1, false), (2, false), (3, false), (4, true)] (by kernel_rfl) (by kernel_rfl) ?_
    (simp only [canOps, jD, jE, jF, jG])
    refine zaq rfl rfl rfl (fun _ _ _ _ h => h) zaQ (jM q4) q4 ?_
    (try simp only [Act.put, jA, jB, jC])
    iterate 2 (first | (refine zaA rfl rfl (fun _ _ _ _ h => h) ?_; (simp only [Act.put, Act.eval, jN, jL, jD, jE, jO, jA, jB, jC])) | (refine zas rfl rfl (fun _ _ _ _ h => h) ?_; (simp only [Act.put, Act.eval, jN, jL, jD, jE, jO, jA, jB, jC])) | (refine zao rfl rfl rfl (fun _ _ _ _ h => h) ?_; (simp only [Act.put, jA, jB, jC])) | (refine za3 rfl rfl (fun _ _ _ _ h => h) (by first | exact .bin rfl rfl rfl | exact .indexAddr rfl | exact .un rfl | exact .extract rfl | exact .index rfl | exact .field rfl | exact .slice rfl) (fun K hK => ?_); go_simp; (try (simp only [↓IntWalk.iteOmega]; go_simp)); (try go_bits); refine hK _ ?_; clear hK K))
    refine zcg (off := (j + 1) * 16) (ze1 k (j + 1)) rfl rfl rfl (fun _ _ _ _ h => h) zaQ (jM q3) q3 (by omega) (fun i hi => zou k (j + 1) i hi) ?_
    (try simp only [Act.put, jA, jB, jC])
    refine wpCan_e rfl (fun K hK => ?_)
    go_simp
    refine (zhL _ _ _).mono ?_
    rintro e w9 ⟨rfl, b9⟩
    refine hK _ _ (Keep.of_below b9 (jV _)) ?_
    clear hK K
    (try simp only [Act.put, jA, jB, jC])
    refine wpCan_nil ?_
    have e2 := zaa (w := wz.drew) b9 (jM q2) q2
    have e3 := zaa (w := wz.drew) b9 (jM q3) q3
    have e4 := zaa (w := wz.drew) b9 (jM q4) q4
    have hBe := hBq.drew.trans (b9.mono hBq.size)
    clear q2 q3 q4 hBq b9
    go_wp2_with (refine zac rfl rfl rfl rfl zaQ e4 ?_)
    go_roundg (gk - 1)
    case measure => have := hj'.out; omega
    case rel =>
     have hj'' := hj'.out
     refine ⟨j + 1, by omega, by go_num, zad e2 (by omega), zad e3 (by omega), zaf (zan e4) (fun i hi => ?_), zam hBe (by omega) _⟩
     exact zwc k s j i hc hi
   ·go_upto_region 9 with (fail)
    (try simp only [Act.put, jA, jB, jC])
    refine wp_region_can wz.heap.size 5 [(0, false), (1, false), (2, false), (3, false), (4, true)] (by kernel_rfl) (by kernel_rfl) ?_
    (simp only [canOps, jD, jE, jF, jG])
    refine zaq rfl rfl rfl (fun _ _ _ _ h => h) zaQ (jM q4) q4 ?_
    (try simp only [Act.put, jA, jB, jC])
    iterate 2 (first | (refine zaA rfl rfl (fun _ _ _ _ h => h) ?_; (simp only [Act.put, Act.eval, jN, jL, jD, jE, jO, jA, jB, jC])) | (refine zas rfl rfl (fun _ _ _ _ h => h) ?_; (simp only [Act.put, Act.eval, jN, jL, jD, jE, jO, jA, jB, jC])) | (refine zao rfl rfl rfl (fun _ _ _ _ h => h) ?_; (simp only [Act.put, jA, jB, jC])) | (refine za3 rfl rfl (fun _ _ _ _ h => h) (by first | exact .bin rfl rfl rfl | exact .indexAddr rfl | exact .un rfl | exact .extract rfl | exact .index rfl | exact .field rfl | exact .slice rfl) (fun K hK => ?_); go_simp; (try (simp only [↓IntWalk.iteOmega]; go_simp)); (try go_bits); refine hK _ ?_; clear hK K))
    refine zcg (off := (j + 1) * 16) (ze1 k (j + 1)) rfl rfl rfl (fun _ _ _ _ h => h) zaQ (jM q3) q3 (by omega) (fun i hi => zou k (j + 1) i hi) ?_
    (try simp only [Act.put, jA, jB, jC])
    refine wpCan_e rfl (fun K hK => ?_)
    go_simp
    refine (zhL _ _ _).mono ?_
    rintro e w9 ⟨rfl, b9⟩
    refine hK _ _ (Keep.of_below b9 (jV _)) ?_
    clear hK K
    (try simp only [Act.put, jA, jB, jC])
    refine wpCan_nil ?_
    have e2 := zaa (w := wz.drew) b9 (jM q2) q2
    have e3 := zaa (w := wz.drew) b9 (jM q3) q3
    have e4 := zaa (w := wz.drew) b9 (jM q4) q4
    have hBe := hBq.drew.trans (b9.mono hBq.size)
    clear q2 q3 q4 hBq b9
    go_wp2_with (refine zac rfl rfl rfl rfl zaQ e4 ?_)
    go_roundg (gk - 1)
    case measure => have := hj'.out; omega
    case rel =>
     have hj'' := hj'.out
     refine ⟨j + 1, by omega, by go_num, zad e2 (by omega), zad e3 (by omega), zaf (zan e4) (fun i hi => ?_), zam hBe (by omega) _⟩
     exact zub k s j i hc hlt
  ·obtain rfl : j = 10 := by have := hj'.out; omega
   go_wp2_with (first | (refine zab rfl rfl rfl zaQ g4 ?_) | (refine zac rfl rfl rfl rfl zaQ g2 ?_))
   exact bodyPost_ret (zaw rfl rfl zaQ (zan g2)) rfl ⟨rfl, zam hB (by omega) _⟩
end
section
open Go.RowKit
attribute [local irreducible] zbK beL beK zuH zgC
def zrt (k m : Nat → Int) (F : Nat) (l : List Nat) (y : Nat) : List Nat := (List.range y).map fun x => (zqT k m F l x).toNat
theorem zwd (k m : Nat → Int) (F : Nat) (l : List Nat) (y : Nat) : (zrt k m F l y).length = y := by unfold zrt; simp
theorem zuc (k m : Nat → Int) (F : Nat) (l : List Nat) (y : Nat) : zrt k m F l (y + 1) = zrt k m F l y ++ [(zqT k m F l y).toNat] := by unfold zrt; rw [List.range_succ, List.map_append]; rfl
theorem zwe (k m : Nat → Int) (F : Nat) (l : List Nat) : zrt k m F l l.length = zsw k m F l := rfl
theorem zzu (k m : Nat → Int) (F : Nat) (l : List Nat) (x : Nat) : zqT k m F l x = bits .xor .u8 ((l.getD x 0 : Nat) : Int) (zuH k (inI m (F + x / 16)) (x % 16)) := rfl
attribute [local irreducible] zrt zqT
theorem zzv (t i : Nat) (hi : i < 4) : (beL 4 t)[i]? = some (t / 2 ^ (8 * (3 - i)) % 256) := by
 unfold beL beK
 rw [List.getElem?_map, List.getElem?_range hi]
 rfl
theorem zwf (k m : Nat → Int) (hk : ∀ i, i < 16 → 0 ≤ k i ∧ k i < 256) (hm : ∀ i, i < 12 → 0 ≤ m i ∧ m i < 256) (F : Nat) (h3 : F < 4294967296) (A : Option Addr) (n c : Nat) (l : List Nat) (w : World) (h : Txt w w.heap.size A n c l) (hl : ∀ x ∈ l, x < 256) (h1 : n ≤ 1048576) (h2 : F + (n + 15) / 16 ≤ 4294967296) :
  Calls Tryz.prog 67 #[.agg (arr .u8 16 k), .agg (arr .u8 12 m), .int .u32 F, .slice A n c] w (zwU w (zsw k m F l)) := by
 go_enter Tryz.func67, Tryz.ntmps67
 obtain ⟨g0, g1, hz, hb⟩ := zcb w (.cells (arr .u8 16 k) 49) (.cells (arr .u8 12 m) 51)
 have H0 := Lib.hid h
 have HL := Lib.hid hl
 have HM := Lib.hid hm
 have HK := Lib.hid hk
 clear h hl hm hk
 go_upto_region 6 with (fail)
 generalize ((w.alloc (.cells (arr .u8 16 k) 49)).alloc (.cells (arr .u8 12 m) 51)) = wa at *
 (try simp only [Act.put, jA, jB, jC])
 obtain ⟨bl, hbl⟩ : ∃ bl : Nat, ((n : Int) + 15) / 16 = bl := ⟨(n + 15) / 16, by omega⟩
 simp only [hbl]
 have hb1 : F + bl ≤ 4294967296 := by omega
 have hb2 : n ≤ 16 * bl := by omega
 have hb3 : 16 * bl ≤ n + 15 := by omega
 clear h2 hbl
 go_wp2
 go_loopg [34, 11] bl (fun r i v wr => ∃ (j : Nat) (y : Nat), j + r = bl ∧ i = .int .u64 j ∧ (y = 16 * j ∨ y = n) ∧ y ≤ 16 * j ∧ y ≤ n ∧ wr.heap[w.heap.size]? = some (.cells (arr .u8 16 k) 49 (0, 0)) ∧ wr.heap[w.heap.size + 1]? = some (.cells (arr .u8 12 m) 51 (0, 0)) ∧ Own wr (w.heap.size + 2) 5 v (zrt k m F l y) ∧ Below w.heap.size w wr)
 case atStart => exact ⟨0, 0, by omega, rfl, by omega, by omega, by omega, g0, g1, by unfold zrt; exact Own.nil_, hb⟩
 case round =>
  obtain ⟨go1, rfl⟩ : ∃ x, x = gk := ⟨_, rfl⟩
  clear g0 g1 hz hb
  obtain ⟨j, y, hj, rfl, hy1, hy2, hy3, g0, g1, ho, hB⟩ := hrel
  have HJ := Lib.hid hj
  have HO := Lib.hid ho
  have HY := Lib.hid (And.intro hy1 (And.intro hy2 hy3))
  clear hj ho hy1 hy2 hy3
  by_cases hlt : j < bl
  ·go_upto_region 11 with (refine zae rfl rfl zdI ?_)
   obtain ⟨hI0, hIs, hIb⟩ := zb6 wr (.cells (arr .u8 16 fun _ => 0) 49)
   have l1 := jM g1
   replace g0 := zaa hIb (jM g0) g0
   replace g1 := zaa hIb l1 g1
   have hlt' := HO.out.lt
   have HO := Lib.hid (HO.out.alloc (.cells (arr .u8 16 fun _ => 0) 49))
   replace hB := hB.trans (hIb.mono hB.size)
   generalize wr.alloc (.cells (arr .u8 16 fun _ => 0) 49) = wb at *
   generalize wr.heap.size = I at *
   have hI' : w.heap.size + 1 < I := l1
   have HLT := Lib.hid hlt'
   clear hIb hlt' l1
   go_wp2_with (refine zab rfl rfl rfl zx8 g1 ?_)
   go_loopg [38] 12 (fun r x wq => ∃ p : Nat, p + r = 12 ∧ x = .int .i64 p ∧ wq.heap[I]? = some (.cells (arr .u8 16 fun x => if x < p then m x else 0) 49 (0, 0)) ∧ wq.heap[w.heap.size]? = some (.cells (arr .u8 16 k) 49 (0, 0)) ∧ wq.heap[w.heap.size + 1]? = some (.cells (arr .u8 12 m) 51 (0, 0)) ∧ Own wq (w.heap.size + 2) 5 u11 (zrt k m F l y) ∧ Below w.heap.size w wq)
   case atStart => exact ⟨0, by omega, rfl, hI0, g0, g1, HO.out, hB⟩
   case round =>
    clear g0 g1 HO hB hI0 hIs
    obtain ⟨p, hp, rfl, gI, g0, g1, ho, hB⟩ := hrel
    have HP := Lib.hid hp
    have HO := Lib.hid ho
    clear hp ho
    by_cases hlp : p < 12
    ·have cI := zaj gI p (by omega)
     have fz := zaH gI p
     go_wp2_with (refine zaR rfl rfl Tryz.underlying51 Tryz.underlying5 rfl zhW rfl rfl (by omega) (by omega) (by omega) ?_)
     go_roundg (gk - 1)
     case measure => have := HP.out; omega
     case rel =>
      have hP := HP.out
      exact ⟨p + 1, by omega, by go_num, zaf (zaL gI p _) (fun i _ => zi9 _ _ _ i rfl), zar g0 _ _ (by omega), zar g1 _ _ (by omega), HO.out.setCell (p := ⟨I, p, none⟩) (fun k hk => by have := HLT.out k hk; show k ≠ I; omega) _, hB.setCell (p := ⟨I, p, none⟩) (by show w.heap.size ≤ I; omega) _⟩
    ·obtain rfl : p = 12 := by have := HP.out; omega
     have hat : F + j < 4294967296 := by omega
     go_wp2_with (go_at_call 63; fail)
     obtain ⟨T, hT, hTi⟩ : ∃ T : Nat, T = F + j ∧ (F : Int) + j = T := ⟨F + j, rfl, by omega⟩
     have hTb : T < 4294967296 := by omega
     rw [hTi]
     have HT := Lib.hid hT
     clear hT hTi
     have lI := jM gI
     refine (zm5 4 T (by omega) (by omega) _).mono ?_
     rintro e w2 ⟨V, rfl, hV, b2⟩
     replace gI := zaa b2 lI gI
     replace g0 := zaa b2 (by omega) g0
     replace g1 := zaa b2 (by omega) g1
     have HO := Lib.hid (HO.out.below b2 HO.out.lt')
     replace hB := hB.trans (b2.mono hB.size)
     replace hV := hV.mono (show I + 1 ≤ _ by omega)
     obtain ⟨Ab, cb, rfl, htb⟩ := hV.txt
     simp only [zfj] at hV htb ⊢
     obtain ⟨ad, rfl, -, -⟩ := htb.cell (k := 0) (by omega)
     clear b2 htb
     go_wp2
     have gI2 := zaf (f' := fun x => if x < 12 + 0 then inI m T x else 0) gI (fun i _ => by
      by_cases h : i < 12
      ·simp only [if_pos h, Nat.add_zero]; unfold inI; rw [if_pos h]
      ·simp only [if_neg h, Nat.add_zero])
     clear gI
     go_loopg [52] 4 (fun r x wq => ∃ p : Nat, p + r = 4 ∧ x = .int .i64 p ∧ wq.heap[I]? = some (.cells (arr .u8 16 fun x => if x < 12 + p then inI m T x else 0) 49 (0, 0)) ∧ wq.heap[w.heap.size]? = some (.cells (arr .u8 16 k) 49 (0, 0)) ∧ wq.heap[w.heap.size + 1]? = some (.cells (arr .u8 12 m) 51 (0, 0)) ∧ Own wq (I + 1) 5 (.slice (some ad) 4 cb) (beL 4 T) ∧ Own wq (w.heap.size + 2) 5 u11 (zrt k m F l y) ∧ Below w.heap.size w wq)
     case atStart => exact ⟨0, by omega, rfl, gI2, g0, g1, hV, HO.out, hB⟩
     case round =>
      clear gI2 g0 g1 hV HO hB
      obtain ⟨p, hp, rfl, gI, g0, g1, hV, ho, hB⟩ := hrel
      have HP2 := Lib.hid hp
      have HO := Lib.hid ho
      have HV := Lib.hid hV
      clear hp ho hV
      by_cases hlp : p < 4
      ·have cI := zaj gI (12 + p) (by omega)
       have fz := zaH gI (12 + p)
       have cV : wr.cell? (ad.add p) = some (.int .u8 ((T / 2 ^ (8 * (3 - p)) % 256 : Nat) : Int)) := by
        obtain ⟨A2, c2, he, ht⟩ := HV.out.txt
        injection he with he
        subst he
        obtain ⟨ad', he, _, hc⟩ := ht.at_ (by rw [zfj]; omega)
        injection he with he
        subst he
        exact hc p _ (zzv T p hlp)
       have cb2 : T / 2 ^ (8 * (3 - p)) % 256 < 256 := Nat.mod_lt _ (by omega)
       generalize hbt : T / 2 ^ (8 * (3 - p)) % 256 = bt at cV cb2
       have HBT := Lib.hid hbt
       clear hbt
       go_wp2
       go_roundg (gk - 1)
       case measure => have := HP2.out; omega
       case rel =>
        have hP := HP2.out
        refine ⟨p + 1, by omega, by go_num, zaf (zaL gI (12 + p) _) (fun i _ => ?_), zar g0 _ _ (by omega), zar g1 _ _ (by omega), HV.out.setCell (p := ⟨I, 12 + p, none⟩) (fun k hk => by have := (HV.out.lt k hk).1; show k ≠ I; omega) _, HO.out.setCell (p := ⟨I, 12 + p, none⟩) (fun k hk => by have := HLT.out k hk; show k ≠ I; omega) _, hB.setCell (p := ⟨I, 12 + p, none⟩) (by show w.heap.size ≤ I; omega) _⟩
        refine zi9 (inI m T) (12 + p) _ i ?_
        unfold inI
        rw [if_neg (by omega), show 15 - (12 + p) = 3 - p from by omega, HBT.out]
      ·obtain rfl : p = 4 := by have := HP2.out; omega
       replace gI := zaf (f' := inI m T) gI (fun i hi => if_pos hi)
       have lI := jM gI
       clear HV
       go_upto_region 21 with (fail)
       (try simp only [Act.put, jA, jB, jC])
       refine wp_region_lit ?_
       refine zab (g := w.heap.size) rfl rfl rfl zaQ g0 ?_
       (try simp only [Act.put, jA, jB, jC])
       refine zab (g := I) rfl rfl rfl zaQ gI ?_
       (try simp only [Act.put, jA, jB, jC])
       go_wp2_with (first | (go_at_call 97; (with_reducible refine (zka k _ HK.out (fun i _ => zpy m HM.out T i) _).mono ?_); rintro e w2 ⟨rfl, b2⟩) | (refine zay rfl rfl rfl rfl zdI zaQ rfl rfl ?_; intro w3 gS b3 hs3))
       replace g0 := zaa b2 (by omega) g0
       replace g1 := zaa b2 (by omega) g1
       have HO := Lib.hid (HO.out.below b2 HO.out.lt')
       replace hB := hB.trans (b2.mono hB.size)
       clear b2 gI lI
       have hS0 : w.heap.size + 1 < w2.heap.size := jM g1
       replace g0 := zaa b3 (by omega) g0
       replace g1 := zaa b3 (by omega) g1
       have hSO : ∀ k, u11.ownBlock = some k → k ≠ w2.heap.size := fun k hk => by have := HO.out.lt' k hk; omega
       have HO := Lib.hid (HO.out.below b3 HO.out.lt')
       replace hB := hB.trans (b3.mono hB.size)
       clear b3 hs3
       generalize w2.heap.size = S at *
       (try simp only [Act.put, jA, jB, jC])
       have hyj : y = 16 * j := by have := HY.out; omega
       subst hyj
       have hjn : 16 * j < n := by omega
       clear HLT HY
       go_loopg [19, 11] 16 (fun r x v wq => ∃ p : Nat, p + r = 16 ∧ x = .int .i64 p ∧ 16 * j + p ≤ n ∧ wq.heap[S]? = some (.cells (arr .u8 16 (zuH k (inI m T))) 49 (0, 0)) ∧ wq.heap[w.heap.size]? = some (.cells (arr .u8 16 k) 49 (0, 0)) ∧ wq.heap[w.heap.size + 1]? = some (.cells (arr .u8 12 m) 51 (0, 0)) ∧ Own wq (w.heap.size + 2) 5 v (zrt k m F l (16 * j + p)) ∧ (∀ k, v.ownBlock = some k → k ≠ S) ∧ Below w.heap.size w wq)
       case atStart => exact ⟨0, by omega, rfl, by omega, gS, g0, g1, HO.out, hSO, hB⟩
       case round =>
        clear gS g0 g1 HO hB hSO
        obtain ⟨p, hp, rfl, hpn, gS, g0, g1, ho, hSO, hB⟩ := hrel
        have HP3 := Lib.hid hp
        have HO := Lib.hid ho
        have HSO := Lib.hid hSO
        clear hp ho hSO
        by_cases hlp : p < 16
        ·by_cases hln : 16 * j + p < n
         ·obtain ⟨ad2, rfl, hab, hac⟩ := (H0.out.below hB).cell hln
          replace hac : wr.cell? (ad2.add (16 * j + p)) = some (.int .u8 ((l.getD (16 * j + p) 0 : Nat) : Int)) := hac
          have hbd := HL.out _ (show l.getD (16 * j + p) 0 ∈ l from by rw [jR, jP (by rw [H0.out.len]; exact hln)]; exact List.getElem_mem _)
          have hS := zaj gS p hlp
          obtain ⟨z, hz⟩ : ∃ z : Nat, z = (zqT k m F l (16 * j + p)).toNat := ⟨_, rfl⟩
          have hv : bits .xor .u8 ((l[j * 16 + p]?.getD 0 : Nat) : Int) (zuH k (inI m T) p) = ((z : Nat) : Int) := by
           rw [hz, Int.toNat_of_nonneg (zja k m F l (16 * j + p)).1, zzu, HT.out, jR, show (16 * j + p) / 16 = j from by omega, show (16 * j + p) % 16 = p from by omega, Nat.mul_comm 16 j]
          have HV := Lib.hid hv
          have HZ := Lib.hid hz
          clear hv hz
          go_wp2
          (try simp only [Act.put, jA, jB, jC])
          refine wp_region_can w.heap.size 15 [(0, false), (1, false), (2, false), (3, false), (4, false), (5, false), (6, false), (7, false), (8, false), (9, false), (10, false), (11, true), (12, false), (13, true), (14, true)] (by kernel_rfl) (by kernel_rfl) ?_
          (simp only [canOps, jD, jE, jF, jG])
          have uI : Tryz.prog.underlying 3 = some (.int .i64) := Tryz.underlying3
          iterate 8 (first | (refine zaA rfl rfl (fun _ _ _ _ h => h) ?_; (simp only [Act.put, Act.eval, jN, jL, jD, jE, jO, jA, jB, jC])) | (refine zas rfl rfl (fun _ _ _ _ h => h) ?_; (simp only [Act.put, Act.eval, jN, jL, jD, jE, jO, jA, jB, jC])) | (refine zao rfl rfl rfl (fun _ _ _ _ h => h) ?_; (simp only [Act.put, jA, jB, jC])) | (refine za3 rfl rfl (fun _ _ _ _ h => h) (by first | exact .bin rfl rfl rfl | exact .indexAddr rfl | exact .un rfl | exact .extract rfl | exact .index rfl | exact .field rfl | exact .slice rfl | exact .conv rfl rfl uI) (fun K hK => ?_); go_simp; (try (simp only [↓IntWalk.iteOmega]; go_simp)); (try go_bits); refine hK _ ?_; clear hK K))
          rw [Nat.mul_comm 16 j, jR] at hac
          have hac' : wr.drew.cell? (ad2.add (j * 16 + p)) = _ := hac
          refine wpCan_v rfl (fun _ _ _ _ h => h) (zaT.loadC rfl Tryz.underlying5 rfl (by rw [zdQ]; exact hab) hac') (zgD rfl Tryz.underlying5 rfl hac') ?_
          (try simp only [Act.put, jA, jB, jC])
          iterate 2 (first | (refine zaA rfl rfl (fun _ _ _ _ h => h) ?_; (simp only [Act.put, Act.eval, jN, jL, jD, jE, jO, jA, jB, jC])) | (refine zas rfl rfl (fun _ _ _ _ h => h) ?_; (simp only [Act.put, Act.eval, jN, jL, jD, jE, jO, jA, jB, jC])) | (refine zao rfl rfl rfl (fun _ _ _ _ h => h) ?_; (simp only [Act.put, jA, jB, jC])) | (refine za3 rfl rfl (fun _ _ _ _ h => h) (by first | exact .bin rfl rfl rfl | exact .indexAddr rfl | exact .un rfl | exact .extract rfl | exact .index rfl | exact .field rfl | exact .slice rfl) (fun K hK => ?_); go_simp; (try (simp only [↓IntWalk.iteOmega]; go_simp)); (try go_bits); refine hK _ ?_; clear hK K))
          refine wpCan_e rfl (fun K hK => ?_)
          go_simp
          refine hK _ _ (Keep.refl _ _) ?_
          clear hK K
          (try simp only [Act.put, jA, jB, jC])
          (first | (refine zaA rfl rfl (fun _ _ _ _ h => h) ?_; (simp only [Act.put, Act.eval, jN, jL, jD, jE, jO, jA, jB, jC])) | (refine zas rfl rfl (fun _ _ _ _ h => h) ?_; (simp only [Act.put, Act.eval, jN, jL, jD, jE, jO, jA, jB, jC])) | (refine zao rfl rfl rfl (fun _ _ _ _ h => h) ?_; (simp only [Act.put, jA, jB, jC])) | (refine za3 rfl rfl (fun _ _ _ _ h => h) (by first | exact .bin rfl rfl rfl | exact .indexAddr rfl | exact .un rfl | exact .extract rfl | exact .index rfl | exact .field rfl | exact .slice rfl) (fun K hK => ?_); go_simp; (try (simp only [↓IntWalk.iteOmega]; go_simp)); (try go_bits); refine hK _ ?_; clear hK K))
          rw [HV.out]
          refine wpCan_e rfl (fun K hK => ?_)
          go_simp
          refine hK _ _ (Keep.alloc _ _ hB.size) ?_
          clear hK K
          (try simp only [Act.put, jA, jB, jC])
          refine wpCan_e rfl (fun K hK => ?_)
          have hO := HO.out
          have hsz := hB.size
          have hSl := jM gS
          have hal := (Below.refl wr.heap.size wr).alloc (jV _) (.cells #[bv z] 5)
          refine ziP (v := u11) (A := some ⟨wr.heap.size, 0, none⟩) (n := 1) (c := 1) (m := [z]) (base := w.heap.size + 2) (l := zrt k m F l (16 * j + p)) rfl BT rfl rfl (hO.alloc _).drew (zrX wr 5 z).drew (by rw [zwd]; omega) (by simp; omega) ?_
          intro v1 w1 hown hg hat
          have hB1 : Below w.heap.size w w1 := zfI (hB.alloc hB.size (.cells #[bv z] 5)).drew (hO.alloc _).drew hg (by omega) (by simp; omega)
          refine hK _ _ (Keep.of_below (zfI (B := w.heap.size) (Below.refl _ _) (hO.alloc _).drew hg (by omega) (by simp; omega)) (jV _)) ?_
          clear hK K
          (try simp only [Act.put, jA, jB, jC])
          refine wpCan_nil ?_
          go_wp2
          go_roundg (gk - 1)
          case measure => have := HP3.out; omega
          case rel =>
           have hP := HP3.out
           have kb : ∀ b, b < wr.heap.size → (∀ k, u11.ownBlock = some k → k ≠ b) → w1.heap[b]? = wr.heap[b]? := fun b hb hne => by
            rw [hg.block b (by simp; omega) (fun h => hne b h.symm rfl)]
            exact Below.heap_alloc _ _ _ (by omega)
           have hlo := hO.lt
           refine ⟨p + 1, by omega, by go_num, by omega, (kb S hSl HSO.out).trans gS, (kb _ (by omega) (fun k hk => by have := (hlo k hk).1; omega)).trans g0, (kb _ (by omega) (fun k hk => by have := (hlo k hk).1; omega)).trans g1, ?_, (fun k hk => ?_), hB1⟩
           ·rw [show 16 * j + (p + 1) = 16 * j + p + 1 from by omega, zuc, ← HZ.out]
            exact hown
           ·rcases hat with h | h
            ·exact HSO.out k (h ▸ hk)
            ·rw [h] at hk
             injection hk with hk
             simp at hk
             omega
         ·go_wp2
          go_roundg (go1 - 1)
          case measure => have := HJ.out; omega
          case rel =>
           have hJ := HJ.out
           exact ⟨j + 1, 16 * j + p, by omega, by go_num, by omega, by omega, by omega, g0, g1, HO.out, hB⟩
        ·obtain rfl : p = 16 := by have := HP3.out; omega
         go_wp2
         go_roundg (go1 - 1)
         case measure => have := HJ.out; omega
         case rel =>
          have hJ := HJ.out
          exact ⟨j + 1, 16 * j + 16, by omega, by go_num, by omega, by omega, by omega, g0, g1, HO.out, hB⟩
  ·obtain rfl : j = bl := by have := HJ.out; omega
   go_wp2
   go_ret2
   have hy : y = n := by have := HY.out; omega
   subst hy
   have hl := H0.out.len
   refine ⟨_, rfl, ?_, hB⟩
   rw [← zwe, hl]
   exact HO.out.mono (by omega)
end
section
open Go.ChangeShapes Go.WideShapes Go.ChangeAt Go.RowKit
section
variable {H : Type} {enc : TypeId × Value → H} {P : Program} {w : World} {base : Nat} {spare : Nat → Bool} {held : Bool} {t e : TypeId} {v : Value} {d : DataW H} {p : List MemPlace} {r : Reach}
theorem zeL {n : Nat} (ht : P.underlying t = some (.array n e)) (h : Value.okWide P w r base t v) : ∃ cs, v = .agg cs ∧ cs.size = P.cellsOf t := by
 simp only [Value.okWide, ht] at h
 obtain ⟨cs, h1, h2, _⟩ := h
 exact ⟨cs, h1, h2⟩
end
theorem zxd {n : Int} (h : (Lit.int .u8 n).wf = true) : 0 ≤ n ∧ n < 256 := by
 simp [Lit.wf, IntKind.min, IntKind.max, IntKind.signed, IntKind.bits] at h
 omega
end
section
open Go.ChangeShapes Go.WideShapes Go.ChangeAt Go.RowKit
section
variable {H : Type} {enc : TypeId × Value → H} {P : Program} {w : World} {base : Nat} {spare : Nat → Bool} {held : Bool} {t e : TypeId} {v : Value} {fuel : Nat} {x : DataW H × List MemPlace}
theorem zwg (hT : ByteT P t e) (hc : P.cellsOf e = 1) (h : DataW.trod enc P w base spare held fuel t [v] = some x) :
  ∃ (A : Option Addr) (n c : Nat) (m : List Nat), v = .slice A n c ∧ n ≤ 9223372036854775807 ∧ Txt w w.heap.size A n c m ∧ ∀ y ∈ m, y < 256 := by
 rcases Go.ChangeShapes.open_ints hT.sl hT.el hc h with ⟨h1, _⟩ | ⟨a, len, cap, zs, h1, hb, hl, hm, hz, _, hcell, hwf⟩
 ·exact ⟨none, 0, 0, [], by simpa using h1, by omega, Txt.nil_, by simp⟩
 ·have hle : len ≤ zs.length := by rw [hz]; split <;> omega
  have hw : ∀ n ∈ zs, 0 ≤ n ∧ n < 256 := fun n hn => zxd (hwf n hn)
  have hm' : cap ≤ 9223372036854775807 := hm
  refine ⟨some a, len, cap, (zs.take len).map Int.toNat, by simpa using h1, by omega, ⟨by simp; omega, (fun he => by cases he), fun hn => ?_⟩, ?_⟩
  ·refine ⟨a, rfl, ?_, fun i y hy => ?_⟩
   ·have h0 := World.block_lt_of_cell? _ _ (hcell 0 (by omega))
    rwa [zdQ] at h0
   ·rw [List.getElem?_map, Option.map_eq_some_iff] at hy
    obtain ⟨z, hz1, rfl⟩ := hy
    have hi : i < len := by
     have := (List.getElem?_eq_some_iff.1 hz1).1
     simp at this
     omega
    rw [List.getElem?_take_of_lt hi] at hz1
    have hz2 := hw z (List.mem_of_getElem? hz1)
    rw [hcell i (by omega), jR, hz1]
    unfold bv
    rw [Int.toNat_of_nonneg hz2.1]
    rfl
  ·intro y hy
   obtain ⟨z, hz1, rfl⟩ := List.mem_map.1 hy
   have := hw z (List.mem_of_mem_take hz1)
   omega
end
end
section
open Go.ChangeShapes Go.WideShapes Go.ChangeAt Go.RowKit
def zmA {H : Type} (P : Program) (t : TypeId) (d : DataW H) : Prop := ∀ n ∈ d.weights P t, n ≤ reachBytes
theorem zgi {H : Type} {P : Program} {ts : List TypeId} {ds : List (DataW H)} (hz : (DataW.weightsEach P ts ds).all (· ≤ reachBytes) = true) {j : Nat} {t : TypeId} {d : DataW H} (ht : ts[j]? = some t) (hd : ds[j]? = some d) : zmA P t d := fun n hn => by
 have := List.all_eq_true.1 hz n (DataW.weights_mem_each ht hd n hn)
 simpa using this
def Opn (P : Program) (t : TypeId) (φ : List Value → World → Prop) : Prop :=
 ∀ (H : Type) (enc : TypeId × Value → H) (w : World) (base : Nat) (spare : Nat → Bool) (held : Bool) (fuel : Nat) (x : DataW H × List MemPlace) (cs : List Value), DataW.trod enc P w base spare held fuel t cs = some x → zmA P t x.1 → φ cs w
theorem Opn.imp {P : Program} {t : TypeId} {φ ψ : List Value → World → Prop} (o : Opn P t φ) (h : ∀ cs w, φ cs w → ψ cs w) : Opn P t ψ := fun H enc w base spare held fuel x cs h1 h2 => h cs w (o H enc w base spare held fuel x cs h1 h2)
theorem zf3 {H : Type} {P : Program} {e : TypeId} : ∀ {ds : List (DataW H)} {d : DataW H}, d ∈ ds → ∀ n ∈ d.weights P e, n ∈ DataW.weightsAll P e ds
 | d0 :: ds, d, hd, n, hn => by
  rw [DataW.weightsAll, List.mem_append]
  rcases List.mem_cons.1 hd with rfl | hd
  ·exact .inl hn
  ·exact .inr (zf3 hd n hn)
theorem zud {w w' : World} {p : Addr} {u : Value} (hk : ∀ k, k < w.heap.size → k ∉ ([] : List Nat) → w'.heap[k]? = w.heap[k]?) (h : w.cell? p = some u) : w'.cell? p = some u := by
 rw [← h]
 have := hk _ (World.block_lt_of_cell? _ _ h) (by simp)
 unfold World.cell?
 rw [this]
section
variable {P : Program} {t e : TypeId}
theorem zzw (hT : ByteT P t e) (hc : P.cellsOf e = 1) (hbt : P.bytesOf e = 1) : Opn P t fun cs w => ∃ A c l, cs = [.slice A l.length c] ∧ St (TxF A c l) w [] := fun H enc w base spare held fuel x cs h hl => by
 obtain ⟨v, rfl⟩ : ∃ v, cs = [v] := by
  rcases DataW.trod_slice hT.sl h with ⟨h1, _⟩ | ⟨a, len, cap, elems, rest, n, _, h1, _⟩
  ·exact ⟨_, h1⟩
  ·exact ⟨_, h1⟩
 obtain ⟨A, n, c, m, rfl, _, htx, hm⟩ := zwg hT hc h
 have hn := htx.len
 subst hn
 refine ⟨A, c, m, rfl, zzV htx ?_ ?_ hm⟩
 ·rcases DataW.trod_slice hT.sl h with ⟨h1, _⟩ | ⟨a, len, cap, elems, rest, n, _, h1, _, _, h2, _⟩
  ·injection h1 with h1
   injection h1 with _ h1 h3
   omega
  ·injection h1 with h1
   injection h1 with _ h1 h3
   omega
 ·rcases DataW.trod_slice hT.sl h with ⟨h1, _⟩ | ⟨a, len, cap, elems, rest, n, _, h1, hx, _, h2, _, hlen, _⟩
  ·injection h1 with h1
   injection h1 with _ h1 h3
   omega
  ·injection h1 with h1
   injection h1 with _ h1 h3
   have := hl ((elems.length + rest.length) * P.bytesOf e) (by rw [hx]; simp [DataW.weights, hT.sl])
   rw [hbt] at this
   have hr : reachBytes < 140737488355328 := by decide
   omega
theorem zzx (ht : P.underlying t = some (.array 32 e)) (he : P.underlying e = some (.int .u8)) (hce : P.cellsOf e = 1) (hct : P.cellsOf t = 32) : Opn P t fun cs w => ∃ l : List Nat, l.length = 32 ∧ (∀ x ∈ l, x < 256) ∧ cs = cl [.key l] := fun H enc w base spare held fuel x cs h hl => by
 obtain ⟨xs, m, _, _, hcl, hxl, hall⟩ := DataW.trod_array ht h
 have key : ∀ i : Fin 32, ∃ z : Nat, cs[i.1]? = some (bv z) ∧ z < 256 := fun i => by
  have h1 := hall i.1 i.2
  rw [hce, Nat.mul_one, jP (by omega)] at h1
  obtain ⟨n, h2, _, hw⟩ := DataW.trod_int he h1
  have hb := zxd hw
  refine ⟨n.toNat, ?_, by omega⟩
  have : ((cs.drop i.1).take 1)[0]? = some (.int .u8 n) := by rw [h2]; rfl
  rw [List.getElem?_take_of_lt (by omega), List.getElem?_drop] at this
  rw [Nat.add_zero] at this
  rw [this]
  unfold bv
  rw [Int.toNat_of_nonneg hb.1]
 obtain ⟨f, hf⟩ := Classical.axiomOfChoice key
 refine ⟨List.ofFn f, by simp, fun y hy => ?_, ?_⟩
 ·obtain ⟨i, rfl⟩ := List.mem_ofFn.1 hy
  exact (hf i).2
 ·show cs = zoe (List.ofFn f) ++ []
  rw [List.append_nil]
  unfold zoe
  apply List.ext_getElem?
  intro i
  by_cases hi : i < 32
  ·rw [(hf ⟨i, hi⟩).1, List.getElem?_map, List.getElem?_range hi]
   show _ = some (bv ((List.ofFn f).getD i 0))
   rw [jR, List.getElem?_ofFn, dif_pos hi]
   rfl
  ·rw [List.getElem?_eq_none (by omega), List.getElem?_eq_none (by simp; omega)]
theorem zue {α : Type} (T : Ty α) (good : α → Prop) (ht : P.underlying t = some (.slice e)) (hc : P.cellsOf e = T.sz) (o : Opn P e fun cs w => cs.length = T.sz → ∃ v m, cs = cl (T.ch v m) ∧ St (T.nest v m) w [] ∧ good v) :
  Opn P t fun cs w => ∃ A c xs m, cs = [.slice A xs.length c] ∧ St (LiF T A c xs m) w [] ∧ ∀ x ∈ xs, good x := fun H enc w base spare held fuel x cs h hl => by
 rcases DataW.trod_slice ht h with ⟨h1, _⟩ | ⟨a, len, cap, elems, rest, n, _, h1, hx, hb, h2, hm, hlen, hel, _⟩
 ·exact ⟨none, 0, [], fun _ => T.dft, h1, zoh, fun x hx => by cases hx⟩
 ·have key : ∀ i : Fin len, ∃ vm : α × T.μ, (∀ j u, (cl (T.ch vm.1 vm.2))[j]? = some u → w.cell? ((a.add (i.1 * T.sz)).add j) = some u) ∧ St (T.nest vm.1 vm.2) w [] ∧ good vm.1 := fun i => by
   have h3 := hel i.1 i.2
   rw [hc, jP (by omega)] at h3
   obtain ⟨c, hcs, htr⟩ := Option.bind_eq_some_iff.1 h3
   obtain ⟨_, hcl, hcell⟩ := World.cells?_some hcs
   obtain ⟨v, m, e1, e2, e3⟩ := o H enc w base spare held n _ _ htr (fun k hk => hl k (by
    rw [hx]
    simp only [DataW.weights, ht, List.mem_cons, List.mem_append]
    exact .inr (.inl (zf3 (List.mem_map.2 ⟨_, List.getElem_mem _, rfl⟩) k hk)))) hcl
   refine ⟨(v, m), fun j u hu => ?_, e2, e3⟩
   have hu' : c[j]? = some u := by rw [e1]; exact hu
   have hj : j < T.sz := by rw [← hcl]; exact (List.getElem?_eq_some_iff.1 hu').1
   rw [← hu']
   exact hcell j hj
  obtain ⟨f, hf⟩ := Classical.axiomOfChoice key
  have hm' : cap ≤ 9223372036854775807 := hm
  refine ⟨some a, cap, List.ofFn fun i => (f i).1, fun i => if h : i < len then (f ⟨i, h⟩).2 else T.dft, by rw [List.length_ofFn]; exact h1, fun w' hk => ?_, fun y hy => ?_⟩
  ·refine ⟨by rw [List.length_ofFn]; exact h2, by rw [List.length_ofFn]; omega, fun h => (by cases h), fun ad hA i y hy => ?_⟩
   obtain rfl := Option.some.inj hA
   have hi : i < len := by
    have := (List.getElem?_eq_some_iff.1 hy).1
    rwa [List.length_ofFn] at this
   rw [List.getElem?_ofFn, dif_pos hi] at hy
   obtain rfl := Option.some.inj hy
   rw [dif_pos hi]
   obtain ⟨g1, g2, _⟩ := hf ⟨i, hi⟩
   exact ⟨fun j u hu => zud hk (g1 j u hu), g2 w' hk⟩
  ·obtain ⟨i, rfl⟩ := List.mem_ofFn.1 hy
   exact (hf i).2.2
theorem zhM {φ : List Value → World → Prop} (o : Opn P t φ) {H : Type} {enc : TypeId × Value → H} {w : World} {base : Nat} {spare : Nat → Bool} {held : Bool} {v : Value} {d : DataW H} {p : List MemPlace} (h : DataW.Trod enc P w base spare held t v d p) (hl : zmA P t d) : φ v.cells.toList w := by
 obtain ⟨fuel, hf⟩ := h
 exact o H enc w base spare held fuel _ _ hf hl
theorem zqs {cs : Array Value} {X : List Chunk} (e : (Value.agg cs).cells.toList = cl X) : cs = ca X := by
 have e' : cs.toList = cl X := e
 exact Array.ext' (by rw [e']; rfl)
theorem zqt {A A' : Option Addr} {n n' c c' : Nat} (e : (Value.slice A n c).cells.toList = [.slice A' n' c']) : A = A' ∧ n = n' ∧ c = c' := by
 have e' : [Value.slice A n c] = [.slice A' n' c'] := e
 injection e' with e'
 injection e' with h1 h2 h3
 exact ⟨h1, h2, h3⟩
end
end
section
open Go.ChangeShapes Go.WideShapes Go.ChangeAt Go.RowKit
theorem znV : Opn Tryz.prog 24 fun cs w => ∃ A c l, cs = [.slice A l.length c] ∧ St (TxF A c l) w [] := zzw ⟨Tryz.underlying24, Tryz.underlying5, by kernel_rfl⟩ (by kernel_rfl) (by kernel_rfl)
theorem zwh : Opn Tryz.prog 23 fun cs w => ∃ l : List Nat, l.length = 32 ∧ (∀ x ∈ l, x < 256) ∧ cs = cl [.key l] := zzx Tryz.underlying23 Tryz.underlying5 (by kernel_rfl) (by kernel_rfl)
theorem zuf : Opn Tryz.prog 25 fun cs w => ∃ A c xs m, cs = [.slice A xs.length c] ∧ St (LiF zav A c xs m) w [] ∧ ∀ x ∈ xs, True :=
 zue zav (fun _ => True) Tryz.underlying25 (by kernel_rfl) (znV.imp fun cs w ⟨A, c, l, e, s⟩ _ => ⟨l, (A, c), e, s, trivial⟩)
def zru : List Int := [1116352408, 1899447441, 3049323471, 3921009573, 961987163, 1508970993, 2453635748, 2870763221, 3624381080, 310598401, 607225278, 1426881987, 1925078388, 2162078206, 2614888103, 3248222580, 3835390401, 4022224774, 264347078, 604807628, 770255983, 1249150122, 1555081692, 1996064986, 2554220882, 2821834349, 2952996808, 3210313671, 3336571891, 3584528711, 113926993, 338241895, 666307205, 773529912, 1294757372, 1396182291, 1695183700, 1986661051, 2177026350, 2456956037, 2730485921, 2820302411, 3259730800, 3345764771, 3516065817, 3600352804, 4094571909, 275423344, 430227734, 506948616, 659060556, 883997877, 958139571, 1322822218, 1537002063, 1747873779, 1955562222, 2024104815, 2227730452, 2361852424, 2428436474, 2756734187, 3204031479, 3329325298]
def zCf (i : Nat) : Nat := (zru.getD i 0).toNat
theorem zkE : cl [.row 64 fun i => u32 (zCf i)] = zru.map fun z => Value.int .u32 z := by kernel_rfl
theorem zzy {LL : List (String × DataW Unit)} (hm : ("coterie/sha.adds", Rows.laid_coterie_sha_adds) ∈ LL) {W : World} (h : laidMet Tryz.prog LL W) : St (AtC ⟨2, 0, none⟩ [.row 64 fun i => u32 (zCf i)]) W [] := by
 obtain ⟨g, t, cs, fuel, p, hg, hty, hvar, hd⟩ := Lib.laidMet.reads h (n := "coterie/sha.adds") (d := Rows.laid_coterie_sha_adds) hm
 obtain rfl := Option.some.inj ((show Tryz.prog.globalNamed "coterie/sha.adds" = some 2 by kernel_rfl).symm.trans hg)
 obtain rfl := Option.some.inj ((show (Tryz.prog.globals[2 ]?).map (·.type) = some 170 by kernel_rfl).symm.trans hty)
 have hcs := Lib.cells_of_tab (zs := zru) (k := .u32) Tryz.underlying170 Tryz.underlying57 (by kernel_rfl) (by kernel_rfl) hd
 rw [← zkE] at hcs
 intro w' hk j u hu
 rw [← hcs] at hu
 have h1 := World.var?_cell hg hvar j
 have h2 : cs[j]? = some u := by rw [← Array.getElem?_toList]; exact hu
 rw [h2] at h1
 rw [zcu, Nat.zero_add, ← h1]
 exact World.cell?_of_block (hk _ (World.block_lt_of_cell? _ _ h1) (by simp))
theorem zzz {LL : List (String × DataW Unit)} (hm : ("coterie/coterieref02.k", Rows.laid_coterie_coterieref02_k) ∈ LL) {W : World} (h : laidMet Tryz.prog LL W) : St (AtC ⟨1, 0, none⟩ [.row 64 fun i => u32 (zCf i)]) W [] := by
 obtain ⟨g, t, cs, fuel, p, hg, hty, hvar, hd⟩ := Lib.laidMet.reads h (n := "coterie/coterieref02.k") (d := Rows.laid_coterie_coterieref02_k) hm
 obtain rfl := Option.some.inj ((show Tryz.prog.globalNamed "coterie/coterieref02.k" = some 1 by kernel_rfl).symm.trans hg)
 obtain rfl := Option.some.inj ((show (Tryz.prog.globals[1 ]?).map (·.type) = some 170 by kernel_rfl).symm.trans hty)
 have hcs := Lib.cells_of_tab (zs := zru) (k := .u32) Tryz.underlying170 Tryz.underlying57 (by kernel_rfl) (by kernel_rfl) hd
 rw [← zkE] at hcs
 intro w' hk j u hu
 rw [← hcs] at hu
 have h1 := World.var?_cell hg hvar j
 have h2 : cs[j]? = some u := by rw [← Array.getElem?_toList]; exact hu
 rw [h2] at h1
 rw [zcu, Nat.zero_add, ← h1]
 exact World.cell?_of_block (hk _ (World.block_lt_of_cell? _ _ h1) (by simp))
def zC5 : ByteArray := { data := #[98, 121, 116, 101, 115, 46, 66, 117, 102, 102, 101, 114, 58, 32, 116, 111, 111, 32, 108, 97, 114, 103, 101] }
noncomputable def zC6 : Nat := (World.holding Tryz.prog default ⟨#[], #[], []⟩).heap.size
noncomputable def zA1 (os : Os) : World :=
 let w0 := World.holding Tryz.prog os ⟨#[.cells #[.string zC5] 195 ], #[], []⟩
 { w0 with heap := ((w0.heap.modify 0 fun
   | .cells _ t frozen => .cells #[.iface 179 (.pointer (some ⟨zC6, 0, none⟩))] t frozen
   | o => o).modify 2 fun
   | .cells _ t frozen => .cells (zru.map fun z => Value.int .u32 z).toArray t frozen
   | o => o).modify 1 fun
   | .cells _ t frozen => .cells (zru.map fun z => Value.int .u32 z).toArray t frozen
   | o => o }
end
end Go.Proofs.YtfolbgiekbimpaaGreatDoor
