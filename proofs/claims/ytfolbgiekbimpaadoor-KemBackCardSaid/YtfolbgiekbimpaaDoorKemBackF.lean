/- The walk of layer 6: a point multiplied by a number, by the program. The walks of layer 6: the point 9, multiplied, by the program and by the reference; the chapter's example. Plain: the numbers modulo the prime of layer 5; the curve x² + y² = 1 + d x² y², where d is no square: its law is whole, and hangs on no order. Plain: the ladder of layer 6 is a multiple of a point of the curve, or of its twist; two numbers, one behind the other, hang on no order. -/
import Derived.Test.YtfolbgiekbimpaaDoorKemBackE
namespace Go.Proofs.YtfolbgiekbimpaaDoor
set_option linter.unusedSimpArgs false
set_option linter.unusedVariables false
open Go.RowKit
attribute [local irreducible] accN byteN prodN carN diffN sqN sumN difN oneF valN bytesN invN ofN powN kvN clampN sLX sLZ sHX sHZ dblP addP
theorem ZTPoint : ZeroT Tryd.prog 54 .u64 10 := by unfold ZeroT; kernel_rfl
theorem built_point1 (F : Nat → Nat) : Tryd.prog.built 54 [(0, .agg (arr .u64 5 fun i => ((F i : Nat) : Int)))] = some (arr .u64 10 fun i => ((two5 F (oneF 0) i : Nat) : Int)) := by kernel_rfl
/-- A row of ten parts stands for a point. -/
def FitP (F : Nat → Nat) (q : Pt) : Prop := ∃ X Z, F = two5 X Z ∧ Fits X q.x ∧ Fits Z q.z
theorem FitP.lt {F : Nat → Nat} {q : Pt} (h : FitP F q) (i : Nat) (hi : i < 10) : F i < 18446744073709551616 := by
  obtain ⟨X, Z, rfl, h1, h2⟩ := h
  unfold two5
  split
  · have := h1.1 i (by omega)
    omega
  · have := h2.1 (i - 5) (by omega)
    omega
def turnP (b : Nat) (p : Pt × Pt) : Pt × Pt := if b = 1 then (p.2, p.1) else p
theorem selN_one (F G : Nat → Nat) : selN 1 F G = G := by funext i; unfold selN; rw [if_pos rfl]
theorem selN_zero (F G : Nat → Nat) : selN 0 F G = F := by funext i; unfold selN; rw [if_neg (by omega)]
/-- Changing places from one turn to another one. -/
theorem turn_sel {F G : Nat → Nat} {p : Pt × Pt} {a b c : Nat} (ha : a = 0 ∨ a = 1) (hb : b = 0 ∨ b = 1) (hc : c = if a = b then 0 else 1) (hF : FitP F (turnP a p).1) (hG : FitP G (turnP a p).2) :
    FitP (selN c F G) (turnP b p).1 ∧ FitP (selN c G F) (turnP b p).2 := by
  subst hc
  rcases ha with rfl | rfl <;> rcases hb with rfl | rfl <;> simp [turnP, selN_one, selN_zero] at * <;> exact ⟨by assumption, by assumption⟩
theorem turn_step (u : Nat) (k : Nat → Nat) (n : Nat) : turnP (bitN k n) (ladP u k (n + 1)) = (dblP (turnP (bitN k n) (ladP u k n)).1, addP u (turnP (bitN k n) (ladP u k n)).1 (turnP (bitN k n) (ladP u k n)).2) := by
  rw [show ladP u k (n + 1) = stepP u (bitN k n) (ladP u k n).1 (ladP u k n).2 from rfl]
  unfold stepP turnP
  rcases bitN_lt k n with h | h <;> simp [h]
def wasN (k : Nat → Nat) : Nat → Nat
  | 0 => 0
  | n + 1 => bitN k n
theorem wasN_lt (k : Nat → Nat) : ∀ n, wasN k n = 0 ∨ wasN k n = 1
  | 0 => .inl rfl
  | n + 1 => bitN_lt k n
theorem turn_ok {p : Pt × Pt} (b : Nat) (h : PtOk p.1 ∧ PtOk p.2) : PtOk (turnP b p).1 ∧ PtOk (turnP b p).2 := by unfold turnP; split; exact ⟨h.2, h.1⟩; exact h
theorem xor01 (a b : Nat) (ha : a = 0 ∨ a = 1) (hb : b = 0 ∨ b = 1) : bits .xor .u64 (a : Int) (b : Int) = (((if a = b then 0 else 1) : Nat) : Int) := by
  rcases ha with rfl | rfl <;> rcases hb with rfl | rfl <;> decide

theorem i64_and7 (n : Int) : bits .and .i64 n 7 = n % 8 := by
  have h7 : (BitVec.ofInt 64 7).toNat = 2 ^ 3 - 1 := by decide
  have key : (BitVec.ofInt 64 n &&& BitVec.ofInt 64 7).toNat = (n % ((2 ^ 64 : Nat) : Int)).toNat % 2 ^ 3 := by
    rw [BitVec.toNat_and, BitVec.toNat_ofInt, h7, Nat.and_two_pow_sub_one_eq_mod]
  show IntKind.i64.wrap ((BitVec.ofInt 64 n &&& BitVec.ofInt 64 7).toNat : Nat) = n % 8
  rw [key, IntKind.wrap_i64]
  omega
theorem bitval (x r : Nat) (hx : x < 256) : bits .and .u64 (IntKind.u64.wrap ((x : Int) / 2 ^ r)) 1 = ((x / 2 ^ r % 2 : Nat) : Int) := by
  have h1 : (x : Int) / 2 ^ r = ((x / 2 ^ r : Nat) : Int) := by
    rw [Int.natCast_ediv, Int.natCast_pow]
    rfl
  have h2 : x / 2 ^ r < 256 := Nat.lt_of_le_of_lt (Nat.div_le_self _ _) hx
  rw [h1]
  generalize x / 2 ^ r = y at *
  have h3 : IntKind.u64.wrap (y : Int) = (y : Int) := by
    rw [IntKind.wrap_u64]
    omega
  rw [h3, show (1 : Int) = ((1 : Nat) : Int) from rfl, u64_and_nat y 1 (by omega) (by omega), Nat.and_one_is_mod]
/-- Where the ladder stands. -/
def LadF (k u : Nat → Nat) (w : World) (B RV R LO HI FI m : Nat) : Prop :=
  ∃ L H, FitP L (turnP (wasN (clampN k) m) (ladP (keyU u) (clampN k) m)).1 ∧ FitP H (turnP (wasN (clampN k) m) (ladP (keyU u) (clampN k) m)).2 ∧ w.heap[B]? = some (.cells (arr .u8 32 fun i => ((clampN k i : Nat) : Int)) 23 (0, 0)) ∧
    w.heap[B + 1 + 1]? = some (.cells (arr .u8 32 fun _ => 0) 23 (0, 0)) ∧ Lad w RV R LO HI FI L H (ofN u)
theorem fits_of (u : Nat → Nat) (hu : ∀ i, i < 32 → u i < 256) : Fits (ofN u) (keyU u) := ⟨ofN_ok u, by unfold keyU; rw [Nat.mod_mod]; exact of_fits u hu⟩

set_option maxRecDepth 100000 in
set_option maxHeartbeats 8000000 in
theorem Mult_any (k u : Nat → Nat) (hk : ∀ i, i < 32 → k i < 256) (hu : ∀ i, i < 32 → u i < 256) (w : World) :
    Calls Tryd.prog 15 #[.agg (arr .u8 32 fun i => ((k i : Nat) : Int)), .agg (arr .u8 32 fun i => ((u i : Nat) : Int))] w fun e w' => e = .returned (.agg (arr .u8 32 fun i => ((byteN (multV k (keyU u)) i : Nat) : Int))) ∧ Below w.heap.size w w' := by
  have hK := Lib.hid (clamp_lt hk)
  have HKK := Lib.hid hk
  have HU := Lib.hid hu
  clear hk hu
  go_enter Tryd.func15, Tryd.ntmps15
  obtain ⟨h0, h1, h2, hsz, hb⟩ := alloc3 w (.cells (arr .u8 32 fun i => ((k i : Nat) : Int)) 23) (.cells (arr .u8 32 fun i => ((u i : Nat) : Int)) 23) (.cells (arr .u8 32 fun _ => 0) 23)
  go_upto_region 1 with (refine wpList_alloc_arr rfl rfl ZTKey ?_)
  generalize ((w.alloc (.cells (arr .u8 32 fun i => ((k i : Nat) : Int)) 23)).alloc (.cells (arr .u8 32 fun i => ((u i : Nat) : Int)) 23)).alloc (.cells (arr .u8 32 fun _ => 0) 23) = wa at *
  (try simp only [Act.put, List.setIfInBounds_toArray, List.set_cons_zero, List.set_cons_succ])
  simp only [World.size_alloc]
  clear hsz
  go_wp2_with (first | (refine wpList_load_arr rfl rfl rfl RTKey h0 ?_) | (go_at_call 21; fail))
  refine (Clamp_any k HKK.out _).mono ?_
  rintro e w4 ⟨rfl, b4⟩
  replace h0 := keep_below b4 (lt_of_block h0) h0
  replace h1 := keep_below b4 (lt_of_block h1) h1
  replace h2 := keep_below b4 (lt_of_block h2) h2
  replace hb := hb.trans (b4.mono hb.size)
  clear b4
  go_upto_region 2 with (first | (refine wpList_store_arr rfl rfl rfl rfl RTKey h0 ?_))
  replace h1 := row_keep (g := w.heap.size) (c' := arr .u8 32 fun i => ((clampN k i : Nat) : Int)) h1 (by omega)
  replace h2 := row_keep (g := w.heap.size) (c' := arr .u8 32 fun i => ((clampN k i : Nat) : Int)) h2 (by omega)
  replace h0 := row_self (c' := arr .u8 32 fun i => ((clampN k i : Nat) : Int)) h0
  replace hb := row_below hb (Nat.le_refl _) (arr .u8 32 fun i => ((clampN k i : Nat) : Int))
  generalize w4.setRow w.heap.size (arr .u8 32 fun i => ((clampN k i : Nat) : Int)) = wb at *
  (try simp only [Act.put, List.setIfInBounds_toArray, List.set_cons_zero, List.set_cons_succ])
  go_upto_region 3 with (fail)
  obtain ⟨hr, hrv, hz2, b2⟩ := alloc2 wb (.cells (arr .i64 1 fun _ => 0) 48) (.cells #[.pointer (some ⟨wb.heap.size, 0, none⟩)] 46)
  replace h0 := keep_below b2 (lt_of_block h0) h0
  replace h1 := keep_below b2 (lt_of_block h1) h1
  replace h2 := keep_below b2 (lt_of_block h2) h2
  replace hb := hb.trans (b2.mono hb.size)
  clear b2 hz2
  rw [show (#[Value.int .i64 0] : Array Value) = arr .i64 1 fun _ => 0 from rfl]
  generalize (wb.alloc (.cells (arr .i64 1 fun _ => 0) 48)).alloc (.cells #[.pointer (some ⟨wb.heap.size, 0, none⟩)] 46) = wc at *
  obtain ⟨R, hR⟩ : ∃ x, x = wb.heap.size := ⟨_, rfl⟩
  obtain ⟨RV, hRV⟩ : ∃ x, x = wb.heap.size + 1 := ⟨_, rfl⟩
  rw [← hRV] at hrv ⊢
  rw [← hR] at hrv hr ⊢
  clear hR hRV
  go_wp2_with (first | (refine wpList_load_arr rfl rfl rfl RTKey h1 ?_) | (go_at_call 22; fail))
  refine (Of_any u HU.out _).mono ?_
  rintro e w4 ⟨rfl, b4⟩
  clear h1
  replace h0 := keep_below b4 (lt_of_block h0) h0
  replace h2 := keep_below b4 (lt_of_block h2) h2
  replace hr := keep_below b4 (lt_of_block hr) hr
  replace hrv := keep_below b4 (lt_of_block hrv) hrv
  replace hb := hb.trans (b4.mono hb.size)
  clear b4
  go_upto_region 4 with (refine wpList_new_arr rfl rfl rfl rfl ZTFe RTFe rfl rfl ?_; intro w8 hfi b8 hs8)
  have l0 := lt_of_block h0
  replace h0 := keep_below b8 (lt_of_block h0) h0
  replace h2 := keep_below b8 (lt_of_block h2) h2
  replace hr := keep_below b8 (lt_of_block hr) hr
  replace hrv := keep_below b8 (lt_of_block hrv) hrv
  replace hb := hb.trans (b8.mono hb.size)
  clear b8 hs8
  obtain ⟨FI, hFI⟩ : ∃ B, B = w4.heap.size := ⟨_, rfl⟩
  rw [← hFI] at l0 hfi ⊢
  clear hFI
  (try simp only [Act.put, List.setIfInBounds_toArray, List.set_cons_zero, List.set_cons_succ])
  obtain ⟨wq, rfl⟩ : ∃ x, x = w8 := ⟨_, rfl⟩
  have lw : w.heap.size ≤ wq.drew.heap.size := hb.size
  refine wp_region_fork wq.drew.heap.size 8 (.fork [(0, false), (1, false), (2, false), (3, false), (4, false)] 5 (.done [(6, true), (7, true)]) 6 (.done [(5, true), (7, true)])) (by kernel_rfl) (by kernel_rfl) ?_
  unfold wpTree
  try (simp only [canOps, List.getElem?_cons_zero, List.getElem?_cons_succ, List.drop_succ_cons, List.drop_zero])
  refine wpCan_all rfl (fun _ _ _ _ h => h) (fun w' => run_op_build rfl (by simp [Act.eval, Act.put]) (built_fe1 1)) ?_
  (try simp only [Act.put, List.setIfInBounds_toArray, List.set_cons_zero, List.set_cons_succ])
  refine wpCan_all rfl (fun _ _ _ _ h => h) (fun w' => run_op_build rfl (by simp [Act.eval, Act.put]) (built_point1 (oneF 1))) ?_
  (try simp only [Act.put, List.setIfInBounds_toArray, List.set_cons_zero, List.set_cons_succ])
  refine wpCan_load_arr rfl rfl rfl (fun _ _ _ _ h => h) RTFe (lt_of_block (w := wq) hfi) hfi ?_
  (try simp only [Act.put, List.setIfInBounds_toArray, List.set_cons_zero, List.set_cons_succ])
  refine wpCan_all rfl (fun _ _ _ _ h => h) (fun w' => run_op_build rfl (by simp [Act.eval, Act.put]) (built_fe1 1)) ?_
  (try simp only [Act.put, List.setIfInBounds_toArray, List.set_cons_zero, List.set_cons_succ])
  refine wpCan_all rfl (fun _ _ _ _ h => h) (fun w' => run_op_build rfl (by simp [Act.eval, Act.put]) (built_point (ofN u) (oneF 1))) ?_
  (try simp only [Act.put, List.setIfInBounds_toArray, List.set_cons_zero, List.set_cons_succ])
  refine wpCan_nil ⟨?_, ?_⟩
  ·
    try (simp only [canOps, List.getElem?_cons_zero, List.getElem?_cons_succ, List.drop_succ_cons, List.drop_zero])
    refine wpCan_alloc_arr rfl rfl ZTPoint (Nat.le_refl _) ?_
    (try simp only [Act.put, List.setIfInBounds_toArray, List.set_cons_zero, List.set_cons_succ])
    refine wpCan_nil ?_
    unfold wpTree
    try (simp only [canOps, List.getElem?_cons_zero, List.getElem?_cons_succ, List.drop_succ_cons, List.drop_zero])
    obtain ⟨hlo, hz1, b1⟩ := alloc1 wq.drew (.cells (arr .u64 10 fun _ => 0) 54)
    replace h0 := keep_below b1 (lt_of_block (w := wq) h0) h0
    replace h2 := keep_below b1 (lt_of_block (w := wq) h2) h2
    replace hr := keep_below b1 (lt_of_block (w := wq) hr) hr
    replace hrv := keep_below b1 (lt_of_block (w := wq) hrv) hrv
    replace hfi := keep_below b1 (lt_of_block (w := wq) hfi) hfi
    replace hb := hb.drew.trans (b1.mono hb.size)
    have bLO : wq.drew.heap.size ≤ wq.drew.heap.size := Nat.le_refl _
    obtain ⟨N0, hN0⟩ : ∃ B, B = wq.drew.heap.size := ⟨_, rfl⟩
    obtain ⟨LO, hLO⟩ : ∃ B, B = wq.drew.heap.size := ⟨_, rfl⟩
    have e0 : N0 = LO := hN0.trans hLO.symm
    have eP : wq.drew.heap.size + 1 = (wq.drew.alloc (.cells (arr .u64 10 fun _ => 0) 54)).heap.size := hz1.symm
    generalize wq.drew.alloc (.cells (arr .u64 10 fun _ => 0) 54) = w1 at *
    rw [← hLO] at hlo ⊢
    rw [← hLO] at lw b1 bLO eP
    clear hN0 hLO hz1 b1 bLO
    have l_h0 := lt_of_block h0
    have l_h2 := lt_of_block h2
    have l_hr := lt_of_block hr
    have l_hrv := lt_of_block hrv
    have l_hfi := lt_of_block hfi
    refine wpCan_alloc_arr rfl rfl ZTPoint (by omega) ?_
    (try simp only [Act.put, List.setIfInBounds_toArray, List.set_cons_zero, List.set_cons_succ])
    obtain ⟨hhi, hz1, b1⟩ := alloc1 w1 (.cells (arr .u64 10 fun _ => 0) 54)
    replace h0 := keep_below b1 (lt_of_block h0) h0
    replace h2 := keep_below b1 (lt_of_block h2) h2
    replace hr := keep_below b1 (lt_of_block hr) hr
    replace hrv := keep_below b1 (lt_of_block hrv) hrv
    replace hfi := keep_below b1 (lt_of_block hfi) hfi
    replace hlo := keep_below b1 (lt_of_block hlo) hlo
    replace hb := hb.trans (b1.mono hb.size)
    obtain ⟨HI, hHI⟩ : ∃ B, B = w1.heap.size := ⟨_, rfl⟩
    generalize w1.alloc (.cells (arr .u64 10 fun _ => 0) 54) = w2 at *
    rw [← hHI] at eP hhi b1 ⊢
    clear hz1 b1 hHI
    have nLH : LO ≠ HI := by omega
    have bLO : w.heap.size ≤ LO := by omega
    have bHI : w.heap.size ≤ HI := by omega
    refine wpCan_store_arr rfl rfl rfl rfl RTPoint (by omega) hlo ?_
    (try simp only [Act.put, List.setIfInBounds_toArray, List.set_cons_zero, List.set_cons_succ])
    refine wpCan_nil ?_
    replace h0 := row_keep (g := LO) (c' := (arr .u64 10 fun i => ((two5 (oneF 1) (oneF 0) i : Nat) : Int))) h0 (ne_of_type h0 hlo (by decide))
    replace h2 := row_keep (g := LO) (c' := (arr .u64 10 fun i => ((two5 (oneF 1) (oneF 0) i : Nat) : Int))) h2 (ne_of_type h2 hlo (by decide))
    replace hr := row_keep (g := LO) (c' := (arr .u64 10 fun i => ((two5 (oneF 1) (oneF 0) i : Nat) : Int))) hr (ne_of_type hr hlo (by decide))
    replace hrv := row_keep (g := LO) (c' := (arr .u64 10 fun i => ((two5 (oneF 1) (oneF 0) i : Nat) : Int))) hrv (ne_of_type hrv hlo (by decide))
    replace hfi := row_keep (g := LO) (c' := (arr .u64 10 fun i => ((two5 (oneF 1) (oneF 0) i : Nat) : Int))) hfi (ne_of_type hfi hlo (by decide))
    replace hhi := row_keep (g := LO) (c' := (arr .u64 10 fun i => ((two5 (oneF 1) (oneF 0) i : Nat) : Int))) hhi (Ne.symm nLH)
    replace hlo := row_self (c' := (arr .u64 10 fun i => ((two5 (oneF 1) (oneF 0) i : Nat) : Int))) hlo
    replace hb := row_below hb bLO (arr .u64 10 fun i => ((two5 (oneF 1) (oneF 0) i : Nat) : Int))
    generalize w2.setRow LO (arr .u64 10 fun i => ((two5 (oneF 1) (oneF 0) i : Nat) : Int)) = w3 at *
    go_upto_region 5 with (refine wpList_store_arr rfl rfl rfl rfl RTPoint hhi ?_)
    replace h0 := row_keep (g := HI) (c' := (arr .u64 10 fun i => ((two5 (ofN u) (oneF 1) i : Nat) : Int))) h0 (ne_of_type h0 hhi (by decide))
    replace h2 := row_keep (g := HI) (c' := (arr .u64 10 fun i => ((two5 (ofN u) (oneF 1) i : Nat) : Int))) h2 (ne_of_type h2 hhi (by decide))
    replace hr := row_keep (g := HI) (c' := (arr .u64 10 fun i => ((two5 (ofN u) (oneF 1) i : Nat) : Int))) hr (ne_of_type hr hhi (by decide))
    replace hrv := row_keep (g := HI) (c' := (arr .u64 10 fun i => ((two5 (ofN u) (oneF 1) i : Nat) : Int))) hrv (ne_of_type hrv hhi (by decide))
    replace hfi := row_keep (g := HI) (c' := (arr .u64 10 fun i => ((two5 (ofN u) (oneF 1) i : Nat) : Int))) hfi (ne_of_type hfi hhi (by decide))
    replace hlo := row_keep (g := HI) (c' := (arr .u64 10 fun i => ((two5 (ofN u) (oneF 1) i : Nat) : Int))) hlo nLH
    replace hhi := row_self (c' := (arr .u64 10 fun i => ((two5 (ofN u) (oneF 1) i : Nat) : Int))) hhi
    replace hb := row_below hb bHI (arr .u64 10 fun i => ((two5 (ofN u) (oneF 1) i : Nat) : Int))
    generalize w3.setRow HI (arr .u64 10 fun i => ((two5 (ofN u) (oneF 1) i : Nat) : Int)) = wn at *
    clear l_h0 l_h2 l_hr l_hrv l_hfi e0 eP lw
    (try simp only [Act.put, List.setIfInBounds_toArray, List.set_cons_zero, List.set_cons_succ])
    have lf : LadF k u wn w.heap.size RV R LO HI FI 0 := ⟨_, _, ⟨_, _, rfl, one_fits (x := 1) (by omega), one_fits (x := 0) (by omega)⟩, ⟨_, _, rfl, fits_of u HU.out, one_fits (x := 1) (by omega)⟩, h0, h2, ⟨hrv, hr, hlo, hhi, hfi⟩⟩
    clear h0 h2 hrv hr hlo hhi hfi
    have NLH := Lib.hid nLH
    have l2 : 0 < 1 := by omega
    clear nLH l2
    go_wp2
    go_loopg [10, 28] 255 (fun n was i wr => ∃ m : Nat, m + n = 255 ∧ i = .int .i64 m ∧ was = .int .u64 ((wasN (clampN k) m : Nat) : Int) ∧ LadF k u wr w.heap.size RV R LO HI FI m ∧ Below w.heap.size w wr)
    case atStart => exact ⟨0, rfl, rfl, rfl, lf, hb⟩
    case round =>
      clear lf hb
      obtain ⟨m, hm, rfl, rfl, lf, hb⟩ := hrel
      have hm' := Lib.hid hm
      clear hm
      by_cases hlt : m < 255
      · obtain ⟨L, H, fL, fH, h0, h2, lad⟩ := lf
        have FL := Lib.hid fL
        have FH := Lib.hid fH
        have LA := Lib.hid lad
        clear fL fH lad
        obtain ⟨at_, hat⟩ : ∃ a : Nat, a = 254 - m := ⟨_, rfl⟩
        obtain ⟨q, hq⟩ : ∃ a : Nat, a = at_ / 8 := ⟨_, rfl⟩
        obtain ⟨r, hr⟩ : ∃ a : Nat, a = at_ % 8 := ⟨_, rfl⟩
        have a1 : (254 : Int) - (m : Int) = (at_ : Int) := by omega
        have a2 : (at_ : Int) / 8 = (q : Int) := by omega
        have a3 : bits .and .i64 (at_ : Int) 7 = (r : Int) := by rw [i64_and7]; omega
        have ql : q < 32 := by omega
        have rl : r < 8 := by omega
        obtain ⟨x, hx⟩ : ∃ x, clampN k q = x := ⟨_, rfl⟩
        have xl : x < 256 := hx ▸ hK.out q ql
        have c0 : wr.cell? ⟨w.heap.size, q, none⟩ = some (.int .u8 (x : Int)) := by rw [cell_arr h0 q ql, hx]
        have eb : bitN (clampN k) m = x / 2 ^ r % 2 := by unfold bitN; rw [← hat, ← hq, ← hr, hx]
        have EB := Lib.hid eb
        have AT := Lib.hid hat
        have AQ := Lib.hid hq
        have AR := Lib.hid hr
        have HX := Lib.hid hx
        clear eb hat hq hr hx
        go_upto_region 12 with (fail)
        rw [bitval x r xl, ← EB.out]
        have hwas := wasN_lt (clampN k) m
        have hbit := bitN_lt (clampN k) m
        obtain ⟨c, hc⟩ : ∃ c : Nat, c = if wasN (clampN k) m = bitN (clampN k) m then 0 else 1 := ⟨_, rfl⟩
        have hx0 := xor01 _ _ hwas hbit
        rw [← hc] at hx0
        have c01 : c = 0 ∨ c = 1 := by rw [hc]; split <;> omega
        have ts := turn_sel hwas hbit hc FL.out FH.out
        have TS := Lib.hid ts
        clear ts hc a1 a2 a3 ql rl xl c0 hwas hbit
        go_wp2_with (go_at_call 28; fail)
        refine (swap_any c c01 LO HI NLH.out L H FL.out.lt FH.out.lt _ LA.out.lo LA.out.hi).mono ?_
        rintro e w5 ⟨rfl, bar, hlo, hhi⟩
        obtain ⟨⟨X, Z, eX, fX, fZ⟩, X', Z', eX', fX', fZ'⟩ := TS.out
        rw [eX] at hlo
        rw [eX'] at hhi
        have h0' := bar.keep h0 (ne_of_type h0 LA.out.lo (by decide)) (ne_of_type h0 LA.out.hi (by decide))
        have h2' := bar.keep h2 (ne_of_type h2 LA.out.lo (by decide)) (ne_of_type h2 LA.out.hi (by decide))
        have lad : Lad w5 RV R LO HI FI (two5 X Z) (two5 X' Z') (ofN u) := ⟨bar.keep LA.out.rv (ne_of_type LA.out.rv LA.out.lo (by decide)) (ne_of_type LA.out.rv LA.out.hi (by decide)), bar.keep LA.out.r (ne_of_type LA.out.r LA.out.lo (by decide)) (ne_of_type LA.out.r LA.out.hi (by decide)), hlo, hhi, bar.keep LA.out.fi (ne_of_type LA.out.fi LA.out.lo (by decide)) (ne_of_type LA.out.fi LA.out.hi (by decide))⟩
        replace hb := bar.below hb bLO bHI hb.size
        have FX := Lib.hid fX
        have FZ := Lib.hid fZ
        have FX' := Lib.hid fX'
        have FZ' := Lib.hid fZ'
        clear bar hlo hhi h0 h2 hx0 eX eX' fX fZ fX' fZ'
        go_wp2_with (go_at_call 23; fail)
        refine (step_any RV R LO HI FI X Z X' Z' (ofN u) FX.out.1 FZ.out.1 FX'.out.1 FZ'.out.1 (ofN_ok u) NLH.out _ lad).mono ?_
        rintro e w6 ⟨rfl, bar, lad2⟩
        replace h0' := bar.keep h0' (ne_of_type h0' lad.lo (by decide)) (ne_of_type h0' lad.hi (by decide))
        replace h2' := bar.keep h2' (ne_of_type h2' lad.lo (by decide)) (ne_of_type h2' lad.hi (by decide))
        replace hb := bar.below hb bLO bHI hb.size
        have LL := Lib.hid lad2
        clear bar lad lad2
        go_wp2
        go_roundg (gk - 1)
        case measure => have := hm'.out; omega
        case rel =>
          have hm'' := hm'.out
          have ok1 := turn_ok (bitN (clampN k) m) (lad_ok (keyU u) (Nat.mod_lt _ zero_lt_p) (clampN k) m)
          refine ⟨m + 1, by omega, by go_num, rfl, ⟨_, _, ?_, ?_, h0', h2', LL.out⟩, hb⟩
          · show FitP _ (turnP (bitN (clampN k) m) (ladP (keyU u) (clampN k) (m + 1))).1
            rw [turn_step]
            exact ⟨_, _, rfl, fits_LX FX.out FZ.out ok1.1, fits_LZ FX.out FZ.out ok1.1⟩
          · show FitP _ (turnP (bitN (clampN k) m) (ladP (keyU u) (clampN k) (m + 1))).2
            rw [turn_step]
            exact ⟨_, _, rfl, fits_HX FX.out FZ.out FX'.out FZ'.out ok1.1 ok1.2, fits_HZ FX.out FZ.out FX'.out FZ'.out ok1.1 ok1.2 (fits_of u HU.out)⟩
      · obtain rfl : m = 255 := by have := hm'.out; omega
        obtain ⟨L, H, fL, fH, h0, h2, lad⟩ := lf
        have FL := Lib.hid fL
        have FH := Lib.hid fH
        have LA := Lib.hid lad
        have hwas := wasN_lt (clampN k) 255
        have ts := turn_sel (b := 0) (c := wasN (clampN k) 255) hwas (.inl rfl) (by rcases hwas with h | h <;> rw [h] <;> rfl) fL fH
        have TS := Lib.hid ts
        obtain ⟨c, hc⟩ : ∃ c : Nat, c = wasN (clampN k) 255 := ⟨_, rfl⟩
        rw [← hc] at hwas TS ⊢
        clear fL fH lad ts hc
        go_wp2_with (go_at_call 28; fail)
        refine (swap_any c hwas LO HI NLH.out L H FL.out.lt FH.out.lt _ LA.out.lo LA.out.hi).mono ?_
        rintro e w5 ⟨rfl, bar, hlo, hhi⟩
        obtain ⟨⟨X, Z, eX, fX, fZ⟩, X', Z', eX', fX', fZ'⟩ := TS.out
        rw [eX] at hlo
        replace fX : Fits X (ladP (keyU u) (clampN k) 255).1.x := fX
        replace fZ : Fits Z (ladP (keyU u) (clampN k) 255).1.z := fZ
        have h2' := bar.keep h2 (ne_of_type h2 LA.out.lo (by decide)) (ne_of_type h2 LA.out.hi (by decide))
        have hrv := bar.keep LA.out.rv (ne_of_type LA.out.rv LA.out.lo (by decide)) (ne_of_type LA.out.rv LA.out.hi (by decide))
        have hr := bar.keep LA.out.r (ne_of_type LA.out.r LA.out.lo (by decide)) (ne_of_type LA.out.r LA.out.hi (by decide))
        replace hb := bar.below hb bLO bHI hb.size
        have FX := Lib.hid fX
        have FZ := Lib.hid fZ
        have OK := Lib.hid (show okF (prodN X (invN Z)) 5 from prod_ok _ _ fX.1 (ok_inv fZ.1))
        have VV := Lib.hid (show valN (prodN X (invN Z)) 5 % pN = multV k (keyU u) from by
          have h := (fits_M fX (inv_fits fZ)).2
          rw [h]
          unfold multV fM
          rw [Nat.mod_mod])
        clear bar hhi h0 h2 eX eX' fX fZ fX' fZ' hwas
        go_upto_region 17 with (fail)
        (try simp only [Act.put, List.setIfInBounds_toArray, List.set_cons_zero, List.set_cons_succ])
        have HSZ : w.heap.size ≤ w5.heap.size := hb.size
        have L2 : w.heap.size + 1 + 1 < w5.heap.size := lt_of_block h2'
        obtain ⟨wq, rfl⟩ : ∃ x, x = w5 := ⟨_, rfl⟩
        refine wp_region_free3 17 [.val (Is (.pointer (some ⟨R, 0, none⟩))), .val (Is (.pointer (some ⟨LO, 0, none⟩))), .val (Is (.agg (arr .u64 5 fun i => ((X i : Nat) : Int)))), .val (Is (.pointer (some ⟨R, 0, none⟩))), .val (Is (.pointer (some ⟨LO, 5, none⟩))), .val (Is (.agg (arr .u64 5 fun i => ((Z i : Nat) : Int)))), .val (Is (.tuple #[.agg (arr .u64 5 fun i => (((invN Z) i : Nat) : Int)), .int .i64 0])), .val (Is (.agg (arr .u64 5 fun i => (((invN Z) i : Nat) : Int)))), .val (Is (.int .i64 0)), .val (Is (.agg (arr .u64 5 fun i => (((invN Z) i : Nat) : Int)))), .val (Is (.agg (arr .u64 5 fun i => (((prodN X (invN Z)) i : Nat) : Int)))), .val (Is (.tuple #[.agg (arr .u8 32 fun k => ((bytesN (prodN X (invN Z)) k : Nat) : Int)), .int .i64 0])), .val (Is (.tuple #[.agg (arr .u8 32 fun k => ((bytesN (prodN X (invN Z)) k : Nat) : Int)), .int .i64 0])), .val (Is (.agg (arr .u8 32 fun k => ((bytesN (prodN X (invN Z)) k : Nat) : Int)))), .val (Is (.int .i64 0)), .new 23 .u8 32, .put 15 (fun k => ((bytesN (prodN X (invN Z)) k : Nat) : Int))] [[], [], [1], [], [], [4], [5], [6], [6], [3, 7, 8], [0, 2, 9], [10], [11], [12], [12], [], [13, 15]] [] (by kernel_rfl) (by kernel_rfl) (by kernel_rfl) rfl (stn_cons (stn_is _ _) (stn_cons (stn_is _ _) (stn_cons (stn_is _ _) (stn_cons (stn_is _ _) (stn_cons (stn_is _ _) (stn_cons (stn_is _ _) (stn_cons (stn_is _ _) (stn_cons (stn_is _ _) (stn_cons (stn_is _ _) (stn_cons (stn_is _ _) (stn_cons (stn_is _ _) (stn_cons (stn_is _ _) (stn_cons (stn_is _ _) (stn_cons (stn_is _ _) (stn_cons (stn_is _ _) (stn_cons (stn_new _ _ _ _) (stn_cons (stn_put _ _ _) (stn_nil _)))))))))))))))))) ?_ ?_
        · (simp only [List.take_succ_cons, List.take_zero, List.drop_succ_cons, List.drop_zero, List.zip_cons_cons, List.zip_nil_left, List.zip_nil_right, freeOps3, freeOp3, allV, under, underD, underN, apartAt, factAt, HK.fact, List.map_cons, List.map_nil, fillA, List.getElem?_cons_zero, List.getElem?_cons_succ, List.range_succ, List.range_zero, List.nil_append, List.cons_append, Act.put, List.setIfInBounds_toArray, List.set_cons_zero, List.set_cons_succ])
          refine ⟨?_, ?_, ?_, ?_, ?_, ?_, ?_, ?_, ?_, ?_, ?_, ?_, ?_, ?_, ?_, ?_, ?_, trivial⟩
          · intro x0 x1 x2 x3 x4 x5 x6 x7 x8 x9 x10 x11 x12 x13 x14 x15 x16 w' hb' 
            have cr := cell_of_row _ _ 0 _ _ _ (keep_below hb' (lt_of_block (w := wq) hrv) hrv)
            refine free_e rfl (fun K hK => ?_)
            go_simp
            exact hK _ _ (Below.refl _ _) rfl
          · intro x0 x1 x2 x3 x4 x5 x6 x7 x8 x9 x10 x11 x12 x13 x14 x15 x16 w' hb' 
            refine free_e rfl (fun K hK => ?_)
            go_simp
            exact hK _ _ (Below.refl _ _) rfl
          · intro x0 x1 x2 x3 x4 x5 x6 x7 x8 x9 x10 x11 x12 x13 x14 x15 x16 w' hb' e0
            unfold Is at e0
            subst e0
            exact free_load_as (fun i => ((X i : Nat) : Int)) rfl rfl rfl RTFe (keep_below hb' (lt_of_block (w := wq) hlo) hlo) (by omega) (fun i hi => two_lo _ _ i hi) rfl
          · intro x0 x1 x2 x3 x4 x5 x6 x7 x8 x9 x10 x11 x12 x13 x14 x15 x16 w' hb' 
            have cr := cell_of_row _ _ 0 _ _ _ (keep_below hb' (lt_of_block (w := wq) hrv) hrv)
            refine free_e rfl (fun K hK => ?_)
            go_simp
            exact hK _ _ (Below.refl _ _) rfl
          · intro x0 x1 x2 x3 x4 x5 x6 x7 x8 x9 x10 x11 x12 x13 x14 x15 x16 w' hb' 
            refine free_e rfl (fun K hK => ?_)
            go_simp
            exact hK _ _ (Below.refl _ _) rfl
          · intro x0 x1 x2 x3 x4 x5 x6 x7 x8 x9 x10 x11 x12 x13 x14 x15 x16 w' hb' e0
            unfold Is at e0
            subst e0
            exact free_load_as (fun i => ((Z i : Nat) : Int)) rfl rfl rfl RTFe (keep_below hb' (lt_of_block (w := wq) hlo) hlo) (by omega) (fun i hi => two_hi _ _ i hi) rfl
          · intro x0 x1 x2 x3 x4 x5 x6 x7 x8 x9 x10 x11 x12 x13 x14 x15 x16 w' hb' e0
            unfold Is at e0
            subst e0
            refine free_e rfl (fun K hK => ?_)
            go_simp
            refine (Invert_yes Z FZ.out.1 _).mono ?_
            rintro e w4 ⟨rfl, b4⟩
            exact hK _ _ b4 rfl
          · intro x0 x1 x2 x3 x4 x5 x6 x7 x8 x9 x10 x11 x12 x13 x14 x15 x16 w' hb' e0
            unfold Is at e0
            subst e0
            refine free_e rfl (fun K hK => ?_)
            go_simp
            exact hK _ _ (Below.refl _ _) rfl
          · intro x0 x1 x2 x3 x4 x5 x6 x7 x8 x9 x10 x11 x12 x13 x14 x15 x16 w' hb' e0
            unfold Is at e0
            subst e0
            refine free_e rfl (fun K hK => ?_)
            go_simp
            exact hK _ _ (Below.refl _ _) rfl
          · intro x0 x1 x2 x3 x4 x5 x6 x7 x8 x9 x10 x11 x12 x13 x14 x15 x16 w' hb' e0 e1 e2
            unfold Is at e0 e1 e2
            subst e0 e1 e2
            refine free_e rfl (fun K hK => ?_)
            go_simp
            refine (keep_yes R (invN Z) _ (keep_below hb' (lt_of_block (w := wq) hr) hr)).mono ?_
            rintro e w4 ⟨rfl, b4⟩
            exact hK _ _ b4 rfl
          · intro x0 x1 x2 x3 x4 x5 x6 x7 x8 x9 x10 x11 x12 x13 x14 x15 x16 w' hb' e0 e1 e2
            unfold Is at e0 e1 e2
            subst e0 e1 e2
            refine free_e rfl (fun K hK => ?_)
            go_simp
            refine (rmul_yes R X (invN Z) FX.out.1 (ok_inv FZ.out.1) _ (keep_below hb' (lt_of_block (w := wq) hr) hr)).mono ?_
            rintro e w4 ⟨rfl, b4⟩
            exact hK _ _ b4 rfl
          · intro x0 x1 x2 x3 x4 x5 x6 x7 x8 x9 x10 x11 x12 x13 x14 x15 x16 w' hb' e0
            unfold Is at e0
            subst e0
            refine free_e rfl (fun K hK => ?_)
            go_simp
            refine (Bytes_yes (prodN X (invN Z)) OK.out _).mono ?_
            rintro e w4 ⟨rfl, b4⟩
            exact hK _ _ b4 rfl
          · intro x0 x1 x2 x3 x4 x5 x6 x7 x8 x9 x10 x11 x12 x13 x14 x15 x16 w' hb' e0
            unfold Is at e0
            subst e0
            refine free_e rfl (fun K hK => ?_)
            go_simp
            exact hK _ _ (Below.refl _ _) rfl
          · intro x0 x1 x2 x3 x4 x5 x6 x7 x8 x9 x10 x11 x12 x13 x14 x15 x16 w' hb' e0
            unfold Is at e0
            subst e0
            refine free_e rfl (fun K hK => ?_)
            go_simp
            exact hK _ _ (Below.refl _ _) rfl
          · intro x0 x1 x2 x3 x4 x5 x6 x7 x8 x9 x10 x11 x12 x13 x14 x15 x16 w' hb' e0
            unfold Is at e0
            subst e0
            refine free_e rfl (fun K hK => ?_)
            go_simp
            exact hK _ _ (Below.refl _ _) rfl
          · intro x0 x1 x2 x3 x4 x5 x6 x7 x8 x9 x10 x11 x12 x13 x14 x15 x16 w' hb' 
            exact ⟨by first | rfl | trivial, by first | trivial | rfl, ZTKey⟩
          · intro x0 x1 x2 x3 x4 x5 x6 x7 x8 x9 x10 x11 x12 x13 x14 x15 x16 w' hb' e0 e1
            unfold Is at e0
            subst e0
            exact ⟨by first | trivial | rfl, _, _, _, _, _, rfl, rfl, by decide, RTKey, fun v hv => Option.some.inj hv, rfl⟩
        · (simp only [List.take_succ_cons, List.take_zero, List.drop_succ_cons, List.drop_zero, List.zip_cons_cons, List.zip_nil_left, List.zip_nil_right, freeOps3, freeOp3, allV, under, underD, underN, apartAt, factAt, HK.fact, List.map_cons, List.map_nil, fillA, List.getElem?_cons_zero, List.getElem?_cons_succ, List.range_succ, List.range_zero, List.nil_append, List.cons_append, Act.put, List.setIfInBounds_toArray, List.set_cons_zero, List.set_cons_succ])
          rintro x0 x1 x2 x3 x4 x5 x6 x7 x8 x9 x10 x11 x12 x13 x14 x15 x16 w5 hb' e0 e1 e2 e3 e4 e5 e6 e7 e8 e9 e10 e11 e12 e13 e14 e15 e16 N15 
          unfold Is at e0 e1 e2 e3 e4 e5 e6 e7 e8 e9 e10 e11 e12 e13 e14
          subst e0 e1 e2 e3 e4 e5 e6 e7 e8 e9 e10 e11 e12 e13 e14
          obtain ⟨BO, rfl, lBO, ho⟩ := N15
          replace ho : w5.heap[BO]? = some (.cells (arr .u8 32 (fun k => ((bytesN (prodN X (invN Z)) k : Nat) : Int))) 23 (0, 0)) := ho
          replace lBO : wq.heap.size ≤ BO := lBO
          replace h2' := keep_below hb' (lt_of_block (w := wq) h2') h2'
          replace hr := keep_below hb' (lt_of_block (w := wq) hr) hr
          replace hrv := keep_below hb' (lt_of_block (w := wq) hrv) hrv
          replace hlo := keep_below hb' (lt_of_block (w := wq) hlo) hlo
          replace hb := (hb.drew).trans (hb'.mono hb.size)
          obtain ⟨w6, rfl⟩ : ∃ x, x = w5 := ⟨_, rfl⟩
          go_upto_region 18 with (fail)
          (try simp only [Act.put, List.setIfInBounds_toArray, List.set_cons_zero, List.set_cons_succ])
          have c_rv : w6.cell? ⟨RV, 0, none⟩ = some (.pointer (some ⟨R, 0, none⟩)) := cell_of_row _ _ 0 _ _ _ hrv
          go_wp2_with (first | (refine wpList_val' rfl (run_op_build rfl (by simp [Act.eval, Act.put]) built_fe0) ?_) | (go_at_call 30; fail))
          refine (keep_yes R (oneF 0) _ hr).mono ?_
          rintro e w7 ⟨rfl, b7⟩
          replace h2' := keep_below b7 (lt_of_block h2') h2'
          replace hr := keep_below b7 (lt_of_block hr) hr
          replace hrv := keep_below b7 (lt_of_block hrv) hrv
          replace ho := keep_below b7 (lt_of_block ho) ho
          replace hb := hb.trans (b7.mono hb.size)
          clear b7 c_rv
          have c_rv : w7.cell? ⟨RV, 0, none⟩ = some (.pointer (some ⟨R, 0, none⟩)) := cell_of_row _ _ 0 _ _ _ hrv
          have c_r := cell_arr hr 0 (by omega)
          go_wp2_with (first | (refine wpList_load_arr rfl rfl rfl RTKey ho ?_) | (refine wpList_store_arr rfl rfl rfl rfl RTKey h2' ?_))
          refine bodyPost_ret (results_arr rfl rfl RTKey (row_self h2')) rfl ⟨?_, row_below hb (by omega) _⟩
          rw [arr_ext (fun i _ => stands_same OK.out VV.out i)]
  ·
    try (simp only [canOps, List.getElem?_cons_zero, List.getElem?_cons_succ, List.drop_succ_cons, List.drop_zero])
    refine wpCan_alloc_arr rfl rfl ZTPoint (Nat.le_refl _) ?_
    (try simp only [Act.put, List.setIfInBounds_toArray, List.set_cons_zero, List.set_cons_succ])
    refine wpCan_nil ?_
    unfold wpTree
    try (simp only [canOps, List.getElem?_cons_zero, List.getElem?_cons_succ, List.drop_succ_cons, List.drop_zero])
    obtain ⟨hhi, hz1, b1⟩ := alloc1 wq.drew (.cells (arr .u64 10 fun _ => 0) 54)
    replace h0 := keep_below b1 (lt_of_block (w := wq) h0) h0
    replace h2 := keep_below b1 (lt_of_block (w := wq) h2) h2
    replace hr := keep_below b1 (lt_of_block (w := wq) hr) hr
    replace hrv := keep_below b1 (lt_of_block (w := wq) hrv) hrv
    replace hfi := keep_below b1 (lt_of_block (w := wq) hfi) hfi
    replace hb := hb.drew.trans (b1.mono hb.size)
    have bHI : wq.drew.heap.size ≤ wq.drew.heap.size := Nat.le_refl _
    obtain ⟨N0, hN0⟩ : ∃ B, B = wq.drew.heap.size := ⟨_, rfl⟩
    obtain ⟨HI, hHI⟩ : ∃ B, B = wq.drew.heap.size := ⟨_, rfl⟩
    have e0 : N0 = HI := hN0.trans hHI.symm
    have eP : wq.drew.heap.size + 1 = (wq.drew.alloc (.cells (arr .u64 10 fun _ => 0) 54)).heap.size := hz1.symm
    generalize wq.drew.alloc (.cells (arr .u64 10 fun _ => 0) 54) = w1 at *
    rw [← hHI] at hhi ⊢
    rw [← hHI] at lw b1 bHI eP
    clear hN0 hHI hz1 b1 bHI
    have l_h0 := lt_of_block h0
    have l_h2 := lt_of_block h2
    have l_hr := lt_of_block hr
    have l_hrv := lt_of_block hrv
    have l_hfi := lt_of_block hfi
    refine wpCan_alloc_arr rfl rfl ZTPoint (by omega) ?_
    (try simp only [Act.put, List.setIfInBounds_toArray, List.set_cons_zero, List.set_cons_succ])
    obtain ⟨hlo, hz1, b1⟩ := alloc1 w1 (.cells (arr .u64 10 fun _ => 0) 54)
    replace h0 := keep_below b1 (lt_of_block h0) h0
    replace h2 := keep_below b1 (lt_of_block h2) h2
    replace hr := keep_below b1 (lt_of_block hr) hr
    replace hrv := keep_below b1 (lt_of_block hrv) hrv
    replace hfi := keep_below b1 (lt_of_block hfi) hfi
    replace hhi := keep_below b1 (lt_of_block hhi) hhi
    replace hb := hb.trans (b1.mono hb.size)
    obtain ⟨LO, hLO⟩ : ∃ B, B = w1.heap.size := ⟨_, rfl⟩
    generalize w1.alloc (.cells (arr .u64 10 fun _ => 0) 54) = w2 at *
    rw [← hLO] at eP hlo b1 ⊢
    clear hz1 b1 hLO
    have nLH : LO ≠ HI := by omega
    have bLO : w.heap.size ≤ LO := by omega
    have bHI : w.heap.size ≤ HI := by omega
    refine wpCan_store_arr rfl rfl rfl rfl RTPoint (by omega) hlo ?_
    (try simp only [Act.put, List.setIfInBounds_toArray, List.set_cons_zero, List.set_cons_succ])
    refine wpCan_nil ?_
    replace h0 := row_keep (g := LO) (c' := (arr .u64 10 fun i => ((two5 (oneF 1) (oneF 0) i : Nat) : Int))) h0 (ne_of_type h0 hlo (by decide))
    replace h2 := row_keep (g := LO) (c' := (arr .u64 10 fun i => ((two5 (oneF 1) (oneF 0) i : Nat) : Int))) h2 (ne_of_type h2 hlo (by decide))
    replace hr := row_keep (g := LO) (c' := (arr .u64 10 fun i => ((two5 (oneF 1) (oneF 0) i : Nat) : Int))) hr (ne_of_type hr hlo (by decide))
    replace hrv := row_keep (g := LO) (c' := (arr .u64 10 fun i => ((two5 (oneF 1) (oneF 0) i : Nat) : Int))) hrv (ne_of_type hrv hlo (by decide))
    replace hfi := row_keep (g := LO) (c' := (arr .u64 10 fun i => ((two5 (oneF 1) (oneF 0) i : Nat) : Int))) hfi (ne_of_type hfi hlo (by decide))
    replace hhi := row_keep (g := LO) (c' := (arr .u64 10 fun i => ((two5 (oneF 1) (oneF 0) i : Nat) : Int))) hhi (Ne.symm nLH)
    replace hlo := row_self (c' := (arr .u64 10 fun i => ((two5 (oneF 1) (oneF 0) i : Nat) : Int))) hlo
    replace hb := row_below hb bLO (arr .u64 10 fun i => ((two5 (oneF 1) (oneF 0) i : Nat) : Int))
    generalize w2.setRow LO (arr .u64 10 fun i => ((two5 (oneF 1) (oneF 0) i : Nat) : Int)) = w3 at *
    go_upto_region 5 with (refine wpList_store_arr rfl rfl rfl rfl RTPoint hhi ?_)
    replace h0 := row_keep (g := HI) (c' := (arr .u64 10 fun i => ((two5 (ofN u) (oneF 1) i : Nat) : Int))) h0 (ne_of_type h0 hhi (by decide))
    replace h2 := row_keep (g := HI) (c' := (arr .u64 10 fun i => ((two5 (ofN u) (oneF 1) i : Nat) : Int))) h2 (ne_of_type h2 hhi (by decide))
    replace hr := row_keep (g := HI) (c' := (arr .u64 10 fun i => ((two5 (ofN u) (oneF 1) i : Nat) : Int))) hr (ne_of_type hr hhi (by decide))
    replace hrv := row_keep (g := HI) (c' := (arr .u64 10 fun i => ((two5 (ofN u) (oneF 1) i : Nat) : Int))) hrv (ne_of_type hrv hhi (by decide))
    replace hfi := row_keep (g := HI) (c' := (arr .u64 10 fun i => ((two5 (ofN u) (oneF 1) i : Nat) : Int))) hfi (ne_of_type hfi hhi (by decide))
    replace hlo := row_keep (g := HI) (c' := (arr .u64 10 fun i => ((two5 (ofN u) (oneF 1) i : Nat) : Int))) hlo nLH
    replace hhi := row_self (c' := (arr .u64 10 fun i => ((two5 (ofN u) (oneF 1) i : Nat) : Int))) hhi
    replace hb := row_below hb bHI (arr .u64 10 fun i => ((two5 (ofN u) (oneF 1) i : Nat) : Int))
    generalize w3.setRow HI (arr .u64 10 fun i => ((two5 (ofN u) (oneF 1) i : Nat) : Int)) = wn at *
    clear l_h0 l_h2 l_hr l_hrv l_hfi e0 eP lw
    (try simp only [Act.put, List.setIfInBounds_toArray, List.set_cons_zero, List.set_cons_succ])
    have lf : LadF k u wn w.heap.size RV R LO HI FI 0 := ⟨_, _, ⟨_, _, rfl, one_fits (x := 1) (by omega), one_fits (x := 0) (by omega)⟩, ⟨_, _, rfl, fits_of u HU.out, one_fits (x := 1) (by omega)⟩, h0, h2, ⟨hrv, hr, hlo, hhi, hfi⟩⟩
    clear h0 h2 hrv hr hlo hhi hfi
    have NLH := Lib.hid nLH
    have l2 : 0 < 1 := by omega
    clear nLH l2
    go_wp2
    go_loopg [10, 28] 255 (fun n was i wr => ∃ m : Nat, m + n = 255 ∧ i = .int .i64 m ∧ was = .int .u64 ((wasN (clampN k) m : Nat) : Int) ∧ LadF k u wr w.heap.size RV R LO HI FI m ∧ Below w.heap.size w wr)
    case atStart => exact ⟨0, rfl, rfl, rfl, lf, hb⟩
    case round =>
      clear lf hb
      obtain ⟨m, hm, rfl, rfl, lf, hb⟩ := hrel
      have hm' := Lib.hid hm
      clear hm
      by_cases hlt : m < 255
      · obtain ⟨L, H, fL, fH, h0, h2, lad⟩ := lf
        have FL := Lib.hid fL
        have FH := Lib.hid fH
        have LA := Lib.hid lad
        clear fL fH lad
        obtain ⟨at_, hat⟩ : ∃ a : Nat, a = 254 - m := ⟨_, rfl⟩
        obtain ⟨q, hq⟩ : ∃ a : Nat, a = at_ / 8 := ⟨_, rfl⟩
        obtain ⟨r, hr⟩ : ∃ a : Nat, a = at_ % 8 := ⟨_, rfl⟩
        have a1 : (254 : Int) - (m : Int) = (at_ : Int) := by omega
        have a2 : (at_ : Int) / 8 = (q : Int) := by omega
        have a3 : bits .and .i64 (at_ : Int) 7 = (r : Int) := by rw [i64_and7]; omega
        have ql : q < 32 := by omega
        have rl : r < 8 := by omega
        obtain ⟨x, hx⟩ : ∃ x, clampN k q = x := ⟨_, rfl⟩
        have xl : x < 256 := hx ▸ hK.out q ql
        have c0 : wr.cell? ⟨w.heap.size, q, none⟩ = some (.int .u8 (x : Int)) := by rw [cell_arr h0 q ql, hx]
        have eb : bitN (clampN k) m = x / 2 ^ r % 2 := by unfold bitN; rw [← hat, ← hq, ← hr, hx]
        have EB := Lib.hid eb
        have AT := Lib.hid hat
        have AQ := Lib.hid hq
        have AR := Lib.hid hr
        have HX := Lib.hid hx
        clear eb hat hq hr hx
        go_upto_region 12 with (fail)
        rw [bitval x r xl, ← EB.out]
        have hwas := wasN_lt (clampN k) m
        have hbit := bitN_lt (clampN k) m
        obtain ⟨c, hc⟩ : ∃ c : Nat, c = if wasN (clampN k) m = bitN (clampN k) m then 0 else 1 := ⟨_, rfl⟩
        have hx0 := xor01 _ _ hwas hbit
        rw [← hc] at hx0
        have c01 : c = 0 ∨ c = 1 := by rw [hc]; split <;> omega
        have ts := turn_sel hwas hbit hc FL.out FH.out
        have TS := Lib.hid ts
        clear ts hc a1 a2 a3 ql rl xl c0 hwas hbit
        go_wp2_with (go_at_call 28; fail)
        refine (swap_any c c01 LO HI NLH.out L H FL.out.lt FH.out.lt _ LA.out.lo LA.out.hi).mono ?_
        rintro e w5 ⟨rfl, bar, hlo, hhi⟩
        obtain ⟨⟨X, Z, eX, fX, fZ⟩, X', Z', eX', fX', fZ'⟩ := TS.out
        rw [eX] at hlo
        rw [eX'] at hhi
        have h0' := bar.keep h0 (ne_of_type h0 LA.out.lo (by decide)) (ne_of_type h0 LA.out.hi (by decide))
        have h2' := bar.keep h2 (ne_of_type h2 LA.out.lo (by decide)) (ne_of_type h2 LA.out.hi (by decide))
        have lad : Lad w5 RV R LO HI FI (two5 X Z) (two5 X' Z') (ofN u) := ⟨bar.keep LA.out.rv (ne_of_type LA.out.rv LA.out.lo (by decide)) (ne_of_type LA.out.rv LA.out.hi (by decide)), bar.keep LA.out.r (ne_of_type LA.out.r LA.out.lo (by decide)) (ne_of_type LA.out.r LA.out.hi (by decide)), hlo, hhi, bar.keep LA.out.fi (ne_of_type LA.out.fi LA.out.lo (by decide)) (ne_of_type LA.out.fi LA.out.hi (by decide))⟩
        replace hb := bar.below hb bLO bHI hb.size
        have FX := Lib.hid fX
        have FZ := Lib.hid fZ
        have FX' := Lib.hid fX'
        have FZ' := Lib.hid fZ'
        clear bar hlo hhi h0 h2 hx0 eX eX' fX fZ fX' fZ'
        go_wp2_with (go_at_call 23; fail)
        refine (step_any RV R LO HI FI X Z X' Z' (ofN u) FX.out.1 FZ.out.1 FX'.out.1 FZ'.out.1 (ofN_ok u) NLH.out _ lad).mono ?_
        rintro e w6 ⟨rfl, bar, lad2⟩
        replace h0' := bar.keep h0' (ne_of_type h0' lad.lo (by decide)) (ne_of_type h0' lad.hi (by decide))
        replace h2' := bar.keep h2' (ne_of_type h2' lad.lo (by decide)) (ne_of_type h2' lad.hi (by decide))
        replace hb := bar.below hb bLO bHI hb.size
        have LL := Lib.hid lad2
        clear bar lad lad2
        go_wp2
        go_roundg (gk - 1)
        case measure => have := hm'.out; omega
        case rel =>
          have hm'' := hm'.out
          have ok1 := turn_ok (bitN (clampN k) m) (lad_ok (keyU u) (Nat.mod_lt _ zero_lt_p) (clampN k) m)
          refine ⟨m + 1, by omega, by go_num, rfl, ⟨_, _, ?_, ?_, h0', h2', LL.out⟩, hb⟩
          · show FitP _ (turnP (bitN (clampN k) m) (ladP (keyU u) (clampN k) (m + 1))).1
            rw [turn_step]
            exact ⟨_, _, rfl, fits_LX FX.out FZ.out ok1.1, fits_LZ FX.out FZ.out ok1.1⟩
          · show FitP _ (turnP (bitN (clampN k) m) (ladP (keyU u) (clampN k) (m + 1))).2
            rw [turn_step]
            exact ⟨_, _, rfl, fits_HX FX.out FZ.out FX'.out FZ'.out ok1.1 ok1.2, fits_HZ FX.out FZ.out FX'.out FZ'.out ok1.1 ok1.2 (fits_of u HU.out)⟩
      · obtain rfl : m = 255 := by have := hm'.out; omega
        obtain ⟨L, H, fL, fH, h0, h2, lad⟩ := lf
        have FL := Lib.hid fL
        have FH := Lib.hid fH
        have LA := Lib.hid lad
        have hwas := wasN_lt (clampN k) 255
        have ts := turn_sel (b := 0) (c := wasN (clampN k) 255) hwas (.inl rfl) (by rcases hwas with h | h <;> rw [h] <;> rfl) fL fH
        have TS := Lib.hid ts
        obtain ⟨c, hc⟩ : ∃ c : Nat, c = wasN (clampN k) 255 := ⟨_, rfl⟩
        rw [← hc] at hwas TS ⊢
        clear fL fH lad ts hc
        go_wp2_with (go_at_call 28; fail)
        refine (swap_any c hwas LO HI NLH.out L H FL.out.lt FH.out.lt _ LA.out.lo LA.out.hi).mono ?_
        rintro e w5 ⟨rfl, bar, hlo, hhi⟩
        obtain ⟨⟨X, Z, eX, fX, fZ⟩, X', Z', eX', fX', fZ'⟩ := TS.out
        rw [eX] at hlo
        replace fX : Fits X (ladP (keyU u) (clampN k) 255).1.x := fX
        replace fZ : Fits Z (ladP (keyU u) (clampN k) 255).1.z := fZ
        have h2' := bar.keep h2 (ne_of_type h2 LA.out.lo (by decide)) (ne_of_type h2 LA.out.hi (by decide))
        have hrv := bar.keep LA.out.rv (ne_of_type LA.out.rv LA.out.lo (by decide)) (ne_of_type LA.out.rv LA.out.hi (by decide))
        have hr := bar.keep LA.out.r (ne_of_type LA.out.r LA.out.lo (by decide)) (ne_of_type LA.out.r LA.out.hi (by decide))
        replace hb := bar.below hb bLO bHI hb.size
        have FX := Lib.hid fX
        have FZ := Lib.hid fZ
        have OK := Lib.hid (show okF (prodN X (invN Z)) 5 from prod_ok _ _ fX.1 (ok_inv fZ.1))
        have VV := Lib.hid (show valN (prodN X (invN Z)) 5 % pN = multV k (keyU u) from by
          have h := (fits_M fX (inv_fits fZ)).2
          rw [h]
          unfold multV fM
          rw [Nat.mod_mod])
        clear bar hhi h0 h2 eX eX' fX fZ fX' fZ' hwas
        go_upto_region 17 with (fail)
        (try simp only [Act.put, List.setIfInBounds_toArray, List.set_cons_zero, List.set_cons_succ])
        have HSZ : w.heap.size ≤ w5.heap.size := hb.size
        have L2 : w.heap.size + 1 + 1 < w5.heap.size := lt_of_block h2'
        obtain ⟨wq, rfl⟩ : ∃ x, x = w5 := ⟨_, rfl⟩
        refine wp_region_free3 17 [.val (Is (.pointer (some ⟨R, 0, none⟩))), .val (Is (.pointer (some ⟨LO, 0, none⟩))), .val (Is (.agg (arr .u64 5 fun i => ((X i : Nat) : Int)))), .val (Is (.pointer (some ⟨R, 0, none⟩))), .val (Is (.pointer (some ⟨LO, 5, none⟩))), .val (Is (.agg (arr .u64 5 fun i => ((Z i : Nat) : Int)))), .val (Is (.tuple #[.agg (arr .u64 5 fun i => (((invN Z) i : Nat) : Int)), .int .i64 0])), .val (Is (.agg (arr .u64 5 fun i => (((invN Z) i : Nat) : Int)))), .val (Is (.int .i64 0)), .val (Is (.agg (arr .u64 5 fun i => (((invN Z) i : Nat) : Int)))), .val (Is (.agg (arr .u64 5 fun i => (((prodN X (invN Z)) i : Nat) : Int)))), .val (Is (.tuple #[.agg (arr .u8 32 fun k => ((bytesN (prodN X (invN Z)) k : Nat) : Int)), .int .i64 0])), .val (Is (.tuple #[.agg (arr .u8 32 fun k => ((bytesN (prodN X (invN Z)) k : Nat) : Int)), .int .i64 0])), .val (Is (.agg (arr .u8 32 fun k => ((bytesN (prodN X (invN Z)) k : Nat) : Int)))), .val (Is (.int .i64 0)), .new 23 .u8 32, .put 15 (fun k => ((bytesN (prodN X (invN Z)) k : Nat) : Int))] [[], [], [1], [], [], [4], [5], [6], [6], [3, 7, 8], [0, 2, 9], [10], [11], [12], [12], [], [13, 15]] [] (by kernel_rfl) (by kernel_rfl) (by kernel_rfl) rfl (stn_cons (stn_is _ _) (stn_cons (stn_is _ _) (stn_cons (stn_is _ _) (stn_cons (stn_is _ _) (stn_cons (stn_is _ _) (stn_cons (stn_is _ _) (stn_cons (stn_is _ _) (stn_cons (stn_is _ _) (stn_cons (stn_is _ _) (stn_cons (stn_is _ _) (stn_cons (stn_is _ _) (stn_cons (stn_is _ _) (stn_cons (stn_is _ _) (stn_cons (stn_is _ _) (stn_cons (stn_is _ _) (stn_cons (stn_new _ _ _ _) (stn_cons (stn_put _ _ _) (stn_nil _)))))))))))))))))) ?_ ?_
        · (simp only [List.take_succ_cons, List.take_zero, List.drop_succ_cons, List.drop_zero, List.zip_cons_cons, List.zip_nil_left, List.zip_nil_right, freeOps3, freeOp3, allV, under, underD, underN, apartAt, factAt, HK.fact, List.map_cons, List.map_nil, fillA, List.getElem?_cons_zero, List.getElem?_cons_succ, List.range_succ, List.range_zero, List.nil_append, List.cons_append, Act.put, List.setIfInBounds_toArray, List.set_cons_zero, List.set_cons_succ])
          refine ⟨?_, ?_, ?_, ?_, ?_, ?_, ?_, ?_, ?_, ?_, ?_, ?_, ?_, ?_, ?_, ?_, ?_, trivial⟩
          · intro x0 x1 x2 x3 x4 x5 x6 x7 x8 x9 x10 x11 x12 x13 x14 x15 x16 w' hb' 
            have cr := cell_of_row _ _ 0 _ _ _ (keep_below hb' (lt_of_block (w := wq) hrv) hrv)
            refine free_e rfl (fun K hK => ?_)
            go_simp
            exact hK _ _ (Below.refl _ _) rfl
          · intro x0 x1 x2 x3 x4 x5 x6 x7 x8 x9 x10 x11 x12 x13 x14 x15 x16 w' hb' 
            refine free_e rfl (fun K hK => ?_)
            go_simp
            exact hK _ _ (Below.refl _ _) rfl
          · intro x0 x1 x2 x3 x4 x5 x6 x7 x8 x9 x10 x11 x12 x13 x14 x15 x16 w' hb' e0
            unfold Is at e0
            subst e0
            exact free_load_as (fun i => ((X i : Nat) : Int)) rfl rfl rfl RTFe (keep_below hb' (lt_of_block (w := wq) hlo) hlo) (by omega) (fun i hi => two_lo _ _ i hi) rfl
          · intro x0 x1 x2 x3 x4 x5 x6 x7 x8 x9 x10 x11 x12 x13 x14 x15 x16 w' hb' 
            have cr := cell_of_row _ _ 0 _ _ _ (keep_below hb' (lt_of_block (w := wq) hrv) hrv)
            refine free_e rfl (fun K hK => ?_)
            go_simp
            exact hK _ _ (Below.refl _ _) rfl
          · intro x0 x1 x2 x3 x4 x5 x6 x7 x8 x9 x10 x11 x12 x13 x14 x15 x16 w' hb' 
            refine free_e rfl (fun K hK => ?_)
            go_simp
            exact hK _ _ (Below.refl _ _) rfl
          · intro x0 x1 x2 x3 x4 x5 x6 x7 x8 x9 x10 x11 x12 x13 x14 x15 x16 w' hb' e0
            unfold Is at e0
            subst e0
            exact free_load_as (fun i => ((Z i : Nat) : Int)) rfl rfl rfl RTFe (keep_below hb' (lt_of_block (w := wq) hlo) hlo) (by omega) (fun i hi => two_hi _ _ i hi) rfl
          · intro x0 x1 x2 x3 x4 x5 x6 x7 x8 x9 x10 x11 x12 x13 x14 x15 x16 w' hb' e0
            unfold Is at e0
            subst e0
            refine free_e rfl (fun K hK => ?_)
            go_simp
            refine (Invert_yes Z FZ.out.1 _).mono ?_
            rintro e w4 ⟨rfl, b4⟩
            exact hK _ _ b4 rfl
          · intro x0 x1 x2 x3 x4 x5 x6 x7 x8 x9 x10 x11 x12 x13 x14 x15 x16 w' hb' e0
            unfold Is at e0
            subst e0
            refine free_e rfl (fun K hK => ?_)
            go_simp
            exact hK _ _ (Below.refl _ _) rfl
          · intro x0 x1 x2 x3 x4 x5 x6 x7 x8 x9 x10 x11 x12 x13 x14 x15 x16 w' hb' e0
            unfold Is at e0
            subst e0
            refine free_e rfl (fun K hK => ?_)
            go_simp
            exact hK _ _ (Below.refl _ _) rfl
          · intro x0 x1 x2 x3 x4 x5 x6 x7 x8 x9 x10 x11 x12 x13 x14 x15 x16 w' hb' e0 e1 e2
            unfold Is at e0 e1 e2
            subst e0 e1 e2
            refine free_e rfl (fun K hK => ?_)
            go_simp
            refine (keep_yes R (invN Z) _ (keep_below hb' (lt_of_block (w := wq) hr) hr)).mono ?_
            rintro e w4 ⟨rfl, b4⟩
            exact hK _ _ b4 rfl
          · intro x0 x1 x2 x3 x4 x5 x6 x7 x8 x9 x10 x11 x12 x13 x14 x15 x16 w' hb' e0 e1 e2
            unfold Is at e0 e1 e2
            subst e0 e1 e2
            refine free_e rfl (fun K hK => ?_)
            go_simp
            refine (rmul_yes R X (invN Z) FX.out.1 (ok_inv FZ.out.1) _ (keep_below hb' (lt_of_block (w := wq) hr) hr)).mono ?_
            rintro e w4 ⟨rfl, b4⟩
            exact hK _ _ b4 rfl
          · intro x0 x1 x2 x3 x4 x5 x6 x7 x8 x9 x10 x11 x12 x13 x14 x15 x16 w' hb' e0
            unfold Is at e0
            subst e0
            refine free_e rfl (fun K hK => ?_)
            go_simp
            refine (Bytes_yes (prodN X (invN Z)) OK.out _).mono ?_
            rintro e w4 ⟨rfl, b4⟩
            exact hK _ _ b4 rfl
          · intro x0 x1 x2 x3 x4 x5 x6 x7 x8 x9 x10 x11 x12 x13 x14 x15 x16 w' hb' e0
            unfold Is at e0
            subst e0
            refine free_e rfl (fun K hK => ?_)
            go_simp
            exact hK _ _ (Below.refl _ _) rfl
          · intro x0 x1 x2 x3 x4 x5 x6 x7 x8 x9 x10 x11 x12 x13 x14 x15 x16 w' hb' e0
            unfold Is at e0
            subst e0
            refine free_e rfl (fun K hK => ?_)
            go_simp
            exact hK _ _ (Below.refl _ _) rfl
          · intro x0 x1 x2 x3 x4 x5 x6 x7 x8 x9 x10 x11 x12 x13 x14 x15 x16 w' hb' e0
            unfold Is at e0
            subst e0
            refine free_e rfl (fun K hK => ?_)
            go_simp
            exact hK _ _ (Below.refl _ _) rfl
          · intro x0 x1 x2 x3 x4 x5 x6 x7 x8 x9 x10 x11 x12 x13 x14 x15 x16 w' hb' 
            exact ⟨by first | rfl | trivial, by first | trivial | rfl, ZTKey⟩
          · intro x0 x1 x2 x3 x4 x5 x6 x7 x8 x9 x10 x11 x12 x13 x14 x15 x16 w' hb' e0 e1
            unfold Is at e0
            subst e0
            exact ⟨by first | trivial | rfl, _, _, _, _, _, rfl, rfl, by decide, RTKey, fun v hv => Option.some.inj hv, rfl⟩
        · (simp only [List.take_succ_cons, List.take_zero, List.drop_succ_cons, List.drop_zero, List.zip_cons_cons, List.zip_nil_left, List.zip_nil_right, freeOps3, freeOp3, allV, under, underD, underN, apartAt, factAt, HK.fact, List.map_cons, List.map_nil, fillA, List.getElem?_cons_zero, List.getElem?_cons_succ, List.range_succ, List.range_zero, List.nil_append, List.cons_append, Act.put, List.setIfInBounds_toArray, List.set_cons_zero, List.set_cons_succ])
          rintro x0 x1 x2 x3 x4 x5 x6 x7 x8 x9 x10 x11 x12 x13 x14 x15 x16 w5 hb' e0 e1 e2 e3 e4 e5 e6 e7 e8 e9 e10 e11 e12 e13 e14 e15 e16 N15 
          unfold Is at e0 e1 e2 e3 e4 e5 e6 e7 e8 e9 e10 e11 e12 e13 e14
          subst e0 e1 e2 e3 e4 e5 e6 e7 e8 e9 e10 e11 e12 e13 e14
          obtain ⟨BO, rfl, lBO, ho⟩ := N15
          replace ho : w5.heap[BO]? = some (.cells (arr .u8 32 (fun k => ((bytesN (prodN X (invN Z)) k : Nat) : Int))) 23 (0, 0)) := ho
          replace lBO : wq.heap.size ≤ BO := lBO
          replace h2' := keep_below hb' (lt_of_block (w := wq) h2') h2'
          replace hr := keep_below hb' (lt_of_block (w := wq) hr) hr
          replace hrv := keep_below hb' (lt_of_block (w := wq) hrv) hrv
          replace hlo := keep_below hb' (lt_of_block (w := wq) hlo) hlo
          replace hb := (hb.drew).trans (hb'.mono hb.size)
          obtain ⟨w6, rfl⟩ : ∃ x, x = w5 := ⟨_, rfl⟩
          go_upto_region 18 with (fail)
          (try simp only [Act.put, List.setIfInBounds_toArray, List.set_cons_zero, List.set_cons_succ])
          have c_rv : w6.cell? ⟨RV, 0, none⟩ = some (.pointer (some ⟨R, 0, none⟩)) := cell_of_row _ _ 0 _ _ _ hrv
          go_wp2_with (first | (refine wpList_val' rfl (run_op_build rfl (by simp [Act.eval, Act.put]) built_fe0) ?_) | (go_at_call 30; fail))
          refine (keep_yes R (oneF 0) _ hr).mono ?_
          rintro e w7 ⟨rfl, b7⟩
          replace h2' := keep_below b7 (lt_of_block h2') h2'
          replace hr := keep_below b7 (lt_of_block hr) hr
          replace hrv := keep_below b7 (lt_of_block hrv) hrv
          replace ho := keep_below b7 (lt_of_block ho) ho
          replace hb := hb.trans (b7.mono hb.size)
          clear b7 c_rv
          have c_rv : w7.cell? ⟨RV, 0, none⟩ = some (.pointer (some ⟨R, 0, none⟩)) := cell_of_row _ _ 0 _ _ _ hrv
          have c_r := cell_arr hr 0 (by omega)
          go_wp2_with (first | (refine wpList_load_arr rfl rfl rfl RTKey ho ?_) | (refine wpList_store_arr rfl rfl rfl rfl RTKey h2' ?_))
          refine bodyPost_ret (results_arr rfl rfl RTKey (row_self h2')) rfl ⟨?_, row_below hb (by omega) _⟩
          rw [arr_ext (fun i _ => stands_same OK.out VV.out i)]
end Go.Proofs.YtfolbgiekbimpaaDoor
namespace Go.Proofs.YtfolbgiekbimpaaDoor
set_option linter.unusedSimpArgs false
set_option linter.unusedVariables false
open Go.RowKit
section
variable {P : Program} {o : Oper} {a : Act} {w : World}
end
def nineN (i : Nat) : Nat := if i = 0 then 9 else 0
theorem nine_lt (i : Nat) (hi : i < 32) : nineN i < 256 := by unfold nineN; split <;> omega
theorem built_nine : Tryd.prog.built 23 [(0, .int .u8 9)] = some (arr .u8 32 fun i => ((nineN i : Nat) : Int)) := by kernel_rfl
attribute [local irreducible] pN valN byteN bytesN invN ofN powN kvN clampN multV keyU nineN
set_option maxRecDepth 100000 in
set_option maxHeartbeats 1000000 in
theorem Base_any (k : Nat → Nat) (hk : ∀ i, i < 32 → k i < 256) (w : World) :
    Calls Tryd.prog 9 #[.agg (arr .u8 32 fun i => ((k i : Nat) : Int))] w fun e w' => e = .returned (.agg (arr .u8 32 fun i => (((byteN (multV k (keyU nineN))) i : Nat) : Int))) ∧ Below w.heap.size w w' := by
  have hK := Lib.hid hk
  clear hk
  go_enter Tryd.func9, Tryd.ntmps9
  obtain ⟨h0, h1, hsz, hb⟩ := alloc2 w (.cells (arr .u8 32 fun i => ((k i : Nat) : Int)) 23) (.cells (arr .u8 32 fun _ => 0) 23)
  go_upto_region 1 with (refine wpList_alloc_arr rfl rfl ZTKey ?_)
  generalize (w.alloc (.cells (arr .u8 32 fun i => ((k i : Nat) : Int)) 23)).alloc (.cells (arr .u8 32 fun _ => 0) 23) = wa at *
  (try simp only [Act.put, List.setIfInBounds_toArray, List.set_cons_zero, List.set_cons_succ])
  simp only [World.size_alloc]
  clear hsz
  go_wp2_with (first | (refine wpList_load_arr rfl rfl rfl RTKey h0 ?_) | (refine wpList_val' rfl (run_op_build rfl (by simp [Act.eval, Act.put]) built_nine) ?_) | (go_at_call 15; fail))
  refine (Mult_any k nineN hK.out nine_lt _).mono ?_
  rintro e w4 ⟨rfl, b4⟩
  replace h1 := keep_below b4 (lt_of_block h1) h1
  replace hb := hb.trans (b4.mono hb.size)
  go_wp2_with (first | (refine wpList_store_arr rfl rfl rfl rfl RTKey h1 ?_))
  exact bodyPost_ret (results_arr rfl rfl RTKey (row_self h1)) rfl ⟨rfl, row_below hb (by omega) _⟩
end Go.Proofs.YtfolbgiekbimpaaDoor
namespace Go.Proofs.YtfolbgiekbimpaaDoor
set_option linter.unusedSimpArgs false
set_option linter.unusedVariables false
theorem powN_mul (v w e : Nat) : powN (v * w) e = powN v e * powN w e := Nat.mul_pow v w e
/-! ### The field -/
instance pN_nz : NeZero pN := ⟨by unfold pN; decide +kernel⟩
/-- A number modulo the prime. -/
abbrev K := Fin pN
def toK (a : Nat) : K := ⟨a % pN, Nat.mod_lt _ zero_lt_p⟩
theorem toK_val (a : K) : toK a.val = a := Fin.ext (Nat.mod_eq_of_lt a.isLt)
theorem val_toK (a : Nat) : (toK a).val = a % pN := rfl
theorem toK_eq {a b : Nat} : toK a = toK b ↔ a % pN = b % pN := ⟨fun h => congrArg Fin.val h, fun h => Fin.ext h⟩
theorem toK_add (a b : Nat) : toK (a + b) = toK a + toK b := Fin.ext (Nat.add_mod a b pN)
theorem toK_mul (a b : Nat) : toK (a * b) = toK a * toK b := Fin.ext (Nat.mul_mod a b pN)
theorem toK_mod (a : Nat) : toK (a % pN) = toK a := Fin.ext (Nat.mod_mod a pN)
theorem toK_zero : toK 0 = 0 := Fin.ext (by rw [val_toK, Nat.zero_mod]; rfl)
theorem toK_one : toK 1 = 1 := Fin.ext (by rw [val_toK]; rfl)
theorem toK_fA (a b : Nat) : toK (fA a b) = toK a + toK b := by unfold fA; rw [toK_mod, toK_add]
theorem toK_fM (a b : Nat) : toK (fM a b) = toK a * toK b := by unfold fM; rw [toK_mod, toK_mul]
theorem toK_fS (a b : Nat) (h : b < pN) : toK (fS a b) = toK a - toK b := by
  unfold fS
  rw [toK_mod, toK_add]
  have e : toK (pN - b) + toK b = 0 := by rw [← toK_add, Nat.sub_add_cancel (Nat.le_of_lt h)]; exact Fin.ext (by rw [val_toK, Nat.mod_self]; rfl)
  grind
theorem K_dom {a b : K} (h : a * b = 0) : a = 0 ∨ b = 0 := by
  have h1 : a.val * b.val % pN = 0 := congrArg Fin.val h
  have hp : IsP pN := p57896044618658097711785492504343953926634992332820282019728792003956564819949.1
  rcases euclid hp (Nat.dvd_of_mod_eq_zero h1) with h2 | h2
  · exact .inl (Fin.ext (by have := Nat.eq_zero_of_dvd_of_lt h2 a.isLt; rw [this]; rfl))
  · exact .inr (Fin.ext (by have := Nat.eq_zero_of_dvd_of_lt h2 b.isLt; rw [this]; rfl))
theorem K_ne {a b : K} (ha : a ≠ 0) (hb : b ≠ 0) : a * b ≠ 0 := fun h => (K_dom h).elim ha hb
theorem pw_isN (n f b e : Nat) (h : e < 2 ^ f) : pw n f b e = powN b e % n := pw_is n f b e h
attribute [local irreducible] powN
/-- What a number is divided by. -/
def iv (a : K) : K := toK (powN a.val 57896044618658097711785492504343953926634992332820282019728792003956564819947)
theorem iv_mul {a : K} (h : a ≠ 0) : a * iv a = 1 := by
  have h1 : a.val % pN ≠ 0 := fun e => h (Fin.ext (by rw [Nat.mod_eq_of_lt a.isLt] at e; rw [e]; rfl))
  have h2 := toK_eq.2 (inv_one a.val h1)
  rw [toK_mul, toK_val, toK_one] at h2
  exact h2
theorem iv_zero : iv 0 = 0 := by
  have h := powN_zero 57896044618658097711785492504343953926634992332820282019728792003956564819947 pN 0 (by omega) (Nat.zero_mod _)
  have h2 : iv 0 = toK (powN 0 57896044618658097711785492504343953926634992332820282019728792003956564819947) := rfl
  rw [h2, ← toK_zero]
  exact toK_eq.2 (h.trans (Nat.zero_mod _).symm)
theorem iv_ne {a : K} (h : a ≠ 0) : iv a ≠ 0 := fun e => by
  have h1 := iv_mul h
  rw [e] at h1
  have : (0 : K) = 1 := by grind
  exact absurd (congrArg Fin.val this) (by decide +kernel)
theorem one_ne : (1 : K) ≠ 0 := fun h => absurd (congrArg Fin.val h) (by decide +kernel)
theorem two_ne : (2 : K) ≠ 0 := fun h => absurd (congrArg Fin.val h) (by decide +kernel)
theorem iv_of {a b : K} (h : a * b = 1) : iv a = b := by
  have ha : a ≠ 0 := fun e => one_ne (by rw [← h, e]; grind)
  have := iv_mul ha
  grind
theorem cancelK {a b c : K} (h : c ≠ 0) (e : a * c = b * c) : a = b := by
  have := iv_mul h
  have e2 : a * c * iv c = b * c * iv c := by rw [e]
  grind

/-! ### Powers, squares -/
def pk (a : K) (n : Nat) : K := toK (powN a.val n)
theorem pk_one (a : K) : pk a 1 = a := by unfold pk; rw [powN_one, toK_val]
theorem pk_add (a : K) (m n : Nat) : pk a m * pk a n = pk a (m + n) := by unfold pk; rw [← toK_mul, powN_add]
theorem pk_mul (a b : K) (n : Nat) : pk (a * b) n = pk a n * pk b n := by
  unfold pk
  rw [← toK_mul, ← powN_mul]
  exact toK_eq.2 (powN_mod _ _ _ _ (by rw [show (a * b).val = a.val * b.val % pN from rfl, Nat.mod_mod]))
theorem pk_full {a : K} (h : a ≠ 0) : pk a 57896044618658097711785492504343953926634992332820282019728792003956564819948 = 1 := by
  have h1 : a.val % pN ≠ 0 := fun e => h (Fin.ext (by rw [Nat.mod_eq_of_lt a.isLt] at e; rw [e]; rfl))
  have h2 := prime_pow a.val h1
  unfold pk
  rw [← toK_one]
  exact toK_eq.2 (h2.trans (Nat.mod_eq_of_lt one_lt_p).symm)
theorem sq_cases {a : K} (h : a * a = 1) : a = 1 ∨ a = -1 := by
  have : (a - 1) * (a + 1) = 0 := by grind
  rcases K_dom this with h1 | h1
  · exact .inl (by grind)
  · exact .inr (by grind)
/-- Half of the prime less one, and what it does. -/
def hf (a : K) : K := pk a 28948022309329048855892746252171976963317496166410141009864396001978282409974
theorem hf_cases {a : K} (h : a ≠ 0) : hf a = 1 ∨ hf a = -1 := sq_cases (by
  unfold hf
  rw [pk_add]
  exact pk_full h)
theorem hf_mul (a b : K) : hf (a * b) = hf a * hf b := pk_mul a b _
theorem hf_sq {a : K} (h : a ≠ 0) : hf (a * a) = 1 := by
  rw [hf_mul]
  rcases hf_cases h with h1 | h1 <;> rw [h1] <;> grind
theorem neg_ne : (-1 : K) ≠ 1 := fun h => absurd (congrArg Fin.val h) (by decide +kernel)
theorem sqrt_of {a : K} (h : hf a = 1) : ∃ r : K, r * r = a := by
  have h1 : pk a 14474011154664524427946373126085988481658748083205070504932198000989141204987 * pk a 14474011154664524427946373126085988481658748083205070504932198000989141204987 = 1 := by rw [pk_add]; exact h
  have h2 : pk a 7237005577332262213973186563042994240829374041602535252466099000494570602494 * pk a 7237005577332262213973186563042994240829374041602535252466099000494570602494 = pk a 14474011154664524427946373126085988481658748083205070504932198000989141204987 * a := by
    rw [pk_add]
    have := pk_add a 14474011154664524427946373126085988481658748083205070504932198000989141204987 1
    rw [pk_one] at this
    rw [this]
  rcases sq_cases h1 with h3 | h3
  · exact ⟨_, by rw [h2, h3]; grind⟩
  · have hi : toK 19681161376707505956807079304988542015446066515923890162744021073123829784752 * toK 19681161376707505956807079304988542015446066515923890162744021073123829784752 = (-1 : K) := by decide +kernel
    generalize toK 19681161376707505956807079304988542015446066515923890162744021073123829784752 = i at hi
    generalize pk a 7237005577332262213973186563042994240829374041602535252466099000494570602494 = r at h2
    exact ⟨i * r, by rw [show i * r * (i * r) = i * i * (r * r) by grind, hi, h2, h3]; grind⟩

theorem hf_val (v : Nat) (k : Nat) (h : pw pN 256 (v % pN) 28948022309329048855892746252171976963317496166410141009864396001978282409974 = k) : hf (toK v) = toK k := by
  unfold hf pk
  rw [val_toK]
  have h1 := pw_isN pN 256 (v % pN) 28948022309329048855892746252171976963317496166410141009864396001978282409974 (by decide +kernel)
  refine toK_eq.2 ?_
  rw [← h1, h]
  rw [← h, h1, Nat.mod_mod]
/-- The curve's number. -/
def cA : K := toK 486662
theorem hf_minus : hf (cA - 2) = -1 := by
  have h := hf_val 486660 57896044618658097711785492504343953926634992332820282019728792003956564819948 (by decide +kernel)
  have e1 : cA - 2 = toK 486660 := by decide +kernel
  have e2 : (-1 : K) = toK 57896044618658097711785492504343953926634992332820282019728792003956564819948 := by decide +kernel
  rw [e1, h, e2]
def cS : K := toK 48802004052532134862652268456126542835229456083994414501085850622543968879637
theorem cS_sq : cS * cS = cA + 2 := by decide +kernel
theorem cA_plus : cA + 2 ≠ 0 := fun h => absurd (congrArg Fin.val h) (by decide +kernel)
theorem cA_minus : cA - 2 ≠ 0 := fun h => absurd (congrArg Fin.val h) (by decide +kernel)
theorem hf_of_sq {a r : K} (h : r * r = a) (ha : a ≠ 0) : hf a = 1 := by
  rw [← h]
  exact hf_sq fun e => ha (by rw [← h, e]; grind)
theorem hf_plus : hf (cA + 2) = 1 := hf_of_sq cS_sq cA_plus
/-- No square. -/
theorem no_sq (s : K) : s * s ≠ (cA - 2) * (cA + 2) := fun h => by
  have h1 := hf_of_sq h (K_ne cA_minus cA_plus)
  rw [hf_mul, hf_minus, hf_plus] at h1
  exact neg_ne (by grind)


theorem assx (x1 y1 x2 y2 x3 y3 d i : K) (hd : d * i = 1) (h1 : x1 * x1 + y1 * y1 = 1 + d * (x1 * x1) * (y1 * y1)) (h2 : x2 * x2 + y2 * y2 = 1 + d * (x2 * x2) * (y2 * y2)) (h3 : x3 * x3 + y3 * y3 = 1 + d * (x3 * x3) * (y3 * y3)) :
    ((x1 * y2 + y1 * x2) * (1 - d * (x1 * x2) * (y1 * y2)) * y3 + (y1 * y2 - x1 * x2) * (1 + d * (x1 * x2) * (y1 * y2)) * x3) * ((1 + d * (x2 * x3) * (y2 * y3)) * (1 - d * (x2 * x3) * (y2 * y3)) + d * (x2 * y3 + y2 * x3) * (y2 * y3 - x2 * x3) * (x1 * y1)) =
    (x1 * (y2 * y3 - x2 * x3) * (1 + d * (x2 * x3) * (y2 * y3)) + y1 * (x2 * y3 + y2 * x3) * (1 - d * (x2 * x3) * (y2 * y3))) * ((1 + d * (x1 * x2) * (y1 * y2)) * (1 - d * (x1 * x2) * (y1 * y2)) + d * (x1 * y2 + y1 * x2) * (y1 * y2 - x1 * x2) * (x3 * y3)) := by grind
theorem assy (x1 y1 x2 y2 x3 y3 d i : K) (hd : d * i = 1) (h1 : x1 * x1 + y1 * y1 = 1 + d * (x1 * x1) * (y1 * y1)) (h2 : x2 * x2 + y2 * y2 = 1 + d * (x2 * x2) * (y2 * y2)) (h3 : x3 * x3 + y3 * y3 = 1 + d * (x3 * x3) * (y3 * y3)) :
    ((y1 * y2 - x1 * x2) * (1 + d * (x1 * x2) * (y1 * y2)) * y3 - (x1 * y2 + y1 * x2) * (1 - d * (x1 * x2) * (y1 * y2)) * x3) * ((1 + d * (x2 * x3) * (y2 * y3)) * (1 - d * (x2 * x3) * (y2 * y3)) - d * (x2 * y3 + y2 * x3) * (y2 * y3 - x2 * x3) * (x1 * y1)) =
    (y1 * (y2 * y3 - x2 * x3) * (1 + d * (x2 * x3) * (y2 * y3)) - x1 * (x2 * y3 + y2 * x3) * (1 - d * (x2 * x3) * (y2 * y3))) * ((1 + d * (x1 * x2) * (y1 * y2)) * (1 - d * (x1 * x2) * (y1 * y2)) - d * (x1 * y2 + y1 * x2) * (y1 * y2 - x1 * x2) * (x3 * y3)) := by grind

theorem fr1 {a e y c b x B E : K} (p : b * B = 1) (q : e * E = 1) : (a * e * y + c * b * x) * B * E = a * B * y + c * E * x := by
  rw [show (a * e * y + c * b * x) * B * E = a * B * y * (e * E) + c * E * x * (b * B) by grind, p, q]; grind
theorem fr1m {a e y c b x B E : K} (p : b * B = 1) (q : e * E = 1) : (c * b * y - a * e * x) * B * E = c * E * y - a * B * x := by
  rw [show (c * b * y - a * e * x) * B * E = c * E * y * (b * B) - a * B * x * (e * E) by grind, p, q]; grind
theorem fr2 {d a c x y b e B E : K} (p : b * B = 1) (q : e * E = 1) : (b * e + d * a * c * (x * y)) * B * E = 1 + d * (a * B * x) * (c * E * y) := by
  rw [show (b * e + d * a * c * (x * y)) * B * E = b * B * (e * E) + d * (a * B * x) * (c * E * y) by grind, p, q]; grind
theorem fr2m {d a c x y b e B E : K} (p : b * B = 1) (q : e * E = 1) : (b * e - d * a * c * (x * y)) * B * E = 1 - d * (a * B * x) * (c * E * y) := by
  rw [show (b * e - d * a * c * (x * y)) * B * E = b * B * (e * E) - d * (a * B * x) * (c * E * y) by grind, p, q]; grind
theorem fr3 {d a c x y b e B E : K} (p : b * B = 1) (q : e * E = 1) : (b * e + d * a * c * (x * y)) * B * E = 1 + d * (x * (a * B)) * (y * (c * E)) := by
  rw [fr2 p q]; grind
theorem fr3m {d a c x y b e B E : K} (p : b * B = 1) (q : e * E = 1) : (b * e - d * a * c * (x * y)) * B * E = 1 - d * (x * (a * B)) * (y * (c * E)) := by
  rw [fr2m p q]; grind
theorem fr4 {x c b y a e B E : K} (p : b * B = 1) (q : e * E = 1) : (x * c * b + y * a * e) * B * E = x * (c * E) + y * (a * B) := by
  rw [show (x * c * b + y * a * e) * B * E = x * (c * E) * (b * B) + y * (a * B) * (e * E) by grind, p, q]; grind
theorem fr4m {x c b y a e B E : K} (p : b * B = 1) (q : e * E = 1) : (y * c * b - x * a * e) * B * E = y * (c * E) - x * (a * B) := by
  rw [show (y * c * b - x * a * e) * B * E = y * (c * E) * (b * B) - x * (a * B) * (e * E) by grind, p, q]; grind
theorem fr6 {u v B E B' E' w z : K} (h : u * v = w * z) : u * B * E * (v * B' * E') = w * B' * E' * (z * B * E) := by
  rw [show u * B * E * (v * B' * E') = u * v * (B * E * B' * E') by grind, h]; grind
theorem one_sub_zero : (1 : K) - 0 = 1 := by decide +kernel
theorem fr5 {u v m m' M M' : K} (h : u * m' = v * m) (q : m * M = 1) (q' : m' * M' = 1) : u * M = v * M' := by
  have h1 : u * M = u * m' * M * M' := by rw [show u * m' * M * M' = u * M * (m' * M') by grind, q']; grind
  have h2 : v * M' = v * m * M * M' := by rw [show v * m * M * M' = v * M' * (m * M) by grind, q]; grind
  rw [h1, h2, h]
/-! ### The curve x² + y² = 1 + d x² y², d no square -/
structure Ed where
  x : K
  y : K
def On (d : K) (P : Ed) : Prop := P.x * P.x + P.y * P.y = 1 + d * (P.x * P.x) * (P.y * P.y)
def Free (d : K) : Prop := ∀ s : K, s * s ≠ d
def tE (d : K) (P Q : Ed) : K := d * (P.x * Q.x) * (P.y * Q.y)
def addE (d : K) (P Q : Ed) : Ed := ⟨(P.x * Q.y + P.y * Q.x) * iv (1 + tE d P Q), (P.y * Q.y - P.x * Q.x) * iv (1 - tE d P Q)⟩
def negE (P : Ed) : Ed := ⟨-P.x, P.y⟩
def nulE : Ed := ⟨0, 1⟩
/-- The law is whole. -/
theorem t_ne {d : K} (hd : Free d) {P Q : Ed} (hP : On d P) (hQ : On d Q) : tE d P Q * tE d P Q ≠ 1 := by
  obtain ⟨x1, y1⟩ := P
  obtain ⟨x2, y2⟩ := Q
  unfold On tE at *
  dsimp only at *
  intro ht
  generalize hT : d * (x1 * x2) * (y1 * y2) = t at ht
  have hxy : x1 * y1 ≠ 0 := fun e => one_ne (by rw [← ht, ← hT]; grind)
  have k1 : (x1 + t * y1) * (x1 + t * y1) = d * ((x1 * y1) * (x2 + y2)) * ((x1 * y1) * (x2 + y2)) := by grind
  have k2 : (x1 - t * y1) * (x1 - t * y1) = d * ((x1 * y1) * (x2 - y2)) * ((x1 * y1) * (x2 - y2)) := by grind
  have key : ∀ a b : K, a * a = d * b * b → b = 0 := by
    intro a b h
    refine Classical.byContradiction fun hb => ?_
    have hi := iv_mul hb
    refine hd (a * iv b) ?_
    grind
  have z1 := key _ _ k1
  have z2 := key _ _ k2
  have z3 : x2 + y2 = 0 := (K_dom z1).resolve_left hxy
  have z4 : x2 - y2 = 0 := (K_dom z2).resolve_left hxy
  have z5 : x2 = 0 := by
    have : 2 * x2 = 0 := by grind
    exact (K_dom this).resolve_left two_ne
  exact one_ne (by rw [← ht, ← hT, z5]; grind)
theorem plus_ne {d : K} (hd : Free d) {P Q : Ed} (hP : On d P) (hQ : On d Q) : 1 + tE d P Q ≠ 0 := fun e => t_ne hd hP hQ (by grind)
theorem minus_ne {d : K} (hd : Free d) {P Q : Ed} (hP : On d P) (hQ : On d Q) : 1 - tE d P Q ≠ 0 := fun e => t_ne hd hP hQ (by grind)
theorem on_nul (d : K) : On d nulE := by unfold On nulE; dsimp only; grind
theorem on_neg {d : K} {P : Ed} (h : On d P) : On d (negE P) := by unfold On negE at *; dsimp only; grind
theorem on_add {d : K} (hd : Free d) {P Q : Ed} (hP : On d P) (hQ : On d Q) : On d (addE d P Q) := by
  have p1 := iv_mul (plus_ne hd hP hQ)
  have p2 := iv_mul (minus_ne hd hP hQ)
  have p1' := plus_ne hd hP hQ
  have p2' := minus_ne hd hP hQ
  unfold On addE tE at *
  dsimp only
  generalize iv (1 + d * (P.x * Q.x) * (P.y * Q.y)) = B at *
  generalize iv (1 - d * (P.x * Q.x) * (P.y * Q.y)) = E at *
  generalize P.x = x1 at *
  generalize P.y = y1 at *
  generalize Q.x = x2 at *
  generalize Q.y = y2 at *
  have key : ((x1 * y2 + y1 * x2) * (x1 * y2 + y1 * x2)) * ((1 - d * (x1 * x2) * (y1 * y2)) * (1 - d * (x1 * x2) * (y1 * y2))) + ((y1 * y2 - x1 * x2) * (y1 * y2 - x1 * x2)) * ((1 + d * (x1 * x2) * (y1 * y2)) * (1 + d * (x1 * x2) * (y1 * y2))) = ((1 - d * (x1 * x2) * (y1 * y2)) * (1 - d * (x1 * x2) * (y1 * y2))) * ((1 + d * (x1 * x2) * (y1 * y2)) * (1 + d * (x1 * x2) * (y1 * y2))) + d * ((x1 * y2 + y1 * x2) * (x1 * y2 + y1 * x2)) * ((y1 * y2 - x1 * x2) * (y1 * y2 - x1 * x2)) := by grind
  generalize 1 + d * (x1 * x2) * (y1 * y2) = b at *
  generalize 1 - d * (x1 * x2) * (y1 * y2) = e at *
  generalize x1 * y2 + y1 * x2 = a at *
  generalize y1 * y2 - x1 * x2 = c at *
  clear hP hQ
  refine cancelK (K_ne (K_ne p1' p1') (K_ne p2' p2')) ?_
  grind
theorem ed_comm {d : K} (P Q : Ed) : addE d P Q = addE d Q P := by
  unfold addE tE
  congr 1
  · congr 1
    · grind
    · congr 1
      grind
  · congr 1
    · grind
    · congr 1
      grind
theorem ed_nul {d : K} (P : Ed) : addE d P nulE = P := by
  have h1 : iv (1 : K) = 1 := iv_of (by grind)
  unfold addE tE nulE
  dsimp only
  have z : d * (P.x * 0) * (P.y * 1) = 0 := by grind
  have z1 : ∀ t : K, t = 0 → 1 + t = 1 := fun t h => by rw [h]; exact Fin.add_zero 1
  have z2 : ∀ t : K, t = 0 → 1 - t = 1 := fun t h => by rw [h]; exact one_sub_zero
  rw [z1 _ z, z2 _ z, h1, show (P.x * 1 + P.y * 0) * 1 = P.x by grind, show (P.y * 1 - P.x * 0) * 1 = P.y by grind]
theorem ed_neg {d : K} (hd : Free d) {P : Ed} (h : On d P) : addE d P (negE P) = nulE := by
  have p1 := iv_mul (plus_ne hd h (on_neg h))
  have p2 := iv_mul (minus_ne hd h (on_neg h))
  unfold addE nulE
  unfold tE negE On at *
  dsimp only at *
  generalize iv _ = B at *
  generalize iv _ = E at *
  congr 1
  · grind
  · grind

/-- The order of three plays no part. -/
theorem ed_assoc {d : K} (hd : Free d) {P Q R : Ed} (hP : On d P) (hQ : On d Q) (hR : On d R) (d0 : d ≠ 0) : addE d (addE d P Q) R = addE d P (addE d Q R) := by
  have i0 := iv_mul d0
  have p1 := iv_mul (plus_ne hd hP hQ)
  have p2 := iv_mul (minus_ne hd hP hQ)
  have p3 := iv_mul (plus_ne hd hQ hR)
  have p4 := iv_mul (minus_ne hd hQ hR)
  have q1 := iv_mul (plus_ne hd (on_add hd hP hQ) hR)
  have q2 := iv_mul (minus_ne hd (on_add hd hP hQ) hR)
  have q3 := iv_mul (plus_ne hd hP (on_add hd hQ hR))
  have q4 := iv_mul (minus_ne hd hP (on_add hd hQ hR))
  rw [show addE d (addE d P Q) R = ⟨((addE d P Q).x * R.y + (addE d P Q).y * R.x) * iv (1 + tE d (addE d P Q) R), ((addE d P Q).y * R.y - (addE d P Q).x * R.x) * iv (1 - tE d (addE d P Q) R)⟩ from rfl, show addE d P (addE d Q R) = ⟨(P.x * (addE d Q R).y + P.y * (addE d Q R).x) * iv (1 + tE d P (addE d Q R)), (P.y * (addE d Q R).y - P.x * (addE d Q R).x) * iv (1 - tE d P (addE d Q R))⟩ from rfl]
  unfold On at hP hQ hR
  generalize iv (1 + tE d (addE d P Q) R) = M at *
  generalize iv (1 - tE d (addE d P Q) R) = N at *
  generalize iv (1 + tE d P (addE d Q R)) = M' at *
  generalize iv (1 - tE d P (addE d Q R)) = N' at *
  unfold addE at *
  dsimp only at *
  unfold tE at *
  dsimp only at *
  generalize P.x = x1 at *
  generalize P.y = y1 at *
  generalize Q.x = x2 at *
  generalize Q.y = y2 at *
  generalize R.x = x3 at *
  generalize R.y = y3 at *
  generalize iv (1 + d * (x1 * x2) * (y1 * y2)) = B at *
  generalize iv (1 - d * (x1 * x2) * (y1 * y2)) = E at *
  generalize iv (1 + d * (x2 * x3) * (y2 * y3)) = B' at *
  generalize iv (1 - d * (x2 * x3) * (y2 * y3)) = E' at *
  generalize iv d = i at *
  have kx := assx x1 y1 x2 y2 x3 y3 d i i0 hP hQ hR
  have ky := assy x1 y1 x2 y2 x3 y3 d i i0 hP hQ hR
  clear hP hQ hR i0
  generalize 1 + d * (x1 * x2) * (y1 * y2) = b at *
  generalize 1 - d * (x1 * x2) * (y1 * y2) = e at *
  generalize 1 + d * (x2 * x3) * (y2 * y3) = b' at *
  generalize 1 - d * (x2 * x3) * (y2 * y3) = e' at *
  generalize x1 * y2 + y1 * x2 = a at *
  generalize y1 * y2 - x1 * x2 = c at *
  generalize x2 * y3 + y2 * x3 = a' at *
  generalize y2 * y3 - x2 * x3 = c' at *
  refine (congr (congrArg Ed.mk ?_) ?_)
  · have g1 := fr6 (B := B) (E := E) (B' := B') (E' := E') kx
    rw [fr1 p1 p2, fr3 p3 p4, fr4 p3 p4, fr2 p1 p2] at g1
    exact fr5 g1 q1 q3
  · have g1 := fr6 (B := B) (E := E) (B' := B') (E' := E') ky
    rw [fr1m p1 p2, fr3m p3 p4, fr4m p3 p4, fr2m p1 p2] at g1
    exact fr5 g1 q2 q4
end Go.Proofs.YtfolbgiekbimpaaDoor
namespace Go.Proofs.YtfolbgiekbimpaaDoor
set_option linter.unusedSimpArgs false
set_option linter.unusedVariables false
attribute [local irreducible] powN
/-! ### So often a point -/
def mulE (d : K) (P : Ed) : Nat → Ed
  | 0 => nulE
  | n + 1 => addE d (mulE d P n) P
theorem mul_on {d : K} (hd : Free d) {P : Ed} (h : On d P) : ∀ n, On d (mulE d P n)
  | 0 => on_nul d
  | n + 1 => on_add hd (mul_on hd h n) h
theorem nul_add {d : K} (P : Ed) : addE d nulE P = P := by rw [ed_comm, ed_nul]
theorem mul_add' {d : K} (hd : Free d) (d0 : d ≠ 0) {P : Ed} (h : On d P) (m : Nat) : ∀ n, mulE d P (m + n) = addE d (mulE d P m) (mulE d P n)
  | 0 => (ed_nul _).symm
  | n + 1 => by
    rw [← Nat.add_assoc, show mulE d P (m + n + 1) = addE d (mulE d P (m + n)) P from rfl, mul_add' hd d0 h m n, show mulE d P (n + 1) = addE d (mulE d P n) P from rfl]
    exact ed_assoc hd (mul_on hd h m) (mul_on hd h n) h d0
theorem mul_mul' {d : K} (hd : Free d) (d0 : d ≠ 0) {P : Ed} (h : On d P) (m : Nat) : ∀ n, mulE d (mulE d P m) n = mulE d P (m * n)
  | 0 => rfl
  | n + 1 => by
    rw [show mulE d (mulE d P m) (n + 1) = addE d (mulE d (mulE d P m) n) (mulE d P m) from rfl, mul_mul' hd d0 h m n, Nat.mul_succ, mul_add' hd d0 h]
theorem mul_next {d : K} (hd : Free d) (d0 : d ≠ 0) {P : Ed} (h : On d P) (n : Nat) : addE d (mulE d P (n + 1)) (negE (mulE d P n)) = P := by
  rw [show mulE d P (n + 1) = addE d (mulE d P n) P from rfl, ed_comm (mulE d P n) P, ed_assoc hd h (mul_on hd h n) (on_neg (mul_on hd h n)) d0, ed_neg hd (mul_on hd h n), ed_nul]
theorem mul_nul {d : K} : ∀ n, mulE d nulE n = nulE
  | 0 => rfl
  | n + 1 => by rw [show mulE d nulE (n + 1) = addE d (mulE d nulE n) nulE from rfl, mul_nul n, ed_nul]
def halfE : Ed := ⟨0, -1⟩
theorem half_half {d : K} : addE d halfE halfE = nulE := by
  have h1 : iv (1 : K) = 1 := iv_of (by grind)
  unfold addE tE halfE nulE
  dsimp only
  have z : d * (0 * 0) * (-1 * -1) = (0 : K) := by grind
  have z1 : (1 : K) + 0 = 1 := Fin.add_zero 1
  rw [z, z1, one_sub_zero, h1]
  congr 1 <;> decide +kernel
theorem mul_half {d : K} : ∀ n, mulE d halfE n = nulE ∨ mulE d halfE n = halfE
  | 0 => .inl rfl
  | n + 1 => by
    rw [show mulE d halfE (n + 1) = addE d (mulE d halfE n) halfE from rfl]
    rcases mul_half (d := d) n with h | h
    · rw [h, nul_add]; exact .inr rfl
    · rw [h, half_half]; exact .inl rfl

/-! ### A ladder's points -/
def cB : K := toK 121665
theorem cA_cB : cA = 4 * cB + 2 := by decide +kernel
/-- The two curves: the one, and its twist. -/
structure Cv (d e : K) : Prop where
  free : Free d
  nz : d ≠ 0
  way : e = 1 ∧ d * (cB + 1) = cB ∨ e = -1 ∧ d * cB = cB + 1
/-- A quotient stands for a point. -/
def Rep (e X Z : K) (P : Ed) : Prop := X * (1 - P.y) = e * Z * (1 + P.y) ∧ ¬(X = 0 ∧ Z = 0)
theorem h_two : (2 : K) * iv 2 = 1 := iv_mul two_ne
theorem rep_lam {e X Z : K} {P : Ed} (he : e * e = 1) (h : Rep e X Z P) : ∃ l : K, l ≠ 0 ∧ X = e * l * (1 + P.y) ∧ Z = l * (1 - P.y) := by
  obtain ⟨h1, h2⟩ := h
  have h3 := h_two
  generalize iv (2 : K) = t at h3
  have a1 : X = e * ((e * X + Z) * t) * (1 + P.y) := by
    generalize P.y = y at *
    grind
  have a2 : Z = (e * X + Z) * t * (1 - P.y) := by
    generalize P.y = y at *
    grind
  refine ⟨_, fun e0 => h2 ?_, a1, a2⟩
  rw [e0] at a1 a2
  exact ⟨by rw [a1]; grind, by rw [a2]; grind⟩
theorem ee {d e : K} (h : Cv d e) : e * e = 1 := by rcases h.way with ⟨h1, _⟩ | ⟨h1, _⟩ <;> rw [h1] <;> decide +kernel
/-- Twice a point. -/
theorem dbl_key1 {d y x c : K} (hd : d * (c + 1) = c) (h : x * x + y * y = 1 + d * (x * x) * (y * y)) : (1 - x * x) * (1 + c * (1 - y * y)) = y * y := by grind
theorem dbl_key2 {d y x c : K} (hd : d * c = c + 1) (h : x * x + y * y = 1 + d * (x * x) * (y * y)) : (1 - x * x) * (c - (c + 1) * (y * y)) = -(y * y) := by grind
theorem dbl_y {d : K} {P : Ed} (hd : Free d) (h : On d P) : ∃ q : K, q ≠ 0 ∧ q * (1 - (addE d P P).y) = 2 - 2 * (P.y * P.y) ∧ q * (1 + (addE d P P).y) = 2 - 2 * (P.x * P.x) := by
  have p2 := iv_mul (minus_ne hd h h)
  have p2' := minus_ne hd h h
  refine ⟨_, p2', ?_, ?_⟩
  · unfold addE
    unfold tE On at *
    dsimp only at *
    generalize iv _ = E at *
    generalize P.x = x at *
    generalize P.y = y at *
    rw [show (1 - d * (x * x) * (y * y)) * (1 - (y * y - x * x) * E) = (1 - d * (x * x) * (y * y)) - (y * y - x * x) * ((1 - d * (x * x) * (y * y)) * E) by clear h p2 p2'; grind, p2]
    clear p2 p2'
    grind
  · unfold addE
    unfold tE On at *
    dsimp only at *
    generalize iv _ = E at *
    generalize P.x = x at *
    generalize P.y = y at *
    rw [show (1 - d * (x * x) * (y * y)) * (1 + (y * y - x * x) * E) = (1 - d * (x * x) * (y * y)) + (y * y - x * x) * ((1 - d * (x * x) * (y * y)) * E) by clear h p2 p2'; grind, p2]
    clear p2 p2'
    grind
theorem cancelL {a b c : K} (h : c ≠ 0) (e : c * a = c * b) : a = b := cancelK h (by rw [show a * c = c * a by grind, e]; grind)
theorem sixteen_ne : (16 : K) ≠ 0 := fun h => absurd (congrArg Fin.val h) (by decide +kernel)
theorem cB_ne : cB ≠ 0 := fun h => absurd (congrArg Fin.val h) (by decide +kernel)
theorem cB1_ne : cB + 1 ≠ 0 := fun h => absurd (congrArg Fin.val h) (by decide +kernel)
theorem dbl_rep {d e X Z : K} {P : Ed} (hc : Cv d e) (hP : On d P) (h : Rep e X Z P) :
    Rep e (((X + Z) * (X + Z)) * ((X - Z) * (X - Z))) (((X + Z) * (X + Z) - (X - Z) * (X - Z)) * ((X + Z) * (X + Z) + cB * ((X + Z) * (X + Z) - (X - Z) * (X - Z)))) (addE d P P) := by
  obtain ⟨l, hl, e1, e2⟩ := rep_lam (ee hc) h
  obtain ⟨q, hq, k1, k2⟩ := dbl_y hc.free hP
  clear h
  unfold Rep
  have c0 := cB_ne
  have c1 := cB1_ne
  have w := hc.way
  generalize cB = c at *
  generalize (addE d P P).y = Y at *
  unfold On at hP
  generalize P.x = x at *
  generalize P.y = y at *
  have l4 : 16 * (l * l * l * l) ≠ 0 := K_ne sixteen_ne (K_ne (K_ne (K_ne hl hl) hl) hl)
  subst e1 e2
  rcases w with ⟨he, hd⟩ | ⟨he, hd⟩
  · subst he
    have k3 := dbl_key1 hd hP
    have g1 : (1 * l * (1 + y) + l * (1 - y)) * (1 * l * (1 + y) + l * (1 - y)) = 4 * (l * l) := by clear k1 k2 k3 hP hd; grind
    have g2 : (1 * l * (1 + y) - l * (1 - y)) * (1 * l * (1 + y) - l * (1 - y)) = 4 * (l * l) * (y * y) := by clear k1 k2 k3 hP hd; grind
    rw [g1, g2]
    clear g1 g2
    have g3 : 4 * (l * l) * (4 * (l * l) * (y * y)) = 16 * (l * l * l * l) * (y * y) := by clear k1 k2 k3 hP hd; grind
    have g4 : (4 * (l * l) - 4 * (l * l) * (y * y)) * (4 * (l * l) + c * (4 * (l * l) - 4 * (l * l) * (y * y))) = 16 * (l * l * l * l) * ((1 - y * y) * (1 + c * (1 - y * y))) := by clear k1 k2 k3 hP hd; grind
    rw [g3, g4]
    clear g3 g4
    generalize 16 * (l * l * l * l) = m at *
    refine ⟨cancelL hq ?_, fun ⟨z1, z2⟩ => ?_⟩
    · rw [show q * (m * (y * y) * (1 - Y)) = m * (y * y) * (q * (1 - Y)) by clear k1 k2 k3 hP hd; grind, show q * (1 * (m * ((1 - y * y) * (1 + c * (1 - y * y)))) * (1 + Y)) = m * ((1 - y * y) * (1 + c * (1 - y * y))) * (q * (1 + Y)) by clear k1 k2 k3 hP hd; grind, k1, k2, show m * ((1 - y * y) * (1 + c * (1 - y * y))) * (2 - 2 * (x * x)) = m * (2 - 2 * (y * y)) * ((1 - x * x) * (1 + c * (1 - y * y))) by clear k1 k2 k3 hP hd; grind, k3]
      clear k1 k2 k3 hP hd
      grind
    · have z3 := (K_dom z1).resolve_left l4
      have z4 := (K_dom z2).resolve_left l4
      rw [z3] at z4
      exact c1 (by clear k1 k2 k3 hP hd; grind)
  · subst he
    have k3 := dbl_key2 hd hP
    have g1 : (-1 * l * (1 + y) + l * (1 - y)) * (-1 * l * (1 + y) + l * (1 - y)) = 4 * (l * l) * (y * y) := by clear k1 k2 k3 hP hd; grind
    have g2 : (-1 * l * (1 + y) - l * (1 - y)) * (-1 * l * (1 + y) - l * (1 - y)) = 4 * (l * l) := by clear k1 k2 k3 hP hd; grind
    rw [g1, g2]
    clear g1 g2
    have g3 : 4 * (l * l) * (y * y) * (4 * (l * l)) = 16 * (l * l * l * l) * (y * y) := by clear k1 k2 k3 hP hd; grind
    have g4 : (4 * (l * l) * (y * y) - 4 * (l * l)) * (4 * (l * l) * (y * y) + c * (4 * (l * l) * (y * y) - 4 * (l * l))) = 16 * (l * l * l * l) * ((1 - y * y) * (c - (c + 1) * (y * y))) := by clear k1 k2 k3 hP hd; grind
    rw [g3, g4]
    clear g3 g4
    generalize 16 * (l * l * l * l) = m at *
    refine ⟨cancelL hq ?_, fun ⟨z1, z2⟩ => ?_⟩
    · rw [show q * (m * (y * y) * (1 - Y)) = m * (y * y) * (q * (1 - Y)) by clear k1 k2 k3 hP hd; grind, show q * (-1 * (m * ((1 - y * y) * (c - (c + 1) * (y * y)))) * (1 + Y)) = -(m * ((1 - y * y) * (c - (c + 1) * (y * y))) * (q * (1 + Y))) by clear k1 k2 k3 hP hd; grind, k1, k2, show m * ((1 - y * y) * (c - (c + 1) * (y * y))) * (2 - 2 * (x * x)) = m * (2 - 2 * (y * y)) * ((1 - x * x) * (c - (c + 1) * (y * y))) by clear k1 k2 k3 hP hd; grind, k3]
      clear k1 k2 k3 hP hd
      grind
    · have z3 := (K_dom z1).resolve_left l4
      have z4 := (K_dom z2).resolve_left l4
      rw [z3] at z4
      exact c0 (by clear k1 k2 k3 hP hd; grind)

/-- Two points together: what is told of their sum by what lies between them. -/
theorem add_y {d : K} {P Q : Ed} (hd : Free d) (hP : On d P) (hQ : On d Q) : (P.y + Q.y) * (P.y + Q.y) * ((1 - (addE d P Q).y) * (1 - (addE d P (negE Q)).y)) = (P.y - Q.y) * (P.y - Q.y) * ((1 + (addE d P Q).y) * (1 + (addE d P (negE Q)).y)) := by
  have p1 := iv_mul (plus_ne hd hP hQ)
  have p2 := iv_mul (minus_ne hd hP hQ)
  have p3 := iv_mul (minus_ne hd hP (on_neg hQ))
  have p1' := plus_ne hd hP hQ
  have p2' := minus_ne hd hP hQ
  unfold addE
  unfold tE negE On at *
  dsimp only at *
  have t1 : 1 - d * (P.x * -Q.x) * (P.y * Q.y) = 1 + d * (P.x * Q.x) * (P.y * Q.y) := by clear p1 p2 p3 hP hQ p1' p2'; grind
  rw [t1] at p3 ⊢
  clear p3 t1
  generalize iv (1 + d * (P.x * Q.x) * (P.y * Q.y)) = B at *
  generalize iv (1 - d * (P.x * Q.x) * (P.y * Q.y)) = E at *
  generalize P.x = x1 at *
  generalize P.y = y1 at *
  generalize Q.x = x2 at *
  generalize Q.y = y2 at *
  have key : (y1 + y2) * (y1 + y2) * ((1 - d * (x1 * x2) * (y1 * y2) - (y1 * y2 - x1 * x2)) * (1 + d * (x1 * x2) * (y1 * y2) - (y1 * y2 + x1 * x2))) = (y1 - y2) * (y1 - y2) * ((1 - d * (x1 * x2) * (y1 * y2) + (y1 * y2 - x1 * x2)) * (1 + d * (x1 * x2) * (y1 * y2) + (y1 * y2 + x1 * x2))) := by clear p1 p2 p1' p2'; grind
  generalize 1 + d * (x1 * x2) * (y1 * y2) = b at *
  generalize 1 - d * (x1 * x2) * (y1 * y2) = q at *
  clear hP hQ
  rw [show y1 * y2 - x1 * -x2 = y1 * y2 + x1 * x2 by clear p1 p2 key p1' p2'; grind]
  generalize y1 * y2 - x1 * x2 = s at *
  generalize y1 * y2 + x1 * x2 = r at *
  have m1 : q * (1 - s * E) = q - s := by clear p1 key p1' p2'; grind
  have m2 : q * (1 + s * E) = q + s := by clear p1 key p1' p2'; grind
  have m3 : b * (1 - r * B) = b - r := by clear p2 key p1' p2'; grind
  have m4 : b * (1 + r * B) = b + r := by clear p2 key p1' p2'; grind
  clear p1 p2
  generalize 1 - s * E = u1 at *
  generalize 1 + s * E = u2 at *
  generalize 1 - r * B = u3 at *
  generalize 1 + r * B = u4 at *
  refine cancelL (K_ne p2' p1') ?_
  rw [show q * b * ((y1 + y2) * (y1 + y2) * (u1 * u3)) = (y1 + y2) * (y1 + y2) * ((q * u1) * (b * u3)) by clear key m1 m2 m3 m4 p1' p2'; grind, show q * b * ((y1 - y2) * (y1 - y2) * (u2 * u4)) = (y1 - y2) * (y1 - y2) * ((q * u2) * (b * u4)) by clear key m1 m2 m3 m4 p1' p2'; grind, m1, m2, m3, m4]
  exact key
theorem y_of_nul {d x1 y1 : K} (h : x1 * x1 + y1 * y1 = 1 + d * (x1 * x1) * (y1 * y1)) (hy : y1 = 0) : x1 * x1 = 1 := by
  have h1 : x1 * x1 = (x1 * x1 + y1 * y1) - y1 * y1 := by clear h hy; grind
  rw [h1, h, hy]
  clear h h1
  have h2 : ∀ t : K, 1 + t * (0 * 0) - 0 * 0 = 1 := fun t => by
    have z : t * (0 * 0) = 0 := by grind
    rw [z]
    decide +kernel
  exact h2 _
theorem diff_nul {d : K} {P Q : Ed} (hP : On d P) (hQ : On d Q) (h1 : P.y = 0) (h2 : Q.y = 0) : (addE d P (negE Q)).y * (addE d P (negE Q)).y = 1 := by
  have e1 := y_of_nul hP h1
  have e2 := y_of_nul hQ h2
  have i1 : iv (1 : K) = 1 := iv_of (by grind)
  unfold addE tE negE
  dsimp only
  rw [h1, h2, show d * (P.x * -Q.x) * (0 * 0) = 0 by clear e1 e2 hP hQ h1 h2; grind, one_sub_zero, i1]
  generalize P.x = x1 at *
  generalize Q.x = x2 at *
  rw [show (0 * 0 - x1 * -x2) * 1 * ((0 * 0 - x1 * -x2) * 1) = (x1 * x1) * (x2 * x2) by clear e1 e2 hP hQ h1 h2; grind, e1, e2]
  decide +kernel
theorem add_rep {d e X1 Z1 X2 Z2 u : K} {P Q : Ed} (hc : Cv d e) (hP : On d P) (hQ : On d Q) (h1 : Rep e X1 Z1 P) (h2 : Rep e X2 Z2 Q)
    (hu : u * (1 - (addE d P (negE Q)).y) = e * (1 + (addE d P (negE Q)).y)) (hu0 : u ≠ 0) :
    Rep e (((X2 - Z2) * (X1 + Z1) + (X2 + Z2) * (X1 - Z1)) * ((X2 - Z2) * (X1 + Z1) + (X2 + Z2) * (X1 - Z1))) (u * (((X2 - Z2) * (X1 + Z1) - (X2 + Z2) * (X1 - Z1)) * ((X2 - Z2) * (X1 + Z1) - (X2 + Z2) * (X1 - Z1)))) (addE d P Q) := by
  obtain ⟨l, hl, a1, a2⟩ := rep_lam (ee hc) h1
  obtain ⟨m, hm, b1, b2⟩ := rep_lam (ee hc) h2
  have k := add_y hc.free hP hQ
  have dn := diff_nul hP hQ
  have he := ee hc
  clear h1 h2
  unfold Rep
  have w : e = 1 ∨ e = -1 := sq_cases he
  generalize (addE d P Q).y = S at *
  generalize (addE d P (negE Q)).y = D at *
  clear hP hQ hc
  generalize P.y = y1 at *
  generalize Q.y = y2 at *
  have n0 : 16 * (l * l) * (m * m) ≠ 0 := K_ne (K_ne sixteen_ne (K_ne hl hl)) (K_ne hm hm)
  have v0 : 1 - D ≠ 0 := fun z => two_ne (by
    have z2 : e * (1 + D) = 0 := by rw [← hu, z]; clear dn k hu; grind
    have z3 : 1 + D = e * (e * (1 + D)) := by rw [show e * (e * (1 + D)) = e * e * (1 + D) by clear dn k hu z z2 he; grind, he]; clear dn k hu z z2 he; grind
    rw [z2] at z3
    clear dn k hu z2 he
    grind)
  have g : ((X2 - Z2) * (X1 + Z1) + (X2 + Z2) * (X1 - Z1)) * ((X2 - Z2) * (X1 + Z1) + (X2 + Z2) * (X1 - Z1)) = 16 * (l * l) * (m * m) * ((y1 + y2) * (y1 + y2)) ∧ ((X2 - Z2) * (X1 + Z1) - (X2 + Z2) * (X1 - Z1)) * ((X2 - Z2) * (X1 + Z1) - (X2 + Z2) * (X1 - Z1)) = 16 * (l * l) * (m * m) * ((y1 - y2) * (y1 - y2)) := by
    clear dn k hu v0 n0 hu0 he
    subst a1 a2 b1 b2
    rcases w with w | w <;> subst w <;> constructor <;> grind
  rw [g.1, g.2]
  clear g a1 a2 b1 b2
  generalize 16 * (l * l) * (m * m) = n at *
  refine ⟨cancelL v0 ?_, fun ⟨z1, z2⟩ => ?_⟩
  · rw [show (1 - D) * (n * ((y1 + y2) * (y1 + y2)) * (1 - S)) = n * ((y1 + y2) * (y1 + y2) * ((1 - S) * (1 - D))) by clear dn k hu v0 n0 hu0 he; grind, k, show (1 - D) * (e * (u * (n * ((y1 - y2) * (y1 - y2)))) * (1 + S)) = e * (u * (1 - D)) * (n * ((y1 - y2) * (y1 - y2)) * (1 + S)) by clear dn k hu v0 n0 hu0 he; grind, hu, show e * (e * (1 + D)) * (n * ((y1 - y2) * (y1 - y2)) * (1 + S)) = e * e * ((1 + D) * (n * ((y1 - y2) * (y1 - y2)) * (1 + S))) by clear dn k hu v0 n0 hu0 he; grind, he]
    clear dn k hu v0 n0 hu0 he
    grind
  · have s1 : y1 + y2 = 0 := by
      have := (K_dom z1).resolve_left n0
      rcases K_dom this with h | h <;> exact h
    have s2 : y1 - y2 = 0 := by
      have := (K_dom ((K_dom z2).resolve_left hu0)).resolve_left n0
      rcases K_dom this with h | h <;> exact h
    have s3 : y1 = 0 := by
      have : 2 * y1 = 0 := by clear dn k hu z1 z2 he w; grind
      exact (K_dom this).resolve_left two_ne
    have s4 : y2 = 0 := by
      have : 2 * y2 = 0 := by clear dn k hu z1 z2 he w; grind
      exact (K_dom this).resolve_left two_ne
    rcases sq_cases (dn s3 s4) with h | h
    · exact v0 (by rw [h]; decide +kernel)
    · rw [h] at hu
      have : u * 2 = 0 := by
        have e1 : u * 2 = u * (1 - -1) := by clear hu k dn he; grind
        rw [e1, hu]
        clear hu k dn he
        grind
      exact (K_dom this).elim hu0 two_ne

/-! ### The ladder -/
def repP (e : K) (q : Pt) (P : Ed) : Prop := Rep e (toK q.x) (toK q.z) P
theorem dblP_rep {d e : K} {q : Pt} {P : Ed} (hc : Cv d e) (hP : On d P) (hq : PtOk q) (h : repP e q P) : repP e (dblP q) (addE d P P) := by
  unfold repP at *
  have := dbl_rep hc hP h
  unfold dblP dblE
  dsimp only
  simp only [toK_fM, toK_fA, toK_fS _ _ hq.2, toK_fS _ _ (fM_lt _ _)]
  exact this
theorem addP_rep {d e : K} {q s : Pt} {u : Nat} {P Q : Ed} (hc : Cv d e) (hP : On d P) (hQ : On d Q) (hq : PtOk q) (hs : PtOk s) (h1 : repP e q P) (h2 : repP e s Q)
    (hu : toK u * (1 - (addE d P (negE Q)).y) = e * (1 + (addE d P (negE Q)).y)) (hu0 : toK u ≠ 0) : repP e (addP u q s) (addE d P Q) := by
  unfold repP at *
  have := add_rep hc hP hQ h1 h2 hu hu0
  unfold addP addDA addCB
  dsimp only
  simp only [toK_fM, toK_fA, toK_fS _ _ hq.2, toK_fS _ _ hs.2, toK_fS _ _ (fM_lt _ _)]
  exact this
theorem addP_turn {e : K} {q s : Pt} {u : Nat} {P : Ed} (hq : PtOk q) (hs : PtOk s) (h : repP e (addP u q s) P) : repP e (addP u s q) P := by
  unfold repP addP addDA addCB at *
  dsimp only at *
  simp only [toK_fM, toK_fA, toK_fS _ _ hq.2, toK_fS _ _ hs.2, toK_fS _ _ (fM_lt _ _)] at *
  generalize toK q.x = a at *
  generalize toK q.z = b at *
  generalize toK s.x = c at *
  generalize toK s.z = f at *
  rw [show ((a - b) * (c + f) + (a + b) * (c - f)) * ((a - b) * (c + f) + (a + b) * (c - f)) = ((c - f) * (a + b) + (c + f) * (a - b)) * ((c - f) * (a + b) + (c + f) * (a - b)) by clear h; grind, show ((a - b) * (c + f) - (a + b) * (c - f)) * ((a - b) * (c + f) - (a + b) * (c - f)) = ((c - f) * (a + b) - (c + f) * (a - b)) * ((c - f) * (a + b) - (c + f) * (a - b)) by clear h; grind]
  exact h
/-- The number of a key's highest bits. -/
def topB (k : Nat → Nat) : Nat → Nat
  | 0 => 0
  | n + 1 => 2 * topB k n + bitN k n
theorem lad_rep {d e : K} {P : Ed} {u : Nat} (hc : Cv d e) (hP : On d P) (hu : u < pN) (hu0 : toK u ≠ 0) (hq : toK u * (1 - P.y) = e * (1 + P.y)) (k : Nat → Nat) :
    ∀ n, repP e (ladP u k n).1 (mulE d P (topB k n)) ∧ repP e (ladP u k n).2 (mulE d P (topB k n + 1))
  | 0 => by
    refine ⟨⟨?_, ?_⟩, ⟨?_, ?_⟩⟩
    · show toK 1 * (1 - 1) = e * toK 0 * (1 + 1)
      rw [toK_zero, show (1 : K) - 1 = 0 by decide +kernel, Fin.mul_zero, Fin.mul_zero, Fin.zero_mul]
    · rintro ⟨h, _⟩
      exact one_ne (toK_one.symm.trans h)
    · rw [show mulE d P (topB k 0 + 1) = addE d nulE P from rfl, nul_add]
      show toK u * (1 - P.y) = e * toK 1 * (1 + P.y)
      rw [hq, toK_one]
      clear hq
      generalize P.y = y
      grind
    · rintro ⟨_, h⟩
      exact one_ne (toK_one.symm.trans h)
  | n + 1 => by
    have ih := lad_rep hc hP hu hu0 hq k n
    have ok := lad_ok u hu k n
    have o1 := mul_on hc.free hP (topB k n)
    have o2 := mul_on hc.free hP (topB k n + 1)
    have hD := mul_next hc.free hc.nz hP (topB k n)
    have hs : repP e (addP u (ladP u k n).2 (ladP u k n).1) (mulE d P (2 * topB k n + 1)) := by
      have := addP_rep (u := u) hc o2 o1 ok.2 ok.1 ih.2 ih.1 (by rw [hD]; exact hq) hu0
      rwa [← mul_add' hc.free hc.nz hP, show topB k n + 1 + topB k n = 2 * topB k n + 1 by omega] at this
    rw [show ladP u k (n + 1) = stepP u (bitN k n) (ladP u k n).1 (ladP u k n).2 from rfl, show topB k (n + 1) = 2 * topB k n + bitN k n from rfl]
    unfold stepP
    rcases bitN_lt k n with hb | hb
    · rw [hb, if_neg (by omega), Nat.add_zero]
      refine ⟨?_, addP_turn ok.2 ok.1 hs⟩
      have := dblP_rep hc o1 ok.1 ih.1
      rwa [← mul_add' hc.free hc.nz hP, show topB k n + topB k n = 2 * topB k n by omega] at this
    · rw [hb, if_pos rfl]
      refine ⟨hs, ?_⟩
      have := dblP_rep hc o2 ok.2 ih.2
      rwa [← mul_add' hc.free hc.nz hP, show topB k n + 1 + (topB k n + 1) = 2 * topB k n + 1 + 1 by omega] at this
/-- What a point is told by. -/
def encE (e Y : K) : K := if Y = 1 then 0 else e * (1 + Y) * iv (1 - Y)
theorem sub_ne {Y : K} (h : Y ≠ 1) : 1 - Y ≠ 0 := fun e => h (by grind)
theorem enc_rep {d e X Z : K} {P : Ed} (hc : Cv d e) (h : Rep e X Z P) : X * iv Z = encE e P.y := by
  obtain ⟨h1, h2⟩ := h
  have he := ee hc
  unfold encE
  generalize P.y = Y at *
  by_cases hY : Y = 1
  · rw [if_pos hY]
    have hZ : Z = 0 := by
      have : e * (Z * 2) = 0 := by
        have e1 : e * (Z * 2) = e * Z * (1 + 1) := by clear h1 he; grind
        rw [e1]
        rw [hY] at h1
        rw [← h1]
        clear h1 he
        grind
      have e0 : e ≠ 0 := fun z => by rw [z] at he; exact one_ne (by rw [← he]; decide +kernel)
      exact (K_dom ((K_dom this).resolve_left e0)).resolve_right two_ne
    rw [hZ, iv_zero]
    clear h1 he
    grind
  · rw [if_neg hY]
    have hv := iv_mul (sub_ne hY)
    have hZ : Z ≠ 0 := fun z => h2 ⟨by
      rw [z] at h1
      have : X * (1 - Y) = 0 := by rw [h1]; clear h1 he hv; grind
      exact (K_dom this).resolve_right (sub_ne hY), z⟩
    have hz := iv_mul hZ
    generalize iv Z = z' at *
    generalize iv (1 - Y) = w at *
    have e1 : X * z' = X * (1 - Y) * w * z' := by rw [show X * (1 - Y) * w * z' = X * z' * ((1 - Y) * w) by clear h1 he hv hz; grind, hv]; clear h1 he hv hz; grind
    rw [e1, h1, show e * Z * (1 + Y) * w * z' = e * (1 + Y) * w * (Z * z') by clear h1 he hv hz e1; grind, hz]
    clear h1 he hv hz e1
    grind
/-- The number of a clamped key. -/
def numK (k : Nat → Nat) : Nat := topB (clampN k) 255
theorem mult_enc {d e : K} {P : Ed} {u : Nat} (hc : Cv d e) (hP : On d P) (hu : u < pN) (hu0 : toK u ≠ 0) (hq : toK u * (1 - P.y) = e * (1 + P.y)) (k : Nat → Nat) :
    toK (multV k u) = encE e (mulE d P (numK k)).y := by
  have h := (lad_rep hc hP hu hu0 hq (clampN k) 255).1
  have ok := (lad_ok u hu (clampN k) 255).1
  show toK (multV k u) = encE e (mulE d P (topB (clampN k) 255)).y
  rw [← enc_rep hc h]
  unfold multV
  rw [toK_fM]
  unfold iv
  rw [val_toK, Nat.mod_eq_of_lt ok.2]
theorem x_nul {d x y : K} (hf : Free d) (h : x * x + y * y = 1 + d * (x * x) * (y * y)) (hy : y * y = 1) : x = 0 := by
  have h1 : (x * x) * (1 - d) = 0 := by
    rw [hy] at h
    clear hy
    grind
  have h2 : 1 - d ≠ 0 := fun z => hf 1 (by clear h hy h1; grind)
  have := (K_dom h1).resolve_right h2
  rcases K_dom this with h | h <;> exact h
theorem enc_nul {d e : K} {P : Ed} (hc : Cv d e) (hP : On d P) (h : encE e P.y = 0) : P = nulE ∨ P = halfE := by
  have he := ee hc
  obtain ⟨x, y⟩ := P
  unfold On at hP
  unfold encE at h
  dsimp only at h hP
  by_cases hY : y = 1
  · subst hY
    have := x_nul hc.free hP (by decide +kernel)
    subst this
    exact .inl rfl
  · rw [if_neg hY] at h
    have e0 : e ≠ 0 := fun z => by rw [z] at he; exact one_ne (by rw [← he]; decide +kernel)
    have h1 := (K_dom ((K_dom h).resolve_right (iv_ne (sub_ne hY)))).resolve_left e0
    have h2 : y = -1 := by clear h hP he; grind
    subst h2
    have := x_nul hc.free hP (by decide +kernel)
    subst this
    exact .inr rfl
theorem enc_of {e : K} {P : Ed} (h : P = nulE ∨ P = halfE) : encE e P.y = 0 := by
  rcases h with h | h <;> subst h
  · exact if_pos rfl
  · have : halfE.y ≠ 1 := neg_ne
    unfold encE
    rw [if_neg this]
    show e * (1 + -1) * _ = 0
    generalize iv _ = w
    have : (1 + -1 : K) = 0 := by decide +kernel
    rw [this]
    grind
theorem mult_two {d e : K} {P : Ed} {u : Nat} (hc : Cv d e) (hP : On d P) (hu : u < pN) (hu0 : toK u ≠ 0) (hq : toK u * (1 - P.y) = e * (1 + P.y)) (a b : Nat → Nat) :
    toK (multV a (multV b u)) = encE e (mulE d P (numK b * numK a)).y := by
  have h := mult_enc hc hP hu hu0 hq b
  have hlt : multV b u < pN := fM_lt _ _
  have oB := mul_on hc.free hP (numK b)
  rw [← mul_mul' hc.free hc.nz hP]
  by_cases h0 : toK (multV b u) = 0
  · have hz : multV b u = 0 := by
      have := congrArg Fin.val h0
      rw [val_toK, Nat.mod_eq_of_lt hlt] at this
      exact this
    rw [hz, mult_zero, toK_zero]
    have hn := enc_nul hc oB (h.symm.trans h0)
    refine (enc_of ?_).symm
    rcases hn with hn | hn <;> rw [hn]
    · exact .inl (mul_nul _)
    · exact mul_half _
  · refine mult_enc hc oB hlt h0 ?_ a
    rw [h] at h0 ⊢
    generalize (mulE d P (numK b)).y = Y at *
    unfold encE at *
    by_cases hY : Y = 1
    · rw [if_pos hY] at h0
      exact absurd rfl h0
    · rw [if_neg hY] at h0 ⊢
      have hv := iv_mul (sub_ne hY)
      generalize iv (1 - Y) = w at *
      rw [show e * (1 + Y) * w * (1 - Y) = e * (1 + Y) * ((1 - Y) * w) by clear h hv h0 hq; grind, hv]
      clear h hv h0 hq
      grind

/-! ### Each quotient stands for a point of the one curve, or of its twist -/
theorem free_one {d : K} (h : d * (cA + 2) = cA - 2) : Free d := fun s hs => no_sq (s * (cA + 2)) (by
  rw [show s * (cA + 2) * (s * (cA + 2)) = s * s * (cA + 2) * (cA + 2) by clear h; grind, hs, h])
theorem free_two {d : K} (h : d * (cA - 2) = cA + 2) : Free d := fun s hs => no_sq (s * (cA - 2)) (by
  rw [show s * (cA - 2) * (s * (cA - 2)) = s * s * (cA - 2) * (cA - 2) by clear h; grind, hs, h]
  clear h
  generalize cA = c
  grind)
def dOne : K := (cA - 2) * iv (cA + 2)
def dTwo : K := (cA + 2) * iv (cA - 2)
theorem dOne_is : dOne * (cA + 2) = cA - 2 := by
  unfold dOne
  have h := iv_mul cA_plus
  rw [show (cA - 2) * iv (cA + 2) * (cA + 2) = (cA - 2) * ((cA + 2) * iv (cA + 2)) by clear h; grind, h]
  clear h
  grind
theorem dTwo_is : dTwo * (cA - 2) = cA + 2 := by
  unfold dTwo
  have h := iv_mul cA_minus
  rw [show (cA + 2) * iv (cA - 2) * (cA - 2) = (cA + 2) * ((cA - 2) * iv (cA - 2)) by clear h; grind, h]
  clear h
  grind
theorem four_ne : (4 : K) ≠ 0 := fun h => absurd (congrArg Fin.val h) (by decide +kernel)
theorem cv_one : Cv dOne 1 where
  free := free_one dOne_is
  nz := fun h => cA_minus (by rw [← dOne_is, h, Fin.zero_mul])
  way := .inl ⟨rfl, by
    have h := dOne_is
    rw [cA_cB] at h
    generalize dOne = d at *
    generalize cB = c at *
    refine cancelL four_ne ?_
    grind⟩
theorem cv_two : Cv dTwo (-1) where
  free := free_two dTwo_is
  nz := fun h => cA_plus (by rw [← dTwo_is, h, Fin.zero_mul])
  way := .inr ⟨rfl, by
    have h := dTwo_is
    rw [cA_cB] at h
    generalize dTwo = d at *
    generalize cB = c at *
    refine cancelL four_ne ?_
    grind⟩
theorem quad_ne (u : K) : u * u + cA * u + 1 ≠ 0 := fun h => no_sq (2 * u + cA) (by
  generalize cA = c at *
  grind)
theorem is_point {u : K} (h0 : u ≠ 0) : ∃ d e : K, ∃ P : Ed, Cv d e ∧ On d P ∧ u * (1 - P.y) = e * (1 + P.y) := by
  have hq := quad_ne u
  have hQ := iv_mul hq
  have w0 : u * (u * u + cA * u + 1) ≠ 0 := K_ne h0 hq
  rcases hf_cases w0 with hw | hw
  · obtain ⟨r, hr⟩ := sqrt_of hw
    have hu : u + 1 ≠ 0 := fun z => by
      have hz : u = -1 := by clear hw hQ hr; grind
      have e1 : u * (u * u + cA * u + 1) = cA - 2 := by rw [hz]; clear hw hQ hr hz z; generalize cA = c; grind
      rw [e1, hf_minus] at hw
      exact neg_ne hw
    have hU := iv_mul hu
    have hs := cS_sq
    have hd := dOne_is
    refine ⟨dOne, 1, ⟨cS * r * iv (u * u + cA * u + 1), (u - 1) * iv (u + 1)⟩, cv_one, ?_, ?_⟩
    · unfold On
      dsimp only
      generalize iv (u + 1) = V at *
      generalize cS = s at *
      generalize dOne = d at *
      have hx : s * r * iv (u * u + cA * u + 1) * (s * r * iv (u * u + cA * u + 1)) = (cA + 2) * u * iv (u * u + cA * u + 1) := by
        generalize iv (u * u + cA * u + 1) = W at *
        rw [show s * r * W * (s * r * W) = s * s * (r * r) * W * W by clear hw hQ hU hs hr hd; grind, hs, hr, show (cA + 2) * (u * (u * u + cA * u + 1)) * W * W = (cA + 2) * u * W * ((u * u + cA * u + 1) * W) by clear hw hQ hU hs hr hd; generalize cA = c; grind, hQ]
        clear hw hQ hU hs hr hd
        grind
      rw [hx]
      have hW : u * u + cA * u + 1 ≠ 0 := hq
      generalize iv (u * u + cA * u + 1) = W at *
      clear hw hr hs hx w0
      generalize cA = c at *
      refine cancelL hW (cancelL (K_ne hu hu) ?_)
      have m1 : (u + 1) * ((u - 1) * V) = u - 1 := by rw [show (u + 1) * ((u - 1) * V) = (u - 1) * ((u + 1) * V) by clear hQ hU hd; grind, hU]; clear hQ hU hd; grind
      generalize (u - 1) * V = y at *
      clear hU
      have m2 : (u + 1) * (u + 1) * (y * y) = (u - 1) * (u - 1) := by rw [← m1]; clear hQ hd; grind
      rw [show (u + 1) * (u + 1) * ((u * u + c * u + 1) * ((c + 2) * u * W + y * y)) = (u + 1) * (u + 1) * ((c + 2) * u * ((u * u + c * u + 1) * W)) + (u * u + c * u + 1) * ((u + 1) * (u + 1) * (y * y)) by clear hQ hd m1 m2; grind, show (u + 1) * (u + 1) * ((u * u + c * u + 1) * (1 + d * ((c + 2) * u * W) * (y * y))) = (u + 1) * (u + 1) * (u * u + c * u + 1) + d * (c + 2) * (u * ((u * u + c * u + 1) * W)) * ((u + 1) * (u + 1) * (y * y)) by clear hQ hd m1 m2; grind, hQ, m2, hd]
      clear hQ hd m1 m2
      grind
    · dsimp only
      generalize iv (u + 1) = V at *
      clear hw hQ hr hs hd
      have e1 : 1 - (u - 1) * V = 2 * V := by
        refine cancelL hu ?_
        grind
      have e2 : 1 + (u - 1) * V = 2 * u * V := by
        refine cancelL hu ?_
        grind
      rw [e1, e2]
      clear e1 e2 hU
      grind
  · have h1 : hf ((cA - 2) * (u * (u * u + cA * u + 1))) = 1 := by rw [hf_mul, hf_minus, hw]; decide +kernel
    obtain ⟨r, hr⟩ := sqrt_of h1
    have hu : u - 1 ≠ 0 := fun z => by
      have hz : u = 1 := by clear hw hQ hr h1; grind
      have e1 : u * (u * u + cA * u + 1) = cA + 2 := by rw [hz]; clear hw hQ hr hz z h1; generalize cA = c; grind
      rw [e1, hf_plus] at hw
      exact neg_ne hw.symm
    have hU := iv_mul hu
    have hd := dTwo_is
    refine ⟨dTwo, -1, ⟨r * iv (u * u + cA * u + 1), (u + 1) * iv (u - 1)⟩, cv_two, ?_, ?_⟩
    · unfold On
      dsimp only
      generalize iv (u - 1) = V at *
      generalize dTwo = d at *
      have hx : r * iv (u * u + cA * u + 1) * (r * iv (u * u + cA * u + 1)) = (cA - 2) * u * iv (u * u + cA * u + 1) := by
        generalize iv (u * u + cA * u + 1) = W at *
        rw [show r * W * (r * W) = (r * r) * W * W by clear hw hQ hU hr hd h1; grind, hr, show (cA - 2) * (u * (u * u + cA * u + 1)) * W * W = (cA - 2) * u * W * ((u * u + cA * u + 1) * W) by clear hw hQ hU hr hd h1; generalize cA = c; grind, hQ]
        clear hw hQ hU hr hd h1
        grind
      rw [hx]
      have hW : u * u + cA * u + 1 ≠ 0 := hq
      generalize iv (u * u + cA * u + 1) = W at *
      clear hw hr hx w0 h1
      generalize cA = c at *
      refine cancelL hW (cancelL (K_ne hu hu) ?_)
      have m1 : (u - 1) * ((u + 1) * V) = u + 1 := by rw [show (u - 1) * ((u + 1) * V) = (u + 1) * ((u - 1) * V) by clear hQ hU hd; grind, hU]; clear hQ hU hd; grind
      generalize (u + 1) * V = y at *
      clear hU
      have m2 : (u - 1) * (u - 1) * (y * y) = (u + 1) * (u + 1) := by rw [← m1]; clear hQ hd; grind
      rw [show (u - 1) * (u - 1) * ((u * u + c * u + 1) * ((c - 2) * u * W + y * y)) = (u - 1) * (u - 1) * ((c - 2) * u * ((u * u + c * u + 1) * W)) + (u * u + c * u + 1) * ((u - 1) * (u - 1) * (y * y)) by clear hQ hd m1 m2; grind, show (u - 1) * (u - 1) * ((u * u + c * u + 1) * (1 + d * ((c - 2) * u * W) * (y * y))) = (u - 1) * (u - 1) * (u * u + c * u + 1) + d * (c - 2) * (u * ((u * u + c * u + 1) * W)) * ((u - 1) * (u - 1) * (y * y)) by clear hQ hd m1 m2; grind, hQ, m2, hd]
      clear hQ hd m1 m2
      grind
    · dsimp only
      generalize iv (u - 1) = V at *
      clear hw hQ hr hd h1
      have e1 : 1 - (u + 1) * V = -2 * V := by
        refine cancelL hu ?_
        grind
      have e2 : 1 + (u + 1) * V = 2 * u * V := by
        refine cancelL hu ?_
        grind
      rw [e1, e2]
      clear e1 e2 hU
      grind
/-- **Two numbers, one behind the other: the order plays no part.** -/
theorem mult_turn (a b : Nat → Nat) (u : Nat) (hu : u < pN) : multV a (multV b u) = multV b (multV a u) := by
  by_cases h0 : toK u = 0
  · have hz : u = 0 := by
      have := congrArg Fin.val h0
      rw [val_toK, Nat.mod_eq_of_lt hu] at this
      exact this
    rw [hz, mult_zero, mult_zero, mult_zero]
  · obtain ⟨d, e, P, hc, hP, hq⟩ := is_point h0
    have h1 := mult_two hc hP hu h0 hq a b
    have h2 := mult_two hc hP hu h0 hq b a
    rw [Nat.mul_comm] at h2
    have h3 := congrArg Fin.val (h1.trans h2.symm)
    rw [val_toK, val_toK, Nat.mod_eq_of_lt (show multV a (multV b u) < pN from fM_lt _ _), Nat.mod_eq_of_lt (show multV b (multV a u) < pN from fM_lt _ _)] at h3
    exact h3
end Go.Proofs.YtfolbgiekbimpaaDoor
