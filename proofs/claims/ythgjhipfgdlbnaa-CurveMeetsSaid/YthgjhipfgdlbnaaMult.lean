/- The walk of layer 6: a point multiplied by a number, by the program. -/
import Derived.Test.YthgjhipfgdlbnaaClamp
import Derived.Test.YthgjhipfgdlbnaaTree
import Derived.Test.YthgjhipfgdlbnaaAne
import Derived.Test.YthgjhipfgdlbnaaLawFeReckons
namespace Go.Proofs.Ythgjhipfgdlbnaa
set_option linter.unusedSimpArgs false
set_option linter.unusedVariables false
open Go.RowKit
attribute [local irreducible] accN byteN prodN carN diffN sqN sumN difN oneF valN bytesN invN ofN powN kvN clampN sLX sLZ sHX sHZ dblP addP

theorem ZTPoint : ZeroT Try.prog 41 .u64 10 := by unfold ZeroT; kernel_rfl
theorem built_point1 (F : Nat → Nat) : Try.prog.built 41 [(0, .agg (arr .u64 5 fun i => ((F i : Nat) : Int)))] = some (arr .u64 10 fun i => ((two5 F (oneF 0) i : Nat) : Int)) := by kernel_rfl
/-- A row of ten parts stands for a point. -/
def FitP (F : Nat → Nat) (q : Pt) : Prop := ∃ X Z, F = two5 X Z ∧ Fits X q.x ∧ Fits Z q.z
theorem FitP.lt {F : Nat → Nat} {q : Pt} (h : FitP F q) (i : Nat) (hi : i < 10) : F i < 18446744073709551616 := by
  obtain ⟨X, Z, rfl, h1, h2⟩ := h
  unfold two5
  split
  · have := h1.1 i (by omega)
    omega
  · have := h2.1 (i - 5) (by omega)
    omega
def turnP (b : Nat) (p : Pt × Pt) : Pt × Pt := if b = 1 then (p.2, p.1) else p
theorem selN_one (F G : Nat → Nat) : selN 1 F G = G := by funext i; unfold selN; rw [if_pos rfl]
theorem selN_zero (F G : Nat → Nat) : selN 0 F G = F := by funext i; unfold selN; rw [if_neg (by omega)]
/-- Changing places from one turn to another one. -/
theorem turn_sel {F G : Nat → Nat} {p : Pt × Pt} {a b c : Nat} (ha : a = 0 ∨ a = 1) (hb : b = 0 ∨ b = 1) (hc : c = if a = b then 0 else 1) (hF : FitP F (turnP a p).1) (hG : FitP G (turnP a p).2) :
    FitP (selN c F G) (turnP b p).1 ∧ FitP (selN c G F) (turnP b p).2 := by
  subst hc
  rcases ha with rfl | rfl <;> rcases hb with rfl | rfl <;> simp [turnP, selN_one, selN_zero] at * <;> exact ⟨by assumption, by assumption⟩
theorem turn_step (u : Nat) (k : Nat → Nat) (n : Nat) : turnP (bitN k n) (ladP u k (n + 1)) = (dblP (turnP (bitN k n) (ladP u k n)).1, addP u (turnP (bitN k n) (ladP u k n)).1 (turnP (bitN k n) (ladP u k n)).2) := by
  rw [show ladP u k (n + 1) = stepP u (bitN k n) (ladP u k n).1 (ladP u k n).2 from rfl]
  unfold stepP turnP
  rcases bitN_lt k n with h | h <;> simp [h]
def wasN (k : Nat → Nat) : Nat → Nat
  | 0 => 0
  | n + 1 => bitN k n
theorem wasN_lt (k : Nat → Nat) : ∀ n, wasN k n = 0 ∨ wasN k n = 1
  | 0 => .inl rfl
  | n + 1 => bitN_lt k n
theorem turn_ok {p : Pt × Pt} (b : Nat) (h : PtOk p.1 ∧ PtOk p.2) : PtOk (turnP b p).1 ∧ PtOk (turnP b p).2 := by unfold turnP; split; exact ⟨h.2, h.1⟩; exact h
theorem xor01 (a b : Nat) (ha : a = 0 ∨ a = 1) (hb : b = 0 ∨ b = 1) : bits .xor .u64 (a : Int) (b : Int) = (((if a = b then 0 else 1) : Nat) : Int) := by
  rcases ha with rfl | rfl <;> rcases hb with rfl | rfl <;> decide

theorem i64_and7 (n : Int) : bits .and .i64 n 7 = n % 8 := by
  have h7 : (BitVec.ofInt 64 7).toNat = 2 ^ 3 - 1 := by decide
  have key : (BitVec.ofInt 64 n &&& BitVec.ofInt 64 7).toNat = (n % ((2 ^ 64 : Nat) : Int)).toNat % 2 ^ 3 := by
    rw [BitVec.toNat_and, BitVec.toNat_ofInt, h7, Nat.and_two_pow_sub_one_eq_mod]
  show IntKind.i64.wrap ((BitVec.ofInt 64 n &&& BitVec.ofInt 64 7).toNat : Nat) = n % 8
  rw [key, IntKind.wrap_i64]
  omega
theorem bitval (x r : Nat) (hx : x < 256) : bits .and .u64 (IntKind.u64.wrap ((x : Int) / 2 ^ r)) 1 = ((x / 2 ^ r % 2 : Nat) : Int) := by
  have h1 : (x : Int) / 2 ^ r = ((x / 2 ^ r : Nat) : Int) := by
    rw [Int.natCast_ediv, Int.natCast_pow]
    rfl
  have h2 : x / 2 ^ r < 256 := Nat.lt_of_le_of_lt (Nat.div_le_self _ _) hx
  rw [h1]
  generalize x / 2 ^ r = y at *
  have h3 : IntKind.u64.wrap (y : Int) = (y : Int) := by
    rw [IntKind.wrap_u64]
    omega
  rw [h3, show (1 : Int) = ((1 : Nat) : Int) from rfl, u64_and_nat y 1 (by omega) (by omega), Nat.and_one_is_mod]
/-- Where the ladder stands. -/
def LadF (k u : Nat → Nat) (w : World) (B RV R LO HI FI m : Nat) : Prop :=
  ∃ L H, FitP L (turnP (wasN (clampN k) m) (ladP (keyU u) (clampN k) m)).1 ∧ FitP H (turnP (wasN (clampN k) m) (ladP (keyU u) (clampN k) m)).2 ∧ w.heap[B]? = some (.cells (arr .u8 32 fun i => ((clampN k i : Nat) : Int)) 23 (0, 0)) ∧
    w.heap[B + 1 + 1]? = some (.cells (arr .u8 32 fun _ => 0) 23 (0, 0)) ∧ Lad w RV R LO HI FI L H (ofN u)
theorem fits_of (u : Nat → Nat) (hu : ∀ i, i < 32 → u i < 256) : Fits (ofN u) (keyU u) := ⟨ofN_ok u, by unfold keyU; rw [Nat.mod_mod]; exact of_fits u hu⟩

set_option maxRecDepth 100000 in
set_option maxHeartbeats 8000000 in
theorem Mult_any (k u : Nat → Nat) (hk : ∀ i, i < 32 → k i < 256) (hu : ∀ i, i < 32 → u i < 256) (w : World) :
    Calls Try.prog 11 #[.agg (arr .u8 32 fun i => ((k i : Nat) : Int)), .agg (arr .u8 32 fun i => ((u i : Nat) : Int))] w fun e w' => e = .returned (.agg (arr .u8 32 fun i => ((byteN (multV k (keyU u)) i : Nat) : Int))) ∧ Below w.heap.size w w' := by
  have hK := Lib.hid (clamp_lt hk)
  have HKK := Lib.hid hk
  have HU := Lib.hid hu
  clear hk hu
  go_enter Try.func11, Try.ntmps11
  obtain ⟨h0, h1, h2, hsz, hb⟩ := alloc3 w (.cells (arr .u8 32 fun i => ((k i : Nat) : Int)) 23) (.cells (arr .u8 32 fun i => ((u i : Nat) : Int)) 23) (.cells (arr .u8 32 fun _ => 0) 23)
  go_upto_region 1 with (refine wpList_alloc_arr rfl rfl ZTKey ?_)
  generalize ((w.alloc (.cells (arr .u8 32 fun i => ((k i : Nat) : Int)) 23)).alloc (.cells (arr .u8 32 fun i => ((u i : Nat) : Int)) 23)).alloc (.cells (arr .u8 32 fun _ => 0) 23) = wa at *
  (try simp only [Act.put, List.setIfInBounds_toArray, List.set_cons_zero, List.set_cons_succ])
  simp only [World.size_alloc]
  clear hsz
  go_wp2_with (first | (refine wpList_load_arr rfl rfl rfl RTKey h0 ?_) | (go_at_call 9; fail))
  refine (Clamp_any k HKK.out _).mono ?_
  rintro e w4 ⟨rfl, b4⟩
  replace h0 := keep_below b4 (lt_of_block h0) h0
  replace h1 := keep_below b4 (lt_of_block h1) h1
  replace h2 := keep_below b4 (lt_of_block h2) h2
  replace hb := hb.trans (b4.mono hb.size)
  clear b4
  go_upto_region 2 with (first | (refine wpList_store_arr rfl rfl rfl rfl RTKey h0 ?_))
  replace h1 := row_keep (g := w.heap.size) (c' := arr .u8 32 fun i => ((clampN k i : Nat) : Int)) h1 (by omega)
  replace h2 := row_keep (g := w.heap.size) (c' := arr .u8 32 fun i => ((clampN k i : Nat) : Int)) h2 (by omega)
  replace h0 := row_self (c' := arr .u8 32 fun i => ((clampN k i : Nat) : Int)) h0
  replace hb := row_below hb (Nat.le_refl _) (arr .u8 32 fun i => ((clampN k i : Nat) : Int))
  generalize w4.setRow w.heap.size (arr .u8 32 fun i => ((clampN k i : Nat) : Int)) = wb at *
  (try simp only [Act.put, List.setIfInBounds_toArray, List.set_cons_zero, List.set_cons_succ])
  go_upto_region 3 with (fail)
  obtain ⟨hr, hrv, hz2, b2⟩ := alloc2 wb (.cells (arr .i64 1 fun _ => 0) 39) (.cells #[.pointer (some ⟨wb.heap.size, 0, none⟩)] 37)
  replace h0 := keep_below b2 (lt_of_block h0) h0
  replace h1 := keep_below b2 (lt_of_block h1) h1
  replace h2 := keep_below b2 (lt_of_block h2) h2
  replace hb := hb.trans (b2.mono hb.size)
  clear b2 hz2
  rw [show (#[Value.int .i64 0] : Array Value) = arr .i64 1 fun _ => 0 from rfl]
  generalize (wb.alloc (.cells (arr .i64 1 fun _ => 0) 39)).alloc (.cells #[.pointer (some ⟨wb.heap.size, 0, none⟩)] 37) = wc at *
  obtain ⟨R, hR⟩ : ∃ x, x = wb.heap.size := ⟨_, rfl⟩
  obtain ⟨RV, hRV⟩ : ∃ x, x = wb.heap.size + 1 := ⟨_, rfl⟩
  rw [← hRV] at hrv ⊢
  rw [← hR] at hrv hr ⊢
  clear hR hRV
  go_wp2_with (first | (refine wpList_load_arr rfl rfl rfl RTKey h1 ?_) | (go_at_call 14; fail))
  refine (Of_any u HU.out _).mono ?_
  rintro e w4 ⟨rfl, b4⟩
  clear h1
  replace h0 := keep_below b4 (lt_of_block h0) h0
  replace h2 := keep_below b4 (lt_of_block h2) h2
  replace hr := keep_below b4 (lt_of_block hr) hr
  replace hrv := keep_below b4 (lt_of_block hrv) hrv
  replace hb := hb.trans (b4.mono hb.size)
  clear b4
  go_upto_region 4 with (refine wpList_new_arr rfl rfl rfl rfl ZTFe RTFe rfl rfl ?_; intro w8 hfi b8 hs8)
  have l0 := lt_of_block h0
  replace h0 := keep_below b8 (lt_of_block h0) h0
  replace h2 := keep_below b8 (lt_of_block h2) h2
  replace hr := keep_below b8 (lt_of_block hr) hr
  replace hrv := keep_below b8 (lt_of_block hrv) hrv
  replace hb := hb.trans (b8.mono hb.size)
  clear b8 hs8
  obtain ⟨FI, hFI⟩ : ∃ B, B = w4.heap.size := ⟨_, rfl⟩
  rw [← hFI] at l0 hfi ⊢
  clear hFI
  (try simp only [Act.put, List.setIfInBounds_toArray, List.set_cons_zero, List.set_cons_succ])
  obtain ⟨wq, rfl⟩ : ∃ x, x = w8 := ⟨_, rfl⟩
  have lw : w.heap.size ≤ wq.drew.heap.size := hb.size
  refine wp_region_fork wq.drew.heap.size 8 (.fork [(0, false), (1, false), (2, false), (3, false), (4, false)] 5 (.done [(6, true), (7, true)]) 6 (.done [(5, true), (7, true)])) (by kernel_rfl) (by kernel_rfl) ?_
  unfold wpTree
  try (simp only [canOps, List.getElem?_cons_zero, List.getElem?_cons_succ, List.drop_succ_cons, List.drop_zero])
  refine wpCan_all rfl (fun _ _ _ _ h => h) (fun w' => run_op_build rfl (by simp [Act.eval, Act.put]) (built_fe1 1)) ?_
  (try simp only [Act.put, List.setIfInBounds_toArray, List.set_cons_zero, List.set_cons_succ])
  refine wpCan_all rfl (fun _ _ _ _ h => h) (fun w' => run_op_build rfl (by simp [Act.eval, Act.put]) (built_point1 (oneF 1))) ?_
  (try simp only [Act.put, List.setIfInBounds_toArray, List.set_cons_zero, List.set_cons_succ])
  refine wpCan_load_arr rfl rfl rfl (fun _ _ _ _ h => h) RTFe (lt_of_block (w := wq) hfi) hfi ?_
  (try simp only [Act.put, List.setIfInBounds_toArray, List.set_cons_zero, List.set_cons_succ])
  refine wpCan_all rfl (fun _ _ _ _ h => h) (fun w' => run_op_build rfl (by simp [Act.eval, Act.put]) (built_fe1 1)) ?_
  (try simp only [Act.put, List.setIfInBounds_toArray, List.set_cons_zero, List.set_cons_succ])
  refine wpCan_all rfl (fun _ _ _ _ h => h) (fun w' => run_op_build rfl (by simp [Act.eval, Act.put]) (built_point (ofN u) (oneF 1))) ?_
  (try simp only [Act.put, List.setIfInBounds_toArray, List.set_cons_zero, List.set_cons_succ])
  refine wpCan_nil ⟨?_, ?_⟩
  ·
    try (simp only [canOps, List.getElem?_cons_zero, List.getElem?_cons_succ, List.drop_succ_cons, List.drop_zero])
    refine wpCan_alloc_arr rfl rfl ZTPoint (Nat.le_refl _) ?_
    (try simp only [Act.put, List.setIfInBounds_toArray, List.set_cons_zero, List.set_cons_succ])
    refine wpCan_nil ?_
    unfold wpTree
    try (simp only [canOps, List.getElem?_cons_zero, List.getElem?_cons_succ, List.drop_succ_cons, List.drop_zero])
    obtain ⟨hlo, hz1, b1⟩ := alloc1 wq.drew (.cells (arr .u64 10 fun _ => 0) 41)
    replace h0 := keep_below b1 (lt_of_block (w := wq) h0) h0
    replace h2 := keep_below b1 (lt_of_block (w := wq) h2) h2
    replace hr := keep_below b1 (lt_of_block (w := wq) hr) hr
    replace hrv := keep_below b1 (lt_of_block (w := wq) hrv) hrv
    replace hfi := keep_below b1 (lt_of_block (w := wq) hfi) hfi
    replace hb := hb.drew.trans (b1.mono hb.size)
    have bLO : wq.drew.heap.size ≤ wq.drew.heap.size := Nat.le_refl _
    obtain ⟨N0, hN0⟩ : ∃ B, B = wq.drew.heap.size := ⟨_, rfl⟩
    obtain ⟨LO, hLO⟩ : ∃ B, B = wq.drew.heap.size := ⟨_, rfl⟩
    have e0 : N0 = LO := hN0.trans hLO.symm
    have eP : wq.drew.heap.size + 1 = (wq.drew.alloc (.cells (arr .u64 10 fun _ => 0) 41)).heap.size := hz1.symm
    generalize wq.drew.alloc (.cells (arr .u64 10 fun _ => 0) 41) = w1 at *
    rw [← hLO] at hlo ⊢
    rw [← hLO] at lw b1 bLO eP
    clear hN0 hLO hz1 b1 bLO
    have l_h0 := lt_of_block h0
    have l_h2 := lt_of_block h2
    have l_hr := lt_of_block hr
    have l_hrv := lt_of_block hrv
    have l_hfi := lt_of_block hfi
    refine wpCan_alloc_arr rfl rfl ZTPoint (by omega) ?_
    (try simp only [Act.put, List.setIfInBounds_toArray, List.set_cons_zero, List.set_cons_succ])
    obtain ⟨hhi, hz1, b1⟩ := alloc1 w1 (.cells (arr .u64 10 fun _ => 0) 41)
    replace h0 := keep_below b1 (lt_of_block h0) h0
    replace h2 := keep_below b1 (lt_of_block h2) h2
    replace hr := keep_below b1 (lt_of_block hr) hr
    replace hrv := keep_below b1 (lt_of_block hrv) hrv
    replace hfi := keep_below b1 (lt_of_block hfi) hfi
    replace hlo := keep_below b1 (lt_of_block hlo) hlo
    replace hb := hb.trans (b1.mono hb.size)
    obtain ⟨HI, hHI⟩ : ∃ B, B = w1.heap.size := ⟨_, rfl⟩
    generalize w1.alloc (.cells (arr .u64 10 fun _ => 0) 41) = w2 at *
    rw [← hHI] at eP hhi b1 ⊢
    clear hz1 b1 hHI
    have nLH : LO ≠ HI := by omega
    have bLO : w.heap.size ≤ LO := by omega
    have bHI : w.heap.size ≤ HI := by omega
    refine wpCan_store_arr rfl rfl rfl rfl RTPoint (by omega) hlo ?_
    (try simp only [Act.put, List.setIfInBounds_toArray, List.set_cons_zero, List.set_cons_succ])
    refine wpCan_nil ?_
    replace h0 := row_keep (g := LO) (c' := (arr .u64 10 fun i => ((two5 (oneF 1) (oneF 0) i : Nat) : Int))) h0 (ne_of_type h0 hlo (by decide))
    replace h2 := row_keep (g := LO) (c' := (arr .u64 10 fun i => ((two5 (oneF 1) (oneF 0) i : Nat) : Int))) h2 (ne_of_type h2 hlo (by decide))
    replace hr := row_keep (g := LO) (c' := (arr .u64 10 fun i => ((two5 (oneF 1) (oneF 0) i : Nat) : Int))) hr (ne_of_type hr hlo (by decide))
    replace hrv := row_keep (g := LO) (c' := (arr .u64 10 fun i => ((two5 (oneF 1) (oneF 0) i : Nat) : Int))) hrv (ne_of_type hrv hlo (by decide))
    replace hfi := row_keep (g := LO) (c' := (arr .u64 10 fun i => ((two5 (oneF 1) (oneF 0) i : Nat) : Int))) hfi (ne_of_type hfi hlo (by decide))
    replace hhi := row_keep (g := LO) (c' := (arr .u64 10 fun i => ((two5 (oneF 1) (oneF 0) i : Nat) : Int))) hhi (Ne.symm nLH)
    replace hlo := row_self (c' := (arr .u64 10 fun i => ((two5 (oneF 1) (oneF 0) i : Nat) : Int))) hlo
    replace hb := row_below hb bLO (arr .u64 10 fun i => ((two5 (oneF 1) (oneF 0) i : Nat) : Int))
    generalize w2.setRow LO (arr .u64 10 fun i => ((two5 (oneF 1) (oneF 0) i : Nat) : Int)) = w3 at *
    go_upto_region 5 with (refine wpList_store_arr rfl rfl rfl rfl RTPoint hhi ?_)
    replace h0 := row_keep (g := HI) (c' := (arr .u64 10 fun i => ((two5 (ofN u) (oneF 1) i : Nat) : Int))) h0 (ne_of_type h0 hhi (by decide))
    replace h2 := row_keep (g := HI) (c' := (arr .u64 10 fun i => ((two5 (ofN u) (oneF 1) i : Nat) : Int))) h2 (ne_of_type h2 hhi (by decide))
    replace hr := row_keep (g := HI) (c' := (arr .u64 10 fun i => ((two5 (ofN u) (oneF 1) i : Nat) : Int))) hr (ne_of_type hr hhi (by decide))
    replace hrv := row_keep (g := HI) (c' := (arr .u64 10 fun i => ((two5 (ofN u) (oneF 1) i : Nat) : Int))) hrv (ne_of_type hrv hhi (by decide))
    replace hfi := row_keep (g := HI) (c' := (arr .u64 10 fun i => ((two5 (ofN u) (oneF 1) i : Nat) : Int))) hfi (ne_of_type hfi hhi (by decide))
    replace hlo := row_keep (g := HI) (c' := (arr .u64 10 fun i => ((two5 (ofN u) (oneF 1) i : Nat) : Int))) hlo nLH
    replace hhi := row_self (c' := (arr .u64 10 fun i => ((two5 (ofN u) (oneF 1) i : Nat) : Int))) hhi
    replace hb := row_below hb bHI (arr .u64 10 fun i => ((two5 (ofN u) (oneF 1) i : Nat) : Int))
    generalize w3.setRow HI (arr .u64 10 fun i => ((two5 (ofN u) (oneF 1) i : Nat) : Int)) = wn at *
    clear l_h0 l_h2 l_hr l_hrv l_hfi e0 eP lw
    (try simp only [Act.put, List.setIfInBounds_toArray, List.set_cons_zero, List.set_cons_succ])
    have lf : LadF k u wn w.heap.size RV R LO HI FI 0 := ⟨_, _, ⟨_, _, rfl, one_fits (x := 1) (by omega), one_fits (x := 0) (by omega)⟩, ⟨_, _, rfl, fits_of u HU.out, one_fits (x := 1) (by omega)⟩, h0, h2, ⟨hrv, hr, hlo, hhi, hfi⟩⟩
    clear h0 h2 hrv hr hlo hhi hfi
    have NLH := Lib.hid nLH
    have l2 : 0 < 1 := by omega
    clear nLH l2
    go_wp2
    go_loopg [10, 28] 255 (fun n was i wr => ∃ m : Nat, m + n = 255 ∧ i = .int .i64 m ∧ was = .int .u64 ((wasN (clampN k) m : Nat) : Int) ∧ LadF k u wr w.heap.size RV R LO HI FI m ∧ Below w.heap.size w wr)
    case atStart => exact ⟨0, rfl, rfl, rfl, lf, hb⟩
    case round =>
      clear lf hb
      obtain ⟨m, hm, rfl, rfl, lf, hb⟩ := hrel
      have hm' := Lib.hid hm
      clear hm
      by_cases hlt : m < 255
      · obtain ⟨L, H, fL, fH, h0, h2, lad⟩ := lf
        have FL := Lib.hid fL
        have FH := Lib.hid fH
        have LA := Lib.hid lad
        clear fL fH lad
        obtain ⟨at_, hat⟩ : ∃ a : Nat, a = 254 - m := ⟨_, rfl⟩
        obtain ⟨q, hq⟩ : ∃ a : Nat, a = at_ / 8 := ⟨_, rfl⟩
        obtain ⟨r, hr⟩ : ∃ a : Nat, a = at_ % 8 := ⟨_, rfl⟩
        have a1 : (254 : Int) - (m : Int) = (at_ : Int) := by omega
        have a2 : (at_ : Int) / 8 = (q : Int) := by omega
        have a3 : bits .and .i64 (at_ : Int) 7 = (r : Int) := by rw [i64_and7]; omega
        have ql : q < 32 := by omega
        have rl : r < 8 := by omega
        obtain ⟨x, hx⟩ : ∃ x, clampN k q = x := ⟨_, rfl⟩
        have xl : x < 256 := hx ▸ hK.out q ql
        have c0 : wr.cell? ⟨w.heap.size, q, none⟩ = some (.int .u8 (x : Int)) := by rw [cell_arr h0 q ql, hx]
        have eb : bitN (clampN k) m = x / 2 ^ r % 2 := by unfold bitN; rw [← hat, ← hq, ← hr, hx]
        have EB := Lib.hid eb
        have AT := Lib.hid hat
        have AQ := Lib.hid hq
        have AR := Lib.hid hr
        have HX := Lib.hid hx
        clear eb hat hq hr hx
        go_upto_region 12 with (fail)
        rw [bitval x r xl, ← EB.out]
        have hwas := wasN_lt (clampN k) m
        have hbit := bitN_lt (clampN k) m
        obtain ⟨c, hc⟩ : ∃ c : Nat, c = if wasN (clampN k) m = bitN (clampN k) m then 0 else 1 := ⟨_, rfl⟩
        have hx0 := xor01 _ _ hwas hbit
        rw [← hc] at hx0
        have c01 : c = 0 ∨ c = 1 := by rw [hc]; split <;> omega
        have ts := turn_sel hwas hbit hc FL.out FH.out
        have TS := Lib.hid ts
        clear ts hc a1 a2 a3 ql rl xl c0 hwas hbit
        go_wp2_with (go_at_call 22; fail)
        refine (swap_any c c01 LO HI NLH.out L H FL.out.lt FH.out.lt _ LA.out.lo LA.out.hi).mono ?_
        rintro e w5 ⟨rfl, bar, hlo, hhi⟩
        obtain ⟨⟨X, Z, eX, fX, fZ⟩, X', Z', eX', fX', fZ'⟩ := TS.out
        rw [eX] at hlo
        rw [eX'] at hhi
        have h0' := bar.keep h0 (ne_of_type h0 LA.out.lo (by decide)) (ne_of_type h0 LA.out.hi (by decide))
        have h2' := bar.keep h2 (ne_of_type h2 LA.out.lo (by decide)) (ne_of_type h2 LA.out.hi (by decide))
        have lad : Lad w5 RV R LO HI FI (two5 X Z) (two5 X' Z') (ofN u) := ⟨bar.keep LA.out.rv (ne_of_type LA.out.rv LA.out.lo (by decide)) (ne_of_type LA.out.rv LA.out.hi (by decide)), bar.keep LA.out.r (ne_of_type LA.out.r LA.out.lo (by decide)) (ne_of_type LA.out.r LA.out.hi (by decide)), hlo, hhi, bar.keep LA.out.fi (ne_of_type LA.out.fi LA.out.lo (by decide)) (ne_of_type LA.out.fi LA.out.hi (by decide))⟩
        replace hb := bar.below hb bLO bHI hb.size
        have FX := Lib.hid fX
        have FZ := Lib.hid fZ
        have FX' := Lib.hid fX'
        have FZ' := Lib.hid fZ'
        clear bar hlo hhi h0 h2 hx0 eX eX' fX fZ fX' fZ'
        go_wp2_with (go_at_call 17; fail)
        refine (step_any RV R LO HI FI X Z X' Z' (ofN u) FX.out.1 FZ.out.1 FX'.out.1 FZ'.out.1 (ofN_ok u) NLH.out _ lad).mono ?_
        rintro e w6 ⟨rfl, bar, lad2⟩
        replace h0' := bar.keep h0' (ne_of_type h0' lad.lo (by decide)) (ne_of_type h0' lad.hi (by decide))
        replace h2' := bar.keep h2' (ne_of_type h2' lad.lo (by decide)) (ne_of_type h2' lad.hi (by decide))
        replace hb := bar.below hb bLO bHI hb.size
        have LL := Lib.hid lad2
        clear bar lad lad2
        go_wp2
        go_roundg (gk - 1)
        case measure => have := hm'.out; omega
        case rel =>
          have hm'' := hm'.out
          have ok1 := turn_ok (bitN (clampN k) m) (lad_ok (keyU u) (Nat.mod_lt _ zero_lt_p) (clampN k) m)
          refine ⟨m + 1, by omega, by go_num, rfl, ⟨_, _, ?_, ?_, h0', h2', LL.out⟩, hb⟩
          · show FitP _ (turnP (bitN (clampN k) m) (ladP (keyU u) (clampN k) (m + 1))).1
            rw [turn_step]
            exact ⟨_, _, rfl, fits_LX FX.out FZ.out ok1.1, fits_LZ FX.out FZ.out ok1.1⟩
          · show FitP _ (turnP (bitN (clampN k) m) (ladP (keyU u) (clampN k) (m + 1))).2
            rw [turn_step]
            exact ⟨_, _, rfl, fits_HX FX.out FZ.out FX'.out FZ'.out ok1.1 ok1.2, fits_HZ FX.out FZ.out FX'.out FZ'.out ok1.1 ok1.2 (fits_of u HU.out)⟩
      · obtain rfl : m = 255 := by have := hm'.out; omega
        obtain ⟨L, H, fL, fH, h0, h2, lad⟩ := lf
        have FL := Lib.hid fL
        have FH := Lib.hid fH
        have LA := Lib.hid lad
        have hwas := wasN_lt (clampN k) 255
        have ts := turn_sel (b := 0) (c := wasN (clampN k) 255) hwas (.inl rfl) (by rcases hwas with h | h <;> rw [h] <;> rfl) fL fH
        have TS := Lib.hid ts
        obtain ⟨c, hc⟩ : ∃ c : Nat, c = wasN (clampN k) 255 := ⟨_, rfl⟩
        rw [← hc] at hwas TS ⊢
        clear fL fH lad ts hc
        go_wp2_with (go_at_call 22; fail)
        refine (swap_any c hwas LO HI NLH.out L H FL.out.lt FH.out.lt _ LA.out.lo LA.out.hi).mono ?_
        rintro e w5 ⟨rfl, bar, hlo, hhi⟩
        obtain ⟨⟨X, Z, eX, fX, fZ⟩, X', Z', eX', fX', fZ'⟩ := TS.out
        rw [eX] at hlo
        replace fX : Fits X (ladP (keyU u) (clampN k) 255).1.x := fX
        replace fZ : Fits Z (ladP (keyU u) (clampN k) 255).1.z := fZ
        have h2' := bar.keep h2 (ne_of_type h2 LA.out.lo (by decide)) (ne_of_type h2 LA.out.hi (by decide))
        have hrv := bar.keep LA.out.rv (ne_of_type LA.out.rv LA.out.lo (by decide)) (ne_of_type LA.out.rv LA.out.hi (by decide))
        have hr := bar.keep LA.out.r (ne_of_type LA.out.r LA.out.lo (by decide)) (ne_of_type LA.out.r LA.out.hi (by decide))
        replace hb := bar.below hb bLO bHI hb.size
        have FX := Lib.hid fX
        have FZ := Lib.hid fZ
        have OK := Lib.hid (show okF (prodN X (invN Z)) 5 from prod_ok _ _ fX.1 (ok_inv fZ.1))
        have VV := Lib.hid (show valN (prodN X (invN Z)) 5 % pN = multV k (keyU u) from by
          have h := (fits_M fX (inv_fits fZ)).2
          rw [h]
          unfold multV fM
          rw [Nat.mod_mod])
        clear bar hhi h0 h2 eX eX' fX fZ fX' fZ' hwas
        go_upto_region 17 with (fail)
        (try simp only [Act.put, List.setIfInBounds_toArray, List.set_cons_zero, List.set_cons_succ])
        have HSZ : w.heap.size ≤ w5.heap.size := hb.size
        have L2 : w.heap.size + 1 + 1 < w5.heap.size := lt_of_block h2'
        obtain ⟨wq, rfl⟩ : ∃ x, x = w5 := ⟨_, rfl⟩
        refine wp_region_free3 17 [.val (Is (.pointer (some ⟨R, 0, none⟩))), .val (Is (.pointer (some ⟨LO, 0, none⟩))), .val (Is (.agg (arr .u64 5 fun i => ((X i : Nat) : Int)))), .val (Is (.pointer (some ⟨R, 0, none⟩))), .val (Is (.pointer (some ⟨LO, 5, none⟩))), .val (Is (.agg (arr .u64 5 fun i => ((Z i : Nat) : Int)))), .val (Is (.tuple #[.agg (arr .u64 5 fun i => (((invN Z) i : Nat) : Int)), .int .i64 0])), .val (Is (.agg (arr .u64 5 fun i => (((invN Z) i : Nat) : Int)))), .val (Is (.int .i64 0)), .val (Is (.agg (arr .u64 5 fun i => (((invN Z) i : Nat) : Int)))), .val (Is (.agg (arr .u64 5 fun i => (((prodN X (invN Z)) i : Nat) : Int)))), .val (Is (.tuple #[.agg (arr .u8 32 fun k => ((bytesN (prodN X (invN Z)) k : Nat) : Int)), .int .i64 0])), .val (Is (.tuple #[.agg (arr .u8 32 fun k => ((bytesN (prodN X (invN Z)) k : Nat) : Int)), .int .i64 0])), .val (Is (.agg (arr .u8 32 fun k => ((bytesN (prodN X (invN Z)) k : Nat) : Int)))), .val (Is (.int .i64 0)), .new 23 .u8 32, .put 15 (fun k => ((bytesN (prodN X (invN Z)) k : Nat) : Int))] [[], [], [1], [], [], [4], [5], [6], [6], [3, 7, 8], [0, 2, 9], [10], [11], [12], [12], [], [13, 15]] [] (by kernel_rfl) (by kernel_rfl) (by kernel_rfl) rfl (stn_cons (stn_is _ _) (stn_cons (stn_is _ _) (stn_cons (stn_is _ _) (stn_cons (stn_is _ _) (stn_cons (stn_is _ _) (stn_cons (stn_is _ _) (stn_cons (stn_is _ _) (stn_cons (stn_is _ _) (stn_cons (stn_is _ _) (stn_cons (stn_is _ _) (stn_cons (stn_is _ _) (stn_cons (stn_is _ _) (stn_cons (stn_is _ _) (stn_cons (stn_is _ _) (stn_cons (stn_is _ _) (stn_cons (stn_new _ _ _ _) (stn_cons (stn_put _ _ _) (stn_nil _)))))))))))))))))) ?_ ?_
        · (simp only [List.take_succ_cons, List.take_zero, List.drop_succ_cons, List.drop_zero, List.zip_cons_cons, List.zip_nil_left, List.zip_nil_right, freeOps3, freeOp3, allV, under, underD, underN, apartAt, factAt, HK.fact, List.map_cons, List.map_nil, fillA, List.getElem?_cons_zero, List.getElem?_cons_succ, List.range_succ, List.range_zero, List.nil_append, List.cons_append, Act.put, List.setIfInBounds_toArray, List.set_cons_zero, List.set_cons_succ])
          refine ⟨?_, ?_, ?_, ?_, ?_, ?_, ?_, ?_, ?_, ?_, ?_, ?_, ?_, ?_, ?_, ?_, ?_, trivial⟩
          · intro x0 x1 x2 x3 x4 x5 x6 x7 x8 x9 x10 x11 x12 x13 x14 x15 x16 w' hb' 
            have cr := cell_of_row _ _ 0 _ _ _ (keep_below hb' (lt_of_block (w := wq) hrv) hrv)
            refine free_e rfl (fun K hK => ?_)
            go_simp
            exact hK _ _ (Below.refl _ _) rfl
          · intro x0 x1 x2 x3 x4 x5 x6 x7 x8 x9 x10 x11 x12 x13 x14 x15 x16 w' hb' 
            refine free_e rfl (fun K hK => ?_)
            go_simp
            exact hK _ _ (Below.refl _ _) rfl
          · intro x0 x1 x2 x3 x4 x5 x6 x7 x8 x9 x10 x11 x12 x13 x14 x15 x16 w' hb' e0
            unfold Is at e0
            subst e0
            exact free_load_as (fun i => ((X i : Nat) : Int)) rfl rfl rfl RTFe (keep_below hb' (lt_of_block (w := wq) hlo) hlo) (by omega) (fun i hi => two_lo _ _ i hi) rfl
          · intro x0 x1 x2 x3 x4 x5 x6 x7 x8 x9 x10 x11 x12 x13 x14 x15 x16 w' hb' 
            have cr := cell_of_row _ _ 0 _ _ _ (keep_below hb' (lt_of_block (w := wq) hrv) hrv)
            refine free_e rfl (fun K hK => ?_)
            go_simp
            exact hK _ _ (Below.refl _ _) rfl
          · intro x0 x1 x2 x3 x4 x5 x6 x7 x8 x9 x10 x11 x12 x13 x14 x15 x16 w' hb' 
            refine free_e rfl (fun K hK => ?_)
            go_simp
            exact hK _ _ (Below.refl _ _) rfl
          · intro x0 x1 x2 x3 x4 x5 x6 x7 x8 x9 x10 x11 x12 x13 x14 x15 x16 w' hb' e0
            unfold Is at e0
            subst e0
            exact free_load_as (fun i => ((Z i : Nat) : Int)) rfl rfl rfl RTFe (keep_below hb' (lt_of_block (w := wq) hlo) hlo) (by omega) (fun i hi => two_hi _ _ i hi) rfl
          · intro x0 x1 x2 x3 x4 x5 x6 x7 x8 x9 x10 x11 x12 x13 x14 x15 x16 w' hb' e0
            unfold Is at e0
            subst e0
            refine free_e rfl (fun K hK => ?_)
            go_simp
            refine (Invert_yes Z FZ.out.1 _).mono ?_
            rintro e w4 ⟨rfl, b4⟩
            exact hK _ _ b4 rfl
          · intro x0 x1 x2 x3 x4 x5 x6 x7 x8 x9 x10 x11 x12 x13 x14 x15 x16 w' hb' e0
            unfold Is at e0
            subst e0
            refine free_e rfl (fun K hK => ?_)
            go_simp
            exact hK _ _ (Below.refl _ _) rfl
          · intro x0 x1 x2 x3 x4 x5 x6 x7 x8 x9 x10 x11 x12 x13 x14 x15 x16 w' hb' e0
            unfold Is at e0
            subst e0
            refine free_e rfl (fun K hK => ?_)
            go_simp
            exact hK _ _ (Below.refl _ _) rfl
          · intro x0 x1 x2 x3 x4 x5 x6 x7 x8 x9 x10 x11 x12 x13 x14 x15 x16 w' hb' e0 e1 e2
            unfold Is at e0 e1 e2
            subst e0 e1 e2
            refine free_e rfl (fun K hK => ?_)
            go_simp
            refine (keep_yes R (invN Z) _ (keep_below hb' (lt_of_block (w := wq) hr) hr)).mono ?_
            rintro e w4 ⟨rfl, b4⟩
            exact hK _ _ b4 rfl
          · intro x0 x1 x2 x3 x4 x5 x6 x7 x8 x9 x10 x11 x12 x13 x14 x15 x16 w' hb' e0 e1 e2
            unfold Is at e0 e1 e2
            subst e0 e1 e2
            refine free_e rfl (fun K hK => ?_)
            go_simp
            refine (rmul_yes R X (invN Z) FX.out.1 (ok_inv FZ.out.1) _ (keep_below hb' (lt_of_block (w := wq) hr) hr)).mono ?_
            rintro e w4 ⟨rfl, b4⟩
            exact hK _ _ b4 rfl
          · intro x0 x1 x2 x3 x4 x5 x6 x7 x8 x9 x10 x11 x12 x13 x14 x15 x16 w' hb' e0
            unfold Is at e0
            subst e0
            refine free_e rfl (fun K hK => ?_)
            go_simp
            refine (Bytes_yes (prodN X (invN Z)) OK.out _).mono ?_
            rintro e w4 ⟨rfl, b4⟩
            exact hK _ _ b4 rfl
          · intro x0 x1 x2 x3 x4 x5 x6 x7 x8 x9 x10 x11 x12 x13 x14 x15 x16 w' hb' e0
            unfold Is at e0
            subst e0
            refine free_e rfl (fun K hK => ?_)
            go_simp
            exact hK _ _ (Below.refl _ _) rfl
          · intro x0 x1 x2 x3 x4 x5 x6 x7 x8 x9 x10 x11 x12 x13 x14 x15 x16 w' hb' e0
            unfold Is at e0
            subst e0
            refine free_e rfl (fun K hK => ?_)
            go_simp
            exact hK _ _ (Below.refl _ _) rfl
          · intro x0 x1 x2 x3 x4 x5 x6 x7 x8 x9 x10 x11 x12 x13 x14 x15 x16 w' hb' e0
            unfold Is at e0
            subst e0
            refine free_e rfl (fun K hK => ?_)
            go_simp
            exact hK _ _ (Below.refl _ _) rfl
          · intro x0 x1 x2 x3 x4 x5 x6 x7 x8 x9 x10 x11 x12 x13 x14 x15 x16 w' hb' 
            exact ⟨by first | rfl | trivial, by first | trivial | rfl, ZTKey⟩
          · intro x0 x1 x2 x3 x4 x5 x6 x7 x8 x9 x10 x11 x12 x13 x14 x15 x16 w' hb' e0 e1
            unfold Is at e0
            subst e0
            exact ⟨by first | trivial | rfl, _, _, _, _, _, rfl, rfl, by decide, RTKey, fun v hv => Option.some.inj hv, rfl⟩
        · (simp only [List.take_succ_cons, List.take_zero, List.drop_succ_cons, List.drop_zero, List.zip_cons_cons, List.zip_nil_left, List.zip_nil_right, freeOps3, freeOp3, allV, under, underD, underN, apartAt, factAt, HK.fact, List.map_cons, List.map_nil, fillA, List.getElem?_cons_zero, List.getElem?_cons_succ, List.range_succ, List.range_zero, List.nil_append, List.cons_append, Act.put, List.setIfInBounds_toArray, List.set_cons_zero, List.set_cons_succ])
          rintro x0 x1 x2 x3 x4 x5 x6 x7 x8 x9 x10 x11 x12 x13 x14 x15 x16 w5 hb' e0 e1 e2 e3 e4 e5 e6 e7 e8 e9 e10 e11 e12 e13 e14 e15 e16 N15 
          unfold Is at e0 e1 e2 e3 e4 e5 e6 e7 e8 e9 e10 e11 e12 e13 e14
          subst e0 e1 e2 e3 e4 e5 e6 e7 e8 e9 e10 e11 e12 e13 e14
          obtain ⟨BO, rfl, lBO, ho⟩ := N15
          replace ho : w5.heap[BO]? = some (.cells (arr .u8 32 (fun k => ((bytesN (prodN X (invN Z)) k : Nat) : Int))) 23 (0, 0)) := ho
          replace lBO : wq.heap.size ≤ BO := lBO
          replace h2' := keep_below hb' (lt_of_block (w := wq) h2') h2'
          replace hr := keep_below hb' (lt_of_block (w := wq) hr) hr
          replace hrv := keep_below hb' (lt_of_block (w := wq) hrv) hrv
          replace hlo := keep_below hb' (lt_of_block (w := wq) hlo) hlo
          replace hb := (hb.drew).trans (hb'.mono hb.size)
          obtain ⟨w6, rfl⟩ : ∃ x, x = w5 := ⟨_, rfl⟩
          go_upto_region 18 with (fail)
          (try simp only [Act.put, List.setIfInBounds_toArray, List.set_cons_zero, List.set_cons_succ])
          have c_rv : w6.cell? ⟨RV, 0, none⟩ = some (.pointer (some ⟨R, 0, none⟩)) := cell_of_row _ _ 0 _ _ _ hrv
          go_wp2_with (first | (refine wpList_val' rfl (run_op_build rfl (by simp [Act.eval, Act.put]) built_fe0) ?_) | (go_at_call 23; fail))
          refine (keep_yes R (oneF 0) _ hr).mono ?_
          rintro e w7 ⟨rfl, b7⟩
          replace h2' := keep_below b7 (lt_of_block h2') h2'
          replace hr := keep_below b7 (lt_of_block hr) hr
          replace hrv := keep_below b7 (lt_of_block hrv) hrv
          replace ho := keep_below b7 (lt_of_block ho) ho
          replace hb := hb.trans (b7.mono hb.size)
          clear b7 c_rv
          have c_rv : w7.cell? ⟨RV, 0, none⟩ = some (.pointer (some ⟨R, 0, none⟩)) := cell_of_row _ _ 0 _ _ _ hrv
          have c_r := cell_arr hr 0 (by omega)
          go_wp2_with (first | (refine wpList_load_arr rfl rfl rfl RTKey ho ?_) | (refine wpList_store_arr rfl rfl rfl rfl RTKey h2' ?_))
          refine bodyPost_ret (results_arr rfl rfl RTKey (row_self h2')) rfl ⟨?_, row_below hb (by omega) _⟩
          rw [arr_ext (fun i _ => stands_same OK.out VV.out i)]
  ·
    try (simp only [canOps, List.getElem?_cons_zero, List.getElem?_cons_succ, List.drop_succ_cons, List.drop_zero])
    refine wpCan_alloc_arr rfl rfl ZTPoint (Nat.le_refl _) ?_
    (try simp only [Act.put, List.setIfInBounds_toArray, List.set_cons_zero, List.set_cons_succ])
    refine wpCan_nil ?_
    unfold wpTree
    try (simp only [canOps, List.getElem?_cons_zero, List.getElem?_cons_succ, List.drop_succ_cons, List.drop_zero])
    obtain ⟨hhi, hz1, b1⟩ := alloc1 wq.drew (.cells (arr .u64 10 fun _ => 0) 41)
    replace h0 := keep_below b1 (lt_of_block (w := wq) h0) h0
    replace h2 := keep_below b1 (lt_of_block (w := wq) h2) h2
    replace hr := keep_below b1 (lt_of_block (w := wq) hr) hr
    replace hrv := keep_below b1 (lt_of_block (w := wq) hrv) hrv
    replace hfi := keep_below b1 (lt_of_block (w := wq) hfi) hfi
    replace hb := hb.drew.trans (b1.mono hb.size)
    have bHI : wq.drew.heap.size ≤ wq.drew.heap.size := Nat.le_refl _
    obtain ⟨N0, hN0⟩ : ∃ B, B = wq.drew.heap.size := ⟨_, rfl⟩
    obtain ⟨HI, hHI⟩ : ∃ B, B = wq.drew.heap.size := ⟨_, rfl⟩
    have e0 : N0 = HI := hN0.trans hHI.symm
    have eP : wq.drew.heap.size + 1 = (wq.drew.alloc (.cells (arr .u64 10 fun _ => 0) 41)).heap.size := hz1.symm
    generalize wq.drew.alloc (.cells (arr .u64 10 fun _ => 0) 41) = w1 at *
    rw [← hHI] at hhi ⊢
    rw [← hHI] at lw b1 bHI eP
    clear hN0 hHI hz1 b1 bHI
    have l_h0 := lt_of_block h0
    have l_h2 := lt_of_block h2
    have l_hr := lt_of_block hr
    have l_hrv := lt_of_block hrv
    have l_hfi := lt_of_block hfi
    refine wpCan_alloc_arr rfl rfl ZTPoint (by omega) ?_
    (try simp only [Act.put, List.setIfInBounds_toArray, List.set_cons_zero, List.set_cons_succ])
    obtain ⟨hlo, hz1, b1⟩ := alloc1 w1 (.cells (arr .u64 10 fun _ => 0) 41)
    replace h0 := keep_below b1 (lt_of_block h0) h0
    replace h2 := keep_below b1 (lt_of_block h2) h2
    replace hr := keep_below b1 (lt_of_block hr) hr
    replace hrv := keep_below b1 (lt_of_block hrv) hrv
    replace hfi := keep_below b1 (lt_of_block hfi) hfi
    replace hhi := keep_below b1 (lt_of_block hhi) hhi
    replace hb := hb.trans (b1.mono hb.size)
    obtain ⟨LO, hLO⟩ : ∃ B, B = w1.heap.size := ⟨_, rfl⟩
    generalize w1.alloc (.cells (arr .u64 10 fun _ => 0) 41) = w2 at *
    rw [← hLO] at eP hlo b1 ⊢
    clear hz1 b1 hLO
    have nLH : LO ≠ HI := by omega
    have bLO : w.heap.size ≤ LO := by omega
    have bHI : w.heap.size ≤ HI := by omega
    refine wpCan_store_arr rfl rfl rfl rfl RTPoint (by omega) hlo ?_
    (try simp only [Act.put, List.setIfInBounds_toArray, List.set_cons_zero, List.set_cons_succ])
    refine wpCan_nil ?_
    replace h0 := row_keep (g := LO) (c' := (arr .u64 10 fun i => ((two5 (oneF 1) (oneF 0) i : Nat) : Int))) h0 (ne_of_type h0 hlo (by decide))
    replace h2 := row_keep (g := LO) (c' := (arr .u64 10 fun i => ((two5 (oneF 1) (oneF 0) i : Nat) : Int))) h2 (ne_of_type h2 hlo (by decide))
    replace hr := row_keep (g := LO) (c' := (arr .u64 10 fun i => ((two5 (oneF 1) (oneF 0) i : Nat) : Int))) hr (ne_of_type hr hlo (by decide))
    replace hrv := row_keep (g := LO) (c' := (arr .u64 10 fun i => ((two5 (oneF 1) (oneF 0) i : Nat) : Int))) hrv (ne_of_type hrv hlo (by decide))
    replace hfi := row_keep (g := LO) (c' := (arr .u64 10 fun i => ((two5 (oneF 1) (oneF 0) i : Nat) : Int))) hfi (ne_of_type hfi hlo (by decide))
    replace hhi := row_keep (g := LO) (c' := (arr .u64 10 fun i => ((two5 (oneF 1) (oneF 0) i : Nat) : Int))) hhi (Ne.symm nLH)
    replace hlo := row_self (c' := (arr .u64 10 fun i => ((two5 (oneF 1) (oneF 0) i : Nat) : Int))) hlo
    replace hb := row_below hb bLO (arr .u64 10 fun i => ((two5 (oneF 1) (oneF 0) i : Nat) : Int))
    generalize w2.setRow LO (arr .u64 10 fun i => ((two5 (oneF 1) (oneF 0) i : Nat) : Int)) = w3 at *
    go_upto_region 5 with (refine wpList_store_arr rfl rfl rfl rfl RTPoint hhi ?_)
    replace h0 := row_keep (g := HI) (c' := (arr .u64 10 fun i => ((two5 (ofN u) (oneF 1) i : Nat) : Int))) h0 (ne_of_type h0 hhi (by decide))
    replace h2 := row_keep (g := HI) (c' := (arr .u64 10 fun i => ((two5 (ofN u) (oneF 1) i : Nat) : Int))) h2 (ne_of_type h2 hhi (by decide))
    replace hr := row_keep (g := HI) (c' := (arr .u64 10 fun i => ((two5 (ofN u) (oneF 1) i : Nat) : Int))) hr (ne_of_type hr hhi (by decide))
    replace hrv := row_keep (g := HI) (c' := (arr .u64 10 fun i => ((two5 (ofN u) (oneF 1) i : Nat) : Int))) hrv (ne_of_type hrv hhi (by decide))
    replace hfi := row_keep (g := HI) (c' := (arr .u64 10 fun i => ((two5 (ofN u) (oneF 1) i : Nat) : Int))) hfi (ne_of_type hfi hhi (by decide))
    replace hlo := row_keep (g := HI) (c' := (arr .u64 10 fun i => ((two5 (ofN u) (oneF 1) i : Nat) : Int))) hlo nLH
    replace hhi := row_self (c' := (arr .u64 10 fun i => ((two5 (ofN u) (oneF 1) i : Nat) : Int))) hhi
    replace hb := row_below hb bHI (arr .u64 10 fun i => ((two5 (ofN u) (oneF 1) i : Nat) : Int))
    generalize w3.setRow HI (arr .u64 10 fun i => ((two5 (ofN u) (oneF 1) i : Nat) : Int)) = wn at *
    clear l_h0 l_h2 l_hr l_hrv l_hfi e0 eP lw
    (try simp only [Act.put, List.setIfInBounds_toArray, List.set_cons_zero, List.set_cons_succ])
    have lf : LadF k u wn w.heap.size RV R LO HI FI 0 := ⟨_, _, ⟨_, _, rfl, one_fits (x := 1) (by omega), one_fits (x := 0) (by omega)⟩, ⟨_, _, rfl, fits_of u HU.out, one_fits (x := 1) (by omega)⟩, h0, h2, ⟨hrv, hr, hlo, hhi, hfi⟩⟩
    clear h0 h2 hrv hr hlo hhi hfi
    have NLH := Lib.hid nLH
    have l2 : 0 < 1 := by omega
    clear nLH l2
    go_wp2
    go_loopg [10, 28] 255 (fun n was i wr => ∃ m : Nat, m + n = 255 ∧ i = .int .i64 m ∧ was = .int .u64 ((wasN (clampN k) m : Nat) : Int) ∧ LadF k u wr w.heap.size RV R LO HI FI m ∧ Below w.heap.size w wr)
    case atStart => exact ⟨0, rfl, rfl, rfl, lf, hb⟩
    case round =>
      clear lf hb
      obtain ⟨m, hm, rfl, rfl, lf, hb⟩ := hrel
      have hm' := Lib.hid hm
      clear hm
      by_cases hlt : m < 255
      · obtain ⟨L, H, fL, fH, h0, h2, lad⟩ := lf
        have FL := Lib.hid fL
        have FH := Lib.hid fH
        have LA := Lib.hid lad
        clear fL fH lad
        obtain ⟨at_, hat⟩ : ∃ a : Nat, a = 254 - m := ⟨_, rfl⟩
        obtain ⟨q, hq⟩ : ∃ a : Nat, a = at_ / 8 := ⟨_, rfl⟩
        obtain ⟨r, hr⟩ : ∃ a : Nat, a = at_ % 8 := ⟨_, rfl⟩
        have a1 : (254 : Int) - (m : Int) = (at_ : Int) := by omega
        have a2 : (at_ : Int) / 8 = (q : Int) := by omega
        have a3 : bits .and .i64 (at_ : Int) 7 = (r : Int) := by rw [i64_and7]; omega
        have ql : q < 32 := by omega
        have rl : r < 8 := by omega
        obtain ⟨x, hx⟩ : ∃ x, clampN k q = x := ⟨_, rfl⟩
        have xl : x < 256 := hx ▸ hK.out q ql
        have c0 : wr.cell? ⟨w.heap.size, q, none⟩ = some (.int .u8 (x : Int)) := by rw [cell_arr h0 q ql, hx]
        have eb : bitN (clampN k) m = x / 2 ^ r % 2 := by unfold bitN; rw [← hat, ← hq, ← hr, hx]
        have EB := Lib.hid eb
        have AT := Lib.hid hat
        have AQ := Lib.hid hq
        have AR := Lib.hid hr
        have HX := Lib.hid hx
        clear eb hat hq hr hx
        go_upto_region 12 with (fail)
        rw [bitval x r xl, ← EB.out]
        have hwas := wasN_lt (clampN k) m
        have hbit := bitN_lt (clampN k) m
        obtain ⟨c, hc⟩ : ∃ c : Nat, c = if wasN (clampN k) m = bitN (clampN k) m then 0 else 1 := ⟨_, rfl⟩
        have hx0 := xor01 _ _ hwas hbit
        rw [← hc] at hx0
        have c01 : c = 0 ∨ c = 1 := by rw [hc]; split <;> omega
        have ts := turn_sel hwas hbit hc FL.out FH.out
        have TS := Lib.hid ts
        clear ts hc a1 a2 a3 ql rl xl c0 hwas hbit
        go_wp2_with (go_at_call 22; fail)
        refine (swap_any c c01 LO HI NLH.out L H FL.out.lt FH.out.lt _ LA.out.lo LA.out.hi).mono ?_
        rintro e w5 ⟨rfl, bar, hlo, hhi⟩
        obtain ⟨⟨X, Z, eX, fX, fZ⟩, X', Z', eX', fX', fZ'⟩ := TS.out
        rw [eX] at hlo
        rw [eX'] at hhi
        have h0' := bar.keep h0 (ne_of_type h0 LA.out.lo (by decide)) (ne_of_type h0 LA.out.hi (by decide))
        have h2' := bar.keep h2 (ne_of_type h2 LA.out.lo (by decide)) (ne_of_type h2 LA.out.hi (by decide))
        have lad : Lad w5 RV R LO HI FI (two5 X Z) (two5 X' Z') (ofN u) := ⟨bar.keep LA.out.rv (ne_of_type LA.out.rv LA.out.lo (by decide)) (ne_of_type LA.out.rv LA.out.hi (by decide)), bar.keep LA.out.r (ne_of_type LA.out.r LA.out.lo (by decide)) (ne_of_type LA.out.r LA.out.hi (by decide)), hlo, hhi, bar.keep LA.out.fi (ne_of_type LA.out.fi LA.out.lo (by decide)) (ne_of_type LA.out.fi LA.out.hi (by decide))⟩
        replace hb := bar.below hb bLO bHI hb.size
        have FX := Lib.hid fX
        have FZ := Lib.hid fZ
        have FX' := Lib.hid fX'
        have FZ' := Lib.hid fZ'
        clear bar hlo hhi h0 h2 hx0 eX eX' fX fZ fX' fZ'
        go_wp2_with (go_at_call 17; fail)
        refine (step_any RV R LO HI FI X Z X' Z' (ofN u) FX.out.1 FZ.out.1 FX'.out.1 FZ'.out.1 (ofN_ok u) NLH.out _ lad).mono ?_
        rintro e w6 ⟨rfl, bar, lad2⟩
        replace h0' := bar.keep h0' (ne_of_type h0' lad.lo (by decide)) (ne_of_type h0' lad.hi (by decide))
        replace h2' := bar.keep h2' (ne_of_type h2' lad.lo (by decide)) (ne_of_type h2' lad.hi (by decide))
        replace hb := bar.below hb bLO bHI hb.size
        have LL := Lib.hid lad2
        clear bar lad lad2
        go_wp2
        go_roundg (gk - 1)
        case measure => have := hm'.out; omega
        case rel =>
          have hm'' := hm'.out
          have ok1 := turn_ok (bitN (clampN k) m) (lad_ok (keyU u) (Nat.mod_lt _ zero_lt_p) (clampN k) m)
          refine ⟨m + 1, by omega, by go_num, rfl, ⟨_, _, ?_, ?_, h0', h2', LL.out⟩, hb⟩
          · show FitP _ (turnP (bitN (clampN k) m) (ladP (keyU u) (clampN k) (m + 1))).1
            rw [turn_step]
            exact ⟨_, _, rfl, fits_LX FX.out FZ.out ok1.1, fits_LZ FX.out FZ.out ok1.1⟩
          · show FitP _ (turnP (bitN (clampN k) m) (ladP (keyU u) (clampN k) (m + 1))).2
            rw [turn_step]
            exact ⟨_, _, rfl, fits_HX FX.out FZ.out FX'.out FZ'.out ok1.1 ok1.2, fits_HZ FX.out FZ.out FX'.out FZ'.out ok1.1 ok1.2 (fits_of u HU.out)⟩
      · obtain rfl : m = 255 := by have := hm'.out; omega
        obtain ⟨L, H, fL, fH, h0, h2, lad⟩ := lf
        have FL := Lib.hid fL
        have FH := Lib.hid fH
        have LA := Lib.hid lad
        have hwas := wasN_lt (clampN k) 255
        have ts := turn_sel (b := 0) (c := wasN (clampN k) 255) hwas (.inl rfl) (by rcases hwas with h | h <;> rw [h] <;> rfl) fL fH
        have TS := Lib.hid ts
        obtain ⟨c, hc⟩ : ∃ c : Nat, c = wasN (clampN k) 255 := ⟨_, rfl⟩
        rw [← hc] at hwas TS ⊢
        clear fL fH lad ts hc
        go_wp2_with (go_at_call 22; fail)
        refine (swap_any c hwas LO HI NLH.out L H FL.out.lt FH.out.lt _ LA.out.lo LA.out.hi).mono ?_
        rintro e w5 ⟨rfl, bar, hlo, hhi⟩
        obtain ⟨⟨X, Z, eX, fX, fZ⟩, X', Z', eX', fX', fZ'⟩ := TS.out
        rw [eX] at hlo
        replace fX : Fits X (ladP (keyU u) (clampN k) 255).1.x := fX
        replace fZ : Fits Z (ladP (keyU u) (clampN k) 255).1.z := fZ
        have h2' := bar.keep h2 (ne_of_type h2 LA.out.lo (by decide)) (ne_of_type h2 LA.out.hi (by decide))
        have hrv := bar.keep LA.out.rv (ne_of_type LA.out.rv LA.out.lo (by decide)) (ne_of_type LA.out.rv LA.out.hi (by decide))
        have hr := bar.keep LA.out.r (ne_of_type LA.out.r LA.out.lo (by decide)) (ne_of_type LA.out.r LA.out.hi (by decide))
        replace hb := bar.below hb bLO bHI hb.size
        have FX := Lib.hid fX
        have FZ := Lib.hid fZ
        have OK := Lib.hid (show okF (prodN X (invN Z)) 5 from prod_ok _ _ fX.1 (ok_inv fZ.1))
        have VV := Lib.hid (show valN (prodN X (invN Z)) 5 % pN = multV k (keyU u) from by
          have h := (fits_M fX (inv_fits fZ)).2
          rw [h]
          unfold multV fM
          rw [Nat.mod_mod])
        clear bar hhi h0 h2 eX eX' fX fZ fX' fZ' hwas
        go_upto_region 17 with (fail)
        (try simp only [Act.put, List.setIfInBounds_toArray, List.set_cons_zero, List.set_cons_succ])
        have HSZ : w.heap.size ≤ w5.heap.size := hb.size
        have L2 : w.heap.size + 1 + 1 < w5.heap.size := lt_of_block h2'
        obtain ⟨wq, rfl⟩ : ∃ x, x = w5 := ⟨_, rfl⟩
        refine wp_region_free3 17 [.val (Is (.pointer (some ⟨R, 0, none⟩))), .val (Is (.pointer (some ⟨LO, 0, none⟩))), .val (Is (.agg (arr .u64 5 fun i => ((X i : Nat) : Int)))), .val (Is (.pointer (some ⟨R, 0, none⟩))), .val (Is (.pointer (some ⟨LO, 5, none⟩))), .val (Is (.agg (arr .u64 5 fun i => ((Z i : Nat) : Int)))), .val (Is (.tuple #[.agg (arr .u64 5 fun i => (((invN Z) i : Nat) : Int)), .int .i64 0])), .val (Is (.agg (arr .u64 5 fun i => (((invN Z) i : Nat) : Int)))), .val (Is (.int .i64 0)), .val (Is (.agg (arr .u64 5 fun i => (((invN Z) i : Nat) : Int)))), .val (Is (.agg (arr .u64 5 fun i => (((prodN X (invN Z)) i : Nat) : Int)))), .val (Is (.tuple #[.agg (arr .u8 32 fun k => ((bytesN (prodN X (invN Z)) k : Nat) : Int)), .int .i64 0])), .val (Is (.tuple #[.agg (arr .u8 32 fun k => ((bytesN (prodN X (invN Z)) k : Nat) : Int)), .int .i64 0])), .val (Is (.agg (arr .u8 32 fun k => ((bytesN (prodN X (invN Z)) k : Nat) : Int)))), .val (Is (.int .i64 0)), .new 23 .u8 32, .put 15 (fun k => ((bytesN (prodN X (invN Z)) k : Nat) : Int))] [[], [], [1], [], [], [4], [5], [6], [6], [3, 7, 8], [0, 2, 9], [10], [11], [12], [12], [], [13, 15]] [] (by kernel_rfl) (by kernel_rfl) (by kernel_rfl) rfl (stn_cons (stn_is _ _) (stn_cons (stn_is _ _) (stn_cons (stn_is _ _) (stn_cons (stn_is _ _) (stn_cons (stn_is _ _) (stn_cons (stn_is _ _) (stn_cons (stn_is _ _) (stn_cons (stn_is _ _) (stn_cons (stn_is _ _) (stn_cons (stn_is _ _) (stn_cons (stn_is _ _) (stn_cons (stn_is _ _) (stn_cons (stn_is _ _) (stn_cons (stn_is _ _) (stn_cons (stn_is _ _) (stn_cons (stn_new _ _ _ _) (stn_cons (stn_put _ _ _) (stn_nil _)))))))))))))))))) ?_ ?_
        · (simp only [List.take_succ_cons, List.take_zero, List.drop_succ_cons, List.drop_zero, List.zip_cons_cons, List.zip_nil_left, List.zip_nil_right, freeOps3, freeOp3, allV, under, underD, underN, apartAt, factAt, HK.fact, List.map_cons, List.map_nil, fillA, List.getElem?_cons_zero, List.getElem?_cons_succ, List.range_succ, List.range_zero, List.nil_append, List.cons_append, Act.put, List.setIfInBounds_toArray, List.set_cons_zero, List.set_cons_succ])
          refine ⟨?_, ?_, ?_, ?_, ?_, ?_, ?_, ?_, ?_, ?_, ?_, ?_, ?_, ?_, ?_, ?_, ?_, trivial⟩
          · intro x0 x1 x2 x3 x4 x5 x6 x7 x8 x9 x10 x11 x12 x13 x14 x15 x16 w' hb' 
            have cr := cell_of_row _ _ 0 _ _ _ (keep_below hb' (lt_of_block (w := wq) hrv) hrv)
            refine free_e rfl (fun K hK => ?_)
            go_simp
            exact hK _ _ (Below.refl _ _) rfl
          · intro x0 x1 x2 x3 x4 x5 x6 x7 x8 x9 x10 x11 x12 x13 x14 x15 x16 w' hb' 
            refine free_e rfl (fun K hK => ?_)
            go_simp
            exact hK _ _ (Below.refl _ _) rfl
          · intro x0 x1 x2 x3 x4 x5 x6 x7 x8 x9 x10 x11 x12 x13 x14 x15 x16 w' hb' e0
            unfold Is at e0
            subst e0
            exact free_load_as (fun i => ((X i : Nat) : Int)) rfl rfl rfl RTFe (keep_below hb' (lt_of_block (w := wq) hlo) hlo) (by omega) (fun i hi => two_lo _ _ i hi) rfl
          · intro x0 x1 x2 x3 x4 x5 x6 x7 x8 x9 x10 x11 x12 x13 x14 x15 x16 w' hb' 
            have cr := cell_of_row _ _ 0 _ _ _ (keep_below hb' (lt_of_block (w := wq) hrv) hrv)
            refine free_e rfl (fun K hK => ?_)
            go_simp
            exact hK _ _ (Below.refl _ _) rfl
          · intro x0 x1 x2 x3 x4 x5 x6 x7 x8 x9 x10 x11 x12 x13 x14 x15 x16 w' hb' 
            refine free_e rfl (fun K hK => ?_)
            go_simp
            exact hK _ _ (Below.refl _ _) rfl
          · intro x0 x1 x2 x3 x4 x5 x6 x7 x8 x9 x10 x11 x12 x13 x14 x15 x16 w' hb' e0
            unfold Is at e0
            subst e0
            exact free_load_as (fun i => ((Z i : Nat) : Int)) rfl rfl rfl RTFe (keep_below hb' (lt_of_block (w := wq) hlo) hlo) (by omega) (fun i hi => two_hi _ _ i hi) rfl
          · intro x0 x1 x2 x3 x4 x5 x6 x7 x8 x9 x10 x11 x12 x13 x14 x15 x16 w' hb' e0
            unfold Is at e0
            subst e0
            refine free_e rfl (fun K hK => ?_)
            go_simp
            refine (Invert_yes Z FZ.out.1 _).mono ?_
            rintro e w4 ⟨rfl, b4⟩
            exact hK _ _ b4 rfl
          · intro x0 x1 x2 x3 x4 x5 x6 x7 x8 x9 x10 x11 x12 x13 x14 x15 x16 w' hb' e0
            unfold Is at e0
            subst e0
            refine free_e rfl (fun K hK => ?_)
            go_simp
            exact hK _ _ (Below.refl _ _) rfl
          · intro x0 x1 x2 x3 x4 x5 x6 x7 x8 x9 x10 x11 x12 x13 x14 x15 x16 w' hb' e0
            unfold Is at e0
            subst e0
            refine free_e rfl (fun K hK => ?_)
            go_simp
            exact hK _ _ (Below.refl _ _) rfl
          · intro x0 x1 x2 x3 x4 x5 x6 x7 x8 x9 x10 x11 x12 x13 x14 x15 x16 w' hb' e0 e1 e2
            unfold Is at e0 e1 e2
            subst e0 e1 e2
            refine free_e rfl (fun K hK => ?_)
            go_simp
            refine (keep_yes R (invN Z) _ (keep_below hb' (lt_of_block (w := wq) hr) hr)).mono ?_
            rintro e w4 ⟨rfl, b4⟩
            exact hK _ _ b4 rfl
          · intro x0 x1 x2 x3 x4 x5 x6 x7 x8 x9 x10 x11 x12 x13 x14 x15 x16 w' hb' e0 e1 e2
            unfold Is at e0 e1 e2
            subst e0 e1 e2
            refine free_e rfl (fun K hK => ?_)
            go_simp
            refine (rmul_yes R X (invN Z) FX.out.1 (ok_inv FZ.out.1) _ (keep_below hb' (lt_of_block (w := wq) hr) hr)).mono ?_
            rintro e w4 ⟨rfl, b4⟩
            exact hK _ _ b4 rfl
          · intro x0 x1 x2 x3 x4 x5 x6 x7 x8 x9 x10 x11 x12 x13 x14 x15 x16 w' hb' e0
            unfold Is at e0
            subst e0
            refine free_e rfl (fun K hK => ?_)
            go_simp
            refine (Bytes_yes (prodN X (invN Z)) OK.out _).mono ?_
            rintro e w4 ⟨rfl, b4⟩
            exact hK _ _ b4 rfl
          · intro x0 x1 x2 x3 x4 x5 x6 x7 x8 x9 x10 x11 x12 x13 x14 x15 x16 w' hb' e0
            unfold Is at e0
            subst e0
            refine free_e rfl (fun K hK => ?_)
            go_simp
            exact hK _ _ (Below.refl _ _) rfl
          · intro x0 x1 x2 x3 x4 x5 x6 x7 x8 x9 x10 x11 x12 x13 x14 x15 x16 w' hb' e0
            unfold Is at e0
            subst e0
            refine free_e rfl (fun K hK => ?_)
            go_simp
            exact hK _ _ (Below.refl _ _) rfl
          · intro x0 x1 x2 x3 x4 x5 x6 x7 x8 x9 x10 x11 x12 x13 x14 x15 x16 w' hb' e0
            unfold Is at e0
            subst e0
            refine free_e rfl (fun K hK => ?_)
            go_simp
            exact hK _ _ (Below.refl _ _) rfl
          · intro x0 x1 x2 x3 x4 x5 x6 x7 x8 x9 x10 x11 x12 x13 x14 x15 x16 w' hb' 
            exact ⟨by first | rfl | trivial, by first | trivial | rfl, ZTKey⟩
          · intro x0 x1 x2 x3 x4 x5 x6 x7 x8 x9 x10 x11 x12 x13 x14 x15 x16 w' hb' e0 e1
            unfold Is at e0
            subst e0
            exact ⟨by first | trivial | rfl, _, _, _, _, _, rfl, rfl, by decide, RTKey, fun v hv => Option.some.inj hv, rfl⟩
        · (simp only [List.take_succ_cons, List.take_zero, List.drop_succ_cons, List.drop_zero, List.zip_cons_cons, List.zip_nil_left, List.zip_nil_right, freeOps3, freeOp3, allV, under, underD, underN, apartAt, factAt, HK.fact, List.map_cons, List.map_nil, fillA, List.getElem?_cons_zero, List.getElem?_cons_succ, List.range_succ, List.range_zero, List.nil_append, List.cons_append, Act.put, List.setIfInBounds_toArray, List.set_cons_zero, List.set_cons_succ])
          rintro x0 x1 x2 x3 x4 x5 x6 x7 x8 x9 x10 x11 x12 x13 x14 x15 x16 w5 hb' e0 e1 e2 e3 e4 e5 e6 e7 e8 e9 e10 e11 e12 e13 e14 e15 e16 N15 
          unfold Is at e0 e1 e2 e3 e4 e5 e6 e7 e8 e9 e10 e11 e12 e13 e14
          subst e0 e1 e2 e3 e4 e5 e6 e7 e8 e9 e10 e11 e12 e13 e14
          obtain ⟨BO, rfl, lBO, ho⟩ := N15
          replace ho : w5.heap[BO]? = some (.cells (arr .u8 32 (fun k => ((bytesN (prodN X (invN Z)) k : Nat) : Int))) 23 (0, 0)) := ho
          replace lBO : wq.heap.size ≤ BO := lBO
          replace h2' := keep_below hb' (lt_of_block (w := wq) h2') h2'
          replace hr := keep_below hb' (lt_of_block (w := wq) hr) hr
          replace hrv := keep_below hb' (lt_of_block (w := wq) hrv) hrv
          replace hlo := keep_below hb' (lt_of_block (w := wq) hlo) hlo
          replace hb := (hb.drew).trans (hb'.mono hb.size)
          obtain ⟨w6, rfl⟩ : ∃ x, x = w5 := ⟨_, rfl⟩
          go_upto_region 18 with (fail)
          (try simp only [Act.put, List.setIfInBounds_toArray, List.set_cons_zero, List.set_cons_succ])
          have c_rv : w6.cell? ⟨RV, 0, none⟩ = some (.pointer (some ⟨R, 0, none⟩)) := cell_of_row _ _ 0 _ _ _ hrv
          go_wp2_with (first | (refine wpList_val' rfl (run_op_build rfl (by simp [Act.eval, Act.put]) built_fe0) ?_) | (go_at_call 23; fail))
          refine (keep_yes R (oneF 0) _ hr).mono ?_
          rintro e w7 ⟨rfl, b7⟩
          replace h2' := keep_below b7 (lt_of_block h2') h2'
          replace hr := keep_below b7 (lt_of_block hr) hr
          replace hrv := keep_below b7 (lt_of_block hrv) hrv
          replace ho := keep_below b7 (lt_of_block ho) ho
          replace hb := hb.trans (b7.mono hb.size)
          clear b7 c_rv
          have c_rv : w7.cell? ⟨RV, 0, none⟩ = some (.pointer (some ⟨R, 0, none⟩)) := cell_of_row _ _ 0 _ _ _ hrv
          have c_r := cell_arr hr 0 (by omega)
          go_wp2_with (first | (refine wpList_load_arr rfl rfl rfl RTKey ho ?_) | (refine wpList_store_arr rfl rfl rfl rfl RTKey h2' ?_))
          refine bodyPost_ret (results_arr rfl rfl RTKey (row_self h2')) rfl ⟨?_, row_below hb (by omega) _⟩
          rw [arr_ext (fun i _ => stands_same OK.out VV.out i)]
end Go.Proofs.Ythgjhipfgdlbnaa
