/- The law AesStreams: whatever the key, the nonce, the counter and the text, it answers true. -/
import Derived.Test.YtnckddjlpmkkgaaCtr
import Derived.Test.YtnckddjlpmkkgaaCtrY
import Derived.Test.YtnckddjlpmkkgaaCtrR
namespace Go.Proofs.Ytnckddjlpmkkgaa
set_option linter.unusedSimpArgs false
set_option linter.unusedVariables false
open Go.RowKit
attribute [local irreducible] sboxI mulN beL beK encI ctrL ctrI

set_option maxRecDepth 100000 in
set_option maxHeartbeats 2000000 in
theorem AesStreams_mid (k m : Nat → Int) (F : Nat) (A : Option Addr) (n c : Nat) (h1 : 600 < n) (h2 : n ≤ 1048576) (w : World) :
    Calls Try.prog 6 #[.agg (arr .u8 16 k), .agg (arr .u8 12 m), .int .u32 F, .slice A n c] w fun e w' => e = .returned (.bool true) ∧ Below w.heap.size w w' := by
  go_enter Try.func6, Try.ntmps6
  obtain ⟨g0, g1, hz, hb0⟩ := alloc2 w (.cells (arr .u8 16 k) 23) (.cells (arr .u8 12 m) 34)
  go_wp2_with (go_at_call 9; (with_reducible refine (live_any _).mono ?_); rintro e w1 ⟨rfl, hb1⟩)
  go_ret
  exact ⟨rfl, hb0.trans (hb1.mono (by omega))⟩

set_option maxRecDepth 100000 in
set_option maxHeartbeats 2000000 in
theorem AesStreams_no (E : Int) (k m : Nat → Int) (F : Nat) (A : Option Addr) (n c : Nat) (l : List Nat) (hC : ∀ w, Calls Try.prog 18 #[.agg (arr .u8 16 k), .agg (arr .u8 12 m), .int .u32 F, .slice A n c] w (RetNo w E)) (hR : ∀ w, Calls Try.prog 19 #[.agg (arr .u8 16 k), .agg (arr .u8 12 m), .int .u32 F, .slice A n c] w (RetNo w E))
    (h1 : ¬ 600 < n ∨ ¬ n ≤ 1048576) (h2 : n ≤ 140737488355328) (w : World) (h : Txt w w.heap.size A n c l) (hl : ∀ x ∈ l, x < 256) :
    Calls Try.prog 6 #[.agg (arr .u8 16 k), .agg (arr .u8 12 m), .int .u32 F, .slice A n c] w fun e w' => e = .returned (.bool true) ∧ Below w.heap.size w w' := by
  have H0 := Lib.hid h
  have HL := Lib.hid hl
  clear h hl
  go_enter Try.func6, Try.ntmps6
  obtain ⟨g0, g1, hz, hb0⟩ := alloc2 w (.cells (arr .u8 16 k) 23) (.cells (arr .u8 12 m) 34)
  go_upto_region 2 with (go_at_call 9; (with_reducible refine (live_any _).mono ?_); rintro e w1 ⟨rfl, hb1⟩)
  replace g0 := keep_below hb1 (by omega) g0
  replace g1 := keep_below hb1 (by omega) g1
  have hB := hb0.trans (hb1.mono (by omega))
  clear hz hb0 hb1
  rcases h1 with h1 | h1 <;> go_upto_region 6 with (fail)
  all_goals
    have hT := (H0.out.below hB).more hB.size
    go_upto_region 7 with (go_at_call 17; (with_reducible refine (Copy_any A n c l _ hT h2).mono ?_); rintro e w2 ⟨V, rfl, hV, b2⟩)
    replace g0 := keep_below b2 (by have := lt_of_block g0; omega) g0
    replace g1 := keep_below b2 (by have := lt_of_block g1; omega) g1
    replace hV := hV.mono hB.size
    replace hB := hB.trans (b2.mono hB.size)
    clear b2 hT
    go_upto_region 8 with (first | (refine wpList_load_arr (g := w.heap.size) rfl rfl rfl RTBlock g0 ?_) | (refine wpList_load_arr (g := w.heap.size + 1) rfl rfl rfl RTNonce g1 ?_) | (go_at_call 18; (with_reducible refine (hC _).mono ?_); rintro e w3 ⟨rfl, b3⟩))
    replace g0 := keep_below b3 (by have := lt_of_block g0; omega) g0
    replace g1 := keep_below b3 (by have := lt_of_block g1; omega) g1
    have hVl := hV.lt'
    replace hV := hV.below b3 hVl
    replace hB := hB.trans (b3.mono hB.size)
    clear b3 hVl
    go_upto_region 9 with (first | (refine wpList_load_arr (g := w.heap.size) rfl rfl rfl RTBlock g0 ?_) | (refine wpList_load_arr (g := w.heap.size + 1) rfl rfl rfl RTNonce g1 ?_) | (go_at_call 19; (with_reducible refine (hR _).mono ?_); rintro e w4 ⟨rfl, b4⟩))
    have hVl := hV.lt'
    replace hV := hV.below b4 hVl
    replace hB := hB.trans (b4.mono hB.size)
    clear b4 hVl g0 g1
    obtain ⟨Av, cv, rfl, -⟩ := hV.txt
    have hnil : ∀ x ∈ ([] : List Nat), x < 256 := by simp
    go_upto_region 10 with (go_at_call 20; (with_reducible refine (Same_txt none 0 0 [] none 0 0 [] 0 _ Txt.nil_ Txt.nil_ hnil hnil).mono ?_); rintro e w5 ⟨rfl, rfl⟩)
    go_wp2
    go_loopg [57] 0 (fun r x wr => x = .int .i64 0 ∧ Own wr w.heap.size 5 (.slice Av l.length cv) l ∧ Below w.heap.size w wr)
    case atStart => exact ⟨rfl, hV, hB⟩
    case round =>
      clear hV hB
      obtain ⟨rfl, hV, hB⟩ := hrel
      have hT := (H0.out.below hB).more hB.size
      obtain ⟨A2, c2, he, ht⟩ := hV.txt
      injection he with he _ he2
      subst he he2
      go_wp2_with (go_at_call 20; (with_reducible refine (Same_txt A n c l _ _ _ l _ _ hT ht HL.out HL.out).mono ?_); rintro e w5 ⟨rfl, rfl⟩)
      go_ret
      exact ⟨rfl, hB⟩

set_option maxRecDepth 100000 in
set_option maxHeartbeats 2000000 in
theorem AesStreams_yes (k m : Nat → Int) (hk : ∀ i, i < 16 → 0 ≤ k i ∧ k i < 256) (hm : ∀ i, i < 12 → 0 ≤ m i ∧ m i < 256) (F : Nat) (h3 : F < 4294967296) (A : Option Addr) (n c : Nat) (l : List Nat)
    (h1 : n ≤ 600) (h2 : F + (n + 15) / 16 ≤ 4294967296) (w : World) (h : Txt w w.heap.size A n c l) (hl : ∀ x ∈ l, x < 256) :
    Calls Try.prog 6 #[.agg (arr .u8 16 k), .agg (arr .u8 12 m), .int .u32 F, .slice A n c] w fun e w' => e = .returned (.bool true) ∧ Below w.heap.size w w' := by
  have H0 := Lib.hid h
  have HL := Lib.hid hl
  have HK := Lib.hid hk
  have HM := Lib.hid hm
  have H3 := Lib.hid h3
  have H2 := Lib.hid h2
  clear h hl hk hm h3 h2
  go_enter Try.func6, Try.ntmps6
  obtain ⟨g0, g1, hz, hb0⟩ := alloc2 w (.cells (arr .u8 16 k) 23) (.cells (arr .u8 12 m) 34)
  go_upto_region 2 with (go_at_call 9; (with_reducible refine (live_any _).mono ?_); rintro e w1 ⟨rfl, hb1⟩)
  replace g0 := keep_below hb1 (by omega) g0
  replace g1 := keep_below hb1 (by omega) g1
  have hB := hb0.trans (hb1.mono (by omega))
  clear hz hb0 hb1
  go_upto_region 6 with (fail)
  have hn : n ≤ 140737488355328 := by omega
  have hn2 : n ≤ 1048576 := by omega
  have hT := (H0.out.below hB).more hB.size
  go_upto_region 7 with (go_at_call 17; (with_reducible refine (Copy_any A n c l _ hT hn).mono ?_); rintro e w2 ⟨V, rfl, hV, b2⟩)
  replace g0 := keep_below b2 (by have := lt_of_block g0; omega) g0
  replace g1 := keep_below b2 (by have := lt_of_block g1; omega) g1
  replace hV := hV.mono hB.size
  replace hB := hB.trans (b2.mono hB.size)
  have hVb := hV.lt'
  clear b2 hT
  have hT := (H0.out.below hB).more hB.size
  go_upto_region 8 with (first | (refine wpList_load_arr (g := w.heap.size) rfl rfl rfl RTBlock g0 ?_) | (refine wpList_load_arr (g := w.heap.size + 1) rfl rfl rfl RTNonce g1 ?_) | (go_at_call 18; (with_reducible refine (Ctr_yes k m HK.out HM.out F H3.out A n c l _ hT HL.out hn2 H2.out).mono ?_); rintro e w3 ⟨X, rfl, hX, b3⟩))
  replace g0 := keep_below b3 (by have := lt_of_block g0; omega) g0
  replace g1 := keep_below b3 (by have := lt_of_block g1; omega) g1
  have hXV : ∀ a b, V.ownBlock = some a → X.ownBlock = some b → a ≠ b := fun a b ha hb => by have := hVb a ha; have := (hX.lt b hb).1; omega
  replace hX := hX.mono hB.size
  replace hV := hV.below b3 hVb
  replace hB := hB.trans (b3.mono hB.size)
  clear b3 hT hVb
  have hT := (H0.out.below hB).more hB.size
  go_upto_region 9 with (first | (refine wpList_load_arr (g := w.heap.size) rfl rfl rfl RTBlock g0 ?_) | (refine wpList_load_arr (g := w.heap.size + 1) rfl rfl rfl RTNonce g1 ?_) | (go_at_call 19; (with_reducible refine (RCtr_yes k m HK.out HM.out F H3.out A n c l _ hT HL.out hn2 H2.out).mono ?_); rintro e w4 ⟨Y, rfl, hY, b4⟩))
  have hVl := hV.lt'
  have hXl := hX.lt'
  replace hV := hV.below b4 hVl
  replace hX := hX.below b4 hXl
  replace hB := hB.trans (b4.mono hB.size)
  clear b4 hVl hXl g0 g1 hT
  obtain ⟨Av, cv, rfl, -⟩ := hV.txt
  obtain ⟨Ax, cx, rfl, hxt⟩ := hX.txt
  obtain ⟨Ay, cy, rfl, hyt⟩ := hY.txt
  have hcl : (ctrL k m F l).length = n := by rw [ctrL_len]; exact H0.out.len
  simp only [hcl] at hX hxt hyt ⊢
  go_upto_region 10 with (go_at_call 20; (with_reducible refine (Same_txt Ax n cx _ Ay n cy _ _ _ hxt hyt (ctrL_lt k m F l) (ctrL_lt k m F l)).mono ?_); rintro e w5 ⟨rfl, rfl⟩)
  replace hX := rowB_own hX hcl (ctrL_lt k m F l)
  clear hxt hyt hY
  go_wp2
  go_loopg [57] n (fun r x wr => ∃ i : Nat, i + r = n ∧ x = .int .i64 i ∧ RowB wr w.heap.size Ax n 5 ∧ Own wr w.heap.size 5 (.slice Av l.length cv) l ∧ Below w.heap.size w wr)
  case atStart => exact ⟨0, by omega, rfl, hX, hV, hB⟩
  case round =>
    clear hX hV hB
    obtain ⟨i, hi, rfl, hX, hV, hB⟩ := hrel
    have HI := Lib.hid hi
    have HV := Lib.hid hV
    clear hi hV
    by_cases hlt : i < n
    · obtain ⟨g, z, rfl, hg, hc, hf, z0, z1, hs⟩ := hX.step hlt
      go_wp2
      go_roundg (gk - 1)
      case measure => have := HI.out; omega
      case rel =>
        have hI := HI.out
        exact ⟨i + 1, by omega, by go_num, hs _ (by omega) (by omega), HV.out.setCell (p := ⟨g, i, none⟩) (fun k hk => hXV k g hk rfl) _, hB.setCell (p := ⟨g, i, none⟩) hg _⟩
    · have hT := (H0.out.below hB).more hB.size
      obtain ⟨A2, c2, he, ht⟩ := HV.out.txt
      injection he with he _ he2
      subst he he2
      go_wp2_with (go_at_call 20; (with_reducible refine (Same_txt A n c l _ _ _ l _ _ hT ht HL.out HL.out).mono ?_); rintro e w5 ⟨rfl, rfl⟩)
      go_ret
      exact ⟨rfl, hB⟩

theorem AesStreams_any (w : World) (k : Nat → Int) (hk : ∀ i, i < 16 → 0 ≤ k i ∧ k i < 256) (m : Nat → Int) (hm : ∀ i, i < 12 → 0 ≤ m i ∧ m i < 256) (fr : Int) (hf : 0 ≤ fr ∧ fr < 4294967296) (A : Option Addr) (n c : Nat) (l : List Nat) (hn : n ≤ 140737488355328) (h : Txt w w.heap.size A n c l) (hl : ∀ x ∈ l, x < 256) :
    Calls Try.prog 6 #[.agg (arr .u8 16 k), .agg (arr .u8 12 m), .int .u32 fr, .slice A n c] w fun e w' => e = .returned (.bool true) ∧ Below w.heap.size w w' := by
  obtain ⟨F, rfl⟩ : ∃ F : Nat, fr = F := ⟨fr.toNat, by omega⟩
  by_cases h1 : n ≤ 1048576
  · by_cases h2 : 600 < n
    · exact AesStreams_mid k m F A n c h2 h1 w
    · by_cases h3 : F + (n + 15) / 16 ≤ 4294967296
      · exact AesStreams_yes k m hk hm F (by omega) A n c l (by omega) h3 w h hl
      · exact AesStreams_no 1 k m F A n c l (fun w => Ctr_arg k m F A n c (by omega) (by omega) h1 (by omega) w) (fun w => RCtr_arg k m F A n c (by omega) (by omega) h1 (by omega) w) (.inl h2) hn w h hl
  · exact AesStreams_no 4 k m F A n c l (fun w => Ctr_long k m F A n c (by omega) hn w) (fun w => RCtr_long k m F A n c (by omega) hn w) (.inr h1) hn w h hl
end Go.Proofs.Ytnckddjlpmkkgaa
