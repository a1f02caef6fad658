/- The law AesCounts: whatever the key, the nonce, the counter and the number of blocks, it answers true. -/
import Derived.Test.YtnckddjlpmkkgaaCtr
import Derived.Test.YtnckddjlpmkkgaaCtrY
import Derived.Test.YtnckddjlpmkkgaaByt
import Derived.Test.YtnckddjlpmkkgaaCut
import Derived.Test.YtnckddjlpmkkgaaAesI
import Derived.Laws.CopyOwn
namespace Go.Proofs.Ytnckddjlpmkkgaa
set_option linter.unusedSimpArgs false
set_option linter.unusedVariables false
open Go.RowKit
/-! ### Plain -/
theorem bx_zero (b : Int) (hb : 0 ≤ b ∧ b < 256) : bits .xor .u8 0 b = b := by
  refine b8_inj (bits_u8 _ _ _) hb ?_
  rw [b8_bx]
  unfold b8
  simp
/-- A row of bytes, as a list. -/
def rowL (n : Nat) (f : Nat → Int) : List Nat := (List.range n).map fun i => (f i).toNat
theorem rowL_len (n : Nat) (f : Nat → Int) : (rowL n f).length = n := by unfold rowL; simp
theorem rowL_get (n : Nat) (f : Nat → Int) (i : Nat) : (rowL n f)[i]? = if i < n then some (f i).toNat else none := by
  unfold rowL
  rw [List.getElem?_map]
  by_cases h : i < n
  · rw [List.getElem?_range h, if_pos h]; rfl
  · rw [if_neg h, List.getElem?_eq_none (by simp; omega)]; rfl
theorem rowL_lt (n : Nat) (f : Nat → Int) (hf : ∀ i, i < n → 0 ≤ f i ∧ f i < 256) : ∀ x ∈ rowL n f, x < 256 := fun x hx => by
  unfold rowL at hx
  obtain ⟨i, hi, rfl⟩ := List.mem_map.1 hx
  have := hf i (List.mem_range.1 hi)
  omega
theorem ctrL_zero (k m : Nat → Int) (F t i : Nat) (h : 16 * i + 16 ≤ t) : ((ctrL k m F (List.replicate t 0)).take (16 * i + 16)).drop (16 * i) = rowL 16 (encI k (inI m (F + i))) := by
  apply List.ext_getElem?
  intro x
  rw [List.getElem?_drop, List.getElem?_take, rowL_get]
  by_cases hx : x < 16
  · rw [if_pos (by omega), if_pos hx]
    unfold ctrL
    rw [List.getElem?_map, List.length_replicate, List.getElem?_range (by omega)]
    simp only [Option.map_some]
    unfold ctrI
    have e1 : (List.replicate t 0).getD (16 * i + x) 0 = 0 := by
      rw [List.getD_eq_getElem?_getD, List.getElem?_replicate]; split <;> rfl
    rw [e1, show (16 * i + x) / 16 = i from by omega, show (16 * i + x) % 16 = x from by omega, show ((0 : Nat) : Int) = 0 from rfl, bx_zero _ (show 0 ≤ encI k (inI m (F + i)) x ∧ encI k (inI m (F + i)) x < 256 from encJ_byte k _ 10 x)]
  · rw [if_neg (by omega), if_neg hx]
theorem txt_arr {w : World} {R n : Nat} {e : TypeId} {f : Nat → Int} {l : List Nat} (h : w.heap[R]? = some (.cells (arr .u8 n f) e (0, 0))) (hl : l.length = n) (hf : ∀ i, i < n → f i = ((l.getD i 0 : Nat) : Int)) : Txt w (R + 1) (some ⟨R, 0, none⟩) n n l := by
  refine ⟨hl, (fun e => by cases e), fun _ => ⟨_, rfl, Nat.lt_succ_self _, fun i x hx => ?_⟩⟩
  have hi : i < l.length := (List.getElem?_eq_some_iff.1 hx).1
  rw [addr_add, Nat.zero_add, cell_arr h i (by omega), hf i (by omega), List.getD_eq_getElem?_getD, hx]
  rfl
/-- copy: a text into a row of bytes. -/
theorem wpList_copy_txt {P : Program} {ops : Array Oper} {rest : List Oper} {o : Oper} {a : Act} {w : World} {Q : Exit → Act → World → Prop} {x y : Operand} {t e : TypeId} (hT : ByteT P t e) {N ty g off dc sc m B : Nat} {f : Nat → Int} {A : Option Addr} {l : List Nat} (hgd : o.guard = none) (ho : o.op = .call { callee := .builtin .copy, args := #[x, y], argTypes := #[t, t] })
    (hx : a.eval x = .slice (some ⟨g, off, none⟩) m dc) (hy : a.eval y = .slice A m sc) (hg : w.heap[g]? = some (.cells (arr .u8 N f) ty (0, 0))) (hr : Txt w B A m sc l) (hm : 0 < m) (h1 : off + m ≤ N)
    (h : wpList P ops Q rest (a.put o.dst (.int .i64 m)) (w.setRow g (arr .u8 N (patch f off m fun i => ((l.getD i 0 : Nat) : Int))))) : wpList P ops Q (o :: rest) a w := by
  obtain ⟨ad, rfl, _, hc⟩ := hr.at_ hm
  have hs : (P.info? e).map (·.size) = some 1 := by
    have hinfo := hT.info
    cases hi : P.info? e with
    | none => rw [hi] at hinfo; cases hinfo
    | some i =>
      rw [hi] at hinfo
      simp only [Option.map_some, Option.some.injEq, Prod.mk.injEq] at hinfo
      simp [hinfo.2.1]
  have hml : (l.map bv).length = m := by simp [hr.len]
  refine wpList_copy_own hgd x y t t ho e hT.sl hs g off m dc ad m sc hx hy (arr .u8 N f) ty hg (l.map bv) (by simp [hr.len]) (fun j v hv => ?_) (by rw [hml, arr_size]; exact h1) (fun v hv => ?_) ?_
  · rw [List.getElem?_map, Option.map_eq_some_iff] at hv
    obtain ⟨z, hz, rfl⟩ := hv
    exact hc j z hz
  · obtain ⟨z, _, rfl⟩ := List.mem_map.1 hv
    rfl
  · have e1 : ((arr .u8 N f).toList.take off ++ (l.map bv ++ (arr .u8 N f).toList.drop (off + (l.map bv).length))).toArray = arr .u8 N (patch f off m fun i => ((l.getD i 0 : Nat) : Int)) := by
      rw [← arr_patch, hml, ← List.append_assoc]
      have e2 : l.map bv = (arr .u8 m fun i => ((l.getD i 0 : Nat) : Int)).toList := by
        apply List.ext_getElem?
        intro j
        by_cases hj : j < m
        · rw [Array.getElem?_toList (xs := arr .u8 m _), arr_get _ _ _ _ hj, List.getElem?_map, List.getD_eq_getElem?_getD]
          rw [List.getElem?_eq_getElem (by rw [hr.len]; exact hj)]
          rfl
        · rw [List.getElem?_eq_none (by simp [hr.len]; omega), List.getElem?_eq_none (by simp [arr_size]; omega)]
      rw [e2]
      exact arrV_splice N off m _ _ h1
    rw [e1, hml]
    exact h
theorem encI_byte (k s : Nat → Int) (i : Nat) : 0 ≤ encI k s i ∧ encI k s i < 256 := encJ_byte k s 10 i
theorem beL4_get (t i : Nat) (hi : i < 4) : (beL 4 t).getD i 0 = t / 2 ^ (8 * (3 - i)) % 256 := by
  unfold beL beK
  rw [List.getD_eq_getElem?_getD, List.getElem?_map, List.getElem?_range hi]
  rfl
theorem inI_patch (m : Nat → Int) (T x : Nat) (hx : x < 16) : patch (patch (fun _ => (0 : Int)) 0 12 fun i => m (0 + i)) 12 4 (fun i => (((beL 4 T).getD i 0 : Nat) : Int)) x = inI m T x := by
  unfold patch inI
  by_cases h : x < 12
  · rw [if_neg (by omega), if_pos (by omega), if_pos h]
    show m (0 + (x - 0)) = m x
    rw [Nat.zero_add, Nat.sub_zero]
  · rw [if_pos (by omega), if_neg h]
    show (((beL 4 T).getD (x - 12) 0 : Nat) : Int) = _
    rw [beL4_get T (x - 12) (by omega), show 3 - (x - 12) = 15 - x from by omega]
attribute [local irreducible] sboxI mulN encI ctrL ctrI beL beK

set_option maxRecDepth 100000 in
set_option maxHeartbeats 2000000 in
theorem AesCounts_no (k m : Nat → Int) (F : Nat) (h3 : F < 4294967296) (x : Int) (M : Nat) (hx : x % 8 = M) (hM : M < 8) (hx0 : 0 ≤ x ∧ x < 256) (h2 : 4294967296 < F + M) (w : World) :
    Calls Try.prog 8 #[.agg (arr .u8 16 k), .agg (arr .u8 12 m), .int .u32 F, .int .u8 x] w fun e w' => e = .returned (.bool true) ∧ Below w.heap.size w w' := by
  obtain ⟨x0, x1⟩ := hx0
  go_enter Try.func8, Try.ntmps8
  obtain ⟨g0, g1, hz, hb0⟩ := alloc2 w (.cells (arr .u8 16 k) 23) (.cells (arr .u8 12 m) 34)
  go_upto_region 2 with (go_at_call 9; (with_reducible refine (live_any _).mono ?_); rintro e w1 ⟨rfl, hb1⟩)
  replace g0 := keep_below hb1 (by omega) g0
  replace g1 := keep_below hb1 (by omega) g1
  have hB := hb0.trans (hb1.mono (by omega))
  clear hz hb0 hb1
  go_upto_region 5 with (fail)
  obtain ⟨t, ht, hti⟩ : ∃ t : Nat, t = 16 * M ∧ 16 * (M : Int) = t := ⟨16 * M, rfl, by omega⟩
  have htb : t ≤ 1048576 := by omega
  have hC := Ctr_arg k m F (some ⟨w1.heap.size, 0, none⟩) t t (by omega) (by omega) htb (by omega)
  have HTI := Lib.hid hti
  clear ht hti
  go_upto_region 6 with (refine wpList_val' rfl (run_op_make BT (n := t) (by omega) rfl (congrArg (Value.int .i64) HTI.out) (congrArg (Value.int .i64) HTI.out)) ?_)
  obtain ⟨hZ, hZs, hZb⟩ := alloc1 w1 (.cells (arr .u8 t fun _ => 0) 5)
  replace g0 := keep_below hZb (lt_of_block g0) g0
  replace g1 := keep_below hZb (lt_of_block g1) g1
  have hBs := hB.size
  replace hB := hB.trans (hZb.mono hB.size)
  generalize w1.alloc (.cells (arr .u8 t fun _ => 0) 5) = w2 at *
  generalize w1.heap.size = Z at *
  clear hZb
  go_upto_region 7 with (first | (refine wpList_load_arr (g := w.heap.size) rfl rfl rfl RTBlock g0 ?_) | (refine wpList_load_arr (g := w.heap.size + 1) rfl rfl rfl RTNonce g1 ?_) | (go_at_call 18; (with_reducible refine (hC _).mono ?_); rintro e w3 ⟨rfl, b3⟩))
  go_wp2
  go_ret
  refine ⟨?_, hB.trans (b3.mono hB.size)⟩
  show Ending.returned (Value.bool (decide (4294967296 < (F : Int) + M))) = _
  rw [decide_eq_true (by omega)]

set_option maxRecDepth 100000 in
set_option maxHeartbeats 2000000 in
theorem AesCounts_yes (k m : Nat → Int) (hk : ∀ i, i < 16 → 0 ≤ k i ∧ k i < 256) (hm : ∀ i, i < 12 → 0 ≤ m i ∧ m i < 256) (F : Nat) (h3 : F < 4294967296) (x : Int) (M : Nat) (hx : x % 8 = M) (hM : M < 8) (hx0 : 0 ≤ x ∧ x < 256) (h2 : F + M ≤ 4294967296) (w : World) :
    Calls Try.prog 8 #[.agg (arr .u8 16 k), .agg (arr .u8 12 m), .int .u32 F, .int .u8 x] w fun e w' => e = .returned (.bool true) ∧ Below w.heap.size w w' := by
  obtain ⟨x0, x1⟩ := hx0
  have HK := Lib.hid hk
  have HM := Lib.hid hm
  clear hk hm
  go_enter Try.func8, Try.ntmps8
  obtain ⟨g0, g1, hz, hb0⟩ := alloc2 w (.cells (arr .u8 16 k) 23) (.cells (arr .u8 12 m) 34)
  go_upto_region 2 with (go_at_call 9; (with_reducible refine (live_any _).mono ?_); rintro e w1 ⟨rfl, hb1⟩)
  replace g0 := keep_below hb1 (by omega) g0
  replace g1 := keep_below hb1 (by omega) g1
  have hB := hb0.trans (hb1.mono (by omega))
  clear hz hb0 hb1
  go_upto_region 5 with (fail)
  obtain ⟨t, ht, hti⟩ : ∃ t : Nat, t = 16 * M ∧ 16 * (M : Int) = t := ⟨16 * M, rfl, by omega⟩
  have htb : t ≤ 1048576 := by omega
  have h2' : F + (t + 15) / 16 ≤ 4294967296 := by omega
  have HTT := Lib.hid ht
  have HTI := Lib.hid hti
  clear ht hti
  go_upto_region 6 with (refine wpList_val' rfl (run_op_make BT (n := t) (by omega) rfl (congrArg (Value.int .i64) HTI.out) (congrArg (Value.int .i64) HTI.out)) ?_)
  obtain ⟨hZ, hZs, hZb⟩ := alloc1 w1 (.cells (arr .u8 t fun _ => 0) 5)
  replace g0 := keep_below hZb (lt_of_block g0) g0
  replace g1 := keep_below hZb (lt_of_block g1) g1
  have hBs := hB.size
  replace hB := hB.trans (hZb.mono hB.size)
  generalize w1.alloc (.cells (arr .u8 t fun _ => 0) 5) = w2 at *
  generalize w1.heap.size = Z at *
  clear hZb
  have hw2 : w.heap.size + 2 ≤ w2.heap.size := by have := lt_of_block g1; omega
  have hzt : Txt w2 w2.heap.size (some ⟨Z, 0, none⟩) t t (List.replicate t 0) := (txt_arr hZ (by simp) (fun i hi => by rw [List.getD_eq_getElem?_getD, List.getElem?_replicate, if_pos hi]; rfl)).more (by omega)
  have hzl : ∀ x ∈ List.replicate t 0, x < 256 := fun x hx => by rw [(List.mem_replicate.1 hx).2]; omega
  go_upto_region 7 with (first | (refine wpList_load_arr (g := w.heap.size) rfl rfl rfl RTBlock g0 ?_) | (refine wpList_load_arr (g := w.heap.size + 1) rfl rfl rfl RTNonce g1 ?_) | (go_at_call 18; (with_reducible refine (Ctr_yes k m HK.out HM.out F h3 (some ⟨Z, 0, none⟩) t t (List.replicate t 0) _ hzt hzl htb h2').mono ?_); rintro e w3 ⟨X, rfl, hX, b3⟩))
  replace g0 := keep_below b3 (by have := lt_of_block g0; omega) g0
  replace g1 := keep_below b3 (by have := lt_of_block g1; omega) g1
  replace hX := hX.mono hw2
  replace hB := hB.trans (b3.mono hB.size)
  clear b3 hzt hzl hZ hZs hBs
  obtain ⟨Ax, cx, rfl, -⟩ := hX.txt
  have hcl : (ctrL k m F (List.replicate t 0)).length = t := by rw [ctrL_len]; simp
  simp only [hcl] at hX ⊢
  have hti := HTI.out
  go_upto_region 11 with (fail)
  clear hti
  go_wp2
  go_loopg [51] M (fun r x wr => ∃ i : Nat, i + r = M ∧ x = .int .i64 i ∧ wr.heap[w.heap.size]? = some (.cells (arr .u8 16 k) 23 (0, 0)) ∧ wr.heap[w.heap.size + 1]? = some (.cells (arr .u8 12 m) 34 (0, 0)) ∧ Own wr (w.heap.size + 2) 5 (.slice Ax t cx) (ctrL k m F (List.replicate t 0)) ∧ Below w.heap.size w wr)
  case atStart => exact ⟨0, by omega, rfl, g0, g1, hX, hB⟩
  case round =>
    clear g0 g1 hX hB
    obtain ⟨i, hi, rfl, g0, g1, hX, hB⟩ := hrel
    have HI := Lib.hid hi
    clear hi
    by_cases hlt : i < M
    · go_upto_region 15 with (refine wpList_alloc_arr rfl rfl ZTBlock ?_)
      (try simp only [Act.put, List.setIfInBounds_toArray, List.set_cons_zero, List.set_cons_succ])
      obtain ⟨hI0, hIs, hIb⟩ := alloc1 wr (.cells (arr .u8 16 fun _ => 0) 23)
      have l1 := lt_of_block g1
      have hXI := hX.lt'
      replace g0 := keep_below hIb (lt_of_block g0) g0
      replace g1 := keep_below hIb l1 g1
      replace hX := hX.below hIb hX.lt'
      replace hB := hB.trans (hIb.mono hB.size)
      generalize wr.alloc (.cells (arr .u8 16 fun _ => 0) 23) = wb at *
      generalize wr.heap.size = I at *
      refine wp_region_tail 2 (by kernel_rfl) (by kernel_rfl) ?_
      (simp only [List.take_succ_cons, List.take_zero, List.drop_succ_cons, List.drop_zero])
      repeat (refine wpStill_step (fun K hK => ?_); go_simp; (try (simp only [↓IntWalk.iteOmega]; go_simp)); (try go_bits); refine hK _ ?_; clear hK K)
      refine wpStill_nil ?_
      refine wpList_copy_arr rfl rfl rfl rfl Try.underlying36 (by kernel_rfl) hI0 g1 (m := 12) rfl (by omega) (by omega) ?_
      (try simp only [Act.put, List.setIfInBounds_toArray, List.set_cons_zero, List.set_cons_succ])
      have q0 := row_self (w := wb.drew) (c' := arr .u8 16 (patch (fun x => 0) 0 12 fun i => m (0 + i))) hI0
      replace g0 := row_keep (w := wb.drew) (c' := arr .u8 16 (patch (fun x => 0) 0 12 fun i => m (0 + i))) (g := I) g0 (by omega)
      replace g1 := row_keep (w := wb.drew) (c' := arr .u8 16 (patch (fun x => 0) 0 12 fun i => m (0 + i))) (g := I) g1 (by omega)
      replace hX := hX.drew.setRow (g := I) (fun k hk => by have := hXI k hk; omega) (arr .u8 16 (patch (fun x => 0) 0 12 fun i => m (0 + i)))
      replace hB := row_below (w := wb.drew) (hB.drew) (g := I) (by omega) (arr .u8 16 (patch (fun x => 0) 0 12 fun i => m (0 + i)))
      generalize wb.drew.setRow I (arr .u8 16 (patch (fun x => 0) 0 12 fun i => m (0 + i))) = wc at *
      clear hI0 hIs hIb
      have hat : F + i < 4294967296 := by omega
      have u64 : Try.prog.underlying 43 = some (.int .u64) := Try.underlying43
      go_upto_region 16 with (fail)
      (try simp only [Act.put, List.setIfInBounds_toArray, List.set_cons_zero, List.set_cons_succ])
      refine wp_region_can wc.heap.size 7 [(0, false), (1, false), (2, false), (3, false), (4, false), (5, false), (6, true)] (by kernel_rfl) (by kernel_rfl) ?_
      (simp only [canOps, List.getElem?_cons_zero, List.getElem?_cons_succ, List.drop_succ_cons, List.drop_zero])
      refine wpCan_v rfl (fun _ _ _ _ h => h) (.slice rfl) (run_op_slice_lo rfl Try.underlying23 SZByte rfl rfl (by omega) (by omega)) ?_
      (try simp only [Act.put, List.setIfInBounds_toArray, List.set_cons_zero, List.set_cons_succ])
      iterate 5 (first | (refine wpCan_move rfl rfl (fun _ _ _ _ h => h) ?_; (simp only [Act.put, Act.eval, Array.getD_eq_getD_getElem?, List.getElem?_toArray, List.getElem?_cons_zero, List.getElem?_cons_succ, Option.getD_some, List.setIfInBounds_toArray, List.set_cons_zero, List.set_cons_succ])) | (refine wpCan_assign rfl rfl (fun _ _ _ _ h => h) ?_; (simp only [Act.put, Act.eval, Array.getD_eq_getD_getElem?, List.getElem?_toArray, List.getElem?_cons_zero, List.getElem?_cons_succ, Option.getD_some, List.setIfInBounds_toArray, List.set_cons_zero, List.set_cons_succ])) | (refine wpCan_nilCheck rfl rfl rfl (fun _ _ _ _ h => h) ?_; (simp only [Act.put, List.setIfInBounds_toArray, List.set_cons_zero, List.set_cons_succ])) | (refine wpCan_q rfl rfl (fun _ _ _ _ h => h) (by first | exact .bin rfl rfl rfl | exact .indexAddr rfl | exact .un rfl | exact .extract rfl | exact .index rfl | exact .field rfl | exact .slice rfl | exact .conv rfl rfl u64) (fun K hK => ?_); go_simp; (try (simp only [↓IntWalk.iteOmega]; go_simp)); (try go_bits); refine hK _ ?_; clear hK K))
      refine wpCan_e rfl (fun K hK => ?_)
      go_simp
      obtain ⟨T, hT, hTi⟩ : ∃ T : Nat, T = F + i ∧ (F : Int) + i = T := ⟨F + i, rfl, by omega⟩
      have hTb : T < 4294967296 := by omega
      rw [hTi]
      have HT := Lib.hid hT
      clear hT hTi
      refine (Bytes_any 4 T (by omega) (by omega) _).mono ?_
      rintro e w4 ⟨V, rfl, hV, b4⟩
      refine hK _ _ (Keep.of_below b4 (Nat.le_refl _)) ?_
      clear hK K
      have lI := lt_of_block q0
      replace q0 := keep_below (w := wc.drew) b4 lI q0
      replace g0 := keep_below (w := wc.drew) b4 (by have := lt_of_block g0; exact this) g0
      replace g1 := keep_below (w := wc.drew) b4 (by have := lt_of_block g1; exact this) g1
      replace hX := hX.drew.below b4 hX.lt'
      replace hB := hB.drew.trans (b4.mono hB.size)
      obtain ⟨Ab, cb, rfl, htb⟩ := hV.txt
      simp only [beL_len] at htb ⊢
      (try simp only [Act.put, List.setIfInBounds_toArray, List.set_cons_zero, List.set_cons_succ])
      refine wpCan_nil ?_
      refine wpList_copy_txt BT rfl rfl rfl rfl q0 htb (by omega) (by omega) ?_
      (try simp only [Act.put, List.setIfInBounds_toArray, List.set_cons_zero, List.set_cons_succ])
      have r0 := blk_congr (row_self (w := w4) (c' := arr .u8 16 (patch (patch (fun x => 0) 0 12 fun i => m (0 + i)) 12 4 fun i => (((beL 4 T).getD i 0 : Nat) : Int))) q0) (fun i hi => inI_patch m T i hi)
      replace g0 := row_keep (c' := arr .u8 16 (patch (patch (fun x => 0) 0 12 fun i => m (0 + i)) 12 4 fun i => (((beL 4 T).getD i 0 : Nat) : Int))) (g := I) g0 (by omega)
      replace g1 := row_keep (c' := arr .u8 16 (patch (patch (fun x => 0) 0 12 fun i => m (0 + i)) 12 4 fun i => (((beL 4 T).getD i 0 : Nat) : Int))) (g := I) g1 (by omega)
      replace hX := hX.setRow (g := I) (fun k hk => by have := hXI k hk; omega) (arr .u8 16 (patch (patch (fun x => 0) 0 12 fun i => m (0 + i)) 12 4 fun i => (((beL 4 T).getD i 0 : Nat) : Int)))
      replace hB := row_below hB (g := I) (by omega) (arr .u8 16 (patch (patch (fun x => 0) 0 12 fun i => m (0 + i)) 12 4 fun i => (((beL 4 T).getD i 0 : Nat) : Int)))
      clear q0 htb hV b4 lI
      generalize w4.setRow I (arr .u8 16 (patch (patch (fun x => 0) 0 12 fun i => m (0 + i)) 12 4 fun i => (((beL 4 T).getD i 0 : Nat) : Int))) = wd at *
      go_upto_region 17 with (fail)
      (try simp only [Act.put, List.setIfInBounds_toArray, List.set_cons_zero, List.set_cons_succ])
      refine wp_region_lit ?_
      refine wpList_load_arr (g := w.heap.size) rfl rfl rfl RTBlock g0 ?_
      (try simp only [Act.put, List.setIfInBounds_toArray, List.set_cons_zero, List.set_cons_succ])
      refine wpList_load_arr (g := I) rfl rfl rfl RTBlock r0 ?_
      (try simp only [Act.put, List.setIfInBounds_toArray, List.set_cons_zero, List.set_cons_succ])
      go_upto_region 18 with (first | (go_at_call 13; (with_reducible refine (Encrypt_any k _ HK.out (fun i _ => inI_byte m HM.out T i) _).mono ?_); rintro e w5 ⟨rfl, b5⟩) | (refine wpList_new_arr rfl rfl rfl rfl ZTBlock RTBlock rfl rfl ?_; intro w6 gS b6 hs6))
      replace g0 := keep_below b5 (by have := lt_of_block g0; omega) g0
      replace g1 := keep_below b5 (by have := lt_of_block g1; omega) g1
      replace hX := hX.below b5 hX.lt'
      replace hB := hB.trans (b5.mono hB.size)
      replace g0 := keep_below b6 (by have := lt_of_block g0; omega) g0
      replace g1 := keep_below b6 (by have := lt_of_block g1; omega) g1
      replace hX := hX.below b6 hX.lt'
      replace hB := hB.trans (b6.mono hB.size)
      clear b5 b6 hs6 r0
      generalize w5.heap.size = S at *
      (try simp only [Act.put, List.setIfInBounds_toArray, List.set_cons_zero, List.set_cons_succ])
      obtain ⟨u, hu, hui⟩ : ∃ u : Nat, u = 16 * i ∧ 16 * (i : Int) = u := ⟨16 * i, rfl, by omega⟩
      have hut : u + 16 ≤ t := by have := HTT.out; omega
      have HU := Lib.hid hu
      have HUI := Lib.hid hui
      clear hu hui
      obtain ⟨A3, c3, he3, hxt⟩ := hX.txt
      rw [hcl] at he3 hxt
      injection he3 with e1 _ e2
      subst e1 e2
      have hx3 := (hxt.cut hX.cap (show u ≤ u + 16 by omega) hut).drew
      have hSt := ((txt_arr (l := rowL 16 (encI k (inI m T))) gS (rowL_len _ _) (fun j hj => by
        rw [List.getD_eq_getElem?_getD, rowL_get, if_pos hj]
        exact (Int.toNat_of_nonneg (encI_byte k _ j).1).symm)).more (show S + 1 ≤ w6.heap.size from lt_of_block gS)).drew
      have hSL : ∀ x ∈ rowL 16 (encI k (inI m T)), x < 256 := rowL_lt _ _ fun j _ => encI_byte k _ j
      have heq : (List.take (u + 16) (ctrL k m F (List.replicate t 0))).drop u = rowL 16 (encI k (inI m T)) := by
        rw [HU.out, HT.out]
        exact ctrL_zero k m F t i (by have := HU.out; omega)
      rw [heq, Nat.add_sub_cancel_left] at hx3
      clear hxt heq
      go_upto_region 18 with (fail)
      refine wp_region_can w6.heap.size 9 [(0, false), (1, false), (2, false), (3, false), (4, false), (5, false), (6, false), (7, false), (8, true)] (by kernel_rfl) (by kernel_rfl) ?_
      (simp only [canOps, List.getElem?_cons_zero, List.getElem?_cons_succ, List.drop_succ_cons, List.drop_zero])
      iterate 6 (first | (refine wpCan_move rfl rfl (fun _ _ _ _ h => h) ?_; (simp only [Act.put, Act.eval, Array.getD_eq_getD_getElem?, List.getElem?_toArray, List.getElem?_cons_zero, List.getElem?_cons_succ, Option.getD_some, List.setIfInBounds_toArray, List.set_cons_zero, List.set_cons_succ])) | (refine wpCan_assign rfl rfl (fun _ _ _ _ h => h) ?_; (simp only [Act.put, Act.eval, Array.getD_eq_getD_getElem?, List.getElem?_toArray, List.getElem?_cons_zero, List.getElem?_cons_succ, Option.getD_some, List.setIfInBounds_toArray, List.set_cons_zero, List.set_cons_succ])) | (refine wpCan_nilCheck rfl rfl rfl (fun _ _ _ _ h => h) ?_; (simp only [Act.put, List.setIfInBounds_toArray, List.set_cons_zero, List.set_cons_succ])) | (refine wpCan_q rfl rfl (fun _ _ _ _ h => h) (by first | exact .bin rfl rfl rfl | exact .indexAddr rfl | exact .un rfl | exact .extract rfl | exact .index rfl | exact .field rfl | exact .slice rfl) (fun K hK => ?_); go_simp; (try (simp only [↓IntWalk.iteOmega]; go_simp)); (try go_bits); refine hK _ ?_; clear hK K))
      rw [HUI.out]
      refine wpCan_v rfl (fun _ _ _ _ h => h) (.slice rfl) (run_op_cut_lh BT (lo := u) (hi := u + 16) rfl rfl rfl rfl (by omega) (by have := hX.cap; omega)) ?_
      (try simp only [Act.put, List.setIfInBounds_toArray, List.set_cons_zero, List.set_cons_succ])
      refine wpCan_v rfl (fun _ _ _ _ h => h) (.slice rfl) (run_op_slice_all rfl Try.underlying23 SZByte rfl) ?_
      (try simp only [Act.put, List.setIfInBounds_toArray, List.set_cons_zero, List.set_cons_succ])
      refine wpCan_e rfl (fun K hK => ?_)
      go_simp
      refine (Same_txt _ 16 _ _ _ _ _ _ _ _ hx3 hSt hSL hSL).mono ?_
      rintro e w7 ⟨rfl, rfl⟩
      refine hK _ _ (Keep.refl _ _) ?_
      clear hK K
      (try simp only [Act.put, List.setIfInBounds_toArray, List.set_cons_zero, List.set_cons_succ])
      refine wpCan_nil ?_
      go_wp2
      go_roundg (gk - 1)
      case measure => have := HI.out; omega
      case rel =>
        have hI2 := HI.out
        exact ⟨i + 1, by omega, by go_num, g0, g1, hX.drew, hB.drew⟩
    · obtain rfl : i = M := by have := HI.out; omega
      go_wp2
      go_ret
      exact ⟨rfl, hB⟩

theorem AesCounts_any (k : Nat → Int) (hk : ∀ i, i < 16 → 0 ≤ k i ∧ k i < 256) (m : Nat → Int) (hm : ∀ i, i < 12 → 0 ≤ m i ∧ m i < 256) (fr : Int) (hf : 0 ≤ fr ∧ fr < 4294967296) (x : Int) (hx : 0 ≤ x ∧ x < 256) (w : World) :
    Calls Try.prog 8 #[.agg (arr .u8 16 k), .agg (arr .u8 12 m), .int .u32 fr, .int .u8 x] w fun e w' => e = .returned (.bool true) ∧ Below w.heap.size w w' := by
  obtain ⟨F, rfl⟩ : ∃ F : Nat, fr = F := ⟨fr.toNat, by omega⟩
  obtain ⟨M, hM⟩ : ∃ M : Nat, x % 8 = M := ⟨(x % 8).toNat, by omega⟩
  by_cases h : F + M ≤ 4294967296
  · exact AesCounts_yes k m hk hm F (by omega) x M hM (by omega) hx h w
  · exact AesCounts_no k m F (by omega) x M hM (by omega) hx (by omega) w
end Go.Proofs.Ytnckddjlpmkkgaa
