/- The walks of layer 16's pen: keys, lists, and a commit's head. -/
import Derived.Test.YtfbfkfdkigpkgaaFew
import Derived.Test.YtfbfkfdkigpkgaaPen
import Derived.Test.YtfbfkfdkigpkgaaHead
namespace Go.Proofs.Ytfbfkfdkigpkgaa
set_option linter.unusedSimpArgs false
set_option linter.unusedVariables false
open Go.RowKit
attribute [local irreducible] beL beK

theorem FTPen0 : FieldT Try.prog 62 0 := ⟨_, _, 0, Try.underlying62, rfl, by kernel_rfl⟩
theorem txt_byte {w : World} {K : Nat} {e : TypeId} {f : Nat → Nat} (h : w.heap[K]? = some (.cells (arr .u8 32 fun i => ((f i : Nat) : Int)) e (0, 0))) : Txt w (K + 1) (some ⟨K, 0, none⟩) 32 32 (keyL f) := by
  refine ⟨keyL_len f, (fun e => by cases e), fun _ => ⟨_, rfl, Nat.lt_succ_self _, fun i x hx => ?_⟩⟩
  unfold keyL at hx
  rw [List.getElem?_map, Option.map_eq_some_iff] at hx
  obtain ⟨j, hj, rfl⟩ := hx
  have hi : i < 32 := by
    have := (List.getElem?_eq_some_iff.1 hj).1
    simpa using this
  rw [List.getElem?_range hi] at hj
  injection hj with hj
  subst hj
  rw [addr_add, Nat.zero_add, cell_arr h i hi]
  rfl
set_option maxRecDepth 100000 in
set_option maxHeartbeats 2000000 in
theorem key_all (f : Nat → Nat) (g base : Nat) (l : List Nat) (hl : l.length ≤ 70368744177664) (w : World) (hp : Pens w g base l) :
    Calls Try.prog 81 #[.pointer (some ⟨g, 0, none⟩), .agg (arr .u8 32 fun i => ((f i : Nat) : Int))] w (PenAll w g base (l ++ keyL f)) := by
  obtain ⟨hlow, hs, v, hpen, hown⟩ := hp
  have HL := Lib.hid hl
  clear hl
  go_enter Try.func81, Try.ntmps81
  have g0 := heap_alloc_new w (.cells (arr .u8 32 fun i => ((f i : Nat) : Int)) 37)
  have hb : Below w.heap.size w (w.alloc (.cells (arr .u8 32 fun i => ((f i : Nat) : Int)) 37)) := (Below.refl _ _).alloc (Nat.le_refl _) _
  have hpen2 : Pen _ g v := keep_below hb (lt_of_block hpen) hpen
  have hown2 := hown.below hb (fun k hk => (hown.lt k hk).2)
  have hs2 : base ≤ (w.alloc (.cells (arr .u8 32 fun i => ((f i : Nat) : Int)) 37)).heap.size := Nat.le_trans hs hb.size
  go_upto_region 1 with (fail)
  generalize w.alloc (.cells (arr .u8 32 fun i => ((f i : Nat) : Int)) 37) = wa at *
  have ht := (txt_byte g0).more (show w.heap.size + 1 ≤ wa.heap.size from lt_of_block g0)
  have c0 := pen_cell0 hpen2
  have HP := Lib.hid hpen2
  have HO := Lib.hid hown2
  have HT := Lib.hid ht
  clear hown hpen hpen2 hown2 ht g0
  (try simp only [Act.put, List.setIfInBounds_toArray, List.set_cons_zero, List.set_cons_succ])
  refine wp_region_can base 9 [(0, false), (1, false), (2, false), (3, false), (5, false), (4, true), (6, true), (7, false), (8, false)] (by kernel_rfl) (by kernel_rfl) ?_
  (simp only [canOps, List.getElem?_cons_zero, List.getElem?_cons_succ, List.drop_succ_cons, List.drop_zero])
  iterate 4 (first | (refine wpCan_move rfl rfl (fun _ _ _ _ h => h) ?_; (simp only [Act.put, Act.eval, Array.getD_eq_getD_getElem?, List.getElem?_toArray, List.getElem?_cons_zero, List.getElem?_cons_succ, Option.getD_some, List.setIfInBounds_toArray, List.set_cons_zero, List.set_cons_succ])) | (refine wpCan_assign rfl rfl (fun _ _ _ _ h => h) ?_; (simp only [Act.put, Act.eval, Array.getD_eq_getD_getElem?, List.getElem?_toArray, List.getElem?_cons_zero, List.getElem?_cons_succ, Option.getD_some, List.setIfInBounds_toArray, List.set_cons_zero, List.set_cons_succ])) | (refine wpCan_nilCheck rfl rfl rfl (fun _ _ _ _ h => h) ?_; (simp only [Act.put, List.setIfInBounds_toArray, List.set_cons_zero, List.set_cons_succ])) | (refine wpCan_q rfl rfl (fun _ _ _ _ h => h) (by first | exact .bin rfl rfl rfl | exact .indexAddr rfl | exact .un rfl | exact .extract rfl | exact .index rfl | exact .field rfl | exact .slice rfl | exact .fieldT rfl FTPen0) (fun K hK => ?_); go_simp; (try (simp only [↓IntWalk.iteOmega]; go_simp)); (try go_bits); refine hK _ ?_; clear hK K))
  refine wpCan_v rfl (fun _ _ _ _ h => h) (.slice rfl) (run_op_slice_all rfl Try.underlying37 (sz := 1) (by kernel_rfl) rfl) ?_
  (try simp only [Act.put, List.setIfInBounds_toArray, List.set_cons_zero, List.set_cons_succ])
  refine wpCan_e rfl (fun K hK => ?_)
  go_simp
  refine hK _ _ (Keep.refl _ _) ?_
  clear hK K
  (try simp only [Act.put, List.setIfInBounds_toArray, List.set_cons_zero, List.set_cons_succ])
  refine wpCan_e rfl (fun K hK => ?_)
  refine oper_append_txt (v := v) rfl BT rfl rfl HO.out.drew HT.out.drew (by have := HL.out; omega) hs2 ?_
  intro v' w3 ho3 hg3 hat3
  obtain ⟨hpen3, hpens, hbl, hkp⟩ := pen_wrote (w := wa.drew) HP.out HO.out.drew ho3 hg3 hat3 hlow hs2
  refine hK _ _ (Keep.of_below (own_below (B := base) (Below.refl _ _) HO.out.drew hg3 (Nat.le_refl _) hs2) (Nat.le_refl _)) ?_
  clear hK K
  have c3 := pen_cell0 hpen3
  have f3 := pen_free hpen3 0
  obtain ⟨A3, n3, rfl, ht3⟩ := ho3.txt
  rw [List.length_append] at hpens hbl hkp
  clear ht3 ho3 hg3 hat3
  rw [List.length_append]
  (try simp only [Act.put, List.setIfInBounds_toArray, List.set_cons_zero, List.set_cons_succ])
  iterate 2 (first | (refine wpCan_move rfl rfl (fun _ _ _ _ h => h) ?_; (simp only [Act.put, Act.eval, Array.getD_eq_getD_getElem?, List.getElem?_toArray, List.getElem?_cons_zero, List.getElem?_cons_succ, Option.getD_some, List.setIfInBounds_toArray, List.set_cons_zero, List.set_cons_succ])) | (refine wpCan_assign rfl rfl (fun _ _ _ _ h => h) ?_; (simp only [Act.put, Act.eval, Array.getD_eq_getD_getElem?, List.getElem?_toArray, List.getElem?_cons_zero, List.getElem?_cons_succ, Option.getD_some, List.setIfInBounds_toArray, List.set_cons_zero, List.set_cons_succ])) | (refine wpCan_nilCheck rfl rfl rfl (fun _ _ _ _ h => h) ?_; (simp only [Act.put, List.setIfInBounds_toArray, List.set_cons_zero, List.set_cons_succ])) | (refine wpCan_q rfl rfl (fun _ _ _ _ h => h) (by first | exact .bin rfl rfl rfl | exact .indexAddr rfl | exact .un rfl | exact .extract rfl | exact .index rfl | exact .field rfl | exact .slice rfl | exact .fieldT rfl FTPen0) (fun K hK => ?_); go_simp; (try (simp only [↓IntWalk.iteOmega]; go_simp)); (try go_bits); refine hK _ ?_; clear hK K))
  refine wpCan_nil ?_
  go_wp2
  go_end0
  exact ⟨rfl, hpens, hbl base w (Nat.le_refl _) (hb.drew.mono hs), (PenKeep.below hb).trans hkp⟩
theorem num1 (n : Nat) (hf : n < 256) (g base : Nat) (l : List Nat) (hl : l.length ≤ 70368744177664) (w : World) (hp : Pens w g base l) :
    Calls Try.prog 36 #[.pointer (some ⟨g, 0, none⟩), .int .i64 1, .int .u64 n] w (PenAll w g base (l ++ beL 1 n)) := num_all 1 n (by omega) (by omega) (by omega) (by omega) g base l hl w hp
theorem num2 (n : Nat) (hf : n < 65536) (g base : Nat) (l : List Nat) (hl : l.length ≤ 70368744177664) (w : World) (hp : Pens w g base l) :
    Calls Try.prog 36 #[.pointer (some ⟨g, 0, none⟩), .int .i64 2, .int .u64 n] w (PenAll w g base (l ++ beL 2 n)) := num_all 2 n (by omega) (by omega) (by omega) (by omega) g base l hl w hp
theorem num4 (n : Nat) (hf : n < 4294967296) (g base : Nat) (l : List Nat) (hl : l.length ≤ 70368744177664) (w : World) (hp : Pens w g base l) :
    Calls Try.prog 36 #[.pointer (some ⟨g, 0, none⟩), .int .i64 4, .int .u64 n] w (PenAll w g base (l ++ beL 4 n)) := num_all 4 n (by omega) (by omega) (by omega) (by omega) g base l hl w hp
theorem num8 (n : Nat) (hf : n < 18446744073709551616) (g base : Nat) (l : List Nat) (hl : l.length ≤ 70368744177664) (w : World) (hp : Pens w g base l) :
    Calls Try.prog 36 #[.pointer (some ⟨g, 0, none⟩), .int .i64 8, .int .u64 n] w (PenAll w g base (l ++ beL 8 n)) := num_all 8 n (by omega) (by omega) (by omega) (by omega) g base l hl w hp

theorem Pens.after {w w' : World} {g base : Nat} {l : List Nat} (h : Pens w g base l) (hb : Below w.heap.size w w') : Pens w' g base l := by
  obtain ⟨h1, h2, v, h3, h4⟩ := h
  exact ⟨h1, Nat.le_trans h2 hb.size, v, (hb.block g (lt_of_block h3)).trans h3, h4.below hb (fun k hk => (h4.lt k hk).2)⟩
theorem Pens.lt {w : World} {g base : Nat} {l : List Nat} (h : Pens w g base l) : g < w.heap.size := by
  obtain ⟨_, _, v, h3, _⟩ := h
  exact lt_of_block h3
/-- The pen's place, in a variable. -/
def PenVar (w : World) (P g : Nat) : Prop := w.heap[P]? = some (.cells #[.pointer (some ⟨g, 0, none⟩)] 60 (0, 0))
theorem PenVar.cell {w : World} {P g : Nat} (h : PenVar w P g) : w.cell? ⟨P, 0, none⟩ = some (.pointer (some ⟨g, 0, none⟩)) := by rw [cell_of_row _ _ _ _ _ _ h]; rfl
theorem PenVar.keep {w w' : World} {P g : Nat} (h : PenVar w P g) (hk : PenKeep w w' g) (hne : P ≠ g) : PenVar w' P g := hk P _ _ _ h hne (by decide)
theorem PenVar.after {w w' : World} {P g : Nat} (h : PenVar w P g) (hb : Below w.heap.size w w') : PenVar w' P g := (hb.block P (lt_of_block h)).trans h

end Go.Proofs.Ytfbfkfdkigpkgaa
