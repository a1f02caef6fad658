/- The walks of layer 16's pen: keys, lists, and a commit's head. The walks of layer 16's pen: a commit's parts, one by one, and in lists. The walks of layer 16's pen: steps, and a commit's head. The walks of layer 16: a welcome's text. Layer 16: whatever a welcome or a frame, the program's text and the reference's. The walk of layer 16: a commit's head. The walks of layer 16: what any bytes are, as a commit. The walks of layer 16: what any bytes are, as a commit: its parts. The walk of layer 16's reference: a commit's head. The walks of layer 16: a commit's text. Proposals, steps, rows held against each other (layer 16). The walks of layer 16: slices held against each other. The walks of layer 16: steps held against each other. The walk of layer 16: whether two commits are the same. What was read is, written, what stood there; what is written is read (layer 16, plain). The walks of layer 16: what any bytes are, told by an equation; what was read, written (contracts). What is written is read: a commit, a welcome, a frame (layer 16, plain). The walks of layer 16: frames, and welcomes, held against themselves; how long a slice is, in an order of the prover's. Old contracts, told over 'Sep': texts that are copied, messages that are read. The walks of layer 22: letters, whether a server may be. -/
import Derived.Test.YteefhbpmeajbfaaServerOrderC
import Derived.WalkKit
import Derived.WalkSpells
import Derived.WalkLawsBesides
import Derived.Deep.QuietTactic
import Derived.BigQuiet
import Derived.StillTailTactics
import Derived.Lib.Hide
import Derived.Deep.LoopGhost
import Derived.Outline
import Derived.Deep.DeepFit
import Derived.Deep.RegionHeld3
import Derived.Deep.RegionLaw
import Derived.OrdersHeld
import Derived.Laws.StructEq
import Derived.Maps.AppendAt
import Derived.Deep.AppendLies
import Derived.Deep.Draws
import Derived.Laws.OwnMore
import Derived.Laws.AppendOwnNone
import Derived.OwnWalk
import Derived.Below
import Derived.Deep.Cut
import Derived.Deep.CutBlock
import Derived.Deep.CutRange
import Derived.DataElems
import Derived.Great.BuildSlice
import Derived.Laws.Entries
import Derived.Laws.Tables
import Derived.SizedLaws
import Derived.Lib.SliceRun
import Derived.Laws.Small
import Derived.Great.Walk
import Derived.Test.YteefhbpmeajbfaaRows
import Derived.Laws.IdiomStrings
import Derived.Lib.Tables
import Derived.Lib.BitFns
import Derived.Laws.Bits64b
namespace Go.Proofs.Yteefhbpmeajbfaa
set_option linter.unusedSimpArgs false
set_option linter.unusedVariables false
open Go.RowKit
attribute [local irreducible] beL beK
theorem FTPen0 : FieldT Try.prog 110 0 := ⟨_, _, 0, Try.underlying110, rfl, by kernel_rfl⟩
theorem txt_byte {w : World} {K : Nat} {e : TypeId} {f : Nat → Nat} (h : w.heap[K]? = some (.cells (arr .u8 32 fun i => ((f i : Nat) : Int)) e (0, 0))) : Txt w (K + 1) (some ⟨K, 0, none⟩) 32 32 (keyL f) := by
  refine ⟨keyL_len f, (fun e => by cases e), fun _ => ⟨_, rfl, Nat.lt_succ_self _, fun i x hx => ?_⟩⟩
  unfold keyL at hx
  rw [List.getElem?_map, Option.map_eq_some_iff] at hx
  obtain ⟨j, hj, rfl⟩ := hx
  have hi : i < 32 := by
    have := (List.getElem?_eq_some_iff.1 hj).1
    simpa using this
  rw [List.getElem?_range hi] at hj
  injection hj with hj
  subst hj
  rw [addr_add, Nat.zero_add, cell_arr h i hi]
  rfl
set_option maxRecDepth 100000 in
set_option maxHeartbeats 2000000 in
theorem key_all (f : Nat → Nat) (g base : Nat) (l : List Nat) (hl : l.length ≤ 70368744177664) (w : World) (hp : Pens w g base l) :
    Calls Try.prog 97 #[.pointer (some ⟨g, 0, none⟩), .agg (arr .u8 32 fun i => ((f i : Nat) : Int))] w (PenAll w g base (l ++ keyL f)) := by
  obtain ⟨hlow, hs, v, hpen, hown⟩ := hp
  have HL := Lib.hid hl
  clear hl
  go_enter Try.func97, Try.ntmps97
  have g0 := heap_alloc_new w (.cells (arr .u8 32 fun i => ((f i : Nat) : Int)) 36)
  have hb : Below w.heap.size w (w.alloc (.cells (arr .u8 32 fun i => ((f i : Nat) : Int)) 36)) := (Below.refl _ _).alloc (Nat.le_refl _) _
  have hpen2 : Pen _ g v := keep_below hb (lt_of_block hpen) hpen
  have hown2 := hown.below hb (fun k hk => (hown.lt k hk).2)
  have hs2 : base ≤ (w.alloc (.cells (arr .u8 32 fun i => ((f i : Nat) : Int)) 36)).heap.size := Nat.le_trans hs hb.size
  go_upto_region 1 with (fail)
  generalize w.alloc (.cells (arr .u8 32 fun i => ((f i : Nat) : Int)) 36) = wa at *
  have ht := (txt_byte g0).more (show w.heap.size + 1 ≤ wa.heap.size from lt_of_block g0)
  have c0 := pen_cell0 hpen2
  have HP := Lib.hid hpen2
  have HO := Lib.hid hown2
  have HT := Lib.hid ht
  clear hown hpen hpen2 hown2 ht g0
  (try simp only [Act.put, List.setIfInBounds_toArray, List.set_cons_zero, List.set_cons_succ])
  refine wp_region_can base 9 [(0, false), (1, false), (2, false), (3, false), (5, false), (4, true), (6, true), (7, false), (8, false)] (by kernel_rfl) (by kernel_rfl) ?_
  (simp only [canOps, List.getElem?_cons_zero, List.getElem?_cons_succ, List.drop_succ_cons, List.drop_zero])
  iterate 4 (first | (refine wpCan_move rfl rfl (fun _ _ _ _ h => h) ?_; (simp only [Act.put, Act.eval, Array.getD_eq_getD_getElem?, List.getElem?_toArray, List.getElem?_cons_zero, List.getElem?_cons_succ, Option.getD_some, List.setIfInBounds_toArray, List.set_cons_zero, List.set_cons_succ])) | (refine wpCan_assign rfl rfl (fun _ _ _ _ h => h) ?_; (simp only [Act.put, Act.eval, Array.getD_eq_getD_getElem?, List.getElem?_toArray, List.getElem?_cons_zero, List.getElem?_cons_succ, Option.getD_some, List.setIfInBounds_toArray, List.set_cons_zero, List.set_cons_succ])) | (refine wpCan_nilCheck rfl rfl rfl (fun _ _ _ _ h => h) ?_; (simp only [Act.put, List.setIfInBounds_toArray, List.set_cons_zero, List.set_cons_succ])) | (refine wpCan_q rfl rfl (fun _ _ _ _ h => h) (by first | exact .bin rfl rfl rfl | exact .indexAddr rfl | exact .un rfl | exact .extract rfl | exact .index rfl | exact .field rfl | exact .slice rfl | exact .fieldT rfl FTPen0) (fun K hK => ?_); go_simp; (try (simp only [↓IntWalk.iteOmega]; go_simp)); (try go_bits); refine hK _ ?_; clear hK K))
  refine wpCan_v rfl (fun _ _ _ _ h => h) (.slice rfl) (run_op_slice_all rfl Try.underlying36 (sz := 1) (by kernel_rfl) rfl) ?_
  (try simp only [Act.put, List.setIfInBounds_toArray, List.set_cons_zero, List.set_cons_succ])
  refine wpCan_e rfl (fun K hK => ?_)
  go_simp
  refine hK _ _ (Keep.refl _ _) ?_
  clear hK K
  (try simp only [Act.put, List.setIfInBounds_toArray, List.set_cons_zero, List.set_cons_succ])
  refine wpCan_e rfl (fun K hK => ?_)
  refine oper_append_txt (v := v) rfl BT rfl rfl HO.out.drew HT.out.drew (by have := HL.out; omega) hs2 ?_
  intro v' w3 ho3 hg3 hat3
  obtain ⟨hpen3, hpens, hbl, hkp⟩ := pen_wrote (w := wa.drew) HP.out HO.out.drew ho3 hg3 hat3 hlow hs2
  refine hK _ _ (Keep.of_below (own_below (B := base) (Below.refl _ _) HO.out.drew hg3 (Nat.le_refl _) hs2) (Nat.le_refl _)) ?_
  clear hK K
  have c3 := pen_cell0 hpen3
  have f3 := pen_free hpen3 0
  obtain ⟨A3, n3, rfl, ht3⟩ := ho3.txt
  rw [List.length_append] at hpens hbl hkp
  clear ht3 ho3 hg3 hat3
  rw [List.length_append]
  (try simp only [Act.put, List.setIfInBounds_toArray, List.set_cons_zero, List.set_cons_succ])
  iterate 2 (first | (refine wpCan_move rfl rfl (fun _ _ _ _ h => h) ?_; (simp only [Act.put, Act.eval, Array.getD_eq_getD_getElem?, List.getElem?_toArray, List.getElem?_cons_zero, List.getElem?_cons_succ, Option.getD_some, List.setIfInBounds_toArray, List.set_cons_zero, List.set_cons_succ])) | (refine wpCan_assign rfl rfl (fun _ _ _ _ h => h) ?_; (simp only [Act.put, Act.eval, Array.getD_eq_getD_getElem?, List.getElem?_toArray, List.getElem?_cons_zero, List.getElem?_cons_succ, Option.getD_some, List.setIfInBounds_toArray, List.set_cons_zero, List.set_cons_succ])) | (refine wpCan_nilCheck rfl rfl rfl (fun _ _ _ _ h => h) ?_; (simp only [Act.put, List.setIfInBounds_toArray, List.set_cons_zero, List.set_cons_succ])) | (refine wpCan_q rfl rfl (fun _ _ _ _ h => h) (by first | exact .bin rfl rfl rfl | exact .indexAddr rfl | exact .un rfl | exact .extract rfl | exact .index rfl | exact .field rfl | exact .slice rfl | exact .fieldT rfl FTPen0) (fun K hK => ?_); go_simp; (try (simp only [↓IntWalk.iteOmega]; go_simp)); (try go_bits); refine hK _ ?_; clear hK K))
  refine wpCan_nil ?_
  go_wp2
  go_end0
  exact ⟨rfl, hpens, hbl base w (Nat.le_refl _) (hb.drew.mono hs), (PenKeep.below hb).trans hkp⟩
theorem num1 (n : Nat) (hf : n < 256) (g base : Nat) (l : List Nat) (hl : l.length ≤ 70368744177664) (w : World) (hp : Pens w g base l) :
    Calls Try.prog 94 #[.pointer (some ⟨g, 0, none⟩), .int .i64 1, .int .u64 n] w (PenAll w g base (l ++ beL 1 n)) := num_all 1 n (by omega) (by omega) (by omega) (by omega) g base l hl w hp
theorem num2 (n : Nat) (hf : n < 65536) (g base : Nat) (l : List Nat) (hl : l.length ≤ 70368744177664) (w : World) (hp : Pens w g base l) :
    Calls Try.prog 94 #[.pointer (some ⟨g, 0, none⟩), .int .i64 2, .int .u64 n] w (PenAll w g base (l ++ beL 2 n)) := num_all 2 n (by omega) (by omega) (by omega) (by omega) g base l hl w hp
theorem num4 (n : Nat) (hf : n < 4294967296) (g base : Nat) (l : List Nat) (hl : l.length ≤ 70368744177664) (w : World) (hp : Pens w g base l) :
    Calls Try.prog 94 #[.pointer (some ⟨g, 0, none⟩), .int .i64 4, .int .u64 n] w (PenAll w g base (l ++ beL 4 n)) := num_all 4 n (by omega) (by omega) (by omega) (by omega) g base l hl w hp
theorem num8 (n : Nat) (hf : n < 18446744073709551616) (g base : Nat) (l : List Nat) (hl : l.length ≤ 70368744177664) (w : World) (hp : Pens w g base l) :
    Calls Try.prog 94 #[.pointer (some ⟨g, 0, none⟩), .int .i64 8, .int .u64 n] w (PenAll w g base (l ++ beL 8 n)) := num_all 8 n (by omega) (by omega) (by omega) (by omega) g base l hl w hp

theorem Pens.after {w w' : World} {g base : Nat} {l : List Nat} (h : Pens w g base l) (hb : Below w.heap.size w w') : Pens w' g base l := by
  obtain ⟨h1, h2, v, h3, h4⟩ := h
  exact ⟨h1, Nat.le_trans h2 hb.size, v, (hb.block g (lt_of_block h3)).trans h3, h4.below hb (fun k hk => (h4.lt k hk).2)⟩
theorem Pens.lt {w : World} {g base : Nat} {l : List Nat} (h : Pens w g base l) : g < w.heap.size := by
  obtain ⟨_, _, v, h3, _⟩ := h
  exact lt_of_block h3
/-- The pen's place, in a variable. -/
def PenVar (w : World) (P g : Nat) : Prop := w.heap[P]? = some (.cells #[.pointer (some ⟨g, 0, none⟩)] 109 (0, 0))
theorem PenVar.cell {w : World} {P g : Nat} (h : PenVar w P g) : w.cell? ⟨P, 0, none⟩ = some (.pointer (some ⟨g, 0, none⟩)) := by rw [cell_of_row _ _ _ _ _ _ h]; rfl
theorem PenVar.keep {w w' : World} {P g : Nat} (h : PenVar w P g) (hk : PenKeep w w' g) (hne : P ≠ g) : PenVar w' P g := hk P _ _ _ h hne (by decide)
theorem PenVar.after {w w' : World} {P g : Nat} (h : PenVar w P g) (hb : Below w.heap.size w w') : PenVar w' P g := (hb.block P (lt_of_block h)).trans h

end Go.Proofs.Yteefhbpmeajbfaa
namespace Go.Proofs.Yteefhbpmeajbfaa
set_option linter.unusedSimpArgs false
set_option linter.unusedVariables false
open Go.RowKit
attribute [local irreducible] beL beK keyL
set_option maxRecDepth 100000 in
set_option maxHeartbeats 2000000 in
theorem oneProp (kind id : Int) (pt : Nat → Nat) (hok : OkProp kind id pt) (P g base : Nat) (l : List Nat) (hl : l.length ≤ 35184372088832) (w : World) (hp : Pens w g base l) (hP : PenVar w P g) (hne : P ≠ g) :
    Calls Try.prog 96 #[.agg (arrV 34 (propV kind id pt)), .pointer (some ⟨P, 0, none⟩)] w (PenAll w g base (l ++ propL kind id pt)) := by
  obtain ⟨k1, k3, ⟨i0, i1⟩, -⟩ := hok
  obtain ⟨K, rfl⟩ : ∃ K : Nat, kind = K := ⟨kind.toNat, by omega⟩
  obtain ⟨I, rfl⟩ : ∃ I : Nat, id = I := ⟨id.toNat, by omega⟩
  have hgl := hp.lt
  go_enter Try.func96, Try.ntmps96
  have g0 := heap_alloc_new w (.cells (arrV 34 (propV K I pt)) 79)
  have hb : Below w.heap.size w (w.alloc (.cells (arrV 34 (propV K I pt)) 79)) := (Below.refl _ _).alloc (Nat.le_refl _) _
  have hbs := hp.size
  replace hp := hp.after hb
  replace hP := hP.after hb
  have hk : PenKeep w _ g := PenKeep.below hb
  replace hb := hb.mono hbs
  have c0 := cell_arrV g0 0 (by omega)
  replace c0 : _ = some (Value.int .i64 K) := c0
  have cP := hP.cell
  go_upto_region 2 with (go_at_call 94; (with_reducible refine (num1 K (by omega) g base l (by omega) _ hp).mono ?_); rintro e w2 ⟨rfl, hp, b2, k2⟩)
  replace g0 := k2 _ _ _ _ g0 (by omega) (by decide)
  replace hP := hP.keep k2 hne
  replace hk := hk.trans k2
  replace hb := hb.trans b2
  have cP := hP.cell
  have c1 := cell_arrV g0 1 (by omega)
  replace c1 : _ = some (Value.int .i64 I) := c1
  clear c0
  have hl2 : (l ++ beL 1 K).length ≤ 35184372088840 := by rw [List.length_append, beL_len]; omega
  go_upto_region 3 with (go_at_call 94; (with_reducible refine (num4 I (by omega) g base (l ++ beL 1 K) (by omega) _ hp).mono ?_); rintro e w3 ⟨rfl, hp, b3, k3⟩)
  replace g0 := k3 _ _ _ _ g0 (by omega) (by decide)
  replace hP := hP.keep k3 hne
  replace hk := hk.trans k3
  replace hb := hb.trans b3
  have cP := hP.cell
  clear c1
  have hl3 : (l ++ beL 1 K ++ beL 4 I).length ≤ 35184372088850 := by rw [List.length_append, beL_len]; omega
  go_wp2_with (first | (refine wpList_load_part (k := .u8) (fun i => ((pt i : Nat) : Int)) rfl rfl RTKey rfl g0 (by omega) (fun i hi => by unfold propV; rw [if_neg (by omega), if_neg (by omega), show 2 + i - 2 = i from by omega]) ?_) | (go_at_call 97; (with_reducible refine (key_all pt g base (l ++ beL 1 K ++ beL 4 I) (by omega) _ hp).mono ?_); rintro e w4 ⟨rfl, hp, b4, k4⟩))
  go_end0
  refine ⟨rfl, ?_, hb.trans b4, hk.trans k4⟩
  unfold propL
  rw [Int.toNat_natCast, Int.toNat_natCast, ← List.append_assoc, ← List.append_assoc]
  exact hp

set_option maxRecDepth 100000 in
set_option maxHeartbeats 2000000 in
theorem onePlace (v : Int) (hok : OkPlace v) (P g base : Nat) (l : List Nat) (hl : l.length ≤ 35184372088832) (w : World) (hp : Pens w g base l) (hP : PenVar w P g) (hne : P ≠ g) :
    Calls Try.prog 101 #[.int .i64 v, .pointer (some ⟨P, 0, none⟩)] w (PenAll w g base (l ++ beL 2 v.toNat)) := by
  obtain ⟨v0, v1⟩ := hok
  obtain ⟨V, rfl⟩ : ∃ V : Nat, v = V := ⟨v.toNat, by omega⟩
  rw [Int.toNat_natCast]
  go_enter Try.func101, Try.ntmps101
  have cP := hP.cell
  go_wp2_with (go_at_call 94; (with_reducible refine (num2 V (by omega) g base l (by omega) _ hp).mono ?_); rintro e w2 ⟨rfl, hp, b2, k2⟩)
  go_end0
  exact ⟨rfl, hp, b2, k2⟩

set_option maxRecDepth 100000 in
set_option maxHeartbeats 2000000 in
theorem listInt (A : Option Addr) (n c : Nat) (v : Nat → Int) (P g base : Nat) (l : List Nat) (hl : l.length ≤ 17592186044416) (hn : n ≤ 4000) (w : World) (h : Els w base A n 1 (fun j _ => .int .i64 (v j))) (hok : ∀ i, i < n → OkPlace (v i)) (hp : Pens w g base l) (hP : PenVar w P g) (hne : P ≠ g) :
    Calls Try.prog 100 #[.pointer (some ⟨g, 0, none⟩), .slice A n c, .func (.func 101) #[] #[.pointer (some ⟨P, 0, none⟩)]] w (PenAll w g base (l ++ (beL 2 n ++ (List.range n).flatMap fun i => beL 2 (v i).toNat))) := by
  have H0 := Lib.hid h
  have HOK := Lib.hid hok
  clear h hok
  go_enter Try.func100, Try.ntmps100
  go_upto_region 1 with (go_at_call 94; (with_reducible refine (num2 n (by omega) g base l (by omega) _ hp).mono ?_); rintro e w2 ⟨rfl, hp, b2, k2⟩)
  replace hP := hP.keep k2 hne
  go_wp2
  go_loopg [15] n (fun r x wr => ∃ i : Nat, i + r = n ∧ x = .int .i64 i ∧ Pens wr g base (l ++ beL 2 n ++ (List.range i).flatMap fun i => beL 2 (v i).toNat) ∧ PenVar wr P g ∧ Below base w wr ∧ PenKeep w wr g)
  case atStart => exact ⟨0, by omega, rfl, by simpa using hp, hP, b2, k2⟩
  case round =>
    clear hp hP b2 k2
    obtain ⟨i, hi, rfl, hp, hP, hb, hk⟩ := hrel
    have HI := Lib.hid hi
    clear hi
    have hs := hp.size
    by_cases hlt : i < n
    · obtain ⟨ad, rfl, hab, hc⟩ := (H0.out.below hb).cell hlt
      have hoki := HOK.out i hlt
      have hlen : (l ++ beL 2 n ++ (List.range i).flatMap fun i => beL 2 (v i).toNat).length ≤ 17592186060000 := by
        have h1 : ((List.range i).flatMap fun i => beL 2 (v i).toNat).length ≤ 2 * i := flat_len _ 2 i fun j hj => by rw [beL_len]; exact Nat.le_refl _
        rw [List.length_append, List.length_append, beL_len]
        omega
      obtain ⟨ll, hll⟩ : ∃ ll, ll = (l ++ beL 2 n ++ (List.range i).flatMap fun i => beL 2 (v i).toNat) := ⟨_, rfl⟩
      rw [← hll] at hp hlen
      have HLL := Lib.hid hll
      clear hll
      replace hc : wr.cell? (ad.add (i * 1)) = some (.int .i64 (v i)) := by have := hc 0 (by omega); rwa [addr_add_zero] at this
      go_wp2_with (first | (refine wpList_el rfl rfl Try.underlying24 (sz := 1) (by kernel_rfl) rfl rfl hlt ?_) | (refine wpList_load1 rfl rfl Try.underlying3 rfl rfl hc ?_) | (go_at_call 101; (with_reducible refine (onePlace (v i) hoki P g base ll (by omega) _ hp hP hne).mono ?_); rintro e w3 ⟨rfl, hp, b3, k3⟩))
      go_roundg (gk - 1)
      case measure => have := HI.out; omega
      case rel =>
        have hI := HI.out
        refine ⟨i + 1, by omega, by go_num, ?_, hP.keep k3 hne, hb.trans b3, hk.trans k3⟩
        rw [flat_succ, ← List.append_assoc, ← HLL.out]
        exact hp
    · obtain rfl : i = n := by have := HI.out; omega
      go_wp2
      go_end0
      refine ⟨rfl, ?_, hb, hk⟩
      rw [← List.append_assoc]
      exact hp
theorem ZVProp : ZeroV Try.prog 79 34 (arrV 34 (propV 0 0 fun _ => 0)) := ⟨by kernel_rfl, by rw [arrV_size]⟩

set_option maxRecDepth 100000 in
set_option maxHeartbeats 2000000 in
theorem listProp (A : Option Addr) (n c : Nat) (kind id : Nat → Int) (pt : Nat → Nat → Nat) (P g base : Nat) (l : List Nat) (hl : l.length ≤ 17592186044416) (hn : n ≤ 4000) (w : World) (h : Els w base A n 34 (fun i => propV (kind i) (id i) (pt i))) (hok : ∀ i, i < n → OkProp (kind i) (id i) (pt i)) (hp : Pens w g base l) (hP : PenVar w P g) (hne : P ≠ g) :
    Calls Try.prog 95 #[.pointer (some ⟨g, 0, none⟩), .slice A n c, .func (.func 96) #[] #[.pointer (some ⟨P, 0, none⟩)]] w (PenAll w g base (l ++ (beL 2 n ++ (List.range n).flatMap fun i => propL (kind i) (id i) (pt i)))) := by
  have H0 := Lib.hid h
  have HOK := Lib.hid hok
  clear h hok
  go_enter Try.func95, Try.ntmps95
  go_upto_region 1 with (go_at_call 94; (with_reducible refine (num2 n (by omega) g base l (by omega) _ hp).mono ?_); rintro e w2 ⟨rfl, hp, b2, k2⟩)
  replace hP := hP.keep k2 hne
  go_wp2
  go_loopg [15] n (fun r x wr => ∃ i : Nat, i + r = n ∧ x = .int .i64 i ∧ Pens wr g base (l ++ beL 2 n ++ (List.range i).flatMap fun i => propL (kind i) (id i) (pt i)) ∧ PenVar wr P g ∧ Below base w wr ∧ PenKeep w wr g)
  case atStart => exact ⟨0, by omega, rfl, by simpa using hp, hP, b2, k2⟩
  case round =>
    clear hp hP b2 k2
    obtain ⟨i, hi, rfl, hp, hP, hb, hk⟩ := hrel
    have HI := Lib.hid hi
    clear hi
    have hs := hp.size
    by_cases hlt : i < n
    · obtain ⟨ad, rfl, hab, hc⟩ := (H0.out.below hb).cell hlt
      have hoki := HOK.out i hlt
      have hlen : (l ++ beL 2 n ++ (List.range i).flatMap fun i => propL (kind i) (id i) (pt i)).length ≤ 17592186250000 := by
        have h1 : ((List.range i).flatMap fun i => propL (kind i) (id i) (pt i)).length ≤ 37 * i := flat_len _ 37 i fun j hj => by rw [propL_len]; exact Nat.le_refl _
        rw [List.length_append, List.length_append, beL_len]
        omega
      obtain ⟨ll, hll⟩ : ∃ ll, ll = (l ++ beL 2 n ++ (List.range i).flatMap fun i => propL (kind i) (id i) (pt i)) := ⟨_, rfl⟩
      rw [← hll] at hp hlen
      have HLL := Lib.hid hll
      clear hll
      go_wp2_with (first | (refine wpList_el rfl rfl Try.underlying34 (sz := 34) (by kernel_rfl) rfl rfl hlt ?_) | (refine wpList_load_at (n := 34) rfl rfl RTProp rfl hc ?_) | (refine wpList_newV rfl rfl rfl rfl ZVProp RTProp rfl rfl (fun _ _ => propV_one _ _ _ _) ?_; intro w2 g2 bw hsw; replace hp := hp.after bw; replace hP := hP.after bw; replace hb := hb.trans (bw.mono hs); replace hk := hk.trans (PenKeep.below bw)) | (refine wpList_load_all rfl rfl RTProp rfl g2 ?_) | (go_at_call 96; (with_reducible refine (oneProp (kind i) (id i) (pt i) hoki P g base ll (by omega) _ hp hP hne).mono ?_); rintro e w3 ⟨rfl, hp, b3, k3⟩))
      go_roundg (gk - 1)
      case measure => have := HI.out; omega
      case rel =>
        have hI := HI.out
        refine ⟨i + 1, by omega, by go_num, ?_, hP.keep k3 hne, hb.trans b3, hk.trans k3⟩
        rw [flat_succ, ← List.append_assoc, ← HLL.out]
        exact hp
    · obtain rfl : i = n := by have := HI.out; omega
      go_wp2
      go_end0
      refine ⟨rfl, ?_, hb, hk⟩
      rw [← List.append_assoc]
      exact hp
end Go.Proofs.Yteefhbpmeajbfaa
namespace Go.Proofs.Yteefhbpmeajbfaa
set_option linter.unusedSimpArgs false
set_option linter.unusedVariables false
open Go.RowKit
attribute [local irreducible] beL beK keyL
set_option maxRecDepth 100000 in
set_option maxHeartbeats 2000000 in
theorem oneStep (node frm : Int) (A : Option Addr) (n c : Nat) (v : Nat → Int) (hok : OkStep node frm n v) (P g base : Nat) (l : List Nat) (hl : l.length ≤ 8796093022300) (w : World) (h : Els w base A n 1 fun j _ => .int .i64 (v j)) (hp : Pens w g base l) (hP : PenVar w P g) (hne : P ≠ g) :
    Calls Try.prog 99 #[.agg (arrV 3 (stepV node frm A n c)), .pointer (some ⟨P, 0, none⟩)] w (PenAll w g base (l ++ stepL node frm n v)) := by
  obtain ⟨⟨k1, k3⟩, i0, i1, hn, hv⟩ := hok
  obtain ⟨K, rfl⟩ : ∃ K : Nat, node = K := ⟨node.toNat, by omega⟩
  obtain ⟨I, rfl⟩ : ∃ I : Nat, frm = (I : Int) - 1 := ⟨(frm + 1).toNat, by omega⟩
  have hgl := hp.lt
  have H0 := Lib.hid h
  have HV := Lib.hid hv
  clear h hv
  go_enter Try.func99, Try.ntmps99
  have g0 := heap_alloc_new w (.cells (arrV 3 (stepV K ((I : Int) - 1) A n c)) 84)
  have hb : Below w.heap.size w (w.alloc (.cells (arrV 3 (stepV K ((I : Int) - 1) A n c)) 84)) := (Below.refl _ _).alloc (Nat.le_refl _) _
  have hbs := hp.size
  replace hp := hp.after hb
  replace hP := hP.after hb
  have hk : PenKeep w _ g := PenKeep.below hb
  replace hb := hb.mono hbs
  have c0 := cell_arrV g0 0 (by omega)
  replace c0 : _ = some (Value.int .i64 K) := c0
  have cP := hP.cell
  go_upto_region 2 with (go_at_call 94; (with_reducible refine (num2 K (by omega) g base l (by omega) _ hp).mono ?_); rintro e w2 ⟨rfl, hp, b2, k2⟩)
  replace g0 := k2 _ _ _ _ g0 (by omega) (by decide)
  replace hP := hP.keep k2 hne
  replace hk := hk.trans k2
  replace hb := hb.trans b2
  have cP := hP.cell
  have c1 := cell_arrV g0 1 (by omega)
  replace c1 : _ = some (Value.int .i64 ((I : Int) - 1)) := c1
  clear c0
  have hl2 : (l ++ beL 2 K).length ≤ 8796093022310 := by rw [List.length_append, beL_len]; omega
  go_upto_region 3 with (go_at_call 94; (with_reducible refine (num2 I (by omega) g base (l ++ beL 2 K) (by omega) _ hp).mono ?_); rintro e w3 ⟨rfl, hp, b3, k3⟩)
  replace g0 := k3 _ _ _ _ g0 (by omega) (by decide)
  replace hP := hP.keep k3 hne
  replace hk := hk.trans k3
  replace hb := hb.trans b3
  have cP := hP.cell
  have c2 := cell_arrV g0 2 (by omega)
  replace c2 : _ = some (Value.slice A n c) := c2
  clear c1
  have hl3 : (l ++ beL 2 K ++ beL 2 I).length ≤ 8796093022320 := by rw [List.length_append, beL_len]; omega
  have hE := H0.out.below hb
  go_wp2_with (go_at_call 100; (with_reducible refine (listInt A n c v P g base (l ++ beL 2 K ++ beL 2 I) (by omega) hn _ hE HV.out hp hP hne).mono ?_); rintro e w4 ⟨rfl, hp, b4, k4⟩)
  go_end0
  refine ⟨rfl, ?_, hb.trans b4, hk.trans k4⟩
  unfold stepL sendL
  rw [Int.sub_add_cancel, Int.toNat_natCast, Int.toNat_natCast, ← List.append_assoc, ← List.append_assoc]
  exact hp

set_option maxRecDepth 100000 in
set_option maxHeartbeats 2000000 in
theorem listStep (A : Option Addr) (n c : Nat) (node frm : Nat → Int) (DA : Nat → Option Addr) (dn dc : Nat → Nat) (dv : Nat → Nat → Int) (P g base : Nat) (l : List Nat) (hl : l.length ≤ 4398046511104) (hn : n ≤ 4000) (w : World) (h : Els w base A n 3 (fun i => stepV (node i) (frm i) (DA i) (dn i) (dc i))) (HS : ∀ i, i < n → Els w base (DA i) (dn i) 1 (fun j _ => .int .i64 (dv i j))) (hok : ∀ i, i < n → OkStep (node i) (frm i) (dn i) (dv i)) (hp : Pens w g base l) (hP : PenVar w P g) (hne : P ≠ g) :
    Calls Try.prog 98 #[.pointer (some ⟨g, 0, none⟩), .slice A n c, .func (.func 99) #[] #[.pointer (some ⟨P, 0, none⟩)]] w (PenAll w g base (l ++ (beL 2 n ++ (List.range n).flatMap fun i => stepL (node i) (frm i) (dn i) (dv i)))) := by
  have H0 := Lib.hid h
  have HOK := Lib.hid hok
  clear h hok
  go_enter Try.func98, Try.ntmps98
  go_upto_region 1 with (go_at_call 94; (with_reducible refine (num2 n (by omega) g base l (by omega) _ hp).mono ?_); rintro e w2 ⟨rfl, hp, b2, k2⟩)
  replace hP := hP.keep k2 hne
  go_wp2
  go_loopg [15] n (fun r x wr => ∃ i : Nat, i + r = n ∧ x = .int .i64 i ∧ Pens wr g base (l ++ beL 2 n ++ (List.range i).flatMap fun i => stepL (node i) (frm i) (dn i) (dv i)) ∧ PenVar wr P g ∧ Below base w wr ∧ PenKeep w wr g)
  case atStart => exact ⟨0, by omega, rfl, by simpa using hp, hP, b2, k2⟩
  case round =>
    clear hp hP b2 k2
    obtain ⟨i, hi, rfl, hp, hP, hb, hk⟩ := hrel
    have HI := Lib.hid hi
    clear hi
    have hs := hp.size
    by_cases hlt : i < n
    · obtain ⟨ad, rfl, hab, hc⟩ := (H0.out.below hb).cell hlt
      have hoki := HOK.out i hlt
      have hlen : (l ++ beL 2 n ++ (List.range i).flatMap fun i => stepL (node i) (frm i) (dn i) (dv i)).length ≤ 4398146511104 := by
        have h1 : ((List.range i).flatMap fun i => stepL (node i) (frm i) (dn i) (dv i)).length ≤ 8006 * i := flat_len _ 8006 i fun j hj => Nat.le_trans (stepL_len _ _ _ _) (by have := (HOK.out j (by omega)).2.2.2.1; omega)
        rw [List.length_append, List.length_append, beL_len]
        omega
      obtain ⟨ll, hll⟩ : ∃ ll, ll = (l ++ beL 2 n ++ (List.range i).flatMap fun i => stepL (node i) (frm i) (dn i) (dv i)) := ⟨_, rfl⟩
      rw [← hll] at hp hlen
      have HLL := Lib.hid hll
      clear hll
      have hS := (HS i hlt).below hb
      go_wp2_with (first | (refine wpList_el rfl rfl Try.underlying37 (sz := 3) (by kernel_rfl) rfl rfl hlt ?_) | (refine wpList_load_at (n := 3) rfl rfl RTStep rfl hc ?_) | (refine wpList_newV rfl rfl rfl rfl ZVStep RTStep rfl rfl (fun _ _ => stepV_one _ _ _ _ _ _) ?_; intro w2 g2 bw hsw; replace hp := hp.after bw; replace hP := hP.after bw; replace hb := hb.trans (bw.mono hs); replace hk := hk.trans (PenKeep.below bw)) | (refine wpList_load_all rfl rfl RTStep rfl g2 ?_) | (go_at_call 99; (with_reducible refine (oneStep (node i) (frm i) (DA i) (dn i) (dc i) (dv i) hoki P g base ll (by omega) _ (hS.below' bw hs) hp hP hne).mono ?_); rintro e w3 ⟨rfl, hp, b3, k3⟩))
      go_roundg (gk - 1)
      case measure => have := HI.out; omega
      case rel =>
        have hI := HI.out
        refine ⟨i + 1, by omega, by go_num, ?_, hP.keep k3 hne, hb.trans b3, hk.trans k3⟩
        rw [flat_succ, ← List.append_assoc, ← HLL.out]
        exact hp
    · obtain rfl : i = n := by have := HI.out; omega
      go_wp2
      go_end0
      refine ⟨rfl, ?_, hb, hk⟩
      rw [← List.append_assoc]
      exact hp
theorem ZTKey : ZeroT Try.prog 36 .u8 32 := by unfold ZeroT; kernel_rfl
theorem num1_one (g base : Nat) (l : List Nat) (hl : l.length ≤ 70368744177664) (w : World) (hp : Pens w g base l) :
    Calls Try.prog 94 #[.pointer (some ⟨g, 0, none⟩), .int .i64 1, .int .u64 1] w (PenAll w g base (l ++ [1])) := by
  have h := num1 1 (by omega) g base l hl w hp
  rw [beL_one 1 (by omega)] at h
  exact h
theorem text2 (A : Option Addr) (n c : Nat) (m : List Nat) (hf : n < 65536) (g base : Nat) (l : List Nat) (hl : l.length ≤ 1099511627776) (w : World) (hp : Pens w g base l) (ht : Txt w base A n c m) :
    Calls Try.prog 102 #[.pointer (some ⟨g, 0, none⟩), .int .i64 2, .slice A n c] w (PenAll w g base (l ++ beL 2 n ++ m)) := text_all 2 (by omega) (by omega) A n c m (by omega) (by omega) g base l hl w hp ht
theorem keysL_succ (c : Com) (i : Nat) : keysL c (i + 1) = keysL c i ++ keyL (c.key i) := flat_succ _ _
theorem boxesL_succ (c : Com) (i : Nat) : boxesL c (i + 1) = boxesL c i ++ (beL 2 (c.xn i) ++ c.bx i) := flat_succ _ _

set_option maxRecDepth 100000 in
set_option maxHeartbeats 4000000 in
theorem head_all (c : Com) (tg : Nat → Nat) (hok : OkCom c) (hf : MidC c) (g base : Nat) (w : World) (h : ComOk w base c) (hp : Pens w g base []) :
    Calls Try.prog 70 #[.pointer (some ⟨g, 0, none⟩), .agg (arrV 70 (comV c tg))] w (PenAll w g base (comL c)) := by
  have hgl := hp.lt
  obtain ⟨⟨q1, q2, q3⟩, ⟨q4, q5⟩, ⟨q6, q7, q8⟩, q9, q10⟩ := hok
  obtain ⟨Y, hY⟩ : ∃ Y : Nat, c.by_ = Y := ⟨c.by_.toNat, by omega⟩
  have f1 := hf.sn
  have f2 := hf.bn
  have f3 := hf.kn
  have f4 := hf.dn
  have f5 : (c.ep : Int) ≤ 1099511627776 := by omega
  have f6 : Y ≤ 1048576 := by omega
  have H0 := Lib.hid h
  have Q5 := Lib.hid q5
  have Q8 := Lib.hid q8
  have Q10 := Lib.hid q10
  have HY := Lib.hid hY
  have F4 := Lib.hid f4
  have Q7 := Lib.hid q7
  clear h q5 q8 q10 hf hY q1 q2 q3 q7 q9 f4
  go_enter Try.func70, Try.ntmps70
  obtain ⟨hP, g0, hz, hb⟩ := alloc2 w (.cells #[.pointer (some ⟨g, 0, none⟩)] 109) (.cells (arrV 70 (comV c tg)) 40)
  replace hP : PenVar _ w.heap.size g := hP
  have hne : w.heap.size ≠ g := by omega
  have hbs := hp.size
  replace hp := hp.after hb
  have hk : PenKeep w _ g := PenKeep.below hb
  replace hb := hb.mono hbs
  have cP := hP.cell
  have nn : ([] : List Nat).length ≤ 0 := Nat.le_refl _
  go_upto_region 2 with (go_at_call 94; (with_reducible refine (num1_one g base [] (by omega) _ hp).mono ?_); rintro e w1 ⟨rfl, hp, b1, k1⟩)
  replace g0 := k1 _ _ _ _ g0 (by omega) (by decide)
  replace hP := hP.keep k1 hne
  replace hk := hk.trans k1
  replace hb := hb.trans b1
  have cP := hP.cell
  obtain ⟨L1, e1⟩ : ∃ L, L = ([] ++ [1] : List Nat) := ⟨_, rfl⟩
  rw [← e1] at hp
  have n1 : L1.length ≤ 1 := by rw [e1]; exact Nat.le_refl _
  have E1 := Lib.hid e1
  clear e1
  have c0 := cell_arrV g0 0 (by omega)
  replace c0 : _ = some (Value.int .u64 (c.ep : Int)) := c0
  go_upto_region 3 with (go_at_call 94; (with_reducible refine (num8 c.ep (by omega) g base L1 (by omega) _ hp).mono ?_); rintro e w2 ⟨rfl, hp, b2, k2⟩)
  replace g0 := k2 _ _ _ _ g0 (by omega) (by decide)
  replace hP := hP.keep k2 hne
  replace hk := hk.trans k2
  replace hb := hb.trans b2
  have cP := hP.cell
  obtain ⟨L2, e2⟩ : ∃ L, L = L1 ++ beL 8 c.ep := ⟨_, rfl⟩
  rw [← e2] at hp
  have n2 : L2.length ≤ 9 := by rw [e2, List.length_append, beL_len]; omega
  have E2 := Lib.hid e2
  clear e2
  clear c0
  have c1 := cell_arrV g0 1 (by omega)
  replace c1 : _ = some (Value.int .i64 c.by_) := c1
  rw [HY.out] at c1
  go_upto_region 4 with (go_at_call 94; (with_reducible refine (num4 Y (by omega) g base L2 (by omega) _ hp).mono ?_); rintro e w3 ⟨rfl, hp, b3, k3⟩)
  replace g0 := k3 _ _ _ _ g0 (by omega) (by decide)
  replace hP := hP.keep k3 hne
  replace hk := hk.trans k3
  replace hb := hb.trans b3
  have cP := hP.cell
  obtain ⟨L3, e3⟩ : ∃ L, L = L2 ++ beL 4 Y := ⟨_, rfl⟩
  rw [← e3] at hp
  have n3 : L3.length ≤ 13 := by rw [e3, List.length_append, beL_len]; omega
  have E3 := Lib.hid e3
  clear e3
  clear c1
  have c2 := cell_arrV g0 2 (by omega)
  replace c2 : _ = some (Value.slice c.PA c.pn c.pc) := c2
  have hE := H0.out.props.below hb
  go_upto_region 5 with (go_at_call 95; (with_reducible refine (listProp c.PA c.pn c.pc c.kind c.id c.ppt w.heap.size g base L3 (by omega) (by omega) _ hE Q5.out hp hP hne).mono ?_); rintro e w4 ⟨rfl, hp, b4, k4⟩)
  replace g0 := k4 _ _ _ _ g0 (by omega) (by decide)
  replace hP := hP.keep k4 hne
  replace hk := hk.trans k4
  replace hb := hb.trans b4
  have cP := hP.cell
  obtain ⟨L4, e4⟩ : ∃ L, L = L3 ++ (beL 2 c.pn ++ (List.range c.pn).flatMap fun i => propL (c.kind i) (c.id i) (c.ppt i)) := ⟨_, rfl⟩
  rw [← e4] at hp
  have n4 : L4.length ≤ 3800 := by rw [e4, List.length_append, List.length_append, beL_len]; have := flat_len (fun i => propL (c.kind i) (c.id i) (c.ppt i)) 37 c.pn (fun i _ => by rw [propL_len]; exact Nat.le_refl _); omega
  have E4 := Lib.hid e4
  clear e4
  clear c2 hE
  go_upto_region 6 with (first | (refine wpList_load_part (k := .u8) (fun i => ((c.pt i : Nat) : Int)) rfl rfl RTKey rfl g0 (by omega) (fun i hi => by unfold comV; rw [if_neg (by omega), if_neg (by omega), if_neg (by omega), if_pos (by omega), show 3 + i - 3 = i from by omega]) ?_) | (go_at_call 97; (with_reducible refine (key_all c.pt g base L4 (by omega) _ hp).mono ?_); rintro e w5 ⟨rfl, hp, b5, k5⟩))
  replace g0 := k5 _ _ _ _ g0 (by omega) (by decide)
  replace hP := hP.keep k5 hne
  replace hk := hk.trans k5
  replace hb := hb.trans b5
  have cP := hP.cell
  obtain ⟨L5, e5⟩ : ∃ L, L = L4 ++ keyL c.pt := ⟨_, rfl⟩
  rw [← e5] at hp
  have n5 : L5.length ≤ 3840 := by rw [e5, List.length_append, keyL_len]; omega
  have E5 := Lib.hid e5
  clear e5
  have c35 := cell_arrV g0 35 (by omega)
  replace c35 : _ = some (Value.slice c.SA c.sn c.sc) := c35
  have hE := H0.out.steps.below hb
  have hS := fun i hi => (H0.out.sends i hi).below hb
  go_upto_region 7 with (go_at_call 98; (with_reducible refine (listStep c.SA c.sn c.sc c.node c.frm c.DA c.dn c.dc c.dv w.heap.size g base L5 (by omega) (by omega) _ hE hS Q8.out hp hP hne).mono ?_); rintro e w6 ⟨rfl, hp, b6, k6⟩)
  replace g0 := k6 _ _ _ _ g0 (by omega) (by decide)
  replace hP := hP.keep k6 hne
  replace hk := hk.trans k6
  replace hb := hb.trans b6
  have cP := hP.cell
  obtain ⟨L6, e6⟩ : ∃ L, L = L5 ++ (beL 2 c.sn ++ (List.range c.sn).flatMap fun i => stepL (c.node i) (c.frm i) (c.dn i) (c.dv i)) := ⟨_, rfl⟩
  rw [← e6] at hp
  have n6 : L6.length ≤ 40000000 := by rw [e6, List.length_append, List.length_append, beL_len]; have := flat_len (fun i => stepL (c.node i) (c.frm i) (c.dn i) (c.dv i)) 8006 c.sn (fun i hi => Nat.le_trans (stepL_len _ _ _ _) (by have := (Q8.out i hi).2.2.2.1; omega)); omega
  have E6 := Lib.hid e6
  clear e6
  clear c35 hE hS
  have c36 := cell_arrV g0 36 (by omega)
  replace c36 : _ = some (Value.slice c.KA c.kn c.kc) := c36
  go_wp2
  go_loopg [36] c.kn (fun r x wr => ∃ i : Nat, i + r = c.kn ∧ x = .int .i64 i ∧ Pens wr g base (L6 ++ keysL c i) ∧ wr.heap[w.heap.size + 1]? = some (.cells (arrV 70 (comV c tg)) 40 (0, 0)) ∧ PenVar wr w.heap.size g ∧ Below base w wr ∧ PenKeep w wr g)
  case atStart => exact ⟨0, by omega, rfl, (by rw [show keysL c 0 = [] from rfl, List.append_nil]; exact hp), g0, hP, hb, hk⟩
  case round =>
    clear hp g0 hP hb hk cP c36
    obtain ⟨i, hi, rfl, hp, g0, hP, hb, hk⟩ := hrel
    have HI := Lib.hid hi
    clear hi
    have hs := hp.size
    have hlen : (L6 ++ keysL c i).length ≤ 80000000 := by
      have h1 : (keysL c i).length ≤ 32 * i := flat_len _ 32 i fun j hj => by rw [keyL_len]; exact Nat.le_refl _
      rw [List.length_append]
      have := HI.out
      omega
    have cP := hP.cell
    by_cases hlt : i < c.kn
    · obtain ⟨ad, hA, hab, hc⟩ := (H0.out.keys.below hb).cell hlt
      have HA := Lib.hid hA
      clear hA
      go_wp2_with (first | (refine wpList_elA HA.out rfl rfl Try.underlying38 (sz := 32) (by kernel_rfl) rfl rfl hlt ?_) | (refine wpList_load_at (n := 32) rfl rfl RTKey rfl hc ?_) | (refine wpList_new_arr (f := fun j => ((c.key i j : Nat) : Int)) rfl rfl rfl rfl ZTKey RTKey rfl rfl ?_; intro w7 g7 bw hsw; replace hp := hp.after bw; replace hP := hP.after bw; replace cP := hP.cell; replace g0 := keep_below bw (lt_of_block g0) g0; replace hb := hb.trans (bw.mono hs); replace hk := hk.trans (PenKeep.below bw)) | (refine wpList_load_arr (f := fun j => ((c.key i j : Nat) : Int)) rfl rfl rfl RTKey g7 ?_) | (go_at_call 97; (with_reducible refine (key_all (c.key i) g base (L6 ++ keysL c i) (by omega) _ hp).mono ?_); rintro e w8 ⟨rfl, hp, b8, k8⟩))
      go_roundg (gk - 1)
      case measure => have := HI.out; omega
      case rel =>
        have hI := HI.out
        refine ⟨i + 1, by omega, by go_num, ?_, k8 _ _ _ _ g0 (by omega) (by decide), hP.keep k8 hne, hb.trans b8, hk.trans k8⟩
        rw [keysL_succ, ← List.append_assoc]
        exact hp
    · obtain rfl : i = c.kn := by have := HI.out; omega
      have c37 := cell_arrV g0 37 (by omega)
      replace c37 : _ = some (Value.slice c.BA c.bn c.bc) := c37
      obtain ⟨L7, e7⟩ : ∃ L, L = L6 ++ keysL c c.kn := ⟨_, rfl⟩
      rw [← e7] at hp hlen
      have E7 := Lib.hid e7
      clear e7
      go_wp2
      go_loopg [47] c.bn (fun r x wr => ∃ i : Nat, i + r = c.bn ∧ x = .int .i64 i ∧ Pens wr g base (L7 ++ boxesL c i) ∧ PenVar wr w.heap.size g ∧ Below base w wr ∧ PenKeep w wr g)
      case atStart => exact ⟨0, by omega, rfl, (by rw [show boxesL c 0 = [] from rfl, List.append_nil]; exact hp), hP, hb, hk⟩
      case round =>
        clear hp g0 hP hb hk cP c37
        obtain ⟨i, hi, rfl, hp, hP, hb, hk⟩ := hrel
        have HI2 := Lib.hid hi
        clear hi
        have cP := hP.cell
        by_cases hlt : i < c.bn
        · obtain ⟨ad, hA, hab, hc⟩ := (H0.out.boxes.below hb).cell hlt
          have HA := Lib.hid hA
          clear hA
          replace hc : wr.cell? (ad.add (i * 1)) = some (.slice (c.XA i) (c.xn i) (c.xc i)) := by have := hc 0 (by omega); rwa [addr_add_zero] at this
          have ht := (H0.out.texts i hlt).below hb
          have hx := Q10.out i hlt
          have hlen2 : (L7 ++ boxesL c i).length ≤ 1200000000 := by
            have h1 : (boxesL c i).length ≤ 1002 * i := flat_len _ 1002 i fun j hj => by
              rw [List.length_append, beL_len, (H0.out.texts j (by omega)).len]
              have := Q10.out j (by omega)
              omega
            rw [List.length_append]
            omega
          go_wp2_with (first | (refine wpList_elA HA.out rfl rfl Try.underlying22 (sz := 1) (by kernel_rfl) rfl rfl hlt ?_) | (refine wpList_load1 rfl rfl Try.underlying23 rfl rfl hc ?_) | (go_at_call 102; (with_reducible refine (text2 (c.XA i) (c.xn i) (c.xc i) (c.bx i) (by omega) g base (L7 ++ boxesL c i) (by omega) _ hp ht).mono ?_); rintro e w9 ⟨rfl, hp, b9, k9⟩))
          go_roundg (gk - 1)
          case measure => have := HI2.out; omega
          case rel =>
            have hI := HI2.out
            refine ⟨i + 1, by omega, by go_num, ?_, hP.keep k9 hne, hb.trans b9, hk.trans k9⟩
            rw [boxesL_succ, ← List.append_assoc, ← List.append_assoc]
            exact hp
        · obtain rfl : i = c.bn := by have := HI2.out; omega
          go_wp2
          go_end0
          have e : comL c = L7 ++ boxesL c c.bn := by
            rw [E7.out, E6.out, E5.out, E4.out, E3.out, E2.out, E1.out]
            unfold comL propsL stepsL
            rw [HY.out, Int.toNat_natCast, List.nil_append]
          rw [e]
          exact ⟨rfl, hp, hb, hk⟩
end Go.Proofs.Yteefhbpmeajbfaa
namespace Go.Proofs.Yteefhbpmeajbfaa
set_option linter.unusedSimpArgs false
set_option linter.unusedVariables false
open Go.RowKit
attribute [local irreducible] beL beK
/-- Three texts, one by one. -/
def wA (A1 A2 A3 : Option Addr) (j : Nat) : Option Addr := if j = 0 then A1 else if j = 1 then A2 else A3
def wn (n1 n2 n3 : Nat) (j : Nat) : Nat := if j = 0 then n1 else if j = 1 then n2 else n3
def wm (m1 m2 m3 : List Nat) (j : Nat) : List Nat := if j = 0 then m1 else if j = 1 then m2 else m3
attribute [local irreducible] wA wn wm
end Go.Proofs.Yteefhbpmeajbfaa
namespace Go.Proofs.Yteefhbpmeajbfaa
set_option linter.unusedSimpArgs false
set_option linter.unusedVariables false
open Go.RowKit
/-- A text, or none and why. -/
def RetAny (w : World) (l : List Nat) (x : Int) (e : Ending) (w' : World) : Prop :=
  ∃ A n c, e = .returned (.tuple #[.slice A n c, .int .i64 x]) ∧ Txt w' w'.heap.size A n c l ∧ Below w.heap.size w w'
theorem RetTxt.any {w : World} {l : List Nat} {e : Ending} {w' : World} (h : RetTxt w l e w') : RetAny w l 0 e w' := by
  obtain ⟨A, n, c, h1, h2, h3⟩ := h
  exact ⟨A, n, c, h1, h2.text, h3⟩
theorem RetErr.any {w : World} {e : Ending} {w' : World} (h : RetErr w 1 e w') : RetAny w [] 1 e w' := by
  obtain ⟨h1, h3⟩ := h
  exact ⟨none, 0, 0, h1, Txt.nil_, h3⟩
section
variable (ep fr ge : Int) (A : Option Addr) (n c : Nat) (m : List Nat) (h0 : 0 ≤ ep) (h1 : 0 ≤ ge) (w : World)
include h0 h1
variable (ht : Txt w w.heap.size A n c m)
include ht
end
section
variable (tw : Int) (A1 : Option Addr) (n1 c1 : Nat) (A2 : Option Addr) (n2 c2 : Nat) (A3 : Option Addr) (n3 c3 : Nat) (m1 m2 m3 : List Nat) (w : World) (ht1 : Txt w w.heap.size A1 n1 c1 m1) (ht2 : Txt w w.heap.size A2 n2 c2 m2) (ht3 : Txt w w.heap.size A3 n3 c3 m3)
include ht1 ht2 ht3
end
attribute [local irreducible] beL beK
end Go.Proofs.Yteefhbpmeajbfaa
namespace Go.Proofs.Yteefhbpmeajbfaa
set_option linter.unusedSimpArgs false
set_option linter.unusedVariables false
open Go.RowKit
attribute [local irreducible] beL beK keyL
theorem RTCom : RowT Try.prog 40 70 := ⟨_, Try.underlying40, rfl, by kernel_rfl⟩
theorem Els.more {w : World} {B B' n sz : Nat} {A : Option Addr} {f : Nat → Nat → Value} (h : Els w B A n sz f) (hB : B ≤ B') : Els w B' A n sz f :=
  ⟨fun hn => by
    obtain ⟨ad, e, hb, hc⟩ := h.at_ hn
    exact ⟨ad, e, by omega, hc⟩⟩
theorem ComOk.more {w : World} {B B' : Nat} {c : Com} (h : ComOk w B c) (hB : B ≤ B') : ComOk w B' c :=
  ⟨h.props.more hB, h.steps.more hB, fun i hi => (h.sends i hi).more hB, h.keys.more hB, h.boxes.more hB, fun i hi => (h.texts i hi).more hB⟩
/-- A text of the call's own, or none and why. -/
def RetOw (w : World) (l : List Nat) (x : Int) (e : Ending) (w' : World) : Prop :=
  ∃ A n c, e = .returned (.tuple #[.slice A n c, .int .i64 x]) ∧ Own w' w.heap.size 5 (.slice A n c) l ∧ Below w.heap.size w w'
def lC (c : Com) : List Nat := if OkCom c then comL c else []
set_option maxRecDepth 100000 in
set_option maxHeartbeats 4000000 in
theorem Head_any (c : Com) (tg : Nat → Nat) (B : Nat) (w : World) (h : ComOk w B c) (hB : B ≤ w.heap.size) (hf : MidC c) :
    Calls Try.prog 32 #[.agg (arrV 70 (comV c tg))] w (RetOw w (lC c) (chk c)) := by
  have H0 := Lib.hid h
  have HF := Lib.hid hf
  clear h hf
  go_enter Try.func32, Try.ntmps32
  have g0 := heap_alloc_new w (.cells (arrV 70 (comV c tg)) 40)
  have hb : Below w.heap.size w (w.alloc (.cells (arrV 70 (comV c tg)) 40)) := (Below.refl _ _).alloc (Nat.le_refl _) _
  have hok := H0.out.below hb hB
  have hBw := Nat.le_trans hB hb.size
  go_upto_region 2 with (first | (refine wpList_load_all rfl rfl RTCom rfl g0 ?_) | (go_at_call 52; (with_reducible refine (CheckCommit_any c tg B _ hok hBw HF.out).mono ?_); rintro e w2 ⟨rfl, b2⟩))
  replace g0 := keep_below b2 (lt_of_block g0) g0
  replace hb := hb.trans (b2.mono hb.size)
  clear b2 hok hBw
  by_cases hk : OkCom c
  · rw [chk_yes hk]
    have el : lC c = comL c := if_pos hk
    have hlen := HF.out.ln hk fun i hi => (H0.out.texts i hi).len
    have HK := Lib.hid hk
    have EL := Lib.hid el
    have EX := Lib.hid (chk_yes hk)
    clear hk el
    obtain ⟨cl, hcl⟩ : ∃ cl, cl = comL c := ⟨_, rfl⟩
    rw [← hcl] at hlen
    have HCL := Lib.hid hcl
    clear hcl
    obtain ⟨gp, hz, hbp⟩ := alloc1 w2 (.cells #[.slice none 0 0, .int .i64 0] 110)
    have p0 : Pens (w2.alloc (.cells #[.slice none 0 0, .int .i64 0] 110)) w2.heap.size w2.heap.size [] := ⟨Nat.le_refl _, by rw [hz]; omega, _, gp, Own.nil_⟩
    replace g0 := keep_below hbp (lt_of_block g0) g0
    have hG : w.heap.size < w2.heap.size := by
      have := hb.size
      have h2 := lt_of_block g0
      rw [hz] at h2
      rcases Nat.lt_or_ge w.heap.size w2.heap.size with h | h
      · exact h
      · have : w2.heap.size = w.heap.size := by omega
        rw [this] at gp
        rw [gp] at g0
        injection g0 with g0
        injection g0 with _ g0
        exact absurd g0 (by decide)
    replace hb := hb.trans (hbp.mono hb.size)
    have hok := (H0.out.below hb hB).more (show B ≤ w2.heap.size by omega)
    clear gp hbp
    go_upto_region 5 with (fail)
    generalize w2.alloc (.cells #[.slice none 0 0, .int .i64 0] 110) = wp at *
    generalize w2.heap.size = G at *
    go_upto_region 6 with (first | (refine wpList_load_all rfl rfl RTCom rfl g0 ?_) | (go_at_call 70; (with_reducible refine (head_all c tg HK.out HF.out G G _ hok p0).mono ?_); rintro e w3 ⟨rfl, p1, b3, k3⟩))
    rw [← HCL.out] at p1
    replace hb := hb.trans (b3.mono (by omega))
    clear p0 b3 k3 g0 hok hz
    have p2 := p1
    obtain ⟨hlow, hs, v, hpen, hown⟩ := p1
    obtain ⟨A1, c1, rfl, -⟩ := hown.txt
    have c0 := pen_cell0 hpen
    clear hpen hown
    go_wp2_with (go_at_call 71; (with_reducible refine (done_any G G cl _ p2).mono ?_); rintro e w6 ⟨A', c', rfl, ho, rfl⟩)
    have HO := Lib.hid ho
    clear ho p2
    go_ret2
    exact ⟨A', _, c', by rw [EX.out]; rfl, by rw [EL.out, ← HCL.out]; exact HO.out.mono (by omega), hb⟩
  · rw [chk_no hk]
    have el : lC c = [] := if_neg hk
    have EL := Lib.hid el
    have EX := Lib.hid (chk_no hk)
    clear hk el
    go_wp2
    go_ret2
    exact ⟨none, 0, 0, by rw [EX.out]; rfl, by rw [EL.out]; exact Own.nil_, hb⟩
end Go.Proofs.Yteefhbpmeajbfaa
namespace Go.Proofs.Yteefhbpmeajbfaa
set_option linter.unusedSimpArgs false
set_option linter.unusedVariables false
open Go.RowKit
attribute [local irreducible] beL beK
theorem But.own {B g base sz n : Nat} {w w' : World} {e : TypeId} {v : Value} {xs : List Value} {s : Rs} (h : But g w w') (he : Eye w B g s) (hr : w.ownsRow base e sz v n xs) (hne : e ≠ 90) : w'.ownsRow base e sz v n xs := by
  obtain ⟨_, _, _, k⟩ := he
  exact h.row hr k.row hne
theorem getD_map {α β : Type} (f : α → β) (l : List α) (i : Nat) (z : α) (z' : β) (hz : f z = z') : (l.map f).getD i z' = f (l.getD i z) := by
  rw [List.getD_eq_getElem?_getD, List.getD_eq_getElem?_getD, List.getElem?_map]
  cases l[i]? with
  | none => exact hz.symm
  | some x => rfl
theorem getD_some {α : Type} {l : List α} {i : Nat} {x z : α} (h : l[i]? = some x) : l.getD i z = x := by rw [List.getD_eq_getElem?_getD, h]; rfl
theorem mem_at {α : Type} {l : List α} {i : Nat} {x : α} (h : l[i]? = some x) : x ∈ l := List.mem_of_getElem? h
def zM : StM := ⟨zS, none, 0⟩
def zL : Pl := ⟨[], none, 0⟩
def atOf (PA : Option Addr) (pc : Nat) (SA : Option Addr) (sc : Nat) (ls : List StM) (KA : Option Addr) (kc : Nat) (BA : Option Addr) (bc : Nat) (lb : List Pl) : At :=
  ⟨PA, pc, SA, sc, fun i => (ls.getD i zM).A, fun i => (ls.getD i zM).c, KA, kc, BA, bc, fun i => (lb.getD i zL).A, fun i => (lb.getD i zL).c⟩
theorem own_Els {α : Type} {sz : Nat} {F : α → Nat → Value} {w : World} {base c : Nat} {e : TypeId} {A : Option Addr} {l : List α} (h : w.ownsRow base e sz (.slice A l.length c) l.length (cellsOf sz F l)) (G : Nat → Nat → Value) (hG : ∀ i x, l[i]? = some x → ∀ j, j < sz → G i j = F x j) : Els w w.heap.size A l.length sz G := by
  obtain ⟨A', c', hv, _, he⟩ := own_els h rfl G hG
  injection hv with h1 _ h3
  subst h1
  exact he
theorem com_ok {w : World} {b ep by_ pc sc kc bc : Nat} {PA SA KA BA : Option Addr} {pt tag : Nat → Nat} {lp : List PProp} {ls : List StM} {lk : List (Nat → Nat)} {lb : List Pl}
    (h1 : w.ownsRow b 79 34 (.slice PA lp.length pc) lp.length (cellsOf 34 propF lp)) (h2 : w.ownsRow b 84 3 (.slice SA ls.length sc) ls.length (cellsOf 3 stepF ls)) (h3 : ∀ x ∈ ls, StN w b x) (h4 : w.ownsRow b 36 32 (.slice KA lk.length kc) lk.length (cellsOf 32 keyF lk)) (h5 : w.ownsRow b 23 1 (.slice BA lb.length bc) lb.length (cellsOf 1 plF lb)) (h6 : ∀ x ∈ lb, PlN w b x) :
    ComOk w w.heap.size (comOf ⟨ep, by_, lp, pt, ls.map StM.p, lk, lb.map Pl.l, tag⟩ (atOf PA pc SA sc ls KA kc BA bc lb)) where
  props := own_Els h1 _ fun i x hx j _ => by
    show propV _ _ _ _ = _
    show propV ((lp.getD i zP).kind : Int) ((lp.getD i zP).id : Int) (lp.getD i zP).pt j = _
    rw [getD_some hx]
    rfl
  steps := by
    have := own_Els h2 (fun i => stepV ((((ls.map StM.p).getD i zS).node : Nat) : Int) ((((ls.map StM.p).getD i zS).frm : Int) - 1) (ls.getD i zM).A ((ls.map StM.p).getD i zS).sd.length (ls.getD i zM).c) fun i x hx j _ => by
      rw [getD_map StM.p ls i zM zS rfl, getD_some hx]
      rfl
    rw [show ls.length = (ls.map StM.p).length by simp] at this
    exact this
  sends := fun i hi => by
    have hi' : i < ls.length := by simpa [comOf] using hi
    have hx : ls[i]? = some ls[i] := List.getElem?_eq_getElem hi'
    have h := h3 _ (mem_at hx)
    have := own_Els (F := intF) h (fun j _ => .int .i64 ((ls[i].p.sd.getD j 0 : Nat) : Int)) fun j x hj _ _ => by rw [getD_some hj]; rfl
    show Els w w.heap.size (ls.getD i zM).A ((ls.map StM.p).getD i zS).sd.length 1 fun j _ => .int .i64 ((((ls.map StM.p).getD i zS).sd.getD j 0 : Nat) : Int)
    rw [getD_map StM.p ls i zM zS rfl, getD_some hx]
    exact this
  keys := own_Els h4 _ fun i x hx j _ => by
    show byteV (lk.getD i fun _ => 0) j = _
    rw [getD_some hx]
    rfl
  boxes := by
    have := own_Els h5 (fun i _ => .slice (lb.getD i zL).A ((lb.map Pl.l).getD i []).length (lb.getD i zL).c) fun i x hx j _ => by
      rw [getD_map Pl.l lb i zL [] rfl, getD_some hx]
      rfl
    rw [show lb.length = (lb.map Pl.l).length by simp] at this
    exact this
  texts := fun i hi => by
    have hi' : i < lb.length := by simpa [comOf] using hi
    have hx : lb[i]? = some lb[i] := List.getElem?_eq_getElem hi'
    have h : Own w b 5 (.slice lb[i].A lb[i].l.length lb[i].c) lb[i].l := h6 _ (mem_at hx)
    show Txt w w.heap.size (lb.getD i zL).A ((lb.map Pl.l).getD i []).length (lb.getD i zL).c ((lb.map Pl.l).getD i [])
    rw [getD_map Pl.l lb i zL [] rfl, getD_some hx]
    exact h.text
def noCm (j : Nat) : Value := comV (comOf noCom noAt) noCom.tag j
theorem ZVCm : ZeroV Try.prog 40 70 (arrV 70 noCm) := ⟨by kernel_rfl, by rw [arrV_size]⟩
theorem built_cm : Try.prog.built 40 [] = some (arrV 70 noCm) := by kernel_rfl
theorem noCm_one (j : Nat) : (noCm j).oneCell' = true := comV_one _ _ j
/-- A commit that is handed back, or why not. -/
def CmPost (w : World) (p : PCom × Int) (e : Ending) (w' : World) : Prop :=
  ∃ a : At, e = .returned (.tuple #[.agg (arrV 70 (comV (comOf p.1 a) p.1.tag)), .int .i64 p.2]) ∧ ComOk w' w'.heap.size (comOf p.1 a) ∧ Below w.heap.size w w'
theorem no_ok (w : World) (B : Nat) : ComOk w B (comOf noCom noAt) :=
  ⟨⟨fun h => absurd h (by decide)⟩, ⟨fun h => absurd h (by decide)⟩, fun i hi => absurd hi (by show ¬ i < 0; omega), ⟨fun h => absurd h (by decide)⟩, ⟨fun h => absurd h (by decide)⟩, fun i hi => absurd hi (by show ¬ i < 0; omega)⟩
/-- A commit that was read, or none. -/
def cmK (p : PCom × Rs) : PCom × Int := if p.2.ov = false ∧ p.2.l.length = 0 ∧ OkP p.1 then (p.1, 0) else (noCom, 3)

set_option maxRecDepth 100000 in
set_option maxHeartbeats 4000000 in
theorem ReadCommit_long (A : Option Addr) (n c : Nat) (l : List Nat) (w : World) (h : Src w w.heap.size A n c l) (hn : 1048576 < n) :
    Calls Try.prog 15 #[.slice A n c] w (CmPost w (noCom, 4)) := by
  have hn2 : n ≤ 140737488355328 := h.len
  go_enter Try.func15, Try.ntmps15
  go_upto_region 1 with (refine wpList_alloc_v rfl rfl ZVCm ?_)
  have hq0 := heap_alloc_new w (.cells (arrV 70 noCm) 40)
  have hb0 : Below w.heap.size w (w.alloc (.cells (arrV 70 noCm) 40)) := (Below.refl _ _).alloc (Nat.le_refl _) _
  refine wp_cut (fun x => x.heap[w.heap.size]? = some (.cells (arrV 70 noCm) 40 (0, 0)) ∧ Below w.heap.size w x ∧ Src x w.heap.size A n c l) ⟨hq0, hb0, ⟨hb0.size, h.txt.below hb0, h.cap, h.len, h.byt⟩⟩ ?_
  clear hq0 hb0 h
  rintro w1 ⟨hq, hb, hS⟩
  have hql := lt_of_block hq
  (try simp only [Act.put, List.setIfInBounds_toArray, List.set_cons_zero, List.set_cons_succ])
  go_wp2_with (first | (go_at_call 42; (with_reducible refine (opened_long1 A n c _ hn hn2).mono ?_); rintro e w2 ⟨rfl, rfl⟩) | (refine wpList_val_w rfl (run_built0 rfl built_cm) ?_) | (refine wpList_store_v (f' := noCm) rfl rfl RTCom rfl rfl hq (fun i _ => noCm_one i) ?_))
  refine bodyPost_ret (results_v_tmp rfl rfl rfl RTCom (row_self hq)) rfl ⟨noAt, rfl, no_ok _ _, row_below hb (by omega) _⟩

set_option maxRecDepth 100000 in
set_option maxHeartbeats 4000000 in
theorem ReadCommit_kind (A : Option Addr) (n c : Nat) (l : List Nat) (w : World) (h : Src w w.heap.size A n c l) (hn : n ≤ 1048576) {k : Nat} {s1 : Rs} (hk : numP 1 ⟨l, false⟩ = (k, s1)) (hne : k ≠ 1) :
    Calls Try.prog 15 #[.slice A n c] w (CmPost w (noCom, 3)) := by
  go_enter Try.func15, Try.ntmps15
  go_upto_region 1 with (refine wpList_alloc_v rfl rfl ZVCm ?_)
  have hq0 := heap_alloc_new w (.cells (arrV 70 noCm) 40)
  have hb0 : Below w.heap.size w (w.alloc (.cells (arrV 70 noCm) 40)) := (Below.refl _ _).alloc (Nat.le_refl _) _
  refine wp_cut (fun x => x.heap[w.heap.size]? = some (.cells (arrV 70 noCm) 40 (0, 0)) ∧ Below w.heap.size w x ∧ Src x w.heap.size A n c l) ⟨hq0, hb0, ⟨hb0.size, h.txt.below hb0, h.cap, h.len, h.byt⟩⟩ ?_
  clear hq0 hb0 h
  rintro w1 ⟨hq, hb, hS⟩
  have hql := lt_of_block hq
  (try simp only [Act.put, List.setIfInBounds_toArray, List.set_cons_zero, List.set_cons_succ])
  go_wp2_with (first | (go_at_call 42; (with_reducible refine (opened_no1 A n c l _ hS hn hk hne).mono ?_); rintro e w2 ⟨rfl, b2⟩; replace hq := keep_below b2 hql hq; replace hb := hb.trans (b2.mono hb.size)) | (refine wpList_val_w rfl (run_built0 rfl built_cm) ?_) | (refine wpList_store_v (f' := noCm) rfl rfl RTCom rfl rfl hq (fun i _ => noCm_one i) ?_))
  refine bodyPost_ret (results_v_tmp rfl rfl rfl RTCom (row_self hq)) rfl ⟨noAt, rfl, no_ok _ _, row_below hb (by omega) _⟩
end Go.Proofs.Yteefhbpmeajbfaa
namespace Go.Proofs.Yteefhbpmeajbfaa
set_option linter.unusedSimpArgs false
set_option linter.unusedVariables false
open Go.RowKit
attribute [local irreducible] beL beK
theorem sendsP_take : ∀ (l : List PStep) (i : Nat) (x : PStep), l[i]? = some x → sendsP (l.take (i + 1)) = sendsP (l.take i) + x.sd.length
  | [], i, x, h => by simp at h
  | y :: l, 0, x, h => by
    obtain rfl : y = x := by simpa using h
    simp [sendsP]
  | y :: l, i + 1, x, h => by
    have ih := sendsP_take l i x (by simpa using h)
    show y.sd.length + sendsP (l.take (i + 1)) = y.sd.length + sendsP (l.take i) + x.sd.length
    omega
theorem sendsP_le : ∀ (l : List PStep) (i : Nat), sendsP (l.take i) ≤ sendsP l
  | [], i => by simp
  | y :: l, 0 => Nat.zero_le _
  | y :: l, i + 1 => by
    have := sendsP_le l i
    show y.sd.length + sendsP (l.take i) ≤ y.sd.length + sendsP l
    omega
theorem sendsP_len : ∀ (l : List PStep), sendsP l ≤ (l.flatMap PStep.L).length
  | [] => Nat.le_refl _
  | y :: l => by
    have ih := sendsP_len l
    have := len_flat (beL 2) y.sd fun x _ => by rw [beL_len]; omega
    rw [List.flatMap_cons, List.length_append]
    show y.sd.length + sendsP l ≤ _
    unfold PStep.L
    simp only [List.length_append]
    unfold PStep.L at ih
    omega
theorem own_after {base sz n : Nat} {w w' : World} {e : TypeId} {v : Value} {xs : List Value} (h : w.ownsRow base e sz v n xs) (hb : Below w.heap.size w w') : w'.ownsRow base e sz v n xs :=
  own_keep h fun b _ _ hb' => hb.block b (lt_of_block hb')
theorem same_row {w : World} {q : Nat} {c : Array Value} {t : TypeId} {fr : Nat × Nat} (h : w.heap[q]? = some (.cells c t fr)) (p : Addr) : (w.setRow q c).cell? p = w.cell? p := by
  have e : (w.setRow q c).heap[p.block]? = w.heap[p.block]? := by
    by_cases hp : p.block = q
    · rw [hp, h]
      exact row_self h
    · exact setRow_other _ _ _ _ hp
  unfold World.cell?
  rw [e]
theorem ComOk.keep {w w' : World} {B : Nat} {c : Com} (h : ComOk w B c) (hk : ∀ p : Addr, p.block < B → w'.cell? p = w.cell? p) : ComOk w' B c :=
  ⟨h.props.keep hk, h.steps.keep hk, fun i hi => (h.sends i hi).keep hk, h.keys.keep hk, h.boxes.keep hk, fun i hi => (h.texts i hi).keep hk⟩
theorem num_left (k : Nat) {s s' : Rs} {v : Nat} (h : numP k s = (v, s')) : s'.l.length ≤ s.l.length := by
  have := (sl_num k).all s
  rw [beL_len, h] at this
  dsimp only at this
  omega
theorem key_left {s s' : Rs} {v : Nat → Nat} (h : keyP s = (v, s')) : s'.l.length ≤ s.l.length := by
  have := sl_key.all s
  rw [keyL_len, h] at this
  dsimp only at this
  omega
theorem props_left {n : Nat} {s s' : Rs} {v : List PProp} (h : itemsP propP n s = (v, s')) : s'.l.length ≤ s.l.length + 37 := by
  have := (sl_items sl_prop n).all s
  rw [h] at this
  dsimp only at this
  omega
theorem steps_left {n : Nat} {s s' : Rs} {v : List PStep} (h : itemsP stepP' n s = (v, s')) : sendsP v ≤ s.l.length + 8 := by
  have := (sl_items sl_step n).all s
  rw [h] at this
  dsimp only at this
  have := sendsP_len v
  omega
theorem itemsPropE {N g B : Nat} {s s' : Rs} {w : World} {v : List PProp} (hN : N < 65536) (h : Eye w B g s) (hE : itemsP propP N s = (v, s')) :
    Calls Try.prog 44 #[.pointer (some ⟨g, 0, none⟩), .int .u64 N, .func (.func 45) #[.pointer (some ⟨g, 0, none⟩)] #[]] w (ItPost 79 34 propF id (fun _ _ _ => True) B g w (v, s')) := by
  have := itemsProp N hN g s w h
  rw [hE] at this
  exact this
theorem itemsKeyE {N g B : Nat} {s s' : Rs} {w : World} {v : List (Nat → Nat)} (hN : N < 65536) (h : Eye w B g s) (hE : itemsP keyP N s = (v, s')) :
    Calls Try.prog 49 #[.pointer (some ⟨g, 0, none⟩), .int .u64 N, .func (.func 46) #[.pointer (some ⟨g, 0, none⟩)] #[]] w (ItPost 36 32 keyF id (fun _ _ _ => True) B g w (v, s')) := by
  have := itemsKey N hN g s w h
  rw [hE] at this
  exact this
theorem itemsStepE {N g B : Nat} {s s' : Rs} {w : World} {v : List PStep} (hN : N < 65536) (h : Eye w B g s) (hE : itemsP stepP' N s = (v, s')) :
    Calls Try.prog 47 #[.pointer (some ⟨g, 0, none⟩), .int .u64 N, .func (.func 48) #[.pointer (some ⟨g, 0, none⟩)] #[]] w (ItPost 84 3 stepF StM.p StN B g w (v, s')) := by
  have := itemsStep N hN g s w h
  rw [hE] at this
  exact this
theorem itemsBoxE {N g B : Nat} {s s' : Rs} {w : World} {v : List (List Nat)} (hN : N < 4398046511104) (h : Eye w B g s) (hE : itemsP boxP N s = (v, s')) :
    Calls Try.prog 50 #[.pointer (some ⟨g, 0, none⟩), .int .u64 N, .func (.func 51) #[.pointer (some ⟨g, 0, none⟩)] #[]] w (ItPost 23 1 plF Pl.l PlN B g w (v, s')) := by
  have := itemsBox N hN g s w h
  rw [hE] at this
  exact this
set_option maxRecDepth 100000 in
set_option maxHeartbeats 4000000 in
theorem ReadCommit_more (A : Option Addr) (n c : Nat) (l : List Nat) (w : World) (h : Src w w.heap.size A n c l) (hn : n ≤ 1048576) {s1 : Rs} (hk : numP 1 ⟨l, false⟩ = (1, s1)) :
    Calls Try.prog 15 #[.slice A n c] w (CmPost w (cmK (comP s1))) := by
  have hL1 := (sl_num 1).ok ⟨l, false⟩ (by rw [hk]; exact numP_ne (by decide) hk)
  rw [beL_len, hk] at hL1
  dsimp only at hL1
  have hLn : l.length = n := h.txt.len
  have hcm := sl_com.ok s1
  obtain ⟨ep, s2, E1⟩ := pair_of (numP 8 s1)
  obtain ⟨by_, s3, E2⟩ := pair_of (numP 4 s2)
  obtain ⟨pn, s4, E3⟩ := pair_of (numP 2 s3)
  obtain ⟨props, s5, E4⟩ := pair_of (itemsP propP pn s4)
  obtain ⟨pt, s6, E5⟩ := pair_of (keyP s5)
  obtain ⟨sn, s7, E6⟩ := pair_of (numP 2 s6)
  obtain ⟨steps, s8, E7⟩ := pair_of (itemsP stepP' sn s7)
  obtain ⟨new, s9, E8⟩ := pair_of (itemsP keyP steps.length s8)
  obtain ⟨boxes, s10, E9⟩ := pair_of (itemsP boxP (sendsP steps) s9)
  obtain ⟨tag, s11, E10⟩ := pair_of (keyP s10)
  rw [comP_is E1 E2 E3 E4 E5 E6 E7 E8 E9 E10] at hcm ⊢
  have hsend : sendsP steps ≤ 1048700 := by
    have a1 := num_left 8 E1
    have a2 := num_left 4 E2
    have a3 := num_left 2 E3
    have a4 := props_left E4
    have a5 := key_left E5
    have a6 := num_left 2 E6
    have a7 := steps_left E7
    omega
  have hsl : steps.length ≤ sn := by
    have := items_len stepP' sn s7
    rw [E7] at this
    exact this
  have HC := Lib.hid (fun h0 => Nat.le_trans (Nat.le_add_right _ _) (Nat.le_trans (hcm h0) (show s1.l.length ≤ 1048575 by omega)))
  dsimp only at HC
  clear hcm hL1 hLn
  go_enter Try.func15, Try.ntmps15
  go_upto_region 1 with (refine wpList_alloc_v rfl rfl ZVCm ?_)
  have hq0 := heap_alloc_new w (.cells (arrV 70 noCm) 40)
  have hb0 : Below w.heap.size w (w.alloc (.cells (arrV 70 noCm) 40)) := (Below.refl _ _).alloc (Nat.le_refl _) _
  refine wp_cut (fun x => x.heap[w.heap.size]? = some (.cells (arrV 70 noCm) 40 (0, 0)) ∧ Below w.heap.size w x ∧ Src x w.heap.size A n c l) ⟨hq0, hb0, ⟨hb0.size, h.txt.below hb0, h.cap, h.len, h.byt⟩⟩ ?_
  clear hq0 hb0 h
  rintro w1 ⟨hq, hb, hS⟩
  have hql := lt_of_block hq
  (try simp only [Act.put, List.setIfInBounds_toArray, List.set_cons_zero, List.set_cons_succ])
  go_upto_region 2 with (go_at_call 42; (with_reducible refine (opened_yes1 A n c l _ hS hn hk).mono ?_); rintro e w2 ⟨rfl, he, b2⟩)
  replace hq := keep_below b2 hql hq
  replace hb := hb.trans (b2.mono hb.size)
  generalize w1.heap.size = g at *
  clear b2 hS w1
  (try simp only [Act.put, List.setIfInBounds_toArray, List.set_cons_zero, List.set_cons_succ])
  generalize hqw : w.heap.size = q at *
  go_upto_region 4 with (fail)
  go_upto_region 5 with (go_at_call 43; have lt0 := he.lt8 E1; (with_reducible refine (eyeNum8 he E1).mono ?_); rintro e w2 ⟨rfl, he2, hb2⟩; have hq2 := hb2.keep hq (by omega); have c2 := cell_arrV hq2 0 (by omega); have f2 := frozen_of_row w2 q 0 _ _ hq2)
  replace he := he2.setAt (q := q) (by omega) (Nat.le_refl _) 0 (.int .u64 (ep : Int))
  replace hb := (hb.trans (hb2.below (B := q) (by omega) (by have := hb.size; omega))).setCell (p := ⟨q, 0, none⟩) (Nat.le_refl _) (.int .u64 (ep : Int))
  replace hq := set_arrV (i := 0) hq2 (.int .u64 (ep : Int))
  clear hq2 c2 f2 he2 hb2
  generalize w2.setCell ⟨q, 0, none⟩ (.int .u64 (ep : Int)) = w5 at *
  clear w2
  (try simp only [Act.put, List.setIfInBounds_toArray, List.set_cons_zero, List.set_cons_succ])
  go_upto_region 6 with (go_at_call 43; have lt1 := he.lt4 E2; (with_reducible refine (eyeNum4 he E2).mono ?_); rintro e w2 ⟨rfl, he2, hb2⟩; have hq2 := hb2.keep hq (by omega); have c2 := cell_arrV hq2 1 (by omega); have f2 := frozen_of_row w2 q 1 _ _ hq2)
  replace he := he2.setAt (q := q) (by omega) (Nat.le_refl _) 1 (.int .i64 (by_ : Int))
  replace hb := (hb.trans (hb2.below (B := q) (by omega) (by have := hb.size; omega))).setCell (p := ⟨q, 1, none⟩) (Nat.le_refl _) (.int .i64 (by_ : Int))
  replace hq := set_arrV (i := 1) hq2 (.int .i64 (by_ : Int))
  clear hq2 c2 f2 he2 hb2
  generalize w2.setCell ⟨q, 1, none⟩ (.int .i64 (by_ : Int)) = w6 at *
  clear w2
  (try simp only [Act.put, List.setIfInBounds_toArray, List.set_cons_zero, List.set_cons_succ])
  go_upto_region 7 with (go_at_call 43; have ltP := he.lt2 E3; (with_reducible refine (eyeNum2 he E3).mono ?_); rintro e w2 ⟨rfl, he2, hb2⟩; have hq2 := hb2.keep hq (by omega))
  replace he := he2
  replace hb := hb.trans (hb2.below (B := q) (by omega) (by have := hb.size; omega))
  replace hq := hq2
  clear hq2 he2 hb2
  generalize w2 = w7 at *
  (try simp only [Act.put, List.setIfInBounds_toArray, List.set_cons_zero, List.set_cons_succ])
  go_upto_region 8 with (go_at_call 44; (with_reducible refine (itemsPropE ltP he E4).mono ?_); rintro e w2 ⟨PA, pc, lp, rfl, hm, r1, n_, he2, hb2⟩; have hq2 := hb2.keep hq (by omega); have c2 := cell_arrV hq2 2 (by omega); have f2 := frozen_of_row w2 q 2 _ _ hq2)
  replace he2 : Eye w2 q g s5 := he2
  have hw2 := hb.size
  replace r1 := own_mono (base' := q) r1 (by omega)
  clear n_
  clear hw2
  replace hm : lp.map id = props := hm
  rw [List.map_id] at hm
  subst hm
  replace r1 := own_set (i := 2) (u := .slice PA lp.length pc) r1 hq2 (by decide)
  replace he := he2.setAt (q := q) (by omega) (Nat.le_refl _) 2 (.slice PA lp.length pc)
  replace hb := (hb.trans (hb2.below (B := q) (by omega) (by have := hb.size; omega))).setCell (p := ⟨q, 2, none⟩) (Nat.le_refl _) (.slice PA lp.length pc)
  replace hq := set_arrV (i := 2) hq2 (.slice PA lp.length pc)
  clear hq2 c2 f2 he2 hb2
  generalize w2.setCell ⟨q, 2, none⟩ (.slice PA lp.length pc) = w8 at *
  clear w2
  (try simp only [Act.put, List.setIfInBounds_toArray, List.set_cons_zero, List.set_cons_succ])
  go_upto_region 9 with (first | (go_at_call 46; (with_reducible refine (eyeKeyE he E5).mono ?_); rintro e w2 ⟨rfl, he2, hb2⟩; have hq2 := hb2.keep hq (by omega)) | (refine wpList_store_part (f' := fun i => ((pt i : Nat) : Int)) rfl rfl RTKey rfl rfl hq2 (by omega) ?_))
  replace r1 := But.own hb2 he r1 (by decide)
  replace r1 := own_setRow (cs := (arrV 70 (patch (upd (upd (upd noCm 0 (.int .u64 (ep : Int))) 1 (.int .i64 (by_ : Int))) 2 (.slice PA lp.length pc)) 3 32 fun i => .int .u8 ((pt i : Nat) : Int)))) r1 hq2 (by decide)
  replace he := he2.butAt (But.row1 (q := q) (arrV 70 (patch (upd (upd (upd noCm 0 (.int .u64 (ep : Int))) 1 (.int .i64 (by_ : Int))) 2 (.slice PA lp.length pc)) 3 32 fun i => .int .u8 ((pt i : Nat) : Int)))) (by omega) (Nat.le_refl _)
  replace hb := row_below (hb.trans (hb2.below (B := q) (by omega) (by have := hb.size; omega))) (Nat.le_refl _) (arrV 70 (patch (upd (upd (upd noCm 0 (.int .u64 (ep : Int))) 1 (.int .i64 (by_ : Int))) 2 (.slice PA lp.length pc)) 3 32 fun i => .int .u8 ((pt i : Nat) : Int)))
  replace hq := row_self (c' := arrV 70 (patch (upd (upd (upd noCm 0 (.int .u64 (ep : Int))) 1 (.int .i64 (by_ : Int))) 2 (.slice PA lp.length pc)) 3 32 fun i => .int .u8 ((pt i : Nat) : Int))) hq2
  clear hq2 he2 hb2
  generalize w2.setRow q (arrV 70 (patch (upd (upd (upd noCm 0 (.int .u64 (ep : Int))) 1 (.int .i64 (by_ : Int))) 2 (.slice PA lp.length pc)) 3 32 fun i => .int .u8 ((pt i : Nat) : Int))) = w9 at *
  clear w2
  (try simp only [Act.put, List.setIfInBounds_toArray, List.set_cons_zero, List.set_cons_succ])
  go_upto_region 10 with (go_at_call 43; have ltS := he.lt2 E6; (with_reducible refine (eyeNum2 he E6).mono ?_); rintro e w2 ⟨rfl, he2, hb2⟩; have hq2 := hb2.keep hq (by omega))
  replace r1 := But.own hb2 he r1 (by decide)
  replace he := he2
  replace hb := hb.trans (hb2.below (B := q) (by omega) (by have := hb.size; omega))
  replace hq := hq2
  clear hq2 he2 hb2
  generalize w2 = w10 at *
  (try simp only [Act.put, List.setIfInBounds_toArray, List.set_cons_zero, List.set_cons_succ])
  go_upto_region 11 with (go_at_call 47; (with_reducible refine (itemsStepE ltS he E7).mono ?_); rintro e w2 ⟨SA, sc, ls, rfl, hm, r2, n2, he2, hb2⟩; have hq2 := hb2.keep hq (by omega); have c2 := cell_arrV hq2 35 (by omega); have f2 := frozen_of_row w2 q 35 _ _ hq2)
  replace he2 : Eye w2 q g s8 := he2
  replace r1 := But.own hb2 he r1 (by decide)
  have hw2 := hb.size
  replace r2 := own_mono (base' := q) r2 (by omega)
  replace n2 := fun x hx => own_mono (base' := q) (n2 x hx) (by omega)
  clear hw2
  replace hm : ls.map StM.p = steps := hm
  subst hm
  rw [List.length_map] at E8 hsl
  replace r1 := own_set (i := 35) (u := .slice SA ls.length sc) r1 hq2 (by decide)
  replace r2 := own_set (i := 35) (u := .slice SA ls.length sc) r2 hq2 (by decide)
  replace n2 := fun x hx => own_set (i := 35) (u := .slice SA ls.length sc) (n2 x hx) hq2 (by decide)
  replace he := he2.setAt (q := q) (by omega) (Nat.le_refl _) 35 (.slice SA ls.length sc)
  replace hb := (hb.trans (hb2.below (B := q) (by omega) (by have := hb.size; omega))).setCell (p := ⟨q, 35, none⟩) (Nat.le_refl _) (.slice SA ls.length sc)
  replace hq := set_arrV (i := 35) hq2 (.slice SA ls.length sc)
  clear hq2 c2 f2 he2 hb2
  generalize w2.setCell ⟨q, 35, none⟩ (.slice SA ls.length sc) = w11 at *
  clear w2
  (try simp only [Act.put, List.setIfInBounds_toArray, List.set_cons_zero, List.set_cons_succ])
  have c35 : w11.cell? ⟨q, 35, none⟩ = some (.slice SA ls.length sc) := cell_arrV hq 35 (by omega)
  have hls : ls.length < 65536 := by omega
  go_upto_region 12 with (go_at_call 49; (with_reducible refine (itemsKeyE hls he E8).mono ?_); rintro e w2 ⟨KA, kc, lk, rfl, hm, r3, n_, he2, hb2⟩; have hq2 := hb2.keep hq (by omega); have c2 := cell_arrV hq2 36 (by omega); have f2 := frozen_of_row w2 q 36 _ _ hq2)
  replace he2 : Eye w2 q g s9 := he2
  replace r1 := But.own hb2 he r1 (by decide)
  replace r2 := But.own hb2 he r2 (by decide)
  replace n2 := fun x hx => StN.but (n2 x hx) hb2 he
  have hw2 := hb.size
  replace r3 := own_mono (base' := q) r3 (by omega)
  clear n_
  clear hw2
  replace hm : lk.map id = new := hm
  rw [List.map_id] at hm
  subst hm
  replace r1 := own_set (i := 36) (u := .slice KA lk.length kc) r1 hq2 (by decide)
  replace r2 := own_set (i := 36) (u := .slice KA lk.length kc) r2 hq2 (by decide)
  replace n2 := fun x hx => own_set (i := 36) (u := .slice KA lk.length kc) (n2 x hx) hq2 (by decide)
  replace r3 := own_set (i := 36) (u := .slice KA lk.length kc) r3 hq2 (by decide)
  replace he := he2.setAt (q := q) (by omega) (Nat.le_refl _) 36 (.slice KA lk.length kc)
  replace hb := (hb.trans (hb2.below (B := q) (by omega) (by have := hb.size; omega))).setCell (p := ⟨q, 36, none⟩) (Nat.le_refl _) (.slice KA lk.length kc)
  replace hq := set_arrV (i := 36) hq2 (.slice KA lk.length kc)
  clear hq2 c2 f2 he2 hb2
  generalize w2.setCell ⟨q, 36, none⟩ (.slice KA lk.length kc) = w12 at *
  clear w2
  (try simp only [Act.put, List.setIfInBounds_toArray, List.set_cons_zero, List.set_cons_succ])
  clear c35
  have c35 : w12.cell? ⟨q, 35, none⟩ = some (.slice SA ls.length sc) := cell_arrV hq 35 (by omega)
  have hels := own_Els r2 (fun i => stepF (ls.getD i zM)) fun i x hx j _ => by rw [getD_some hx]
  clear E1 E2 E3 E4 E5 E6 E7 E8
  go_wp2
  go_loopg [7, 57] ls.length (fun r s x wr => ∃ i : Nat, i + r = ls.length ∧ x = .int .i64 i ∧ s = .int .i64 (sendsP ((ls.map StM.p).take i) : Nat) ∧ Below w12.heap.size w12 wr)
  case atStart => exact ⟨0, by omega, rfl, rfl, Below.refl _ _⟩
  case round =>
    obtain ⟨i, hi, rfl, hsv, hbl⟩ := hrel
    by_cases hlt : i < ls.length
    · have hx : ls[i]? = some ls[i] := List.getElem?_eq_getElem hlt
      have hs1 := sendsP_take (ls.map StM.p) i ls[i].p (by rw [List.getElem?_map, hx]; rfl)
      have hs2 := sendsP_le (ls.map StM.p) (i + 1)
      subst hsv
      obtain ⟨S2, hS2⟩ : ∃ S2, S2 = sendsP ((ls.map StM.p).take (i + 1)) := ⟨_, rfl⟩
      rw [← hS2] at hs1 hs2
      have HS2 := Lib.hid hS2
      clear hS2
      generalize sendsP ((ls.map StM.p).take i) = S1 at *
      obtain ⟨ad, hA, hab, hc⟩ := (hels.below hbl).cell hlt
      have hlen : (ls.getD i zM).p.sd.length = ls[i].p.sd.length := by rw [getD_some hx]
      rw [← hlen] at hs1
      generalize ls.getD i zM = y at *
      have HA := Lib.hid hA
      have HI := Lib.hid hi
      clear hA hi hx hlen hq he hb r1 r2 n2 r3 hels
      go_wp2_with (first | (refine wpList_elA HA.out rfl rfl Try.underlying37 (sz := 3) (by kernel_rfl) rfl rfl hlt ?_) | (refine wpList_load_at (n := 3) rfl rfl RTStep rfl hc ?_) | (refine wpList_newV rfl rfl rfl rfl ZVStep RTStep rfl rfl (fun _ _ => stepF_one _ _) ?_; intro w2 g2 b2 hs2; have d2 := cell_arrV g2 2 (by omega); replace d2 : _ = some (Value.slice y.A y.p.sd.length y.c) := d2))
      go_roundg (gk - 1)
      case measure => have := HI.out; omega
      case rel =>
        have hI := HI.out
        refine ⟨i + 1, by omega, by go_num, ?_, hbl.trans (b2.mono hbl.size)⟩
        rw [← HS2.out, hs1]
        go_num
    · obtain rfl : i = ls.length := by omega
      rw [List.take_of_length_le (by simp)] at hsv
      subst hsv
      clear hlt hi hels c35
      replace hq := keep_below hbl (lt_of_block hq) hq
      replace he := he.after hbl
      replace hb := hb.trans (hbl.mono (by have := hb.size; omega))
      replace r1 := own_after r1 hbl
      replace r2 := own_after r2 hbl
      replace r3 := own_after r3 hbl
      replace n2 := fun x hx => own_after (n2 x hx) hbl
      clear hbl
      generalize hSD : sendsP (ls.map StM.p) = SD at *
      have hSD2 : SD < 4398046511104 := by omega
      clear hSD
      go_upto_region 19 with (go_at_call 50; (with_reducible refine (itemsBoxE hSD2 he E9).mono ?_); rintro e w2 ⟨BA, bc, lb, rfl, hm, r4, n4, he2, hb2⟩; have hq2 := hb2.keep hq (by omega); have c2 := cell_arrV hq2 37 (by omega); have f2 := frozen_of_row w2 q 37 _ _ hq2)
      replace he2 : Eye w2 q g s10 := he2
      replace r1 := But.own hb2 he r1 (by decide)
      replace r2 := But.own hb2 he r2 (by decide)
      replace n2 := fun x hx => StN.but (n2 x hx) hb2 he
      replace r3 := But.own hb2 he r3 (by decide)
      have hw2 := hb.size
      replace r4 := own_mono (base' := q) r4 (by omega)
      replace n4 := fun x hx => own_mono (base' := q) (n4 x hx) (by omega)
      clear hw2
      replace hm : lb.map Pl.l = boxes := hm
      subst hm
      replace r1 := own_set (i := 37) (u := .slice BA lb.length bc) r1 hq2 (by decide)
      replace r2 := own_set (i := 37) (u := .slice BA lb.length bc) r2 hq2 (by decide)
      replace n2 := fun x hx => own_set (i := 37) (u := .slice BA lb.length bc) (n2 x hx) hq2 (by decide)
      replace r3 := own_set (i := 37) (u := .slice BA lb.length bc) r3 hq2 (by decide)
      replace r4 := own_set (i := 37) (u := .slice BA lb.length bc) r4 hq2 (by decide)
      replace n4 := fun x hx => own_set (i := 37) (u := .slice BA lb.length bc) (n4 x hx) hq2 (by decide)
      replace he := he2.setAt (q := q) (by omega) (Nat.le_refl _) 37 (.slice BA lb.length bc)
      replace hb := (hb.trans (hb2.below (B := q) (by omega) (by have := hb.size; omega))).setCell (p := ⟨q, 37, none⟩) (Nat.le_refl _) (.slice BA lb.length bc)
      replace hq := set_arrV (i := 37) hq2 (.slice BA lb.length bc)
      clear hq2 c2 f2 he2 hb2
      generalize w2.setCell ⟨q, 37, none⟩ (.slice BA lb.length bc) = w14 at *
      clear w2
      (try simp only [Act.put, List.setIfInBounds_toArray, List.set_cons_zero, List.set_cons_succ])
      go_upto_region 20 with (first | (go_at_call 46; (with_reducible refine (eyeKeyE he E10).mono ?_); rintro e w2 ⟨rfl, he2, hb2⟩; have hq2 := hb2.keep hq (by omega)) | (refine wpList_store_part (f' := fun i => ((tag i : Nat) : Int)) rfl rfl RTKey rfl rfl hq2 (by omega) ?_))
      replace r1 := But.own hb2 he r1 (by decide)
      replace r2 := But.own hb2 he r2 (by decide)
      replace n2 := fun x hx => StN.but (n2 x hx) hb2 he
      replace r3 := But.own hb2 he r3 (by decide)
      replace r4 := But.own hb2 he r4 (by decide)
      replace n4 := fun x hx => PlN.but (n4 x hx) hb2 he
      replace r1 := own_setRow (cs := (arrV 70 (patch (upd (upd (upd (patch (upd (upd (upd noCm 0 (.int .u64 (ep : Int))) 1 (.int .i64 (by_ : Int))) 2 (.slice PA lp.length pc)) 3 32 fun i => .int .u8 ((pt i : Nat) : Int)) 35 (.slice SA ls.length sc)) 36 (.slice KA lk.length kc)) 37 (.slice BA lb.length bc)) 38 32 fun i => .int .u8 ((tag i : Nat) : Int)))) r1 hq2 (by decide)
      replace r2 := own_setRow (cs := (arrV 70 (patch (upd (upd (upd (patch (upd (upd (upd noCm 0 (.int .u64 (ep : Int))) 1 (.int .i64 (by_ : Int))) 2 (.slice PA lp.length pc)) 3 32 fun i => .int .u8 ((pt i : Nat) : Int)) 35 (.slice SA ls.length sc)) 36 (.slice KA lk.length kc)) 37 (.slice BA lb.length bc)) 38 32 fun i => .int .u8 ((tag i : Nat) : Int)))) r2 hq2 (by decide)
      replace n2 := fun x hx => own_setRow (cs := (arrV 70 (patch (upd (upd (upd (patch (upd (upd (upd noCm 0 (.int .u64 (ep : Int))) 1 (.int .i64 (by_ : Int))) 2 (.slice PA lp.length pc)) 3 32 fun i => .int .u8 ((pt i : Nat) : Int)) 35 (.slice SA ls.length sc)) 36 (.slice KA lk.length kc)) 37 (.slice BA lb.length bc)) 38 32 fun i => .int .u8 ((tag i : Nat) : Int)))) (n2 x hx) hq2 (by decide)
      replace r3 := own_setRow (cs := (arrV 70 (patch (upd (upd (upd (patch (upd (upd (upd noCm 0 (.int .u64 (ep : Int))) 1 (.int .i64 (by_ : Int))) 2 (.slice PA lp.length pc)) 3 32 fun i => .int .u8 ((pt i : Nat) : Int)) 35 (.slice SA ls.length sc)) 36 (.slice KA lk.length kc)) 37 (.slice BA lb.length bc)) 38 32 fun i => .int .u8 ((tag i : Nat) : Int)))) r3 hq2 (by decide)
      replace r4 := own_setRow (cs := (arrV 70 (patch (upd (upd (upd (patch (upd (upd (upd noCm 0 (.int .u64 (ep : Int))) 1 (.int .i64 (by_ : Int))) 2 (.slice PA lp.length pc)) 3 32 fun i => .int .u8 ((pt i : Nat) : Int)) 35 (.slice SA ls.length sc)) 36 (.slice KA lk.length kc)) 37 (.slice BA lb.length bc)) 38 32 fun i => .int .u8 ((tag i : Nat) : Int)))) r4 hq2 (by decide)
      replace n4 := fun x hx => own_setRow (cs := (arrV 70 (patch (upd (upd (upd (patch (upd (upd (upd noCm 0 (.int .u64 (ep : Int))) 1 (.int .i64 (by_ : Int))) 2 (.slice PA lp.length pc)) 3 32 fun i => .int .u8 ((pt i : Nat) : Int)) 35 (.slice SA ls.length sc)) 36 (.slice KA lk.length kc)) 37 (.slice BA lb.length bc)) 38 32 fun i => .int .u8 ((tag i : Nat) : Int)))) (n4 x hx) hq2 (by decide)
      replace he := he2.butAt (But.row1 (q := q) (arrV 70 (patch (upd (upd (upd (patch (upd (upd (upd noCm 0 (.int .u64 (ep : Int))) 1 (.int .i64 (by_ : Int))) 2 (.slice PA lp.length pc)) 3 32 fun i => .int .u8 ((pt i : Nat) : Int)) 35 (.slice SA ls.length sc)) 36 (.slice KA lk.length kc)) 37 (.slice BA lb.length bc)) 38 32 fun i => .int .u8 ((tag i : Nat) : Int)))) (by omega) (Nat.le_refl _)
      replace hb := row_below (hb.trans (hb2.below (B := q) (by omega) (by have := hb.size; omega))) (Nat.le_refl _) (arrV 70 (patch (upd (upd (upd (patch (upd (upd (upd noCm 0 (.int .u64 (ep : Int))) 1 (.int .i64 (by_ : Int))) 2 (.slice PA lp.length pc)) 3 32 fun i => .int .u8 ((pt i : Nat) : Int)) 35 (.slice SA ls.length sc)) 36 (.slice KA lk.length kc)) 37 (.slice BA lb.length bc)) 38 32 fun i => .int .u8 ((tag i : Nat) : Int)))
      replace hq := row_self (c' := arrV 70 (patch (upd (upd (upd (patch (upd (upd (upd noCm 0 (.int .u64 (ep : Int))) 1 (.int .i64 (by_ : Int))) 2 (.slice PA lp.length pc)) 3 32 fun i => .int .u8 ((pt i : Nat) : Int)) 35 (.slice SA ls.length sc)) 36 (.slice KA lk.length kc)) 37 (.slice BA lb.length bc)) 38 32 fun i => .int .u8 ((tag i : Nat) : Int))) hq2
      clear hq2 he2 hb2
      generalize w2.setRow q (arrV 70 (patch (upd (upd (upd (patch (upd (upd (upd noCm 0 (.int .u64 (ep : Int))) 1 (.int .i64 (by_ : Int))) 2 (.slice PA lp.length pc)) 3 32 fun i => .int .u8 ((pt i : Nat) : Int)) 35 (.slice SA ls.length sc)) 36 (.slice KA lk.length kc)) 37 (.slice BA lb.length bc)) 38 32 fun i => .int .u8 ((tag i : Nat) : Int))) = w15 at *
      clear w2
      (try simp only [Act.put, List.setIfInBounds_toArray, List.set_cons_zero, List.set_cons_succ])
      clear E9 E10
      have hok := com_ok (ep := ep) (by_ := by_) (pt := pt) (tag := tag) r1 r2 n2 r3 r4 n4
      replace hq : w15.heap[q]? = some (.cells (arrV 70 (comV (comOf ⟨ep, by_, lp, pt, ls.map StM.p, lk, lb.map Pl.l, tag⟩ (atOf PA pc SA sc ls KA kc BA bc lb)) tag)) 40 (0, 0)) := hq.trans (congrArg (fun x => some (Obj.cells x 40 (0, 0))) ((show _ = arrV 70 (fun j => if j = 35 then .slice SA ls.length sc else if j = 37 then .slice BA lb.length bc else comV (comOf ⟨ep, by_, lp, pt, ls.map StM.p, lk, lb.map Pl.l, tag⟩ (atOf PA pc SA sc ls KA kc BA bc lb)) tag j) by kernel_rfl).trans (arrV_ext fun j _ => by
        by_cases h5 : j = 35
        · rw [if_pos h5, h5]
          show _ = Value.slice SA (ls.map StM.p).length sc
          rw [List.length_map]
        · rw [if_neg h5]
          by_cases h7 : j = 37
          · rw [if_pos h7, h7]
            show _ = Value.slice BA (lb.map Pl.l).length bc
            rw [List.length_map]
          · rw [if_neg h7])))
      clear r1 r2 n2 r3 r4 n4
      obtain ⟨p, hp⟩ : ∃ p : PCom, p = ⟨ep, by_, lp, pt, ls.map StM.p, lk, lb.map Pl.l, tag⟩ := ⟨_, rfl⟩
      obtain ⟨a, ha⟩ : ∃ a, a = (atOf PA pc SA sc ls KA kc BA bc lb) := ⟨_, rfl⟩
      rw [← hp] at hok hq HC
      have HP := Lib.hid hp
      rw [← ha] at hok hq
      have htg : tag = p.tag := by rw [hp]
      rw [htg] at hq
      clear hp ha htg
      obtain ⟨A6, n6, c6, hE⟩ := he
      have c0 := hE.c0
      have c1 := hE.c1
      have hn6 : s11.l.length = n6 := hE.txt.len
      cases hov : s11.ov with
      | true =>
        rw [eyeE_yes hov] at c1
        have EK := Lib.hid (show cmK (p, s11) = (noCom, 3) from if_neg (fun h => by rw [hov] at h; cases h.1))
        go_wp2_with (first | (refine wpList_val_w rfl (run_built0 rfl built_cm) ?_) | (refine wpList_store_v (f' := noCm) rfl rfl RTCom rfl rfl hq (fun i _ => noCm_one i) ?_))
        refine bodyPost_ret (results_v_tmp rfl rfl rfl RTCom (row_self hq)) rfl ?_
        rw [← HP.out, EK.out]
        refine ⟨noAt, rfl, no_ok _ _, ?_⟩
        rw [hqw]
        exact row_below hb (Nat.le_refl _) _
      | false =>
        rw [eyeE_no hov] at c1
        by_cases h0 : 0 < n6
        · have EK := Lib.hid (show cmK (p, s11) = (noCom, 3) from if_neg (fun h => by have h1 : s11.l.length = 0 := h.2.1; omega))
          go_wp2_with (first | (refine wpList_val_w rfl (run_built0 rfl built_cm) ?_) | (refine wpList_store_v (f' := noCm) rfl rfl RTCom rfl rfl hq (fun i _ => noCm_one i) ?_))
          refine bodyPost_ret (results_v_tmp rfl rfl rfl RTCom (row_self hq)) rfl ?_
          rw [← HP.out, EK.out]
          refine ⟨noAt, rfl, no_ok _ _, ?_⟩
          rw [hqw]
          exact row_below hb (Nat.le_refl _) _
        · have hmid := mid_of p a (HC.out hov)
          by_cases hm : OkP p
          · have HM := Lib.hid (chk_yes ((ok_at p a).2 hm))
            have EK := Lib.hid (show cmK (p, s11) = (p, 0) from if_pos ⟨hov, by show s11.l.length = 0; omega, hm⟩)
            clear hm
            have HO := Lib.hid hok
            have HMid := Lib.hid hmid
            clear hok hmid
            go_wp2_with (first | (refine wpList_valg rfl (run_op_load_v rfl RTCom rfl hq) ?_) | (go_at_call 52; (refine (CheckCommit_any (comOf p a) p.tag _ _ HO.out (Nat.le_refl _) HMid.out).mono ?_); rintro e w9 ⟨rfl, hb9⟩; rw [HM.out]; have hq9 := keep_below hb9 (lt_of_block hq) hq) | (refine wpList_load_all rfl rfl RTCom rfl hq9 ?_) | (refine wpList_store_v rfl rfl RTCom rfl rfl hq9 (fun i _ => comV_one _ _ i) ?_))
            refine bodyPost_ret (results_v_tmp rfl rfl rfl RTCom (row_self hq9)) rfl ?_
            rw [← HP.out, EK.out]
            refine ⟨a, rfl, ?_, ?_⟩
            · exact (HO.out.keep (w' := w9.setRow q (arrV 70 (comV (comOf p a) p.tag))) fun z hz => (same_row hq9 z).trans (hb9.cell hz)).more (by have := hb9.size; simpa using this)
            · rw [hqw]
              exact row_below (hb.trans (hb9.mono (by have := hb.size; omega))) (Nat.le_refl _) _
          · have HM := Lib.hid (chk_no fun h => hm ((ok_at p a).1 h))
            have EK := Lib.hid (show cmK (p, s11) = (noCom, 3) from if_neg (fun h => hm h.2.2))
            clear hm
            have HO := Lib.hid hok
            have HMid := Lib.hid hmid
            clear hok hmid
            go_wp2_with (first | (refine wpList_valg rfl (run_op_load_v rfl RTCom rfl hq) ?_) | (go_at_call 52; (refine (CheckCommit_any (comOf p a) p.tag _ _ HO.out (Nat.le_refl _) HMid.out).mono ?_); rintro e w9 ⟨rfl, hb9⟩; rw [HM.out]; have hq9 := keep_below hb9 (lt_of_block hq) hq) | (refine wpList_val_w rfl (run_built0 rfl built_cm) ?_) | (refine wpList_store_v (f' := noCm) rfl rfl RTCom rfl rfl hq9 (fun i _ => noCm_one i) ?_))
            refine bodyPost_ret (results_v_tmp rfl rfl rfl RTCom (row_self hq9)) rfl ?_
            rw [← HP.out, EK.out]
            refine ⟨noAt, rfl, no_ok _ _, ?_⟩
            rw [hqw]
            exact row_below (hb.trans (hb9.mono (by have := hb.size; omega))) (Nat.le_refl _) _
theorem cmV_long {l : List Nat} (h : 1048576 < l.length) : cmV l = (noCom, 4) := if_pos h
theorem cmV_kind {l : List Nat} (h : ¬ 1048576 < l.length) {k : Nat} {s1 : Rs} (hk : numP 1 ⟨l, false⟩ = (k, s1)) (hne : k ≠ 1) : cmV l = (noCom, 3) := by
  unfold cmV
  rw [if_neg h, hk]
  exact if_pos hne
theorem cmV_more {l : List Nat} (h : ¬ 1048576 < l.length) {s1 : Rs} (hk : numP 1 ⟨l, false⟩ = (1, s1)) : cmV l = cmK (comP s1) := by
  unfold cmV
  rw [if_neg h, hk]
  dsimp only
  rw [if_neg (by simp)]
  rfl
theorem ReadCommit_any (A : Option Addr) (n c : Nat) (l : List Nat) (w : World) (h : Src w w.heap.size A n c l) :
    Calls Try.prog 15 #[.slice A n c] w (CmPost w (cmV l)) := by
  have hl := h.txt.len
  by_cases hn : 1048576 < n
  · rw [cmV_long (by omega)]
    exact ReadCommit_long A n c l w h hn
  · obtain ⟨k, s1, hk⟩ := pair_of (numP 1 ⟨l, false⟩)
    by_cases hne : k = 1
    · subst hne
      rw [cmV_more (by omega) hk]
      exact ReadCommit_more A n c l w h (by omega) hk
    · rw [cmV_kind (by omega) hk hne]
      exact ReadCommit_kind A n c l w h (by omega) hk hne
end Go.Proofs.Yteefhbpmeajbfaa
namespace Go.Proofs.Yteefhbpmeajbfaa
set_option linter.unusedSimpArgs false
set_option linter.unusedVariables false
open Go.RowKit
attribute [local irreducible] beL beK keyL
theorem txt_part {w : World} {g off N : Nat} {t : TypeId} {f : Nat → Value} {fr : Nat × Nat} {p : Nat → Nat} (h : w.heap[g]? = some (.cells (arrV N f) t fr)) (hle : off + 32 ≤ N) (hf : ∀ i, i < 32 → f (off + i) = .int .u8 ((p i : Nat) : Int)) : Txt w (g + 1) (some ⟨g, off, none⟩) 32 32 (keyL p) := by
  refine ⟨keyL_len p, (fun e => by cases e), fun _ => ⟨_, rfl, Nat.lt_succ_self _, fun i x hx => ?_⟩⟩
  unfold keyL at hx
  rw [List.getElem?_map, Option.map_eq_some_iff] at hx
  obtain ⟨j, hj, rfl⟩ := hx
  have hi : i < 32 := by
    have := (List.getElem?_eq_some_iff.1 hj).1
    simpa using this
  rw [List.getElem?_range hi] at hj
  injection hj with hj
  subst hj
  rw [addr_add, cell_arrV h (off + i) (by omega), hf i hi]
  rfl

end Go.Proofs.Yteefhbpmeajbfaa
namespace Go.Proofs.Yteefhbpmeajbfaa
set_option linter.unusedSimpArgs false
set_option linter.unusedVariables false
open Go.RowKit
attribute [local irreducible] beL beK keyL
def lT (c : Com) (tg : Nat → Nat) : List Nat := if OkCom c then comL c ++ keyL tg else []
theorem lT_lt (c : Com) (tg : Nat → Nat) (h : ComB c) (ht : ∀ j, j < 32 → tg j < 256) : ∀ x ∈ lT c tg, x < 256 := by
  unfold lT
  split
  · exact app_lt (comL_lt c h rfl) (keyL_lt _ ht)
  · simp

set_option maxRecDepth 100000 in
set_option maxHeartbeats 2000000 in
theorem WriteCommit_any (c : Com) (tg : Nat → Nat) (B : Nat) (w : World) (h : ComOk w B c) (hB : B ≤ w.heap.size) (hf : MidC c) :
    Calls Try.prog 10 #[.agg (arrV 70 (comV c tg))] w (RetOw w (lT c tg) (chk c)) := by
  have H0 := Lib.hid h
  have HF := Lib.hid hf
  clear h hf
  go_enter Try.func10, Try.ntmps10
  have g0 := heap_alloc_new w (.cells (arrV 70 (comV c tg)) 40)
  have hb : Below w.heap.size w (w.alloc (.cells (arrV 70 (comV c tg)) 40)) := (Below.refl _ _).alloc (Nat.le_refl _) _
  have hok2 := H0.out.below hb hB
  have hBw := Nat.le_trans hB hb.size
  go_upto_region 2 with (first | (refine wpList_load_all rfl rfl RTCom rfl g0 ?_) | (go_at_call 32; (with_reducible refine (Head_any c tg B _ hok2 hBw HF.out).mono ?_); rintro e w2 ⟨A1, n1, c1, rfl, o1, b2⟩))
  replace g0 := keep_below b2 (lt_of_block g0) g0
  replace o1 := o1.mono (show w.heap.size + 1 ≤ _ by rw [World.size_alloc]; exact Nat.le_refl _)
  replace hb := hb.trans (b2.mono hb.size)
  clear b2 hok2 hBw
  by_cases hk : OkCom c
  · have EX := Lib.hid (chk_yes hk)
    have EL := Lib.hid (show lT c tg = comL c ++ keyL tg from if_pos hk)
    have hlen := HF.out.ln hk fun i hi => (H0.out.texts i hi).len
    rw [show lC c = comL c from if_pos hk] at o1
    rw [EX.out]
    clear hk
    have hl : ((comL c).length : Int) ≤ 1048544 := by omega
    clear hlen
    obtain ⟨L, hL⟩ : ∃ L, L = comL c := ⟨_, rfl⟩
    rw [← hL] at o1 hl
    have HL := Lib.hid hL
    clear hL
    have ht5 := txt_part (p := tg) g0 (off := 38) (by omega) (fun j hj => by unfold comV; rw [if_neg (by omega), if_neg (by omega), if_neg (by omega), if_neg (by omega), if_neg (by omega), if_neg (by omega), if_neg (by omega), show 38 + j - 38 = j from by omega])
    go_upto_region 4 with (fail)
    go_wp2_with (refine wpList_append_txt rfl rfl BT rfl rfl o1 ht5 (by omega) (lt_of_block g0) ?_; intro v6 w6 ho6 hg6 hat6; replace hb := own_below hb o1 hg6 (by omega) hb.size; replace o1 := ho6; clear ho6 hg6 hat6)
    obtain ⟨A9, c9, rfl, -⟩ := o1.txt
    have HO := Lib.hid o1
    clear o1
    go_ret2
    exact ⟨_, _, _, by rw [EX.out]; rfl, by rw [EL.out, ← HL.out]; exact HO.out.mono (by omega), hb⟩
  · have EX := Lib.hid (chk_no hk)
    have EL := Lib.hid (show lT c tg = [] from if_neg hk)
    rw [EX.out]
    clear hk
    go_wp2
    go_ret2
    exact ⟨none, 0, 0, by rw [EX.out]; rfl, by rw [EL.out]; exact Own.nil_, hb⟩

end Go.Proofs.Yteefhbpmeajbfaa
namespace Go.Proofs.Yteefhbpmeajbfaa
set_option linter.unusedSimpArgs false
set_option linter.unusedVariables false
open Go.RowKit
section
variable {P : Program} {w : World}
end
def SameK (p p' : Nat → Nat) : Prop := ∀ j, j < 32 → p j = p' j
instance (p p' : Nat → Nat) : Decidable (SameK p p') := by unfold SameK; infer_instance
def SameP (k i : Int) (p : Nat → Nat) (k' i' : Int) (p' : Nat → Nat) : Prop := k = k' ∧ i = i' ∧ SameK p p'
instance (k i : Int) (p : Nat → Nat) (k' i' : Int) (p' : Nat → Nat) : Decidable (SameP k i p k' i' p') := by unfold SameP; infer_instance
end Go.Proofs.Yteefhbpmeajbfaa
namespace Go.Proofs.Yteefhbpmeajbfaa
set_option linter.unusedSimpArgs false
set_option linter.unusedVariables false
open Go.RowKit
attribute [local irreducible] beL beK
def SameS (n n' : Nat) (E : Nat → Prop) : Prop := n = n' ∧ ∀ i, i < n → E i
instance (n n' : Nat) (E : Nat → Prop) [DecidablePred E] : Decidable (SameS n n' E) := by unfold SameS; infer_instance

end Go.Proofs.Yteefhbpmeajbfaa
namespace Go.Proofs.Yteefhbpmeajbfaa
set_option linter.unusedSimpArgs false
set_option linter.unusedVariables false
open Go.RowKit
attribute [local irreducible] beL beK
def SameSt (node frm : Int) (n : Nat) (v : Nat → Int) (node' frm' : Int) (n' : Nat) (v' : Nat → Int) : Prop := node = node' ∧ frm = frm' ∧ SameS n n' fun j => (v j) = (v' j)
instance (node frm : Int) (n : Nat) (v : Nat → Int) (node' frm' : Int) (n' : Nat) (v' : Nat → Int) : Decidable (SameSt node frm n v node' frm' n' v') := by unfold SameSt; infer_instance

end Go.Proofs.Yteefhbpmeajbfaa
namespace Go.Proofs.Yteefhbpmeajbfaa
set_option linter.unusedSimpArgs false
set_option linter.unusedVariables false
open Go.RowKit
attribute [local irreducible] beL beK
def SameCP (c o : Com) : Prop := SameS c.pn o.pn fun i => SameP (c.kind i) (c.id i) (c.ppt i) (o.kind i) (o.id i) (o.ppt i)
def SameCS (c o : Com) : Prop := SameS c.sn o.sn fun i => SameSt (c.node i) (c.frm i) (c.dn i) (c.dv i) (o.node i) (o.frm i) (o.dn i) (o.dv i)
def SameCK (c o : Com) : Prop := SameS c.kn o.kn fun i => SameK (c.key i) (o.key i)
def SameCB (c o : Com) : Prop := SameS c.bn o.bn fun i => c.bx i = o.bx i
instance (c o : Com) : Decidable (SameCP c o) := by unfold SameCP; infer_instance
instance (c o : Com) : Decidable (SameCS c o) := by unfold SameCS; infer_instance
instance (c o : Com) : Decidable (SameCK c o) := by unfold SameCK; infer_instance
instance (c o : Com) : Decidable (SameCB c o) := by unfold SameCB; infer_instance
def SameC (c : Com) (tg : Nat → Nat) (o : Com) (tg' : Nat → Nat) : Prop := c.ep = o.ep ∧ c.by_ = o.by_ ∧ SameCP c o ∧ SameK c.pt o.pt ∧ SameCS c o ∧ SameCK c o ∧ SameCB c o ∧ SameK tg tg'
instance (c : Com) (tg : Nat → Nat) (o : Com) (tg' : Nat → Nat) : Decidable (SameC c tg o tg') := by unfold SameC; infer_instance

end Go.Proofs.Yteefhbpmeajbfaa
namespace Go.Proofs.Yteefhbpmeajbfaa
set_option linter.unusedSimpArgs false
set_option linter.unusedVariables false
attribute [local irreducible] beL beK
section
variable {α : Type} {f : Rs → α × Rs} {g : α → List Nat} {V : α → Prop} (ok : α → Prop) [DecidablePred ok] (z : α) (K : Nat)
/-- What bytes are, as a message of kind K, or why not. -/
def rdV (f : Rs → α × Rs) (l : List Nat) : α × Int :=
  if 1048576 < l.length then (z, 4) else if (numP 1 ⟨l, false⟩).1 ≠ K then (z, 3)
  else if (f (numP 1 ⟨l, false⟩).2).2.ov = false ∧ (f (numP 1 ⟨l, false⟩).2).2.l.length = 0 ∧ ok (f (numP 1 ⟨l, false⟩).2).1 then ((f (numP 1 ⟨l, false⟩).2).1, 0) else (z, 3)
theorem kind_back (hK : K < 256) (m : List Nat) : numP 1 ⟨[K] ++ m, false⟩ = (K, ⟨m, false⟩) := by
  have := (rw_num 1).back K m (by omega)
  rw [beL_one K hK] at this
  exact this
variable {ok z K}
theorem rdV_back (h : Rw f g V) (hK : K < 256) {x : α} (hV : V x) (ho : ok x) (hl : ([K] ++ g x).length ≤ 1048576) : rdV ok z K f ([K] ++ g x) = (x, 0) := by
  unfold rdV
  have b := h.back x [] hV
  rw [List.append_nil] at b
  rw [if_neg (by omega), kind_back K hK]
  dsimp only
  rw [if_neg (by simp), b]
  dsimp only
  rw [if_pos ⟨rfl, rfl, ho⟩]
end
def okW (p : PWl) : Prop := MayW (p.tw : Int) p.c.length p.t.length p.b.length
instance : DecidablePred okW := fun p => by unfold okW; infer_instance
instance : DecidablePred OkP := fun p => inferInstance
theorem cmV_rd (l : List Nat) : cmV l = rdV OkP noCom 1 comP l := rfl
def PWl.L (p : PWl) : List Nat := beL 4 p.tw ++ ((beL 4 p.c.length ++ p.c) ++ ((beL 4 p.t.length ++ p.t) ++ (beL 4 p.b.length ++ p.b)))
def PWl.V (p : PWl) : Prop := p.tw < 256 ^ 4 ∧ p.c.length < 256 ^ 4 ∧ p.t.length < 256 ^ 4 ∧ p.b.length < 256 ^ 4
def PFr.L (p : PFr) : List Nat := beL 8 p.ep ++ (beL 4 p.frm ++ (beL 8 p.gen ++ p.box))
def PFr.V (p : PFr) : Prop := p.ep < 256 ^ 8 ∧ p.frm < 256 ^ 4 ∧ p.gen < 256 ^ 8
/-! ### Written anew -/
end Go.Proofs.Yteefhbpmeajbfaa
namespace Go.Proofs.Yteefhbpmeajbfaa
set_option linter.unusedSimpArgs false
set_option linter.unusedVariables false
open Go.RowKit
attribute [local irreducible] beL beK keyL lC lT chk
theorem Src.at_ {w w' : World} {A : Option Addr} {n c : Nat} {l : List Nat} (h : Src w w.heap.size A n c l) (hb : Below w.heap.size w w') : Src w' w'.heap.size A n c l :=
  ⟨Nat.le_refl _, (h.txt.below hb).more hb.size, h.cap, h.len, h.byt⟩
theorem Src.take {w : World} {B : Nat} {A : Option Addr} {n c : Nat} {l : List Nat} (h : Src w B A n c l) {m : Nat} (hm : m ≤ n) : Src w B A m c (l.take m) :=
  ⟨h.low, h.txt.take h.cap hm, Nat.le_trans hm h.cap, Nat.le_trans hm h.len, byt_take h.byt m⟩
theorem Own.src {w : World} {base n c : Nat} {A : Option Addr} {l : List Nat} (h : Own w base 5 (.slice A n c) l) (hn : n ≤ 140737488355328) (hl : Byt l) : Src w w.heap.size A n c l :=
  ⟨Nat.le_refl _, h.text, h.cap, hn, hl⟩
end Go.Proofs.Yteefhbpmeajbfaa
namespace Go.Proofs.Yteefhbpmeajbfaa
set_option linter.unusedSimpArgs false
set_option linter.unusedVariables false
attribute [local irreducible] beL beK
def k32 (f : Nat → Nat) (j : Nat) : Nat := if j < 32 then f j else 0
theorem k32_V (f : Nat → Nat) : KeyV (k32 f) := fun j hj => if_neg (by omega)
theorem k32_L (f : Nat → Nat) : keyL (k32 f) = keyL f := by
  unfold keyL
  exact List.map_congr_left fun j hj => if_pos (List.mem_range.1 hj)
theorem k32_at (f : Nat → Nat) {j : Nat} (h : j < 32) : k32 f j = f j := if_pos h
theorem getD_mapr {α : Type} (f : Nat → α) (n i : Nat) (z : α) (h : i < n) : ((List.range n).map f).getD i z = f i := by
  rw [List.getD_eq_getElem?_getD, List.getElem?_map, List.getElem?_range h]
  rfl
theorem mem_mapr {α : Type} {f : Nat → α} {n : Nat} {x : α} (h : x ∈ (List.range n).map f) : ∃ i, i < n ∧ f i = x := by
  obtain ⟨i, hi, e⟩ := List.mem_map.1 h
  exact ⟨i, List.mem_range.1 hi, e⟩
/-- A commit, out of where it lies. -/
def toP (c : Com) (tg : Nat → Nat) : PCom :=
  ⟨c.ep, c.by_.toNat, (List.range c.pn).map (fun i => ⟨(c.kind i).toNat, (c.id i).toNat, k32 (c.ppt i)⟩), k32 c.pt, (List.range c.sn).map (fun i => ⟨(c.node i).toNat, (c.frm i + 1).toNat, (List.range (c.dn i)).map (fun j => (c.dv i j).toNat)⟩), (List.range c.kn).map (fun i => k32 (c.key i)), (List.range c.bn).map c.bx, k32 tg⟩
section
variable {c : Com} {tg : Nat → Nat}
theorem toP_L (hx : ∀ i, i < c.bn → (c.bx i).length = c.xn i) : comL c ++ keyL tg = [1] ++ (toP c tg).L := by
  have e1 : (toP c tg).props.flatMap PProp.L = propsL c c.pn := by
    show ((List.range c.pn).map _).flatMap PProp.L = _
    rw [List.flatMap_map]
    unfold propsL
    rw [List.flatMap_def, List.flatMap_def]
    exact congrArg List.flatten (List.map_congr_left fun i hi => by
      show beL 1 _ ++ (beL 4 _ ++ keyL (k32 (c.ppt i))) = beL 1 _ ++ (beL 4 _ ++ keyL (c.ppt i))
      rw [k32_L])
  have e2 : (toP c tg).steps.flatMap PStep.L = stepsL c c.sn := by
    show ((List.range c.sn).map _).flatMap PStep.L = _
    rw [List.flatMap_map]
    unfold stepsL
    congr 1
    funext i
    unfold PStep.L stepL sendL
    dsimp only
    rw [List.flatMap_map, List.length_map, List.length_range]
  have e3 : (toP c tg).new.flatMap keyL = keysL c c.kn := by
    show ((List.range c.kn).map _).flatMap keyL = _
    rw [List.flatMap_map]
    unfold keysL
    rw [List.flatMap_def, List.flatMap_def]
    exact congrArg List.flatten (List.map_congr_left fun i hi => k32_L _)
  have e4 : (toP c tg).boxes.flatMap (fun l => beL 2 l.length ++ l) = boxesL c c.bn := by
    show ((List.range c.bn).map _).flatMap _ = _
    rw [List.flatMap_map]
    unfold boxesL
    rw [List.flatMap_def, List.flatMap_def]
    congr 1
    exact List.map_congr_left fun i hi => by rw [hx i (List.mem_range.1 hi)]
  unfold PCom.L comL
  rw [e1, e2, e3, e4]
  show _ = [1] ++ (beL 8 c.ep ++ (beL 4 c.by_.toNat ++ ((beL 2 ((List.range c.pn).map _).length ++ _) ++ (keyL (k32 c.pt) ++ ((beL 2 ((List.range c.sn).map _).length ++ _) ++ (_ ++ (_ ++ keyL (k32 tg))))))))
  rw [k32_L, k32_L, List.length_map, List.length_map, List.length_range, List.length_range]
  simp only [List.append_assoc]
theorem toP_sends : ∀ n, n ≤ c.sn → sendsP ((List.range n).map fun i => (⟨(c.node i).toNat, (c.frm i + 1).toNat, (List.range (c.dn i)).map (fun j => (c.dv i j).toNat)⟩ : PStep)) = sends c n
  | 0, _ => rfl
  | n + 1, hn => by
    have ih := toP_sends n (by omega)
    have happ : ∀ (a b : List PStep), sendsP (a ++ b) = sendsP a + sendsP b := by
      intro a b
      induction a with
      | nil => simp [sendsP]
      | cons x a ih => show x.sd.length + sendsP (a ++ b) = x.sd.length + sendsP a + sendsP b; omega
    rw [List.range_succ, List.map_append, happ, ih]
    show sends c n + (((List.range (c.dn n)).map _).length + 0) = sends c n + c.dn n
    rw [List.length_map, List.length_range]
    omega
theorem toP_V (hok : OkCom c) (hx : ∀ i, i < c.bn → (c.bx i).length = c.xn i) : (toP c tg).V := by
  obtain ⟨⟨h1, h2, h3⟩, ⟨h4, h5⟩, ⟨h6, h7, h8⟩, h9, h10⟩ := hok
  refine ⟨?_, ?_, ⟨?_, ?_⟩, k32_V _, ⟨?_, ?_⟩, ⟨?_, ?_⟩, ⟨?_, ?_⟩, k32_V _⟩
  · show c.ep < _; omega
  · show c.by_.toNat < _; omega
  · show ((List.range c.pn).map _).length < _; rw [List.length_map, List.length_range]; omega
  · intro x hx'
    obtain ⟨i, hi, rfl⟩ := mem_mapr hx'
    have := h5 i hi
    unfold OkProp at this
    exact ⟨show (c.kind i).toNat < _ by omega, show (c.id i).toNat < _ by omega, k32_V _⟩
  · show ((List.range c.sn).map _).length < _; rw [List.length_map, List.length_range]; omega
  · intro x hx'
    obtain ⟨i, hi, rfl⟩ := mem_mapr hx'
    have := h8 i hi
    unfold OkStep OkPlace at this
    obtain ⟨q1, q2, q3, q4, q5⟩ := this
    refine ⟨show (c.node i).toNat < _ by omega, show (c.frm i + 1).toNat < _ by omega, show ((List.range (c.dn i)).map _).length < _ by rw [List.length_map, List.length_range]; omega, fun y hy => ?_⟩
    obtain ⟨j, hj, rfl⟩ := mem_mapr hy
    have := q5 j hj
    omega
  · show ((List.range c.kn).map _).length = ((List.range c.sn).map _).length
    simp [h7]
  · intro x hx'
    obtain ⟨i, hi, rfl⟩ := mem_mapr hx'
    exact k32_V _
  · show ((List.range c.bn).map _).length = sendsP ((List.range c.sn).map _)
    rw [List.length_map, List.length_range, toP_sends c.sn (Nat.le_refl _)]
    exact h9.symm
  · intro x hx'
    obtain ⟨i, hi, rfl⟩ := mem_mapr hx'
    have := h10 i hi
    have := hx i hi
    omega
theorem toP_same (hok : OkCom c) (a : At) : SameC c tg (comOf (toP c tg) a) (toP c tg).tag := by
  obtain ⟨⟨h1, h2, h3⟩, ⟨h4, h5⟩, ⟨h6, h7, h8⟩, h9, h10⟩ := hok
  refine ⟨rfl, ?_, ⟨?_, ?_⟩, ?_, ⟨?_, ?_⟩, ⟨?_, ?_⟩, ⟨?_, ?_⟩, ?_⟩
  · show c.by_ = ((c.by_.toNat : Nat) : Int); omega
  · show c.pn = ((List.range c.pn).map _).length; simp
  · intro i hi
    show SameP _ _ _ ((((List.range c.pn).map _).getD i zP).kind : Int) ((((List.range c.pn).map _).getD i zP).id : Int) (((List.range c.pn).map _).getD i zP).pt
    rw [getD_mapr _ _ _ _ hi]
    have := h5 i hi
    unfold OkProp at this
    exact ⟨show c.kind i = ((c.kind i).toNat : Int) by omega, show c.id i = ((c.id i).toNat : Int) by omega, fun j hj => (k32_at _ hj).symm⟩
  · intro j hj; exact (k32_at _ hj).symm
  · show c.sn = ((List.range c.sn).map _).length; simp
  · intro i hi
    show SameSt _ _ _ _ ((((List.range c.sn).map _).getD i zS).node : Int) ((((List.range c.sn).map _).getD i zS).frm - 1 : Int) (((List.range c.sn).map _).getD i zS).sd.length (fun j => ((((List.range c.sn).map _).getD i zS).sd.getD j 0 : Nat))
    rw [getD_mapr _ _ _ _ hi]
    have := h8 i hi
    unfold OkStep OkPlace at this
    obtain ⟨q1, q2, q3, q4, q5⟩ := this
    refine ⟨show c.node i = ((c.node i).toNat : Int) by omega, show c.frm i = ((c.frm i + 1).toNat : Int) - 1 by omega, ?_, fun j hj => ?_⟩
    · show c.dn i = ((List.range (c.dn i)).map _).length; simp
    · show c.dv i j = ((((List.range (c.dn i)).map fun j => (c.dv i j).toNat).getD j 0 : Nat) : Int)
      rw [getD_mapr _ _ _ _ hj]
      have := q5 j hj
      omega
  · show c.kn = ((List.range c.kn).map _).length; simp
  · intro i hi
    show SameK _ (((List.range c.kn).map _).getD i (fun _ => 0))
    rw [getD_mapr _ _ _ _ hi]
    intro j hj; exact (k32_at _ hj).symm
  · show c.bn = ((List.range c.bn).map _).length; simp
  · intro i hi
    show _ = ((List.range c.bn).map _).getD i []
    rw [getD_mapr _ _ _ _ hi]
  · intro j hj; exact (k32_at _ hj).symm
theorem toP_ok (hok : OkCom c) (hx : ∀ i, i < c.bn → (c.bx i).length = c.xn i) : OkP (toP c tg) := by
  have hs := toP_same (tg := tg) hok noAt
  have hsd := toP_sends (c := c) c.sn (Nat.le_refl _)
  obtain ⟨⟨h1, h2, h3⟩, ⟨h4, h5⟩, ⟨h6, h7, h8⟩, h9, h10⟩ := hok
  obtain ⟨s1, s2, ⟨s3, s4⟩, s5, ⟨s6, s7⟩, ⟨s8, s9⟩, ⟨s10, s11⟩, s12⟩ := hs
  unfold OkP OkCom
  have hsend : ∀ k, k ≤ c.sn → sends (comOf (toP c tg) noAt) k = sends c k := by
    intro k
    induction k with
    | zero => exact fun _ => rfl
    | succ k ih =>
      intro hk
      have h := (s7 k (by omega)).2.2.1
      show sends (comOf (toP c tg) noAt) k + (comOf (toP c tg) noAt).dn k = sends c k + c.dn k
      rw [ih (by omega), ← h]
  refine ⟨⟨by rw [← s1]; exact h1, by rw [← s2]; exact h2, by rw [← s2]; exact h3⟩, ⟨by rw [← s3]; exact h4, fun i hi => ?_⟩, ⟨by rw [← s6]; exact h6, by rw [← s6, ← s8]; exact h7, fun i hi => ?_⟩, by rw [← s6, ← s10, hsend _ (Nat.le_refl _)]; exact h9, fun i hi => ?_⟩
  · rw [← s3] at hi
    have q := h5 i hi
    obtain ⟨e1, e2, e3⟩ := s4 i hi
    rw [← e1, ← e2]
    exact ⟨q.1, q.2.1, q.2.2.1, fun hk j hj => (e3 j hj).symm.trans (q.2.2.2 hk j hj)⟩
  · rw [← s6] at hi
    have q := h8 i hi
    obtain ⟨e1, e2, e3, e4⟩ := s7 i hi
    rw [← e1, ← e2, ← e3]
    refine ⟨q.1, q.2.1, q.2.2.1, q.2.2.2.1, fun j hj => ?_⟩
    rw [← e4 j hj]
    exact q.2.2.2.2 j hj
  · rw [← s10] at hi
    have := s11 i hi
    show ((comOf (toP c tg) noAt).bx i).length ≤ 1000
    rw [← this, hx i hi]
    exact h10 i hi
theorem cm_back (hok : OkCom c) (hx : ∀ i, i < c.bn → (c.bx i).length = c.xn i) (hm : MidC c) : cmV (lT c tg) = (toP c tg, 0) := by
  have e : lT c tg = [1] ++ (toP c tg).L := by
    unfold lT
    rw [if_pos hok]
    exact toP_L hx
  rw [e, cmV_rd]
  refine rdV_back rw_com (by decide) (toP_V hok hx) (toP_ok hok hx) ?_
  rw [← toP_L (tg := tg) hx]
  have := hm.ln hok hx
  rw [List.length_append, keyL_len]
  omega
end
end Go.Proofs.Yteefhbpmeajbfaa
namespace Go.Proofs.Yteefhbpmeajbfaa
set_option linter.unusedSimpArgs false
set_option linter.unusedVariables false
open Go.RowKit
attribute [local irreducible] beL beK
section
variable {P : Program} {ops : Array Oper} {Q : Exit → Act → World → Prop} {N : Nat} {T : Act → World → Prop} {p : List (Oper × Bool)} {o : Oper} {a : Act} {w : World}
end
end Go.Proofs.Yteefhbpmeajbfaa
namespace Go.Proofs.Yteefhbpmeajbfaa
set_option linter.unusedSimpArgs false
set_option linter.unusedVariables false
open Go.RowKit

section
variable {X : List Nat} {w0 w' : World} {A : Option Addr} {c n : Nat} {l : List Nat}
/-- A row that a call made: known. -/
theorem own_txF {v : Value} {e : TypeId} (hX : ∀ k ∈ X, k < w0.heap.size) (h : Own w' w0.heap.size e v l) (hl : l.length ≤ 140737488355328) (hb : ∀ x ∈ l, x < 256) : ∃ A c, v = .slice A l.length c ∧ St (TxF A c l) w' X := by
  refine txF_row (e := e) (fun w2 hk => ?_) hl hb
  have h0 : w'.ownsRow 0 e 1 v l.length (l.map bv) := h.mono (Nat.zero_le _)
  refine res_keep (q := .row v e 1 l.length (l.map bv)) h0 fun k hk' => hk k (res_lt (q := .row v e 1 l.length (l.map bv)) h0 k hk') fun hm => ?_
  simp only [Res.keys, Option.mem_toList] at hk'
  have := (h.lt k hk').1
  have := hX k hm
  omega
theorem sep_below (hX : ∀ k ∈ X, k < w0.heap.size) (hb : Below w0.heap.size w0 w') : Sep X [] w0 w' [] [] :=
  ⟨Frm.of_below hb, hX, fun _ h => (by cases h), List.nodup_nil, fun _ h => (by cases h), fun _ h => (by cases h)⟩
theorem clone_sep (hX : ∀ k ∈ X, k < w0.heap.size) (h : St (TxF A c l) w0 X) :
    Calls Try.prog 37 #[.slice A l.length c] w0 fun e w' => ∃ A' c', e = .returned (.slice A' l.length c') ∧ Sep X [] w0 w' [] [TxF A' c' l] := by
  have hn := h.now
  refine (Clone_any A l.length c l w0 hn.txt hn.len).mono ?_
  rintro e w' ⟨v, rfl, ho, hb⟩
  obtain ⟨A', c', rfl, h1⟩ := own_txF hX ho hn.len hn.byt
  exact ⟨A', c', rfl, (sep_below hX hb).know (h1.mono (by simp [keysR]))⟩
theorem same_sep {A' : Option Addr} {c' : Nat} {l' : List Nat} (hX : ∀ k ∈ X, k < w0.heap.size) (h : St (TxF A c l) w0 X) (h' : St (TxF A' c' l') w0 X) :
    Calls Try.prog 41 #[.slice A l.length c, .slice A' l'.length c'] w0 fun e w' => e = .returned (.bool (decide (l = l'))) ∧ w0 = w' :=
  Same_txt A l.length c l A' l'.length c' l' _ w0 h.now.txt h'.now.txt h.now.byt h'.now.byt
theorem TxF.src (h : TxF A c l w0) : Src w0 w0.heap.size A l.length c l := ⟨Nat.le_refl _, h.txt, h.cap, h.len, h.byt⟩
/-- A commit's cells. -/
abbrev comC (c : Com) (tg : Nat → Nat) : List Chunk :=
  [.one (.int .u64 ((c.ep : Nat) : Int)), .one (.int .i64 c.by_), .one (.slice c.PA c.pn c.pc), .row 32 (byteV c.pt), .one (.slice c.SA c.sn c.sc), .one (.slice c.KA c.kn c.kc), .one (.slice c.BA c.bn c.bc), .row 32 (byteV tg)]
theorem comC_eq (c : Com) (tg : Nat → Nat) : arrV 70 (comV c tg) = ca (comC c tg) := by kernel_rfl
theorem readCommit_sep (hX : ∀ k ∈ X, k < w0.heap.size) (h : St (TxF A c l) w0 X) :
    Calls Try.prog 15 #[.slice A l.length c] w0 fun e w' => ∃ a : At, e = .returned (.tuple #[.agg (ca (comC (comOf (cmV l).1 a) (cmV l).1.tag)), .int .i64 (cmV l).2]) ∧ ComOk w' w'.heap.size (comOf (cmV l).1 a) ∧ Sep X [] w0 w' [] [] := by
  refine (ReadCommit_any A l.length c l w0 h.now.src).mono ?_
  rintro e w' ⟨a, rfl, ho, hb⟩
  exact ⟨a, by rw [comC_eq], ho, sep_below hX hb⟩
abbrev wlC (p : PWl) (A : Nat → Option Addr) (c : Nat → Nat) : List Chunk :=
  [.one (.int .i64 ((p.tw : Nat) : Int)), .one (.slice (A 0) p.c.length (c 0)), .one (.slice (A 1) p.t.length (c 1)), .one (.slice (A 2) p.b.length (c 2))]
theorem wlC_eq (p : PWl) (A : Nat → Option Addr) (c : Nat → Nat) : arrV 4 (wlG p.tw p.tx A c 3) = ca (wlC p A c) := by kernel_rfl
abbrev frC (p : PFr) (A : Option Addr) (c : Nat) : List Chunk := [.one (.int .u64 ((p.ep : Nat) : Int)), .one (.int .i64 ((p.frm : Nat) : Int)), .one (.int .u64 ((p.gen : Nat) : Int)), .one (.slice A p.box.length c)]
theorem frC_eq (p : PFr) (A : Option Addr) (c : Nat) : arrV 4 (frF p A c) = ca (frC p A c) := by kernel_rfl
theorem readWelcome_sep (hX : ∀ k ∈ X, k < w0.heap.size) (h : St (TxF A c l) w0 X) :
    Calls Try.prog 73 #[.slice A l.length c] w0 fun e w' => ∃ (A' : Nat → Option Addr) (c' : Nat → Nat), e = .returned (.tuple #[.agg (ca (wlC (wlV l).1 A' c')), .int .i64 (wlV l).2]) ∧ Sep X [] w0 w' [] [] := by
  refine (ReadWelcome_any A l.length c l w0 h.now.src).mono ?_
  rintro e w' ⟨A', c', rfl, ho, hb⟩
  exact ⟨A', c', by rw [wlC_eq], sep_below hX hb⟩
theorem readFrame_sep (hX : ∀ k ∈ X, k < w0.heap.size) (h : St (TxF A c l) w0 X) :
    Calls Try.prog 74 #[.slice A l.length c] w0 fun e w' => ∃ A' c', e = .returned (.tuple #[.agg (ca (frC (frV l).1 A' c')), .int .i64 (frV l).2]) ∧ Sep X [] w0 w' [] [] := by
  refine (ReadFrame_any A l.length c l w0 h.now.src).mono ?_
  rintro e w' ⟨A', c', rfl, ho, hb⟩
  exact ⟨A', c', by rw [frC_eq], sep_below hX hb⟩
end
end Go.Proofs.Yteefhbpmeajbfaa
namespace Go.Proofs.Yteefhbpmeajbfaa
set_option linter.unusedSimpArgs false
set_option linter.unusedVariables false
open Go.RowKit

/-- A letter. -/
structure Ltr where
  no : Int
  rc : Int
  text : List Nat
  deriving DecidableEq
def LtrT : Ty Ltr where
  μ := Option Addr × Nat
  dft := (none, 0)
  sz := 3
  pos := by decide
  ch x m := [.one (.int .i64 x.no), .one (.int .i64 x.rc), .one (.slice m.1 x.text.length m.2)]
  nest x m := TxF m.1 m.2 x.text
  len _ _ := rfl
  one _ _ := ⟨rfl, rfl, rfl, trivial⟩
def farB (x : Int) : Bool := decide (x < 0) || decide (1048576 < x)
def oddB (nx no rc : Int) : Bool := decide (no < 0) || decide (nx ≤ no) || farB rc
attribute [local irreducible] farB
set_option maxRecDepth 100000 in
set_option maxHeartbeats 4000000 in
theorem far_any {x : Int} {X : List Nat} {w0 : World} (hX : ∀ k ∈ X, k < w0.heap.size) :
    Calls Try.prog 34 #[.int .i64 x] w0 fun e w' => e = .returned (.bool (farB x)) ∧ w0 = w' := by
  refine calls_env Try.ntmps34 Try.func34 rfl rfl fun a E => ?_; replace E : Env a _ [(0, _)] := E
  have H : Sep X [] w0 w0 [] [] := Sep.start hX (fun _ h => by cases h)
  refine wp_seq_k fun K0 hK0 => ?_; refine S_region ?_; refine S_val E (pk_assign rfl rfl) rfl rfl rfl ?_; clear E a; intro a E; refine hK0 _ _ ?_; refine wp_seq_k fun K1 hK1 => ?_; refine S_region ?_; refine S_val E (pk_move rfl rfl) rfl rfl rfl ?_; clear E a; intro a E; refine S_val E (pk_int rfl rfl rfl rfl) rfl rfl rfl ?_; clear E a; intro a E; refine S_val E (pk_move rfl rfl) rfl rfl rfl ?_; clear E a; intro a E; refine env_split (d := 5) E rfl ?_ ?_
  · skip
    clear E; intro c5 E; refine S_skip E rfl rfl rfl ?_; clear E a; intro a E; refine S_skip E rfl rfl rfl ?_; clear E a; intro a E; refine S_val E (pk_pick rfl rfl rfl) rfl rfl rfl ?_; clear E a; intro a E; refine S_val E (pk_assign rfl rfl) rfl rfl rfl ?_; clear E a; intro a E; refine hK1 _ _ ?_; refine wp_ret ?_
    repeat (first | refine then_ret ?_ | refine block_ret ?_)
    refine ret1 rfl E (resT rfl) ?_; refine ⟨?_, rfl⟩
    simp_all [farB]
    try omega
  · skip
    clear E; intro c5 E; refine S_val E (pk_move rfl rfl) rfl rfl rfl ?_; clear E a; intro a E; refine S_val E (pk_int rfl rfl rfl rfl) rfl rfl rfl ?_; clear E a; intro a E; refine S_val E (pk_pick rfl rfl rfl) rfl rfl rfl ?_; clear E a; intro a E; refine S_val E (pk_assign rfl rfl) rfl rfl rfl ?_; clear E a; intro a E; refine hK1 _ _ ?_; refine wp_ret ?_
    repeat (first | refine then_ret ?_ | refine block_ret ?_)
    refine ret1 rfl E (resT rfl) ?_; refine ⟨?_, rfl⟩
    simp_all [farB]
    try omega
set_option maxRecDepth 100000 in
set_option maxHeartbeats 4000000 in
theorem odd_any {ep nx no rc : Int} {LA WA TA : Option Addr} {ln lc wn wc tn tc : Nat} {X : List Nat} {w0 : World} (hX : ∀ k ∈ X, k < w0.heap.size) :
    Calls Try.prog 40 #[.agg (ca [.one (.int .u64 ep), .one (.slice LA ln lc), .one (.slice WA wn wc), .one (.int .i64 nx)]), .agg (ca [.one (.int .i64 no), .one (.int .i64 rc), .one (.slice TA tn tc)])] w0 fun e w' => e = .returned (.bool (oddB nx no rc)) ∧ Sep X [] w0 w' [] [] := by
  refine calls_env Try.ntmps40 Try.func40 rfl rfl fun a E => ?_; replace E : Env a _ [(0, _), (1, _)] := E
  have H : Sep X [] w0 w0 [] [] := Sep.start hX (fun _ h => by cases h)
  refine wp_seq_k fun K0 hK0 => ?_; refine S_region ?_; refine S_eff E rfl (fun K hK => ?_); refine eff_box E H rfl rfl rfl ?_; clear H; intro b2 w H _; refine hK _ _ ?_; clear hK K; refine S_put E rfl rfl ?_; clear E a; intro a E; refine S_eff E rfl (fun K hK => ?_); refine eff_box E H rfl rfl rfl ?_; clear H; intro b3 w H _; refine hK _ _ ?_; clear hK K; refine S_put E rfl rfl ?_; clear E a; intro a E; refine S_val E (pk_assign rfl rfl) rfl rfl rfl ?_; clear E a; intro a E; refine hK0 _ _ ?_; refine wp_seq_k fun K1 hK1 => ?_; refine S_region ?_; refine S_val E (pk_fieldAddr (off := 0) rfl rfl (by kernel_rfl)) rfl rfl rfl ?_; clear E a; intro a E; refine S_val E (pk_load1 H 0 rfl rfl rfl trivial rfl (by kernel_rfl)) rfl rfl rfl ?_; clear E a; intro a E; refine S_val E (pk_int rfl rfl rfl rfl) rfl rfl rfl ?_; clear E a; intro a E; refine S_val E (pk_move rfl rfl) rfl rfl rfl ?_; clear E a
  intro a E; refine env_split (d := 8) E rfl ?_ ?_
  · skip
    clear E; intro c8 E; refine S_skip E rfl rfl rfl ?_; clear E a; intro a E; refine S_skip E rfl rfl rfl ?_; clear E a; intro a E; refine S_skip E rfl rfl rfl ?_; clear E a; intro a E; refine S_skip E rfl rfl rfl ?_; clear E a; intro a E; refine S_skip E rfl rfl rfl ?_; clear E a; intro a E; refine S_val E (pk_pick rfl rfl rfl) rfl rfl rfl ?_; clear E a; intro a E; refine S_val E (pk_move rfl rfl) rfl rfl rfl ?_; clear E a; intro a E; refine S_skip E rfl rfl rfl ?_; clear E a; intro a E; refine S_skip E rfl rfl rfl ?_; clear E a; intro a E; refine S_skip E rfl rfl rfl ?_; clear E a; intro a E; refine S_val E (pk_pick rfl rfl rfl) rfl rfl rfl ?_; clear E a; intro a E; refine S_val E (pk_assign rfl rfl) rfl rfl rfl ?_; clear E a; intro a E; refine hK1 _ _ ?_; refine wp_ret ?_
    repeat (first | refine then_ret ?_ | refine block_ret ?_)
    refine ret1 rfl E (resT rfl) ?_; refine ⟨?_, H.popL.popL⟩
    simp_all [oddB]
    try omega
  · skip
    clear E; intro c8 E; refine S_val E (pk_fieldAddr (off := 0) rfl rfl (by kernel_rfl)) rfl rfl rfl ?_; clear E a; intro a E; refine S_val E (pk_load1 H 0 rfl rfl rfl trivial rfl (by kernel_rfl)) rfl rfl rfl ?_; clear E a; intro a E; refine S_val E (pk_fieldAddr (off := 3) rfl rfl (by kernel_rfl)) rfl rfl rfl ?_; clear E a; intro a E; refine S_val E (pk_load1 H 1 rfl rfl rfl trivial rfl (by kernel_rfl)) rfl rfl rfl ?_; clear E a; intro a E; refine S_val E (pk_int rfl rfl rfl rfl) rfl rfl rfl ?_; clear E a; intro a E; refine S_val E (pk_pick rfl rfl rfl) rfl rfl rfl ?_; clear E a; intro a E; refine S_val E (pk_move rfl rfl) rfl rfl rfl ?_; clear E a; intro a E; refine env_split (d := 15) E rfl ?_ ?_
    · skip
      clear E; intro c15 E; refine S_skip E rfl rfl rfl ?_; clear E a; intro a E; refine S_skip E rfl rfl rfl ?_; clear E a; intro a E; refine S_skip E rfl rfl rfl ?_; clear E a; intro a E; refine S_val E (pk_pick rfl rfl rfl) rfl rfl rfl ?_; clear E a; intro a E; refine S_val E (pk_assign rfl rfl) rfl rfl rfl ?_; clear E a; intro a E; refine hK1 _ _ ?_; refine wp_ret ?_
      repeat (first | refine then_ret ?_ | refine block_ret ?_)
      refine ret1 rfl E (resT rfl) ?_; refine ⟨?_, H.popL.popL⟩
      simp_all [oddB]
      try omega
    · skip
      clear E; intro c15 E; refine S_val E (pk_fieldAddr (off := 1) rfl rfl (by kernel_rfl)) rfl rfl rfl ?_; clear E a; intro a E; refine S_val E (pk_load1 H 0 rfl rfl rfl trivial rfl (by kernel_rfl)) rfl rfl rfl ?_; clear E a; intro a E; refine S_eff E rfl (fun K hK => ?_); refine eff_call E rfl rfl rfl (by kernel_rfl) ?_; refine (far_any H.xk).mono ?_; rintro e w ⟨rfl, rfl⟩; refine hK _ _ ?_; clear hK K; refine S_put E rfl rfl ?_; clear E a; intro a E; refine S_val E (pk_pick rfl rfl rfl) rfl rfl rfl ?_; clear E a; intro a E; refine S_val E (pk_assign rfl rfl) rfl rfl rfl ?_; clear E a; intro a E; refine hK1 _ _ ?_; refine wp_ret ?_
      repeat (first | refine then_ret ?_ | refine block_ret ?_)
      refine ret1 rfl E (resT rfl) ?_; refine ⟨?_, H.popL.popL⟩
      simp_all [oddB]
      try omega
set_option maxRecDepth 100000 in
set_option maxHeartbeats 4000000 in
theorem Check1_any {ep nx no rc : Int} {LA WA TA : Option Addr} {ln lc wn wc tn tc b : Nat} {X : List Nat} {w0 : World} (hX : ∀ k ∈ X, k < w0.heap.size) (hS : St (AtC ⟨b, 0, none⟩ [.one (.int .u64 ep), .one (.slice LA ln lc), .one (.slice WA wn wc), .one (.int .i64 nx)]) w0 X) :
    Calls Try.prog 39 #[.agg (ca [.one (.int .i64 no), .one (.int .i64 rc), .one (.slice TA tn tc)]), .pointer (some ⟨b, 0, none⟩)] w0 fun e w' => e = .returned (.bool (oddB nx no rc)) ∧ Sep X [] w0 w' [] [] := by
  refine calls_env Try.ntmps39 Try.func39 rfl rfl fun a E => ?_; replace E : Env a _ [(0, _), (1, _)] := E
  have H : Sep X [] w0 w0 [] [(AtC ⟨b, 0, none⟩ [.one (.int .u64 ep), .one (.slice LA ln lc), .one (.slice WA wn wc), .one (.int .i64 nx)])] := Sep.start hX (List.forall_mem_cons.2 ⟨hS, fun _ h => by cases h⟩)
  refine wp_seq_k fun K0 hK0 => ?_; refine S_region ?_; refine S_eff E rfl (fun K hK => ?_); refine eff_box E H rfl rfl rfl ?_; clear H; intro b2 w H _; refine hK _ _ ?_; clear hK K; refine S_put E rfl rfl ?_; clear E a; intro a E; refine S_val E (pk_assign rfl rfl) rfl rfl rfl ?_; clear E a; intro a E; refine hK0 _ _ ?_; refine wp_seq_k fun K1 hK1 => ?_; refine S_region ?_; refine S_val E (pk_loadE (n := 4) (H.fact 0 rfl) (fun _ _ _ => trivial) rfl rfl rfl (by kernel_rfl)) rfl rfl rfl ?_; clear E a; intro a E; refine S_val E (pk_load (n := 3) H 0 rfl rfl rfl trivial rfl (by kernel_rfl)) rfl rfl rfl ?_; clear E a; intro a E; refine S_eff E rfl (fun K hK => ?_); refine eff_call E rfl rfl rfl (by kernel_rfl) ?_; refine (odd_any H.xk).mono ?_; rintro e w ⟨rfl, H1⟩
  replace H := H.call H1
  clear H1; replace H : Sep _ _ _ _ [_] [_] := H; refine hK _ _ ?_; clear hK K; refine S_put E rfl rfl ?_; clear E a; intro a E; refine S_val E (pk_assign rfl rfl) rfl rfl rfl ?_; clear E a; intro a E; refine hK1 _ _ ?_; refine wp_ret ?_
  repeat (first | refine then_ret ?_ | refine block_ret ?_)
  refine ret1 rfl E (resT rfl) ?_
  exact ⟨rfl, H.popL.pop⟩
def idxI {α : Type} (pb : α → Bool) (xs : List α) : Int := match xs.findIdx? pb with | some i => (i : Int) | none => -1
theorem idx_hit {α : Type} {pb : α → Bool} {xs : List α} {k : Nat} {x : α} (hx : xs[k]? = some x) (hp : pb x = true) (hlt : ∀ i y, i < k → xs[i]? = some y → pb y = false) : idxI pb xs = (k : Int) := by
  unfold idxI
  have : xs.findIdx? pb = some k := by
    rw [List.findIdx?_eq_some_iff_getElem]
    obtain ⟨hk, e⟩ := List.getElem?_eq_some_iff.1 hx
    refine ⟨hk, by rw [e]; exact hp, fun j hj => ?_⟩
    rw [hlt j xs[j] hj (List.getElem?_eq_getElem (by omega))]
    decide
  rw [this]
theorem idx_miss {α : Type} {pb : α → Bool} {xs : List α} (h : ∀ (i : Nat) x, xs[i]? = some x → pb x = false) : idxI pb xs = -1 := by
  unfold idxI
  have : xs.findIdx? pb = none := by
    rw [List.findIdx?_eq_none_iff]
    intro x hx
    obtain ⟨i, hi⟩ := List.mem_iff_getElem?.1 hx
    exact h i x hi
  rw [this]
theorem idx_any {α : Type} (pb : α → Bool) (xs : List α) : decide (idxI pb xs ≥ 0) = xs.any pb := by
  unfold idxI
  cases h : xs.findIdx? pb with
  | none =>
    rw [List.findIdx?_eq_none_iff] at h
    have : xs.any pb = false := by rw [List.any_eq_false]; intro x hx; rw [h x hx]; decide
    rw [this]; rfl
  | some i =>
    have h2 := List.findIdx?_isSome (p := pb) (xs := xs)
    rw [h] at h2
    have : xs.any pb = true := by rw [← h2]; rfl
    rw [this]
    simp
set_option maxRecDepth 100000 in
set_option maxHeartbeats 4000000 in
theorem IndexLtr_any {A : Option Addr} {c : Nat} {xs : List Ltr} {m : Nat → LtrT.μ} {pb : Ltr → Bool} {f : FuncId} {cs : Array Value} {r : World → Prop} (hf : fnB Try.prog f = true) (hln : xs.length ≤ 9223372036854775807)
    (hp : ∀ (x : Ltr) (mm : LtrT.μ) (X : List Nat) (w0 : World), (∀ k ∈ X, k < w0.heap.size) → St (LtrT.nest x mm) w0 X → St r w0 X → Calls Try.prog f (#[] ++ [.agg (ca [.one (.int .i64 x.no), .one (.int .i64 x.rc), .one (.slice mm.1 x.text.length mm.2)])].toArray ++ cs) w0 fun e w' => e = .returned (.bool (pb x)) ∧ Sep X [] w0 w' [] []) {X : List Nat} {w0 : World} (hX : ∀ k ∈ X, k < w0.heap.size) (hL : St (LiF LtrT A c xs m) w0 X) (hr : St (r) w0 X) :
    Calls Try.prog 67 #[.slice A xs.length c, .func (.func f) #[] cs] w0 fun e w' => e = .returned (.int .i64 (idxI pb xs)) ∧ Sep X [] w0 w' [] [] := by
  refine calls_env Try.ntmps67 Try.func67 rfl rfl fun a E => ?_; replace E : Env a _ [(0, _), (1, _)] := E
  have H : Sep X [] w0 w0 [] [(LiF LtrT A c xs m), (r)] := Sep.start hX (List.forall_mem_cons.2 ⟨hL, List.forall_mem_cons.2 ⟨hr, fun _ h => by cases h⟩⟩)
  refine wp_seq_k fun K0 hK0 => ?_; refine S_region ?_; refine S_val E (pk_assign rfl rfl) rfl rfl rfl ?_; clear E a; intro a E; refine hK0 _ _ ?_; refine wp_seq_k fun K1 hK1 => ?_; refine wp_seq_k fun K2 hK2 => ?_; refine S_region ?_; refine S_val E (pk_move rfl rfl) rfl rfl rfl ?_; clear E a; intro a E; refine S_val E (pk_len rfl rfl (by kernel_rfl)) rfl rfl rfl ?_; clear E a; intro a E; refine S_val E (pk_move rfl rfl) rfl rfl rfl ?_; clear E a; intro a E; refine hK2 _ _ ?_; refine wp_block ?_; refine S_loopK (γ := Nat) [0, 1, 7] (fun k => [(8, .int .i64 (k : Int))]) (fun k => k ≤ xs.length ∧ ∀ (i : Nat) x, i < k → xs[i]? = some x → pb x = false) (fun k => xs.length - k) (0) E H (by repeat (first | exact trivial | refine ⟨rfl, ?_⟩)) (⟨Nat.zero_le _, fun i x hi => absurd hi (Nat.not_lt_zero _)⟩) ?_; clear E H; intro k a w E H hφ; replace E : Env a _ [(8, _), (0, _), (1, _), (7, _)] := E
  replace H : Sep _ _ _ _ [] [_, _] := H; refine wp_seq_k fun K3 hK3 => ?_; refine S_region ?_; refine S_val E (pk_int rfl rfl rfl rfl) rfl rfl rfl ?_; clear E a; intro a E; refine hK3 _ _ ?_; refine wp_seq_k fun K4 hK4 => ?_; refine env_split (d := 9) E rfl ?_ ?_
  · skip
    clear E; intro c9 E
    have hk : k < xs.length := by simpa using c9
    have hx0 : xs[k]? = some xs[k] := List.getElem?_eq_getElem hk
    have hφ1 := hφ.1
    refine S_then E rfl ?_; refine wp_skip ?_; refine hK4 _ _ ?_; refine wp_seq_k fun K5 hK5 => ?_; refine wp_block ?_; refine wp_seq_k fun K6 hK6 => ?_; refine S_region ?_; refine S_val E (pk_move rfl rfl) rfl rfl rfl ?_; clear E a; intro a E; refine S_val E (pk_assign rfl rfl) rfl rfl rfl ?_; clear E a; intro a E; refine hK6 _ _ ?_; refine wp_seq_k fun K7 hK7 => ?_; refine S_region ?_; refine S_val E (pk_move rfl rfl) rfl rfl rfl ?_; clear E a; intro a E; refine S_val E (pk_move rfl rfl) rfl rfl rfl ?_; clear E a; intro a E; refine S_val E (pk_move rfl rfl) rfl rfl rfl ?_; clear E a; intro a E
    obtain ⟨ad14, hA14, hc14, hn14⟩ := LiF.get (A := A) (i := k) (x := xs[k]) (by exact H.fact 0 rfl) hx0
    refine S_val E (pk_elA (sz := 3) hA14 rfl (by kernel_rfl) rfl rfl rfl (by omega)) rfl rfl rfl ?_; clear E a; intro a E
    replace H := (H.know hn14).know hc14
    clear hn14 hc14; replace H : Sep _ _ _ _ _ [_, _, _, _] := H; refine S_val E (pk_loadE (n := 3) (H.fact 0 rfl) (fun _ _ _ => trivial) rfl rfl rfl (by kernel_rfl)) rfl rfl rfl ?_; clear E a; intro a E; refine S_eff E rfl (fun K hK => ?_); refine eff_call E rfl rfl rfl hf ?_; refine (hp _ _ _ _ H.xk (H.fact 1 rfl) (H.fact 3 rfl)).mono ?_; rintro e w ⟨rfl, H1⟩
    replace H := H.call H1
    clear H1; replace H : Sep _ _ _ _ [] [_, _, _, _] := H; refine hK _ _ ?_; clear hK K; refine S_put E rfl rfl ?_; clear E a; intro a E; refine hK7 _ _ ?_; refine env_split (d := 16) E rfl ?_ ?_
    · skip
      clear E; intro c16 E; refine S_then E rfl ?_; refine wp_seq_k fun K8 hK8 => ?_; refine S_region ?_; refine S_val E (pk_move rfl rfl) rfl rfl rfl ?_; clear E a; intro a E; refine S_val E (pk_assign rfl rfl) rfl rfl rfl ?_; clear E a; intro a E; refine hK8 _ _ ?_; refine wp_ret ?_
      repeat (first | refine then_ret ?_ | refine block_ret ?_)
      refine ret1 rfl E (resT rfl) ?_
      exact ⟨by rw [idx_hit hx0 c16 hφ.2], H.pop.pop.pop.pop⟩
    · skip
      clear E; intro c16 E; refine S_else E rfl ?_; refine wp_skip ?_; refine hK5 _ _ ?_; refine S_region ?_; refine S_val E (pk_intw rfl rfl rfl rfl (wI64 (by omega) (by omega))) rfl rfl rfl ?_; clear E a; intro a E; refine S_val E (pk_move rfl rfl) rfl rfl rfl ?_; clear E a; intro a E; refine loop_end ?_
      exact ⟨k + 1, ⟨E.to (by repeat (first | exact trivial | refine ⟨rfl, ?_⟩)), H.pop.pop, ⟨by omega, fun i x hi hx => by rcases Nat.lt_succ_iff_lt_or_eq.1 hi with h | h; exact hφ.2 i x h hx; subst h; rw [hx0] at hx; obtain rfl := Option.some.inj hx; exact c16⟩⟩, by omega⟩
  · skip
    clear E; intro c9 E
    have hk : ¬ k < xs.length := by simpa using c9
    refine S_else E rfl ?_; refine wp_exit ?_
    repeat (first | refine then_exit ?_ | refine block_hit ?_ | refine block_miss (by decide) ?_)
    refine hK1 _ _ ?_; refine wp_seq_k fun K9 hK9 => ?_; refine S_region ?_; refine S_val E (pk_assign rfl rfl) rfl rfl rfl ?_; clear E a; intro a E; refine hK9 _ _ ?_; refine wp_ret ?_
    repeat (first | refine then_ret ?_ | refine block_ret ?_)
    refine ret1 rfl E (resT rfl) ?_
    exact ⟨by rw [idx_miss (fun i x hx => hφ.2 i x (by have := (List.getElem?_eq_some_iff.1 hx).1; omega) hx)], H.pop.pop⟩
set_option maxRecDepth 100000 in
set_option maxHeartbeats 4000000 in
theorem ContainsLtr_any {A : Option Addr} {c : Nat} {xs : List Ltr} {m : Nat → LtrT.μ} {pb : Ltr → Bool} {f : FuncId} {cs : Array Value} {r : World → Prop} (hf : fnB Try.prog f = true) (hln : xs.length ≤ 9223372036854775807)
    (hp : ∀ (x : Ltr) (mm : LtrT.μ) (X : List Nat) (w0 : World), (∀ k ∈ X, k < w0.heap.size) → St (LtrT.nest x mm) w0 X → St r w0 X → Calls Try.prog f (#[] ++ [.agg (ca [.one (.int .i64 x.no), .one (.int .i64 x.rc), .one (.slice mm.1 x.text.length mm.2)])].toArray ++ cs) w0 fun e w' => e = .returned (.bool (pb x)) ∧ Sep X [] w0 w' [] []) {X : List Nat} {w0 : World} (hX : ∀ k ∈ X, k < w0.heap.size) (hL : St (LiF LtrT A c xs m) w0 X) (hr : St (r) w0 X) :
    Calls Try.prog 38 #[.slice A xs.length c, .func (.func f) #[] cs] w0 fun e w' => e = .returned (.bool (xs.any pb)) ∧ Sep X [] w0 w' [] [] := by
  refine calls_env Try.ntmps38 Try.func38 rfl rfl fun a E => ?_; replace E : Env a _ [(0, _), (1, _)] := E
  have H : Sep X [] w0 w0 [] [(LiF LtrT A c xs m), (r)] := Sep.start hX (List.forall_mem_cons.2 ⟨hL, List.forall_mem_cons.2 ⟨hr, fun _ h => by cases h⟩⟩)
  refine wp_seq_k fun K0 hK0 => ?_; refine S_region ?_; refine S_val E (pk_assign rfl rfl) rfl rfl rfl ?_; clear E a; intro a E; refine hK0 _ _ ?_; refine wp_seq_k fun K1 hK1 => ?_; refine S_region ?_; refine S_val E (pk_move rfl rfl) rfl rfl rfl ?_; clear E a; intro a E; refine S_val E (pk_move rfl rfl) rfl rfl rfl ?_; clear E a; intro a E; refine S_eff E rfl (fun K hK => ?_); refine eff_call E rfl rfl rfl (by kernel_rfl) ?_; refine (IndexLtr_any hf hln hp H.xk (H.fact 0 rfl) (H.fact 1 rfl)).mono ?_; rintro e w ⟨rfl, H1⟩
  replace H := H.call H1
  clear H1; replace H : Sep _ _ _ _ [] [_, _] := H; refine hK _ _ ?_; clear hK K; refine S_put E rfl rfl ?_; clear E a; intro a E; refine S_val E (pk_int rfl rfl rfl rfl) rfl rfl rfl ?_; clear E a; intro a E; refine S_val E (pk_assign rfl rfl) rfl rfl rfl ?_; clear E a; intro a E; refine hK1 _ _ ?_; refine wp_ret ?_
  repeat (first | refine then_ret ?_ | refine block_ret ?_)
  refine ret1 rfl E (resT rfl) ?_
  exact ⟨by rw [← idx_any], H.pop.pop⟩
set_option maxRecDepth 100000 in
set_option maxHeartbeats 4000000 in
theorem IndexInt_any {A : Option Addr} {c : Nat} {xs : List Int} {m : Nat → IntT.μ} {pb : Int → Bool} {f : FuncId} {cs : Array Value} {r : World → Prop} (hf : fnB Try.prog f = true) (hln : xs.length ≤ 9223372036854775807)
    (hp : ∀ (x : Int) (mm : IntT.μ) (X : List Nat) (w0 : World), (∀ k ∈ X, k < w0.heap.size) → St (IntT.nest x mm) w0 X → St r w0 X → Calls Try.prog f (#[] ++ [.int .i64 x].toArray ++ cs) w0 fun e w' => e = .returned (.bool (pb x)) ∧ Sep X [] w0 w' [] []) {X : List Nat} {w0 : World} (hX : ∀ k ∈ X, k < w0.heap.size) (hL : St (LiF IntT A c xs m) w0 X) (hr : St (r) w0 X) :
    Calls Try.prog 72 #[.slice A xs.length c, .func (.func f) #[] cs] w0 fun e w' => e = .returned (.int .i64 (idxI pb xs)) ∧ Sep X [] w0 w' [] [] := by
  refine calls_env Try.ntmps72 Try.func72 rfl rfl fun a E => ?_; replace E : Env a _ [(0, _), (1, _)] := E
  have H : Sep X [] w0 w0 [] [(LiF IntT A c xs m), (r)] := Sep.start hX (List.forall_mem_cons.2 ⟨hL, List.forall_mem_cons.2 ⟨hr, fun _ h => by cases h⟩⟩)
  refine wp_seq_k fun K0 hK0 => ?_; refine S_region ?_; refine S_val E (pk_assign rfl rfl) rfl rfl rfl ?_; clear E a; intro a E; refine hK0 _ _ ?_; refine wp_seq_k fun K1 hK1 => ?_; refine wp_seq_k fun K2 hK2 => ?_; refine S_region ?_; refine S_val E (pk_move rfl rfl) rfl rfl rfl ?_; clear E a; intro a E; refine S_val E (pk_len rfl rfl (by kernel_rfl)) rfl rfl rfl ?_; clear E a; intro a E; refine S_val E (pk_move rfl rfl) rfl rfl rfl ?_; clear E a; intro a E; refine hK2 _ _ ?_; refine wp_block ?_; refine S_loopK (γ := Nat) [0, 1, 7] (fun k => [(8, .int .i64 (k : Int))]) (fun k => k ≤ xs.length ∧ ∀ (i : Nat) x, i < k → xs[i]? = some x → pb x = false) (fun k => xs.length - k) (0) E H (by repeat (first | exact trivial | refine ⟨rfl, ?_⟩)) (⟨Nat.zero_le _, fun i x hi => absurd hi (Nat.not_lt_zero _)⟩) ?_; clear E H; intro k a w E H hφ; replace E : Env a _ [(8, _), (0, _), (1, _), (7, _)] := E
  replace H : Sep _ _ _ _ [] [_, _] := H; refine wp_seq_k fun K3 hK3 => ?_; refine S_region ?_; refine S_val E (pk_int rfl rfl rfl rfl) rfl rfl rfl ?_; clear E a; intro a E; refine hK3 _ _ ?_; refine wp_seq_k fun K4 hK4 => ?_; refine env_split (d := 9) E rfl ?_ ?_
  · skip
    clear E; intro c9 E
    have hk : k < xs.length := by simpa using c9
    have hx0 : xs[k]? = some xs[k] := List.getElem?_eq_getElem hk
    have hφ1 := hφ.1
    refine S_then E rfl ?_; refine wp_skip ?_; refine hK4 _ _ ?_; refine wp_seq_k fun K5 hK5 => ?_; refine wp_block ?_; refine wp_seq_k fun K6 hK6 => ?_; refine S_region ?_; refine S_val E (pk_move rfl rfl) rfl rfl rfl ?_; clear E a; intro a E; refine S_val E (pk_assign rfl rfl) rfl rfl rfl ?_; clear E a; intro a E; refine hK6 _ _ ?_; refine wp_seq_k fun K7 hK7 => ?_; refine S_region ?_; refine S_val E (pk_move rfl rfl) rfl rfl rfl ?_; clear E a; intro a E; refine S_val E (pk_move rfl rfl) rfl rfl rfl ?_; clear E a; intro a E; refine S_val E (pk_move rfl rfl) rfl rfl rfl ?_; clear E a; intro a E
    obtain ⟨ad14, hA14, hc14, hn14⟩ := LiF.get (A := A) (i := k) (x := xs[k]) (by exact H.fact 0 rfl) hx0
    refine S_val E (pk_elA (sz := 1) hA14 rfl (by kernel_rfl) rfl rfl rfl (by omega)) rfl rfl rfl ?_; clear E a; intro a E
    replace H := (H.know hn14).know hc14
    clear hn14 hc14; replace H : Sep _ _ _ _ _ [_, _, _, _] := H; refine S_val E (pk_loadE1 (H.fact 0 rfl) (fun _ _ _ => trivial) rfl rfl rfl (by kernel_rfl)) rfl rfl rfl ?_; clear E a; intro a E; refine S_eff E rfl (fun K hK => ?_); refine eff_call E rfl rfl rfl hf ?_; refine (hp _ _ _ _ H.xk (H.fact 1 rfl) (H.fact 3 rfl)).mono ?_; rintro e w ⟨rfl, H1⟩
    replace H := H.call H1
    clear H1; replace H : Sep _ _ _ _ [] [_, _, _, _] := H; refine hK _ _ ?_; clear hK K; refine S_put E rfl rfl ?_; clear E a; intro a E; refine hK7 _ _ ?_; refine env_split (d := 16) E rfl ?_ ?_
    · skip
      clear E; intro c16 E; refine S_then E rfl ?_; refine wp_seq_k fun K8 hK8 => ?_; refine S_region ?_; refine S_val E (pk_move rfl rfl) rfl rfl rfl ?_; clear E a; intro a E; refine S_val E (pk_assign rfl rfl) rfl rfl rfl ?_; clear E a; intro a E; refine hK8 _ _ ?_; refine wp_ret ?_
      repeat (first | refine then_ret ?_ | refine block_ret ?_)
      refine ret1 rfl E (resT rfl) ?_
      exact ⟨by rw [idx_hit hx0 c16 hφ.2], H.pop.pop.pop.pop⟩
    · skip
      clear E; intro c16 E; refine S_else E rfl ?_; refine wp_skip ?_; refine hK5 _ _ ?_; refine S_region ?_; refine S_val E (pk_intw rfl rfl rfl rfl (wI64 (by omega) (by omega))) rfl rfl rfl ?_; clear E a; intro a E; refine S_val E (pk_move rfl rfl) rfl rfl rfl ?_; clear E a; intro a E; refine loop_end ?_
      exact ⟨k + 1, ⟨E.to (by repeat (first | exact trivial | refine ⟨rfl, ?_⟩)), H.pop.pop, ⟨by omega, fun i x hi hx => by rcases Nat.lt_succ_iff_lt_or_eq.1 hi with h | h; exact hφ.2 i x h hx; subst h; rw [hx0] at hx; obtain rfl := Option.some.inj hx; exact c16⟩⟩, by omega⟩
  · skip
    clear E; intro c9 E
    have hk : ¬ k < xs.length := by simpa using c9
    refine S_else E rfl ?_; refine wp_exit ?_
    repeat (first | refine then_exit ?_ | refine block_hit ?_ | refine block_miss (by decide) ?_)
    refine hK1 _ _ ?_; refine wp_seq_k fun K9 hK9 => ?_; refine S_region ?_; refine S_val E (pk_assign rfl rfl) rfl rfl rfl ?_; clear E a; intro a E; refine hK9 _ _ ?_; refine wp_ret ?_
    repeat (first | refine then_ret ?_ | refine block_ret ?_)
    refine ret1 rfl E (resT rfl) ?_
    exact ⟨by rw [idx_miss (fun i x hx => hφ.2 i x (by have := (List.getElem?_eq_some_iff.1 hx).1; omega) hx)], H.pop.pop⟩
set_option maxRecDepth 100000 in
set_option maxHeartbeats 4000000 in
theorem ContainsInt_any {A : Option Addr} {c : Nat} {xs : List Int} {m : Nat → IntT.μ} {pb : Int → Bool} {f : FuncId} {cs : Array Value} {r : World → Prop} (hf : fnB Try.prog f = true) (hln : xs.length ≤ 9223372036854775807)
    (hp : ∀ (x : Int) (mm : IntT.μ) (X : List Nat) (w0 : World), (∀ k ∈ X, k < w0.heap.size) → St (IntT.nest x mm) w0 X → St r w0 X → Calls Try.prog f (#[] ++ [.int .i64 x].toArray ++ cs) w0 fun e w' => e = .returned (.bool (pb x)) ∧ Sep X [] w0 w' [] []) {X : List Nat} {w0 : World} (hX : ∀ k ∈ X, k < w0.heap.size) (hL : St (LiF IntT A c xs m) w0 X) (hr : St (r) w0 X) :
    Calls Try.prog 33 #[.slice A xs.length c, .func (.func f) #[] cs] w0 fun e w' => e = .returned (.bool (xs.any pb)) ∧ Sep X [] w0 w' [] [] := by
  refine calls_env Try.ntmps33 Try.func33 rfl rfl fun a E => ?_; replace E : Env a _ [(0, _), (1, _)] := E
  have H : Sep X [] w0 w0 [] [(LiF IntT A c xs m), (r)] := Sep.start hX (List.forall_mem_cons.2 ⟨hL, List.forall_mem_cons.2 ⟨hr, fun _ h => by cases h⟩⟩)
  refine wp_seq_k fun K0 hK0 => ?_; refine S_region ?_; refine S_val E (pk_assign rfl rfl) rfl rfl rfl ?_; clear E a; intro a E; refine hK0 _ _ ?_; refine wp_seq_k fun K1 hK1 => ?_; refine S_region ?_; refine S_val E (pk_move rfl rfl) rfl rfl rfl ?_; clear E a; intro a E; refine S_val E (pk_move rfl rfl) rfl rfl rfl ?_; clear E a; intro a E; refine S_eff E rfl (fun K hK => ?_); refine eff_call E rfl rfl rfl (by kernel_rfl) ?_; refine (IndexInt_any hf hln hp H.xk (H.fact 0 rfl) (H.fact 1 rfl)).mono ?_; rintro e w ⟨rfl, H1⟩
  replace H := H.call H1
  clear H1; replace H : Sep _ _ _ _ [] [_, _] := H; refine hK _ _ ?_; clear hK K; refine S_put E rfl rfl ?_; clear E a; intro a E; refine S_val E (pk_int rfl rfl rfl rfl) rfl rfl rfl ?_; clear E a; intro a E; refine S_val E (pk_assign rfl rfl) rfl rfl rfl ?_; clear E a; intro a E; refine hK1 _ _ ?_; refine wp_ret ?_
  repeat (first | refine then_ret ?_ | refine block_ret ?_)
  refine ret1 rfl E (resT rfl) ?_
  exact ⟨by rw [← idx_any], H.pop.pop⟩
/-- A server. -/
structure Srv where
  ep : Int
  log : List (List Nat)
  wait : List Ltr
  nx : Int
def okS (s : Srv) : Bool := decide (s.ep = (s.log.length : Int)) && decide (s.log.length ≤ 2000) && decide (s.wait.length ≤ 20000) && decide (0 ≤ s.nx) && decide (s.nx ≤ 1099511627776) && !s.wait.any fun x => oddB s.nx x.no x.rc
set_option maxRecDepth 100000 in
set_option maxHeartbeats 4000000 in
theorem Check_any {ep nx : Int} {LA WA : Option Addr} {lc wc : Nat} {log : List (List Nat)} {wait : List Ltr} {lm : Nat → TextT.μ} {wm : Nat → LtrT.μ} {X : List Nat} {w0 : World} (hX : ∀ k ∈ X, k < w0.heap.size) (hL : St (LiF TextT LA lc log lm) w0 X) (hW : St (LiF LtrT WA wc wait wm) w0 X) :
    Calls Try.prog 13 #[.agg (ca [.one (.int .u64 ep), .one (.slice LA log.length lc), .one (.slice WA wait.length wc), .one (.int .i64 nx)])] w0 fun e w' => e = .returned (.int .i64 (if okS ⟨ep, log, wait, nx⟩ then 0 else 1)) ∧ Sep X [] w0 w' [] [] := by
  have hLb := hL.now.big
  have hWb := hW.now.big
  refine calls_env Try.ntmps13 Try.func13 rfl rfl fun a E => ?_; replace E : Env a _ [(0, _)] := E
  have H : Sep X [] w0 w0 [] [(LiF TextT LA lc log lm), (LiF LtrT WA wc wait wm)] := Sep.start hX (List.forall_mem_cons.2 ⟨hL, List.forall_mem_cons.2 ⟨hW, fun _ h => by cases h⟩⟩)
  refine wp_seq_k fun K0 hK0 => ?_; refine S_region ?_; refine S_eff E rfl (fun K hK => ?_); refine eff_box E H rfl rfl rfl ?_; clear H; intro b1 w H _; refine hK _ _ ?_; clear hK K; refine S_put E rfl rfl ?_; clear E a; intro a E; refine S_val E (pk_assign rfl rfl) rfl rfl rfl ?_; clear E a; intro a E; refine hK0 _ _ ?_; refine wp_seq_k fun K1 hK1 => ?_; refine wp_seq_k fun K2 hK2 => ?_; refine S_region ?_; refine S_val E (pk_fieldAddr (off := 0) rfl rfl (by kernel_rfl)) rfl rfl rfl ?_; clear E a; intro a E; refine S_val E (pk_load1 H 0 rfl rfl rfl trivial rfl (by kernel_rfl)) rfl rfl rfl ?_; clear E a; intro a E; refine S_val E (pk_fieldAddr (off := 1) rfl rfl (by kernel_rfl)) rfl rfl rfl ?_; clear E a; intro a E; refine S_val E (pk_load1 H 0 rfl rfl rfl trivial rfl (by kernel_rfl)) rfl rfl rfl ?_; clear E a; intro a E; refine S_val E (pk_len rfl rfl (by kernel_rfl)) rfl rfl rfl ?_
  clear E a; intro a E; refine S_val E (pk_convw rfl rfl (by kernel_rfl) (by kernel_rfl) (wU64 (by omega) (by omega))) rfl rfl rfl ?_; clear E a; intro a E; refine S_val E (pk_int rfl rfl rfl rfl) rfl rfl rfl ?_; clear E a; intro a E; refine S_val E (pk_move rfl rfl) rfl rfl rfl ?_; clear E a; intro a E; refine env_split (d := 10) E rfl ?_ ?_
  · skip
    clear E; intro c10 E; refine S_skip E rfl rfl rfl ?_; clear E a; intro a E; refine S_skip E rfl rfl rfl ?_; clear E a; intro a E; refine S_skip E rfl rfl rfl ?_; clear E a; intro a E; refine S_skip E rfl rfl rfl ?_; clear E a; intro a E; refine S_val E (pk_pick rfl rfl rfl) rfl rfl rfl ?_; clear E a; intro a E; refine S_val E (pk_move rfl rfl) rfl rfl rfl ?_; clear E a; intro a E; refine S_skip E rfl rfl rfl ?_; clear E a; intro a E; refine S_skip E rfl rfl rfl ?_; clear E a; intro a E; refine S_skip E rfl rfl rfl ?_; clear E a; intro a E; refine S_skip E rfl rfl rfl ?_; clear E a; intro a E; refine S_val E (pk_pick rfl rfl rfl) rfl rfl rfl ?_; clear E a; intro a E; refine S_val E (pk_move rfl rfl) rfl rfl rfl ?_; clear E a; intro a E; refine S_skip E rfl rfl rfl ?_; clear E a; intro a E; refine S_skip E rfl rfl rfl ?_; clear E a; intro a E; refine S_skip E rfl rfl rfl ?_; clear E a
    intro a E; refine S_val E (pk_pick rfl rfl rfl) rfl rfl rfl ?_; clear E a; intro a E; refine S_val E (pk_move rfl rfl) rfl rfl rfl ?_; clear E a; intro a E; refine S_skip E rfl rfl rfl ?_; clear E a; intro a E; refine S_skip E rfl rfl rfl ?_; clear E a; intro a E; refine S_skip E rfl rfl rfl ?_; clear E a; intro a E; refine S_val E (pk_pick rfl rfl rfl) rfl rfl rfl ?_; clear E a; intro a E; refine hK2 _ _ ?_; refine S_then E rfl ?_; refine wp_seq_k fun K3 hK3 => ?_; refine S_region ?_; refine S_val E (pk_assign rfl rfl) rfl rfl rfl ?_; clear E a; intro a E; refine hK3 _ _ ?_; refine wp_ret ?_
    repeat (first | refine then_ret ?_ | refine block_ret ?_)
    refine ret1 rfl E (resT rfl) ?_; refine ⟨?_, H.popL.pop.pop⟩
    rw [if_neg]
    simp only [okS, Bool.and_eq_true, decide_eq_true_eq, Bool.not_eq_true', bne_iff_ne, ne_eq] at *
    omega
  · skip
    clear E; intro c10 E; refine S_val E (pk_fieldAddr (off := 1) rfl rfl (by kernel_rfl)) rfl rfl rfl ?_; clear E a; intro a E; refine S_val E (pk_load1 H 0 rfl rfl rfl trivial rfl (by kernel_rfl)) rfl rfl rfl ?_; clear E a; intro a E; refine S_val E (pk_len rfl rfl (by kernel_rfl)) rfl rfl rfl ?_; clear E a; intro a E; refine S_val E (pk_int rfl rfl rfl rfl) rfl rfl rfl ?_; clear E a; intro a E; refine S_val E (pk_pick rfl rfl rfl) rfl rfl rfl ?_; clear E a; intro a E; refine S_val E (pk_move rfl rfl) rfl rfl rfl ?_; clear E a; intro a E; refine env_split (d := 16) E rfl ?_ ?_
    · skip
      clear E; intro c16 E; refine S_skip E rfl rfl rfl ?_; clear E a; intro a E; refine S_skip E rfl rfl rfl ?_; clear E a; intro a E; refine S_skip E rfl rfl rfl ?_; clear E a; intro a E; refine S_skip E rfl rfl rfl ?_; clear E a; intro a E; refine S_val E (pk_pick rfl rfl rfl) rfl rfl rfl ?_; clear E a; intro a E; refine S_val E (pk_move rfl rfl) rfl rfl rfl ?_; clear E a; intro a E; refine S_skip E rfl rfl rfl ?_; clear E a; intro a E; refine S_skip E rfl rfl rfl ?_; clear E a; intro a E; refine S_skip E rfl rfl rfl ?_; clear E a; intro a E; refine S_val E (pk_pick rfl rfl rfl) rfl rfl rfl ?_; clear E a; intro a E; refine S_val E (pk_move rfl rfl) rfl rfl rfl ?_; clear E a; intro a E; refine S_skip E rfl rfl rfl ?_; clear E a; intro a E; refine S_skip E rfl rfl rfl ?_; clear E a; intro a E; refine S_skip E rfl rfl rfl ?_; clear E a; intro a E
      refine S_val E (pk_pick rfl rfl rfl) rfl rfl rfl ?_; clear E a; intro a E; refine hK2 _ _ ?_; refine S_then E rfl ?_; refine wp_seq_k fun K4 hK4 => ?_; refine S_region ?_; refine S_val E (pk_assign rfl rfl) rfl rfl rfl ?_; clear E a; intro a E; refine hK4 _ _ ?_; refine wp_ret ?_
      repeat (first | refine then_ret ?_ | refine block_ret ?_)
      refine ret1 rfl E (resT rfl) ?_; refine ⟨?_, H.popL.pop.pop⟩
      rw [if_neg]
      simp only [okS, Bool.and_eq_true, decide_eq_true_eq, Bool.not_eq_true', bne_iff_ne, ne_eq] at *
      omega
    · skip
      clear E; intro c16 E; refine S_val E (pk_fieldAddr (off := 2) rfl rfl (by kernel_rfl)) rfl rfl rfl ?_; clear E a; intro a E; refine S_val E (pk_load1 H 0 rfl rfl rfl trivial rfl (by kernel_rfl)) rfl rfl rfl ?_; clear E a; intro a E; refine S_val E (pk_len rfl rfl (by kernel_rfl)) rfl rfl rfl ?_; clear E a; intro a E; refine S_val E (pk_int rfl rfl rfl rfl) rfl rfl rfl ?_; clear E a; intro a E; refine S_val E (pk_pick rfl rfl rfl) rfl rfl rfl ?_; clear E a; intro a E; refine S_val E (pk_move rfl rfl) rfl rfl rfl ?_; clear E a; intro a E; refine env_split (d := 22) E rfl ?_ ?_
      · skip
        clear E; intro c22 E; refine S_skip E rfl rfl rfl ?_; clear E a; intro a E; refine S_skip E rfl rfl rfl ?_; clear E a; intro a E; refine S_skip E rfl rfl rfl ?_; clear E a; intro a E; refine S_val E (pk_pick rfl rfl rfl) rfl rfl rfl ?_; clear E a; intro a E; refine S_val E (pk_move rfl rfl) rfl rfl rfl ?_; clear E a; intro a E; refine S_skip E rfl rfl rfl ?_; clear E a; intro a E; refine S_skip E rfl rfl rfl ?_; clear E a; intro a E; refine S_skip E rfl rfl rfl ?_; clear E a; intro a E; refine S_val E (pk_pick rfl rfl rfl) rfl rfl rfl ?_; clear E a; intro a E; refine hK2 _ _ ?_; refine S_then E rfl ?_; refine wp_seq_k fun K5 hK5 => ?_; refine S_region ?_; refine S_val E (pk_assign rfl rfl) rfl rfl rfl ?_; clear E a; intro a E; refine hK5 _ _ ?_; refine wp_ret ?_
        repeat (first | refine then_ret ?_ | refine block_ret ?_)
        refine ret1 rfl E (resT rfl) ?_; refine ⟨?_, H.popL.pop.pop⟩
        rw [if_neg]
        simp only [okS, Bool.and_eq_true, decide_eq_true_eq, Bool.not_eq_true', bne_iff_ne, ne_eq] at *
        omega
      · skip
        clear E; intro c22 E; refine S_val E (pk_fieldAddr (off := 3) rfl rfl (by kernel_rfl)) rfl rfl rfl ?_; clear E a; intro a E; refine S_val E (pk_load1 H 0 rfl rfl rfl trivial rfl (by kernel_rfl)) rfl rfl rfl ?_; clear E a; intro a E; refine S_val E (pk_int rfl rfl rfl rfl) rfl rfl rfl ?_; clear E a; intro a E; refine S_val E (pk_pick rfl rfl rfl) rfl rfl rfl ?_; clear E a; intro a E; refine S_val E (pk_move rfl rfl) rfl rfl rfl ?_; clear E a; intro a E; refine env_split (d := 27) E rfl ?_ ?_
        · skip
          clear E; intro c27 E; refine S_skip E rfl rfl rfl ?_; clear E a; intro a E; refine S_skip E rfl rfl rfl ?_; clear E a; intro a E; refine S_skip E rfl rfl rfl ?_; clear E a; intro a E; refine S_val E (pk_pick rfl rfl rfl) rfl rfl rfl ?_; clear E a; intro a E; refine hK2 _ _ ?_; refine S_then E rfl ?_; refine wp_seq_k fun K6 hK6 => ?_; refine S_region ?_; refine S_val E (pk_assign rfl rfl) rfl rfl rfl ?_; clear E a; intro a E; refine hK6 _ _ ?_; refine wp_ret ?_
          repeat (first | refine then_ret ?_ | refine block_ret ?_)
          refine ret1 rfl E (resT rfl) ?_; refine ⟨?_, H.popL.pop.pop⟩
          rw [if_neg]
          simp only [okS, Bool.and_eq_true, decide_eq_true_eq, Bool.not_eq_true', bne_iff_ne, ne_eq] at *
          omega
        · skip
          clear E; intro c27 E; refine S_val E (pk_fieldAddr (off := 3) rfl rfl (by kernel_rfl)) rfl rfl rfl ?_; clear E a; intro a E; refine S_val E (pk_load1 H 0 rfl rfl rfl trivial rfl (by kernel_rfl)) rfl rfl rfl ?_; clear E a; intro a E; refine S_val E (pk_int rfl rfl rfl rfl) rfl rfl rfl ?_; clear E a; intro a E; refine S_val E (pk_pick rfl rfl rfl) rfl rfl rfl ?_; clear E a; intro a E; refine hK2 _ _ ?_; refine env_split (d := 31) E rfl ?_ ?_
          · skip
            clear E; intro c31 E; refine S_then E rfl ?_; refine wp_seq_k fun K7 hK7 => ?_; refine S_region ?_; refine S_val E (pk_assign rfl rfl) rfl rfl rfl ?_; clear E a; intro a E; refine hK7 _ _ ?_; refine wp_ret ?_
            repeat (first | refine then_ret ?_ | refine block_ret ?_)
            refine ret1 rfl E (resT rfl) ?_; refine ⟨?_, H.popL.pop.pop⟩
            rw [if_neg]
            simp only [okS, Bool.and_eq_true, decide_eq_true_eq, Bool.not_eq_true', bne_iff_ne, ne_eq] at *
            omega
          · skip
            clear E; intro c31 E; refine S_else E rfl ?_; refine wp_skip ?_; refine hK1 _ _ ?_; refine wp_seq_k fun K8 hK8 => ?_; refine wp_seq_k fun K9 hK9 => ?_; refine S_region ?_; refine S_val E (pk_fieldAddr (off := 2) rfl rfl (by kernel_rfl)) rfl rfl rfl ?_; clear E a; intro a E; refine S_val E (pk_load1 H 0 rfl rfl rfl trivial rfl (by kernel_rfl)) rfl rfl rfl ?_; clear E a; intro a E; refine S_val E (pk_makeFunc rfl rfl rfl) rfl rfl rfl ?_; clear E a; intro a E; refine S_eff E rfl (fun K hK => ?_); refine eff_call E rfl rfl rfl (by kernel_rfl) ?_
            have HL := by exact H.lend (b := b1) 0 rfl
            refine (ContainsLtr_any (f := 39) (cs := #[.pointer (some ⟨b1, 0, none⟩)]) (pb := fun x => oddB nx x.no x.rc) (r := AtC ⟨b1, 0, none⟩ [.one (.int .u64 ep), .one (.slice LA log.length lc), .one (.slice WA wait.length wc), .one (.int .i64 nx)]) (by kernel_rfl) hWb (fun x mm X w0 hX hn hr => Check1_any hX hr) HL.xk (HL.fact 2 rfl) (HL.fact 0 rfl)).mono ?_; clear HL; rintro e w ⟨rfl, H1⟩
            have F := H1.frm
            replace H := H.grow F
            refine hK _ _ ?_; clear hK K; refine S_put E rfl rfl ?_; clear E a; intro a E; clear F; refine hK9 _ _ ?_; refine env_split (d := 35) E rfl ?_ ?_
            · skip
              clear E; intro c35 E; refine S_then E rfl ?_; refine wp_seq_k fun K10 hK10 => ?_; refine S_region ?_; refine S_val E (pk_assign rfl rfl) rfl rfl rfl ?_; clear E a; intro a E; refine hK10 _ _ ?_; refine wp_ret ?_
              repeat (first | refine then_ret ?_ | refine block_ret ?_)
              refine ret1 rfl E (resT rfl) ?_; refine ⟨?_, H.popL.pop.pop⟩
              rw [if_neg]
              unfold okS
              rw [c35]
              simp
            · skip
              clear E; intro c35 E; refine S_else E rfl ?_; refine wp_skip ?_; refine hK8 _ _ ?_; refine wp_seq_k fun K11 hK11 => ?_; refine S_region ?_; refine S_val E (pk_assign rfl rfl) rfl rfl rfl ?_; clear E a; intro a E; refine hK11 _ _ ?_; refine wp_ret ?_
              repeat (first | refine then_ret ?_ | refine block_ret ?_)
              refine ret1 rfl E (resT rfl) ?_; refine ⟨?_, H.popL.pop.pop⟩
              rw [if_pos]
              unfold okS
              rw [c35]
              simp at *
              omega
set_option maxRecDepth 100000 in
set_option maxHeartbeats 4000000 in
theorem CloneTexts {A : Option Addr} {c : Nat} {xs : List (List Nat)} {m : Nat → TextT.μ} (hln : xs.length ≤ 1000000) {X : List Nat} {w0 : World} (hX : ∀ k ∈ X, k < w0.heap.size) (hL : St (LiF TextT A c xs m) w0 X) :
    Calls Try.prog 75 #[.slice A xs.length c] w0 fun e w' => ∃ A' c', e = .returned (.slice A' xs.length c') ∧ Sep X [] w0 w' [.row (.slice A' xs.length c') 23 TextT.sz xs.length (rowC TextT (itemsOf TextT xs m))] [NestF TextT (itemsOf TextT xs m)] := by
  refine calls_env Try.ntmps75 Try.func75 rfl rfl fun a E => ?_; replace E : Env a _ [(0, _)] := E
  have H : Sep X [] w0 w0 [] [(LiF TextT A c xs m)] := Sep.start hX (List.forall_mem_cons.2 ⟨hL, fun _ h => by cases h⟩)
  refine wp_seq_k fun K0 hK0 => ?_; refine S_region ?_; refine S_val E (pk_assign rfl rfl) rfl rfl rfl ?_; clear E a; intro a E; refine hK0 _ _ ?_; refine wp_seq_k fun K1 hK1 => ?_; refine wp_seq_k fun K2 hK2 => ?_; refine S_region ?_; refine S_val E (pk_move rfl rfl) rfl rfl rfl ?_; clear E a; intro a E; refine S_val E (pk_eqnil rfl rfl rfl (by kernel_rfl)) rfl rfl rfl ?_; clear E a; intro a E; refine hK2 _ _ ?_; refine env_split (d := 4) E rfl ?_ ?_
  · skip
    clear E; intro c4 E
    have hA : A = none := by cases A <;> simp_all
    have h0 := (hL.now.nil hA).1
    obtain rfl : xs = [] := List.eq_nil_of_length_eq_zero h0
    refine S_then E rfl ?_; refine wp_seq_k fun K3 hK3 => ?_; refine S_region ?_; refine S_val E (pk_assign rfl rfl) rfl rfl rfl ?_; clear E a; intro a E; refine hK3 _ _ ?_; refine wp_ret ?_
    repeat (first | refine then_ret ?_ | refine block_ret ?_)
    refine ret1 rfl E (resT rfl) ?_
    exact ⟨none, 0, rfl, ((H.rownil _ _).know nest_nil).drop1⟩
  · skip
    clear E; intro c4 E; refine S_else E rfl ?_; refine wp_skip ?_; refine hK1 _ _ ?_; refine wp_seq_k fun K4 hK4 => ?_; refine S_region ?_; refine S_eff E rfl (fun K hK => ?_); refine eff_bslice0 (sz := 1) H rfl Try.underlying22 (by kernel_rfl) ?_; clear H; intro b5 w H _; refine hK _ _ ?_; clear hK K; refine S_put E rfl rfl ?_; clear E a; intro a E; refine S_val E (pk_move rfl rfl) rfl rfl rfl ?_; clear E a; intro a E; refine S_eff E rfl (fun K hK => ?_); refine eff_appL (T := TextT) (its := []) 0 (by_ := 24) E H (H.fact 0 rfl) rfl rfl rfl rfl ⟨Try.underlying22, by kernel_rfl⟩ (by simp; omega) (by simp; omega) ?_; clear H; intro A7 c7 w hcap H F; refine hK _ _ ?_; clear hK K; refine S_put E rfl rfl ?_; clear E a; intro a E; clear F; refine S_val E (pk_assign rfl rfl) rfl rfl rfl ?_; clear E a; intro a E; refine hK4 _ _ ?_; refine wp_ret ?_
    repeat (first | refine then_ret ?_ | refine block_ret ?_)
    refine ret1 rfl E (resT rfl) ?_; refine ⟨A7, c7, by simp [itms_len], ?_⟩
    have h2 := H.know (nest_items (H.fact 0 rfl))
    simp only [List.nil_append, itms_len, List.set_cons_zero] at h2
    exact h2.drop1
set_option maxRecDepth 100000 in
set_option maxHeartbeats 4000000 in
theorem CloneLtrs {A : Option Addr} {c : Nat} {xs : List Ltr} {m : Nat → LtrT.μ} (hln : xs.length ≤ 1000000) {X : List Nat} {w0 : World} (hX : ∀ k ∈ X, k < w0.heap.size) (hL : St (LiF LtrT A c xs m) w0 X) :
    Calls Try.prog 76 #[.slice A xs.length c] w0 fun e w' => ∃ A' c', e = .returned (.slice A' xs.length c') ∧ Sep X [] w0 w' [.row (.slice A' xs.length c') 49 LtrT.sz xs.length (rowC LtrT (itemsOf LtrT xs m))] [NestF LtrT (itemsOf LtrT xs m)] := by
  refine calls_env Try.ntmps76 Try.func76 rfl rfl fun a E => ?_; replace E : Env a _ [(0, _)] := E
  have H : Sep X [] w0 w0 [] [(LiF LtrT A c xs m)] := Sep.start hX (List.forall_mem_cons.2 ⟨hL, fun _ h => by cases h⟩)
  refine wp_seq_k fun K0 hK0 => ?_; refine S_region ?_; refine S_val E (pk_assign rfl rfl) rfl rfl rfl ?_; clear E a; intro a E; refine hK0 _ _ ?_; refine wp_seq_k fun K1 hK1 => ?_; refine wp_seq_k fun K2 hK2 => ?_; refine S_region ?_; refine S_val E (pk_move rfl rfl) rfl rfl rfl ?_; clear E a; intro a E; refine S_val E (pk_eqnil rfl rfl rfl (by kernel_rfl)) rfl rfl rfl ?_; clear E a; intro a E; refine hK2 _ _ ?_; refine env_split (d := 4) E rfl ?_ ?_
  · skip
    clear E; intro c4 E
    have hA : A = none := by cases A <;> simp_all
    have h0 := (hL.now.nil hA).1
    obtain rfl : xs = [] := List.eq_nil_of_length_eq_zero h0
    refine S_then E rfl ?_; refine wp_seq_k fun K3 hK3 => ?_; refine S_region ?_; refine S_val E (pk_assign rfl rfl) rfl rfl rfl ?_; clear E a; intro a E; refine hK3 _ _ ?_; refine wp_ret ?_
    repeat (first | refine then_ret ?_ | refine block_ret ?_)
    refine ret1 rfl E (resT rfl) ?_
    exact ⟨none, 0, rfl, ((H.rownil _ _).know nest_nil).drop1⟩
  · skip
    clear E; intro c4 E; refine S_else E rfl ?_; refine wp_skip ?_; refine hK1 _ _ ?_; refine wp_seq_k fun K4 hK4 => ?_; refine S_region ?_; refine S_eff E rfl (fun K hK => ?_); refine eff_bslice0 (sz := 3) H rfl Try.underlying28 (by kernel_rfl) ?_; clear H; intro b5 w H _; refine hK _ _ ?_; clear hK K; refine S_put E rfl rfl ?_; clear E a; intro a E; refine S_val E (pk_move rfl rfl) rfl rfl rfl ?_; clear E a; intro a E; refine S_eff E rfl (fun K hK => ?_); refine eff_appL (T := LtrT) (its := []) 0 (by_ := 40) E H (H.fact 0 rfl) rfl rfl rfl rfl ⟨Try.underlying28, by kernel_rfl⟩ (by simp; omega) (by simp; omega) ?_; clear H; intro A7 c7 w hcap H F; refine hK _ _ ?_; clear hK K; refine S_put E rfl rfl ?_; clear E a; intro a E; clear F; refine S_val E (pk_assign rfl rfl) rfl rfl rfl ?_; clear E a; intro a E; refine hK4 _ _ ?_; refine wp_ret ?_
    repeat (first | refine then_ret ?_ | refine block_ret ?_)
    refine ret1 rfl E (resT rfl) ?_; refine ⟨A7, c7, by simp [itms_len], ?_⟩
    have h2 := H.know (nest_items (H.fact 0 rfl))
    simp only [List.nil_append, itms_len, List.set_cons_zero] at h2
    exact h2.drop1
set_option maxRecDepth 100000 in
set_option maxHeartbeats 4000000 in
theorem own_any {ep nx : Int} {LA WA : Option Addr} {lc wc : Nat} {log : List (List Nat)} {wait : List Ltr} {lm : Nat → TextT.μ} {wm : Nat → LtrT.μ} (hl1 : log.length ≤ 1000000) (hl2 : wait.length ≤ 1000000) {X : List Nat} {w0 : World} (hX : ∀ k ∈ X, k < w0.heap.size) (hL : St (LiF TextT LA lc log lm) w0 X) (hW : St (LiF LtrT WA wc wait wm) w0 X) :
    Calls Try.prog 36 #[.agg (ca [.one (.int .u64 ep), .one (.slice LA log.length lc), .one (.slice WA wait.length wc), .one (.int .i64 nx)])] w0 fun e w' => ∃ LA' lc' WA' wc' ds es, ds.map Prod.fst = log ∧ es.map Prod.fst = wait ∧ e = .returned (.agg (ca [.one (.int .u64 ep), .one (.slice LA' ds.length lc'), .one (.slice WA' es.length wc'), .one (.int .i64 nx)])) ∧ Sep X [] w0 w' [.row (.slice WA' es.length wc') 49 3 es.length (rowC LtrT (es)), .row (.slice LA' ds.length lc') 23 1 ds.length (rowC TextT (ds))] [NestF LtrT es, NestF TextT ds] := by
  refine calls_env Try.ntmps36 Try.func36 rfl rfl fun a E => ?_; replace E : Env a _ [(0, _)] := E
  have H : Sep X [] w0 w0 [] [(LiF TextT LA lc log lm), (LiF LtrT WA wc wait wm)] := Sep.start hX (List.forall_mem_cons.2 ⟨hL, List.forall_mem_cons.2 ⟨hW, fun _ h => by cases h⟩⟩)
  refine wp_seq_k fun K0 hK0 => ?_; refine S_region ?_; refine S_eff E rfl (fun K hK => ?_); refine eff_box E H rfl rfl rfl ?_; clear H; intro b1 w H _; refine hK _ _ ?_; clear hK K; refine S_put E rfl rfl ?_; clear E a; intro a E; refine S_eff E rfl (fun K hK => ?_); refine eff_alloc (z := [.one (.int .u64 0), .one (.slice none 0 0), .one (.slice none 0 0), .one (.int .i64 0)]) H rfl (by kernel_rfl) ?_; clear H; intro b2 w H _; refine hK _ _ ?_; clear hK K; refine S_put E rfl rfl ?_; clear E a; intro a E; refine hK0 _ _ ?_; refine wp_seq_k fun K1 hK1 => ?_; refine C_region E H [] 7 [(0, false), (1, false), (3, false), (4, false), (2, true), (6, false), (5, true)] (by kernel_rfl) (by kernel_rfl) (fun w HS => ?_)
  (simp only [canOps, List.getElem?_cons_zero, List.getElem?_cons_succ, List.drop_succ_cons, List.drop_zero])
  clear H
  have H := HS
  have hsz : w.heap.size ≤ w.heap.size := Nat.le_refl _
  have HK : CanB.Keep (fun k => k < w.heap.size ∧ k ∉ []) w w := CanB.Keep.refl _ _
  refine C_val E HK (pk_fieldAddr (off := 1) rfl rfl (by kernel_rfl)) rfl rfl rfl (fun _ _ _ _ h => h) ?_; clear E a; intro a E; refine C_val E HK (pk_load1 HS 1 rfl rfl rfl (HS.inS 1 rfl (by simp)) rfl (by kernel_rfl)) rfl rfl rfl (fun _ _ _ _ h => h) ?_; clear E a; intro a E; refine C_val E HK (pk_fieldAddr (off := 2) rfl rfl (by kernel_rfl)) rfl rfl rfl (fun _ _ _ _ h => h) ?_; clear E a; intro a E; refine C_val E HK (pk_load1 HS 1 rfl rfl rfl (HS.inS 1 rfl (by simp)) rfl (by kernel_rfl)) rfl rfl rfl (fun _ _ _ _ h => h) ?_; clear E a; intro a E; refine C_eff E rfl (fun K hK => ?_); refine eff_call E rfl rfl rfl (by kernel_rfl) ?_; refine (CloneTexts hl1 H.xk (H.fact 0 rfl)).mono ?_; rintro e w ⟨A9, c9, rfl, H1⟩
  have F := H1.frm
  replace H := H.call H1
  clear H1; replace H : Sep _ _ _ _ [_, _, _] [_, _, _] := H
  have hk := keep_frm (D := []) F hsz (by simp)
  refine hK _ _ hk ?_; clear hK K
  replace HK := HK.trans hk
  replace hsz := Nat.le_trans hsz (F).size
  clear hk; refine C_put E rfl rfl ?_; clear E a; intro a E; clear F; refine C_val E HK (pk_fieldAddr (off := 1) rfl rfl (by kernel_rfl)) rfl rfl rfl (fun _ _ _ _ h => h) ?_; clear E a; intro a E; refine C_eff E rfl (fun K hK => ?_); refine eff_call E rfl rfl rfl (by kernel_rfl) ?_; refine (CloneLtrs hl2 H.xk (H.fact 2 rfl)).mono ?_; rintro e w ⟨A12, c12, rfl, H1⟩
  have F := H1.frm
  replace H := H.call H1
  clear H1; replace H : Sep _ _ _ _ [_, _, _, _] [_, _, _, _] := H
  have hk := keep_frm (D := []) F hsz (by simp)
  refine hK _ _ hk ?_; clear hK K
  replace HK := HK.trans hk
  replace hsz := Nat.le_trans hsz (F).size
  clear hk; refine C_put E rfl rfl ?_; clear E a; intro a E; clear F; refine CanB.wpCan_nil ?_
  try (simp only [List.take_succ_cons, List.take_zero, List.drop_succ_cons, List.drop_zero])
  clear HS HK hsz; refine S_eff E rfl (fun K hK => ?_); refine eff_store 3 (new := [.one _]) E H rfl rfl rfl rfl rfl (by repeat (first | exact trivial | refine ⟨rfl, ?_⟩ | refine ⟨fun _ _ => rfl, ?_⟩)) rfl (by kernel_rfl) rfl ?_; clear H; intro w H _; replace H : Sep _ _ _ _ [_, _, _, _] _ := H; refine hK _ _ ?_; clear hK K; refine S_put0 rfl ?_; refine S_val E (pk_fieldAddr (off := 2) rfl rfl (by kernel_rfl)) rfl rfl rfl ?_; clear E a; intro a E; refine S_eff E rfl (fun K hK => ?_); refine eff_store 3 (new := [.one _]) E H rfl rfl rfl rfl rfl (by repeat (first | exact trivial | refine ⟨rfl, ?_⟩ | refine ⟨fun _ _ => rfl, ?_⟩)) rfl (by kernel_rfl) rfl ?_; clear H; intro w H _; replace H : Sep _ _ _ _ [_, _, _, _] _ := H; refine hK _ _ ?_; clear hK K; refine S_put0 rfl ?_; refine hK1 _ _ ?_; refine wp_seq_k fun K2 hK2 => ?_; refine wp_seq_k fun K3 hK3 => ?_; refine S_region ?_
  refine S_val E (pk_fieldAddr (off := 1) rfl rfl (by kernel_rfl)) rfl rfl rfl ?_; clear E a; intro a E; refine S_val E (pk_load1 H 3 rfl rfl rfl trivial rfl (by kernel_rfl)) rfl rfl rfl ?_; clear E a; intro a E; refine S_val E (pk_len rfl rfl (by kernel_rfl)) rfl rfl rfl ?_; clear E a; intro a E; refine S_val E (pk_move rfl rfl) rfl rfl rfl ?_; clear E a; intro a E; refine hK3 _ _ ?_; refine wp_block ?_
  refine S_loopI (γ := List (List Nat × TextT.μ)) [1, 2, 16, 17] (fun ds => [(18, .int .i64 (ds.length : Int))]) (fun ds => [.row (.slice A12 wait.length c12) 49 3 wait.length (rowC LtrT (itemsOf LtrT wait wm)), .row (.slice A9 log.length c9) 23 1 log.length (rowC TextT (ds ++ (itemsOf TextT log lm).drop ds.length)), .blk b2 (ca [.one (.int .u64 0), .one (.slice none 0 0), .one (.slice none 0 0), .one (.int .i64 0)]) 30, .blk b1 (ca [.one (.int .u64 ep), .one (.slice A9 log.length c9), .one (.slice A12 wait.length c12), .one (.int .i64 nx)]) 30]) (fun ds => [NestF TextT ds, NestF LtrT (itemsOf LtrT wait wm), NestF TextT (itemsOf TextT log lm), LiF TextT LA lc log lm, LiF LtrT WA wc wait wm]) (fun ds => ds.length ≤ log.length ∧ ds.map Prod.fst = log.take ds.length) (fun ds => log.length - ds.length) ([]) E (H.know nest_nil) (by repeat (first | exact trivial | refine ⟨rfl, ?_⟩)) (⟨Nat.zero_le _, rfl⟩) ?_
  clear E H; intro ds a w E H hφ; replace E : Env a _ [(18, _), (1, _), (2, _), (16, _), (17, _)] := E; replace H : Sep _ _ _ _ [_, _, _, _] [_, _, _, _, _] := H; refine wp_seq_k fun K4 hK4 => ?_; refine S_region ?_; refine S_val E (pk_int rfl rfl rfl rfl) rfl rfl rfl ?_; clear E a; intro a E; refine hK4 _ _ ?_; refine wp_seq_k fun K5 hK5 => ?_; refine env_split (d := 19) E rfl ?_ ?_
  · skip
    clear E; intro c19 E
    have hk : ds.length < log.length := by simpa using c19
    have hx0 : log[ds.length]? = some log[ds.length] := List.getElem?_eq_getElem hk
    have hit : (itemsOf TextT log lm)[ds.length]? = some (log[ds.length], lm ds.length) := by rw [items_at, hx0]; rfl
    have hit2 : (ds ++ (itemsOf TextT log lm).drop ds.length)[ds.length]? = some (log[ds.length], lm ds.length) := by rw [at_done]; exact hit
    have hlen : log.length = (ds ++ (itemsOf TextT log lm).drop ds.length).length := by rw [len_done _ _ (by rw [itms_len]; omega), itms_len]
    obtain ⟨g9, hg9⟩ := row_addr (H.holds _ (List.mem_of_getElem? (i := 1) rfl)) (by omega)
    refine S_then E rfl ?_; refine wp_skip ?_; refine hK5 _ _ ?_; refine wp_seq_k fun K6 hK6 => ?_; refine wp_block ?_; refine wp_seq_k fun K7 hK7 => ?_; refine S_region ?_; refine S_val E (pk_move rfl rfl) rfl rfl rfl ?_; clear E a; intro a E; refine S_val E (pk_elA (sz := 1) hg9 rfl (by kernel_rfl) rfl rfl rfl (by omega)) rfl rfl rfl ?_; clear E a; intro a E; refine S_val E (pk_loadR1 (T := TextT) (off := 0) H 1 rfl hg9 hit2 trivial rfl rfl (by first | rfl | exact (addr_add_zero _).symm) rfl (by kernel_rfl)) rfl rfl rfl ?_; clear E a; intro a E; refine S_val E (pk_assign rfl rfl) rfl rfl rfl ?_; clear E a; intro a E; refine S_val E (pk_assign rfl rfl) rfl rfl rfl ?_; clear E a; intro a E; refine hK7 _ _ ?_; refine C_region E H [] 5 [(0, false), (1, false), (2, false), (3, false), (4, true)] (by kernel_rfl) (by kernel_rfl) (fun w HS => ?_)
    (simp only [canOps, List.getElem?_cons_zero, List.getElem?_cons_succ, List.drop_succ_cons, List.drop_zero])
    clear H
    have H := HS
    have hsz : w.heap.size ≤ w.heap.size := Nat.le_refl _
    have HK : CanB.Keep (fun k => k < w.heap.size ∧ k ∉ []) w w := CanB.Keep.refl _ _
    refine C_val E HK (pk_fieldAddr (off := 1) rfl rfl (by kernel_rfl)) rfl rfl rfl (fun _ _ _ _ h => h) ?_; clear E a; intro a E; refine C_val E HK (pk_load1 HS 3 rfl rfl rfl (HS.inS 3 rfl (by simp)) rfl (by kernel_rfl)) rfl rfl rfl (fun _ _ _ _ h => h) ?_; clear E a; intro a E; refine C_val E HK (pk_move rfl rfl) rfl rfl rfl (fun _ _ _ _ h => h) ?_; clear E a; intro a E; refine C_val E HK (pk_move rfl rfl) rfl rfl rfl (fun _ _ _ _ h => h) ?_; clear E a; intro a E; refine C_eff E rfl (fun K hK => ?_); refine eff_call E rfl rfl rfl (by kernel_rfl) ?_; refine (clone_sep H.xk (nest_get (H.fact 2 rfl) hit)).mono ?_; rintro e w ⟨A27, c27, rfl, H1⟩
    have F := H1.frm
    replace H := H.call H1
    clear H1; replace H : Sep _ _ _ _ [_, _, _, _] [_, _, _, _, _, _] := H
    have hk := keep_frm (D := []) F hsz (by simp)
    refine hK _ _ hk ?_; clear hK K
    replace HK := HK.trans hk
    replace hsz := Nat.le_trans hsz (F).size
    clear hk; refine C_put E rfl rfl ?_; clear E a; intro a E; clear F; refine CanB.wpCan_nil ?_
    try (simp only [List.take_succ_cons, List.take_zero, List.drop_succ_cons, List.drop_zero])
    clear HS HK hsz; refine S_val E (pk_elA (sz := 1) hg9 rfl (by kernel_rfl) rfl rfl rfl (by omega)) rfl rfl rfl ?_; clear E a; intro a E; refine S_eff E rfl (fun K hK => ?_); refine eff_storeR (T := TextT) (off := 0) (new := [.one _]) ((log[ds.length], (A27, c27)) : List Nat × TextT.μ) 1 E H rfl hg9 hlen hit2 rfl rfl (by first | rfl | exact (addr_add_zero _).symm) rfl rfl (by repeat (first | exact trivial | refine ⟨rfl, ?_⟩ | refine ⟨fun _ _ => rfl, ?_⟩)) rfl (by kernel_rfl) ?_; clear H; intro w H F; replace H : Sep _ _ _ _ [_, _, _, _] _ := H; refine hK _ _ ?_; clear hK K; refine S_put0 rfl ?_; clear F; refine hK6 _ _ ?_; refine S_region ?_; refine S_val E (pk_intw rfl rfl rfl rfl (wI64 (by omega) (by omega))) rfl rfl rfl ?_; clear E a; intro a E; refine S_val E (pk_move rfl rfl) rfl rfl rfl ?_; clear E a; intro a E
    replace H := H.know (nest_snoc (q := ((log[ds.length], (A27, c27)) : List Nat × TextT.μ)) (H.fact 1 rfl) (H.fact 0 rfl))
    replace H := H.drop2
    rw [set_done ds _ _ (by rw [itms_len]; exact hk)] at H
    refine loop_end ?_
    exact ⟨ds ++ [((log[ds.length], (A27, c27)) : List Nat × TextT.μ)], ⟨E.to (by rw [List.length_append]; repeat (first | exact trivial | refine ⟨rfl, ?_⟩)), H, ⟨by rw [List.length_append]; simp only [List.length_singleton]; omega, take_done hφ.2 hx0⟩⟩, by rw [List.length_append]; simp only [List.length_singleton]; omega⟩
  · skip
    clear E; intro c19 E
    have hk : ¬ ds.length < log.length := by simpa using c19
    have hφ1 := hφ
    refine S_else E rfl ?_; refine wp_exit ?_
    repeat (first | refine then_exit ?_ | refine block_hit ?_ | refine block_miss (by decide) ?_)
    refine hK2 _ _ ?_; refine wp_seq_k fun K8 hK8 => ?_; refine wp_seq_k fun K9 hK9 => ?_; refine S_region ?_; refine S_val E (pk_fieldAddr (off := 2) rfl rfl (by kernel_rfl)) rfl rfl rfl ?_; clear E a; intro a E; refine S_val E (pk_load1 H 3 rfl rfl rfl trivial rfl (by kernel_rfl)) rfl rfl rfl ?_; clear E a; intro a E; refine S_val E (pk_len rfl rfl (by kernel_rfl)) rfl rfl rfl ?_; clear E a; intro a E; refine S_val E (pk_move rfl rfl) rfl rfl rfl ?_; clear E a; intro a E; refine hK9 _ _ ?_; refine wp_block ?_
    have hds : ds.length = log.length := by omega
    have e0 : (itemsOf TextT log lm).drop ds.length = [] := List.drop_eq_nil_of_le (by rw [itms_len]; omega)
    rw [e0, List.append_nil] at H
    refine S_loopI (γ := List (Ltr × LtrT.μ)) [1, 2, 31, 32] (fun es => [(33, .int .i64 (es.length : Int))]) (fun es => [.row (.slice A12 wait.length c12) 49 3 wait.length (rowC LtrT (es ++ (itemsOf LtrT wait wm).drop es.length)), .row (.slice A9 log.length c9) 23 1 log.length (rowC TextT (ds)), .blk b2 (ca [.one (.int .u64 0), .one (.slice none 0 0), .one (.slice none 0 0), .one (.int .i64 0)]) 30, .blk b1 (ca [.one (.int .u64 ep), .one (.slice A9 log.length c9), .one (.slice A12 wait.length c12), .one (.int .i64 nx)]) 30]) (fun es => [NestF LtrT es, NestF TextT ds, NestF LtrT (itemsOf LtrT wait wm), NestF TextT (itemsOf TextT log lm), LiF TextT LA lc log lm, LiF LtrT WA wc wait wm]) (fun es => es.length ≤ wait.length ∧ es.map Prod.fst = wait.take es.length) (fun es => wait.length - es.length) ([]) E (H.know nest_nil) (by repeat (first | exact trivial | refine ⟨rfl, ?_⟩)) (⟨Nat.zero_le _, rfl⟩) ?_
    clear E H; intro es a w E H hφ; replace E : Env a _ [(33, _), (1, _), (2, _), (31, _), (32, _)] := E; replace H : Sep _ _ _ _ [_, _, _, _] [_, _, _, _, _, _] := H
    have hφ2 := hφ
    refine wp_seq_k fun K10 hK10 => ?_; refine S_region ?_; refine S_val E (pk_int rfl rfl rfl rfl) rfl rfl rfl ?_; clear E a; intro a E; refine hK10 _ _ ?_; refine wp_seq_k fun K11 hK11 => ?_; refine env_split (d := 34) E rfl ?_ ?_
    · skip
      clear E; intro c34 E
      have hk : es.length < wait.length := by simpa using c34
      have hx0 : wait[es.length]? = some wait[es.length] := List.getElem?_eq_getElem hk
      have hit : (itemsOf LtrT wait wm)[es.length]? = some (wait[es.length], wm es.length) := by rw [items_at, hx0]; rfl
      have hit2 : (es ++ (itemsOf LtrT wait wm).drop es.length)[es.length]? = some (wait[es.length], wm es.length) := by rw [at_done]; exact hit
      have hlen : wait.length = (es ++ (itemsOf LtrT wait wm).drop es.length).length := by rw [len_done _ _ (by rw [itms_len]; omega), itms_len]
      obtain ⟨g12, hg12⟩ := row_addr (H.holds _ (List.mem_of_getElem? (i := 0) rfl)) (by omega)
      refine S_then E rfl ?_; refine wp_skip ?_; refine hK11 _ _ ?_; refine wp_seq_k fun K12 hK12 => ?_; refine wp_block ?_; refine wp_seq_k fun K13 hK13 => ?_; refine S_region ?_; refine S_val E (pk_move rfl rfl) rfl rfl rfl ?_; clear E a; intro a E; refine S_val E (pk_elA (sz := 3) hg12 rfl (by kernel_rfl) rfl rfl rfl (by omega)) rfl rfl rfl ?_; clear E a; intro a E; refine S_val E (pk_loadR (T := LtrT) (off := 0) (sz := 3) H 0 rfl hg12 hit2 trivial rfl rfl (by first | rfl | exact (addr_add_zero _).symm) rfl (by kernel_rfl)) rfl rfl rfl ?_; clear E a; intro a E; refine S_eff E rfl (fun K hK => ?_); refine eff_alloc (z := [.one (.int .i64 0), .one (.int .i64 0), .one (.slice none 0 0)]) H rfl (by kernel_rfl) ?_; clear H; intro b6 w H _; refine hK _ _ ?_; clear hK K; refine S_put E rfl rfl ?_; clear E a; intro a E; refine S_val E (pk_assign rfl rfl) rfl rfl rfl ?_; clear E a; intro a E
      refine S_eff E rfl (fun K hK => ?_); refine eff_store 0 E H rfl rfl rfl rfl rfl (by repeat (first | exact trivial | refine ⟨rfl, ?_⟩ | refine ⟨fun _ _ => rfl, ?_⟩)) rfl (by kernel_rfl) rfl ?_; clear H; intro w H _; replace H : Sep _ _ _ _ [_, _, _, _, _] _ := H; refine hK _ _ ?_; clear hK K; refine S_put0 rfl ?_; refine hK13 _ _ ?_; refine C_region E H [] 6 [(0, false), (1, false), (2, false), (3, false), (4, false), (5, true)] (by kernel_rfl) (by kernel_rfl) (fun w HS => ?_)
      (simp only [canOps, List.getElem?_cons_zero, List.getElem?_cons_succ, List.drop_succ_cons, List.drop_zero])
      clear H
      have H := HS
      have hsz : w.heap.size ≤ w.heap.size := Nat.le_refl _
      have HK : CanB.Keep (fun k => k < w.heap.size ∧ k ∉ []) w w := CanB.Keep.refl _ _
      refine C_val E HK (pk_fieldAddr (off := 2) rfl rfl (by kernel_rfl)) rfl rfl rfl (fun _ _ _ _ h => h) ?_; clear E a; intro a E; refine C_val E HK (pk_load1 HS 4 rfl rfl rfl (HS.inS 4 rfl (by simp)) rfl (by kernel_rfl)) rfl rfl rfl (fun _ _ _ _ h => h) ?_; clear E a; intro a E; refine C_val E HK (pk_move rfl rfl) rfl rfl rfl (fun _ _ _ _ h => h) ?_; clear E a; intro a E; refine C_val E HK (pk_fieldAddr (off := 2) rfl rfl (by kernel_rfl)) rfl rfl rfl (fun _ _ _ _ h => h) ?_; clear E a; intro a E; refine C_val E HK (pk_load1 HS 0 rfl rfl rfl (HS.inS 0 rfl (by simp)) rfl (by kernel_rfl)) rfl rfl rfl (fun _ _ _ _ h => h) ?_; clear E a; intro a E; refine C_eff E rfl (fun K hK => ?_); refine eff_call E rfl rfl rfl (by kernel_rfl) ?_; refine (clone_sep H.xk (nest_get (H.fact 2 rfl) hit)).mono ?_; rintro e w ⟨A43, c43, rfl, H1⟩
      have F := H1.frm
      replace H := H.call H1
      clear H1; replace H : Sep _ _ _ _ [_, _, _, _, _] [_, _, _, _, _, _, _] := H
      have hk := keep_frm (D := []) F hsz (by simp)
      refine hK _ _ hk ?_; clear hK K
      replace HK := HK.trans hk
      replace hsz := Nat.le_trans hsz (F).size
      clear hk; refine C_put E rfl rfl ?_; clear E a; intro a E; clear F; refine CanB.wpCan_nil ?_
      try (simp only [List.take_succ_cons, List.take_zero, List.drop_succ_cons, List.drop_zero])
      clear HS HK hsz; refine S_val E (pk_elA (sz := 3) hg12 rfl (by kernel_rfl) rfl rfl rfl (by omega)) rfl rfl rfl ?_; clear E a; intro a E; refine S_val E (pk_fieldAddr (off := 2) rfl rfl (by kernel_rfl)) rfl rfl rfl ?_; clear E a; intro a E; refine S_eff E rfl (fun K hK => ?_); refine eff_storeR (T := LtrT) (off := 2) (new := [.one _]) (((⟨wait[es.length].no, wait[es.length].rc, wait[es.length].text⟩ : Ltr), (A43, c43)) : Ltr × LtrT.μ) 1 E H rfl hg12 hlen hit2 rfl rfl (by first | rfl | exact (addr_add_zero _).symm) rfl rfl (by repeat (first | exact trivial | refine ⟨rfl, ?_⟩ | refine ⟨fun _ _ => rfl, ?_⟩)) rfl (by kernel_rfl) ?_; clear H; intro w H F; replace H : Sep _ _ _ _ [_, _, _, _, _] _ := H; refine hK _ _ ?_; clear hK K; refine S_put0 rfl ?_; clear F; refine hK12 _ _ ?_; refine S_region ?_; refine S_val E (pk_intw rfl rfl rfl rfl (wI64 (by omega) (by omega))) rfl rfl rfl ?_
      clear E a; intro a E; refine S_val E (pk_move rfl rfl) rfl rfl rfl ?_; clear E a; intro a E
      replace H := H.know (nest_snoc (q := (((⟨wait[es.length].no, wait[es.length].rc, wait[es.length].text⟩ : Ltr), (A43, c43)) : Ltr × LtrT.μ)) (H.fact 1 rfl) (H.fact 0 rfl))
      replace H := H.drop2.popL
      rw [set_done es _ _ (by rw [itms_len]; exact hk)] at H
      refine loop_end ?_
      exact ⟨es ++ [(((⟨wait[es.length].no, wait[es.length].rc, wait[es.length].text⟩ : Ltr), (A43, c43)) : Ltr × LtrT.μ)], ⟨E.to (by rw [List.length_append]; repeat (first | exact trivial | refine ⟨rfl, ?_⟩)), H, ⟨by rw [List.length_append]; simp only [List.length_singleton]; omega, take_done hφ.2 hx0⟩⟩, by rw [List.length_append]; simp only [List.length_singleton]; omega⟩
    · skip
      clear E; intro c34 E
      have hk : ¬ es.length < wait.length := by simpa using c34
      refine S_else E rfl ?_; refine wp_exit ?_
      repeat (first | refine then_exit ?_ | refine block_hit ?_ | refine block_miss (by decide) ?_)
      refine hK8 _ _ ?_; refine wp_seq_k fun K14 hK14 => ?_; refine S_region ?_; refine S_val E (pk_load (n := 4) H 3 rfl rfl rfl trivial rfl (by kernel_rfl)) rfl rfl rfl ?_; clear E a; intro a E; refine S_eff E rfl (fun K hK => ?_); refine eff_store 2 E H rfl rfl rfl rfl rfl (by repeat (first | exact trivial | refine ⟨rfl, ?_⟩ | refine ⟨fun _ _ => rfl, ?_⟩)) rfl (by kernel_rfl) rfl ?_; clear H; intro w H _; replace H : Sep _ _ _ _ [_, _, _, _] _ := H; refine hK _ _ ?_; clear hK K; refine S_put0 rfl ?_; refine hK14 _ _ ?_; refine wp_ret ?_
      repeat (first | refine then_ret ?_ | refine block_ret ?_)
      refine ret1 rfl E (by exact resC (n := 4) H 2 rfl rfl rfl (by kernel_rfl)) ?_
      have hes : es.length = wait.length := by omega
      have e0 : (itemsOf LtrT wait wm).drop es.length = [] := List.drop_eq_nil_of_le (by rw [itms_len]; omega)
      rw [e0, List.append_nil] at H
      refine ⟨A9, c9, A12, c12, ds, es, ?_, ?_, (by rw [hds, hes]), ?_⟩
      · rw [hφ1.2, hds, List.take_length]
      · rw [hφ.2, hes, List.take_length]
      rw [hds, hes]
      · exact H.keepLR (L := [_, _]) (R := [_, _])
end Go.Proofs.Yteefhbpmeajbfaa
