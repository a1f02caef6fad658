/- The walks of layer 16's pen: steps, and a commit's head. -/
import Derived.Test.YtfbfkfdkigpkgaaLst
namespace Go.Proofs.Ytfbfkfdkigpkgaa
set_option linter.unusedSimpArgs false
set_option linter.unusedVariables false
open Go.RowKit
attribute [local irreducible] beL beK keyL

set_option maxRecDepth 100000 in
set_option maxHeartbeats 2000000 in
theorem oneStep (node frm : Int) (A : Option Addr) (n c : Nat) (v : Nat → Int) (hok : OkStep node frm n v) (P g base : Nat) (l : List Nat) (hl : l.length ≤ 8796093022300) (w : World) (h : Els w base A n 1 fun j _ => .int .i64 (v j)) (hp : Pens w g base l) (hP : PenVar w P g) (hne : P ≠ g) :
    Calls Try.prog 83 #[.agg (arrV 3 (stepV node frm A n c)), .pointer (some ⟨P, 0, none⟩)] w (PenAll w g base (l ++ stepL node frm n v)) := by
  obtain ⟨⟨k1, k3⟩, i0, i1, hn, hv⟩ := hok
  obtain ⟨K, rfl⟩ : ∃ K : Nat, node = K := ⟨node.toNat, by omega⟩
  obtain ⟨I, rfl⟩ : ∃ I : Nat, frm = (I : Int) - 1 := ⟨(frm + 1).toNat, by omega⟩
  have hgl := hp.lt
  have H0 := Lib.hid h
  have HV := Lib.hid hv
  clear h hv
  go_enter Try.func83, Try.ntmps83
  have g0 := heap_alloc_new w (.cells (arrV 3 (stepV K ((I : Int) - 1) A n c)) 71)
  have hb : Below w.heap.size w (w.alloc (.cells (arrV 3 (stepV K ((I : Int) - 1) A n c)) 71)) := (Below.refl _ _).alloc (Nat.le_refl _) _
  have hbs := hp.size
  replace hp := hp.after hb
  replace hP := hP.after hb
  have hk : PenKeep w _ g := PenKeep.below hb
  replace hb := hb.mono hbs
  have c0 := cell_arrV g0 0 (by omega)
  replace c0 : _ = some (Value.int .i64 K) := c0
  have cP := hP.cell
  go_upto_region 2 with (go_at_call 36; (with_reducible refine (num2 K (by omega) g base l (by omega) _ hp).mono ?_); rintro e w2 ⟨rfl, hp, b2, k2⟩)
  replace g0 := k2 _ _ _ _ g0 (by omega) (by decide)
  replace hP := hP.keep k2 hne
  replace hk := hk.trans k2
  replace hb := hb.trans b2
  have cP := hP.cell
  have c1 := cell_arrV g0 1 (by omega)
  replace c1 : _ = some (Value.int .i64 ((I : Int) - 1)) := c1
  clear c0
  have hl2 : (l ++ beL 2 K).length ≤ 8796093022310 := by rw [List.length_append, beL_len]; omega
  go_upto_region 3 with (go_at_call 36; (with_reducible refine (num2 I (by omega) g base (l ++ beL 2 K) (by omega) _ hp).mono ?_); rintro e w3 ⟨rfl, hp, b3, k3⟩)
  replace g0 := k3 _ _ _ _ g0 (by omega) (by decide)
  replace hP := hP.keep k3 hne
  replace hk := hk.trans k3
  replace hb := hb.trans b3
  have cP := hP.cell
  have c2 := cell_arrV g0 2 (by omega)
  replace c2 : _ = some (Value.slice A n c) := c2
  clear c1
  have hl3 : (l ++ beL 2 K ++ beL 2 I).length ≤ 8796093022320 := by rw [List.length_append, beL_len]; omega
  have hE := H0.out.below hb
  go_wp2_with (go_at_call 84; (with_reducible refine (listInt A n c v P g base (l ++ beL 2 K ++ beL 2 I) (by omega) hn _ hE HV.out hp hP hne).mono ?_); rintro e w4 ⟨rfl, hp, b4, k4⟩)
  go_end0
  refine ⟨rfl, ?_, hb.trans b4, hk.trans k4⟩
  unfold stepL sendL
  rw [Int.sub_add_cancel, Int.toNat_natCast, Int.toNat_natCast, ← List.append_assoc, ← List.append_assoc]
  exact hp

set_option maxRecDepth 100000 in
set_option maxHeartbeats 2000000 in
theorem listStep (A : Option Addr) (n c : Nat) (node frm : Nat → Int) (DA : Nat → Option Addr) (dn dc : Nat → Nat) (dv : Nat → Nat → Int) (P g base : Nat) (l : List Nat) (hl : l.length ≤ 4398046511104) (hn : n ≤ 4000) (w : World) (h : Els w base A n 3 (fun i => stepV (node i) (frm i) (DA i) (dn i) (dc i))) (HS : ∀ i, i < n → Els w base (DA i) (dn i) 1 (fun j _ => .int .i64 (dv i j))) (hok : ∀ i, i < n → OkStep (node i) (frm i) (dn i) (dv i)) (hp : Pens w g base l) (hP : PenVar w P g) (hne : P ≠ g) :
    Calls Try.prog 82 #[.pointer (some ⟨g, 0, none⟩), .slice A n c, .func (.func 83) #[] #[.pointer (some ⟨P, 0, none⟩)]] w (PenAll w g base (l ++ (beL 2 n ++ (List.range n).flatMap fun i => stepL (node i) (frm i) (dn i) (dv i)))) := by
  have H0 := Lib.hid h
  have HOK := Lib.hid hok
  clear h hok
  go_enter Try.func82, Try.ntmps82
  go_upto_region 1 with (go_at_call 36; (with_reducible refine (num2 n (by omega) g base l (by omega) _ hp).mono ?_); rintro e w2 ⟨rfl, hp, b2, k2⟩)
  replace hP := hP.keep k2 hne
  go_wp2
  go_loopg [15] n (fun r x wr => ∃ i : Nat, i + r = n ∧ x = .int .i64 i ∧ Pens wr g base (l ++ beL 2 n ++ (List.range i).flatMap fun i => stepL (node i) (frm i) (dn i) (dv i)) ∧ PenVar wr P g ∧ Below base w wr ∧ PenKeep w wr g)
  case atStart => exact ⟨0, by omega, rfl, by simpa using hp, hP, b2, k2⟩
  case round =>
    clear hp hP b2 k2
    obtain ⟨i, hi, rfl, hp, hP, hb, hk⟩ := hrel
    have HI := Lib.hid hi
    clear hi
    have hs := hp.size
    by_cases hlt : i < n
    · obtain ⟨ad, rfl, hab, hc⟩ := (H0.out.below hb).cell hlt
      have hoki := HOK.out i hlt
      have hlen : (l ++ beL 2 n ++ (List.range i).flatMap fun i => stepL (node i) (frm i) (dn i) (dv i)).length ≤ 4398146511104 := by
        have h1 : ((List.range i).flatMap fun i => stepL (node i) (frm i) (dn i) (dv i)).length ≤ 8006 * i := flat_len _ 8006 i fun j hj => Nat.le_trans (stepL_len _ _ _ _) (by have := (HOK.out j (by omega)).2.2.2.1; omega)
        rw [List.length_append, List.length_append, beL_len]
        omega
      obtain ⟨ll, hll⟩ : ∃ ll, ll = (l ++ beL 2 n ++ (List.range i).flatMap fun i => stepL (node i) (frm i) (dn i) (dv i)) := ⟨_, rfl⟩
      rw [← hll] at hp hlen
      have HLL := Lib.hid hll
      clear hll
      have hS := (HS i hlt).below hb
      go_wp2_with (first | (refine wpList_el rfl rfl Try.underlying38 (sz := 3) (by kernel_rfl) rfl rfl hlt ?_) | (refine wpList_load_at (n := 3) rfl rfl RTStep rfl hc ?_) | (refine wpList_newV rfl rfl rfl rfl ZVStep RTStep rfl rfl (fun _ _ => stepV_one _ _ _ _ _ _) ?_; intro w2 g2 bw hsw; replace hp := hp.after bw; replace hP := hP.after bw; replace hb := hb.trans (bw.mono hs); replace hk := hk.trans (PenKeep.below bw)) | (refine wpList_load_all rfl rfl RTStep rfl g2 ?_) | (go_at_call 83; (with_reducible refine (oneStep (node i) (frm i) (DA i) (dn i) (dc i) (dv i) hoki P g base ll (by omega) _ (hS.below' bw hs) hp hP hne).mono ?_); rintro e w3 ⟨rfl, hp, b3, k3⟩))
      go_roundg (gk - 1)
      case measure => have := HI.out; omega
      case rel =>
        have hI := HI.out
        refine ⟨i + 1, by omega, by go_num, ?_, hP.keep k3 hne, hb.trans b3, hk.trans k3⟩
        rw [flat_succ, ← List.append_assoc, ← HLL.out]
        exact hp
    · obtain rfl : i = n := by have := HI.out; omega
      go_wp2
      go_end0
      refine ⟨rfl, ?_, hb, hk⟩
      rw [← List.append_assoc]
      exact hp
theorem ZTKey : ZeroT Try.prog 37 .u8 32 := by unfold ZeroT; kernel_rfl
theorem num1_one (g base : Nat) (l : List Nat) (hl : l.length ≤ 70368744177664) (w : World) (hp : Pens w g base l) :
    Calls Try.prog 36 #[.pointer (some ⟨g, 0, none⟩), .int .i64 1, .int .u64 1] w (PenAll w g base (l ++ [1])) := by
  have h := num1 1 (by omega) g base l hl w hp
  rw [beL_one 1 (by omega)] at h
  exact h
theorem text2 (A : Option Addr) (n c : Nat) (m : List Nat) (hf : n < 65536) (g base : Nat) (l : List Nat) (hl : l.length ≤ 1099511627776) (w : World) (hp : Pens w g base l) (ht : Txt w base A n c m) :
    Calls Try.prog 37 #[.pointer (some ⟨g, 0, none⟩), .int .i64 2, .slice A n c] w (PenAll w g base (l ++ beL 2 n ++ m)) := text_all 2 (by omega) (by omega) A n c m (by omega) (by omega) g base l hl w hp ht
theorem keysL_succ (c : Com) (i : Nat) : keysL c (i + 1) = keysL c i ++ keyL (c.key i) := flat_succ _ _
theorem boxesL_succ (c : Com) (i : Nat) : boxesL c (i + 1) = boxesL c i ++ (beL 2 (c.xn i) ++ c.bx i) := flat_succ _ _

set_option maxRecDepth 100000 in
set_option maxHeartbeats 4000000 in
theorem head_all (c : Com) (tg : Nat → Nat) (hok : OkCom c) (hf : MidC c) (g base : Nat) (w : World) (h : ComOk w base c) (hp : Pens w g base []) :
    Calls Try.prog 45 #[.pointer (some ⟨g, 0, none⟩), .agg (arrV 70 (comV c tg))] w (PenAll w g base (comL c)) := by
  have hgl := hp.lt
  obtain ⟨⟨q1, q2, q3⟩, ⟨q4, q5⟩, ⟨q6, q7, q8⟩, q9, q10⟩ := hok
  obtain ⟨Y, hY⟩ : ∃ Y : Nat, c.by_ = Y := ⟨c.by_.toNat, by omega⟩
  have f1 := hf.sn
  have f2 := hf.bn
  have f3 := hf.kn
  have f4 := hf.dn
  have f5 : (c.ep : Int) ≤ 1099511627776 := by omega
  have f6 : Y ≤ 1048576 := by omega
  have H0 := Lib.hid h
  have Q5 := Lib.hid q5
  have Q8 := Lib.hid q8
  have Q10 := Lib.hid q10
  have HY := Lib.hid hY
  have F4 := Lib.hid f4
  have Q7 := Lib.hid q7
  clear h q5 q8 q10 hf hY q1 q2 q3 q7 q9 f4
  go_enter Try.func45, Try.ntmps45
  obtain ⟨hP, g0, hz, hb⟩ := alloc2 w (.cells #[.pointer (some ⟨g, 0, none⟩)] 60) (.cells (arrV 70 (comV c tg)) 42)
  replace hP : PenVar _ w.heap.size g := hP
  have hne : w.heap.size ≠ g := by omega
  have hbs := hp.size
  replace hp := hp.after hb
  have hk : PenKeep w _ g := PenKeep.below hb
  replace hb := hb.mono hbs
  have cP := hP.cell
  have nn : ([] : List Nat).length ≤ 0 := Nat.le_refl _
  go_upto_region 2 with (go_at_call 36; (with_reducible refine (num1_one g base [] (by omega) _ hp).mono ?_); rintro e w1 ⟨rfl, hp, b1, k1⟩)
  replace g0 := k1 _ _ _ _ g0 (by omega) (by decide)
  replace hP := hP.keep k1 hne
  replace hk := hk.trans k1
  replace hb := hb.trans b1
  have cP := hP.cell
  obtain ⟨L1, e1⟩ : ∃ L, L = ([] ++ [1] : List Nat) := ⟨_, rfl⟩
  rw [← e1] at hp
  have n1 : L1.length ≤ 1 := by rw [e1]; exact Nat.le_refl _
  have E1 := Lib.hid e1
  clear e1
  have c0 := cell_arrV g0 0 (by omega)
  replace c0 : _ = some (Value.int .u64 (c.ep : Int)) := c0
  go_upto_region 3 with (go_at_call 36; (with_reducible refine (num8 c.ep (by omega) g base L1 (by omega) _ hp).mono ?_); rintro e w2 ⟨rfl, hp, b2, k2⟩)
  replace g0 := k2 _ _ _ _ g0 (by omega) (by decide)
  replace hP := hP.keep k2 hne
  replace hk := hk.trans k2
  replace hb := hb.trans b2
  have cP := hP.cell
  obtain ⟨L2, e2⟩ : ∃ L, L = L1 ++ beL 8 c.ep := ⟨_, rfl⟩
  rw [← e2] at hp
  have n2 : L2.length ≤ 9 := by rw [e2, List.length_append, beL_len]; omega
  have E2 := Lib.hid e2
  clear e2
  clear c0
  have c1 := cell_arrV g0 1 (by omega)
  replace c1 : _ = some (Value.int .i64 c.by_) := c1
  rw [HY.out] at c1
  go_upto_region 4 with (go_at_call 36; (with_reducible refine (num4 Y (by omega) g base L2 (by omega) _ hp).mono ?_); rintro e w3 ⟨rfl, hp, b3, k3⟩)
  replace g0 := k3 _ _ _ _ g0 (by omega) (by decide)
  replace hP := hP.keep k3 hne
  replace hk := hk.trans k3
  replace hb := hb.trans b3
  have cP := hP.cell
  obtain ⟨L3, e3⟩ : ∃ L, L = L2 ++ beL 4 Y := ⟨_, rfl⟩
  rw [← e3] at hp
  have n3 : L3.length ≤ 13 := by rw [e3, List.length_append, beL_len]; omega
  have E3 := Lib.hid e3
  clear e3
  clear c1
  have c2 := cell_arrV g0 2 (by omega)
  replace c2 : _ = some (Value.slice c.PA c.pn c.pc) := c2
  have hE := H0.out.props.below hb
  go_upto_region 5 with (go_at_call 79; (with_reducible refine (listProp c.PA c.pn c.pc c.kind c.id c.ppt w.heap.size g base L3 (by omega) (by omega) _ hE Q5.out hp hP hne).mono ?_); rintro e w4 ⟨rfl, hp, b4, k4⟩)
  replace g0 := k4 _ _ _ _ g0 (by omega) (by decide)
  replace hP := hP.keep k4 hne
  replace hk := hk.trans k4
  replace hb := hb.trans b4
  have cP := hP.cell
  obtain ⟨L4, e4⟩ : ∃ L, L = L3 ++ (beL 2 c.pn ++ (List.range c.pn).flatMap fun i => propL (c.kind i) (c.id i) (c.ppt i)) := ⟨_, rfl⟩
  rw [← e4] at hp
  have n4 : L4.length ≤ 3800 := by rw [e4, List.length_append, List.length_append, beL_len]; have := flat_len (fun i => propL (c.kind i) (c.id i) (c.ppt i)) 37 c.pn (fun i _ => by rw [propL_len]; exact Nat.le_refl _); omega
  have E4 := Lib.hid e4
  clear e4
  clear c2 hE
  go_upto_region 6 with (first | (refine wpList_load_part (k := .u8) (fun i => ((c.pt i : Nat) : Int)) rfl rfl RTKey rfl g0 (by omega) (fun i hi => by unfold comV; rw [if_neg (by omega), if_neg (by omega), if_neg (by omega), if_pos (by omega), show 3 + i - 3 = i from by omega]) ?_) | (go_at_call 81; (with_reducible refine (key_all c.pt g base L4 (by omega) _ hp).mono ?_); rintro e w5 ⟨rfl, hp, b5, k5⟩))
  replace g0 := k5 _ _ _ _ g0 (by omega) (by decide)
  replace hP := hP.keep k5 hne
  replace hk := hk.trans k5
  replace hb := hb.trans b5
  have cP := hP.cell
  obtain ⟨L5, e5⟩ : ∃ L, L = L4 ++ keyL c.pt := ⟨_, rfl⟩
  rw [← e5] at hp
  have n5 : L5.length ≤ 3840 := by rw [e5, List.length_append, keyL_len]; omega
  have E5 := Lib.hid e5
  clear e5
  have c35 := cell_arrV g0 35 (by omega)
  replace c35 : _ = some (Value.slice c.SA c.sn c.sc) := c35
  have hE := H0.out.steps.below hb
  have hS := fun i hi => (H0.out.sends i hi).below hb
  go_upto_region 7 with (go_at_call 82; (with_reducible refine (listStep c.SA c.sn c.sc c.node c.frm c.DA c.dn c.dc c.dv w.heap.size g base L5 (by omega) (by omega) _ hE hS Q8.out hp hP hne).mono ?_); rintro e w6 ⟨rfl, hp, b6, k6⟩)
  replace g0 := k6 _ _ _ _ g0 (by omega) (by decide)
  replace hP := hP.keep k6 hne
  replace hk := hk.trans k6
  replace hb := hb.trans b6
  have cP := hP.cell
  obtain ⟨L6, e6⟩ : ∃ L, L = L5 ++ (beL 2 c.sn ++ (List.range c.sn).flatMap fun i => stepL (c.node i) (c.frm i) (c.dn i) (c.dv i)) := ⟨_, rfl⟩
  rw [← e6] at hp
  have n6 : L6.length ≤ 40000000 := by rw [e6, List.length_append, List.length_append, beL_len]; have := flat_len (fun i => stepL (c.node i) (c.frm i) (c.dn i) (c.dv i)) 8006 c.sn (fun i hi => Nat.le_trans (stepL_len _ _ _ _) (by have := (Q8.out i hi).2.2.2.1; omega)); omega
  have E6 := Lib.hid e6
  clear e6
  clear c35 hE hS
  have c36 := cell_arrV g0 36 (by omega)
  replace c36 : _ = some (Value.slice c.KA c.kn c.kc) := c36
  go_wp2
  go_loopg [36] c.kn (fun r x wr => ∃ i : Nat, i + r = c.kn ∧ x = .int .i64 i ∧ Pens wr g base (L6 ++ keysL c i) ∧ wr.heap[w.heap.size + 1]? = some (.cells (arrV 70 (comV c tg)) 42 (0, 0)) ∧ PenVar wr w.heap.size g ∧ Below base w wr ∧ PenKeep w wr g)
  case atStart => exact ⟨0, by omega, rfl, (by rw [show keysL c 0 = [] from rfl, List.append_nil]; exact hp), g0, hP, hb, hk⟩
  case round =>
    clear hp g0 hP hb hk cP c36
    obtain ⟨i, hi, rfl, hp, g0, hP, hb, hk⟩ := hrel
    have HI := Lib.hid hi
    clear hi
    have hs := hp.size
    have hlen : (L6 ++ keysL c i).length ≤ 80000000 := by
      have h1 : (keysL c i).length ≤ 32 * i := flat_len _ 32 i fun j hj => by rw [keyL_len]; exact Nat.le_refl _
      rw [List.length_append]
      have := HI.out
      omega
    have cP := hP.cell
    by_cases hlt : i < c.kn
    · obtain ⟨ad, hA, hab, hc⟩ := (H0.out.keys.below hb).cell hlt
      have HA := Lib.hid hA
      clear hA
      go_wp2_with (first | (refine wpList_elA HA.out rfl rfl Try.underlying39 (sz := 32) (by kernel_rfl) rfl rfl hlt ?_) | (refine wpList_load_at (n := 32) rfl rfl RTKey rfl hc ?_) | (refine wpList_new_arr (f := fun j => ((c.key i j : Nat) : Int)) rfl rfl rfl rfl ZTKey RTKey rfl rfl ?_; intro w7 g7 bw hsw; replace hp := hp.after bw; replace hP := hP.after bw; replace cP := hP.cell; replace g0 := keep_below bw (lt_of_block g0) g0; replace hb := hb.trans (bw.mono hs); replace hk := hk.trans (PenKeep.below bw)) | (refine wpList_load_arr (f := fun j => ((c.key i j : Nat) : Int)) rfl rfl rfl RTKey g7 ?_) | (go_at_call 81; (with_reducible refine (key_all (c.key i) g base (L6 ++ keysL c i) (by omega) _ hp).mono ?_); rintro e w8 ⟨rfl, hp, b8, k8⟩))
      go_roundg (gk - 1)
      case measure => have := HI.out; omega
      case rel =>
        have hI := HI.out
        refine ⟨i + 1, by omega, by go_num, ?_, k8 _ _ _ _ g0 (by omega) (by decide), hP.keep k8 hne, hb.trans b8, hk.trans k8⟩
        rw [keysL_succ, ← List.append_assoc]
        exact hp
    · obtain rfl : i = c.kn := by have := HI.out; omega
      have c37 := cell_arrV g0 37 (by omega)
      replace c37 : _ = some (Value.slice c.BA c.bn c.bc) := c37
      obtain ⟨L7, e7⟩ : ∃ L, L = L6 ++ keysL c c.kn := ⟨_, rfl⟩
      rw [← e7] at hp hlen
      have E7 := Lib.hid e7
      clear e7
      go_wp2
      go_loopg [47] c.bn (fun r x wr => ∃ i : Nat, i + r = c.bn ∧ x = .int .i64 i ∧ Pens wr g base (L7 ++ boxesL c i) ∧ PenVar wr w.heap.size g ∧ Below base w wr ∧ PenKeep w wr g)
      case atStart => exact ⟨0, by omega, rfl, (by rw [show boxesL c 0 = [] from rfl, List.append_nil]; exact hp), hP, hb, hk⟩
      case round =>
        clear hp g0 hP hb hk cP c37
        obtain ⟨i, hi, rfl, hp, hP, hb, hk⟩ := hrel
        have HI2 := Lib.hid hi
        clear hi
        have cP := hP.cell
        by_cases hlt : i < c.bn
        · obtain ⟨ad, hA, hab, hc⟩ := (H0.out.boxes.below hb).cell hlt
          have HA := Lib.hid hA
          clear hA
          replace hc : wr.cell? (ad.add (i * 1)) = some (.slice (c.XA i) (c.xn i) (c.xc i)) := by have := hc 0 (by omega); rwa [addr_add_zero] at this
          have ht := (H0.out.texts i hlt).below hb
          have hx := Q10.out i hlt
          have hlen2 : (L7 ++ boxesL c i).length ≤ 1200000000 := by
            have h1 : (boxesL c i).length ≤ 1002 * i := flat_len _ 1002 i fun j hj => by
              rw [List.length_append, beL_len, (H0.out.texts j (by omega)).len]
              have := Q10.out j (by omega)
              omega
            rw [List.length_append]
            omega
          go_wp2_with (first | (refine wpList_elA HA.out rfl rfl Try.underlying40 (sz := 1) (by kernel_rfl) rfl rfl hlt ?_) | (refine wpList_load1 rfl rfl Try.underlying22 rfl rfl hc ?_) | (go_at_call 37; (with_reducible refine (text2 (c.XA i) (c.xn i) (c.xc i) (c.bx i) (by omega) g base (L7 ++ boxesL c i) (by omega) _ hp ht).mono ?_); rintro e w9 ⟨rfl, hp, b9, k9⟩))
          go_roundg (gk - 1)
          case measure => have := HI2.out; omega
          case rel =>
            have hI := HI2.out
            refine ⟨i + 1, by omega, by go_num, ?_, hP.keep k9 hne, hb.trans b9, hk.trans k9⟩
            rw [boxesL_succ, ← List.append_assoc, ← List.append_assoc]
            exact hp
        · obtain rfl : i = c.bn := by have := HI2.out; omega
          go_wp2
          go_end0
          have e : comL c = L7 ++ boxesL c c.bn := by
            rw [E7.out, E6.out, E5.out, E4.out, E3.out, E2.out, E1.out]
            unfold comL propsL stepsL
            rw [HY.out, Int.toNat_natCast, List.nil_append]
          rw [e]
          exact ⟨rfl, hp, hb, hk⟩
end Go.Proofs.Ytfbfkfdkigpkgaa
