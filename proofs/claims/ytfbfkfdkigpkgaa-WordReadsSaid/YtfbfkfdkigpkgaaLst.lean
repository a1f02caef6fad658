/- The walks of layer 16's pen: a commit's parts, one by one, and in lists. -/
import Derived.Test.YtfbfkfdkigpkgaaWri
namespace Go.Proofs.Ytfbfkfdkigpkgaa
set_option linter.unusedSimpArgs false
set_option linter.unusedVariables false
open Go.RowKit
attribute [local irreducible] beL beK keyL

set_option maxRecDepth 100000 in
set_option maxHeartbeats 2000000 in
theorem oneProp (kind id : Int) (pt : Nat → Nat) (hok : OkProp kind id pt) (P g base : Nat) (l : List Nat) (hl : l.length ≤ 35184372088832) (w : World) (hp : Pens w g base l) (hP : PenVar w P g) (hne : P ≠ g) :
    Calls Try.prog 80 #[.agg (arrV 34 (propV kind id pt)), .pointer (some ⟨P, 0, none⟩)] w (PenAll w g base (l ++ propL kind id pt)) := by
  obtain ⟨k1, k3, ⟨i0, i1⟩, -⟩ := hok
  obtain ⟨K, rfl⟩ : ∃ K : Nat, kind = K := ⟨kind.toNat, by omega⟩
  obtain ⟨I, rfl⟩ : ∃ I : Nat, id = I := ⟨id.toNat, by omega⟩
  have hgl := hp.lt
  go_enter Try.func80, Try.ntmps80
  have g0 := heap_alloc_new w (.cells (arrV 34 (propV K I pt)) 75)
  have hb : Below w.heap.size w (w.alloc (.cells (arrV 34 (propV K I pt)) 75)) := (Below.refl _ _).alloc (Nat.le_refl _) _
  have hbs := hp.size
  replace hp := hp.after hb
  replace hP := hP.after hb
  have hk : PenKeep w _ g := PenKeep.below hb
  replace hb := hb.mono hbs
  have c0 := cell_arrV g0 0 (by omega)
  replace c0 : _ = some (Value.int .i64 K) := c0
  have cP := hP.cell
  go_upto_region 2 with (go_at_call 36; (with_reducible refine (num1 K (by omega) g base l (by omega) _ hp).mono ?_); rintro e w2 ⟨rfl, hp, b2, k2⟩)
  replace g0 := k2 _ _ _ _ g0 (by omega) (by decide)
  replace hP := hP.keep k2 hne
  replace hk := hk.trans k2
  replace hb := hb.trans b2
  have cP := hP.cell
  have c1 := cell_arrV g0 1 (by omega)
  replace c1 : _ = some (Value.int .i64 I) := c1
  clear c0
  have hl2 : (l ++ beL 1 K).length ≤ 35184372088840 := by rw [List.length_append, beL_len]; omega
  go_upto_region 3 with (go_at_call 36; (with_reducible refine (num4 I (by omega) g base (l ++ beL 1 K) (by omega) _ hp).mono ?_); rintro e w3 ⟨rfl, hp, b3, k3⟩)
  replace g0 := k3 _ _ _ _ g0 (by omega) (by decide)
  replace hP := hP.keep k3 hne
  replace hk := hk.trans k3
  replace hb := hb.trans b3
  have cP := hP.cell
  clear c1
  have hl3 : (l ++ beL 1 K ++ beL 4 I).length ≤ 35184372088850 := by rw [List.length_append, beL_len]; omega
  go_wp2_with (first | (refine wpList_load_part (k := .u8) (fun i => ((pt i : Nat) : Int)) rfl rfl RTKey rfl g0 (by omega) (fun i hi => by unfold propV; rw [if_neg (by omega), if_neg (by omega), show 2 + i - 2 = i from by omega]) ?_) | (go_at_call 81; (with_reducible refine (key_all pt g base (l ++ beL 1 K ++ beL 4 I) (by omega) _ hp).mono ?_); rintro e w4 ⟨rfl, hp, b4, k4⟩))
  go_end0
  refine ⟨rfl, ?_, hb.trans b4, hk.trans k4⟩
  unfold propL
  rw [Int.toNat_natCast, Int.toNat_natCast, ← List.append_assoc, ← List.append_assoc]
  exact hp

set_option maxRecDepth 100000 in
set_option maxHeartbeats 2000000 in
theorem onePlace (v : Int) (hok : OkPlace v) (P g base : Nat) (l : List Nat) (hl : l.length ≤ 35184372088832) (w : World) (hp : Pens w g base l) (hP : PenVar w P g) (hne : P ≠ g) :
    Calls Try.prog 85 #[.int .i64 v, .pointer (some ⟨P, 0, none⟩)] w (PenAll w g base (l ++ beL 2 v.toNat)) := by
  obtain ⟨v0, v1⟩ := hok
  obtain ⟨V, rfl⟩ : ∃ V : Nat, v = V := ⟨v.toNat, by omega⟩
  rw [Int.toNat_natCast]
  go_enter Try.func85, Try.ntmps85
  have cP := hP.cell
  go_wp2_with (go_at_call 36; (with_reducible refine (num2 V (by omega) g base l (by omega) _ hp).mono ?_); rintro e w2 ⟨rfl, hp, b2, k2⟩)
  go_end0
  exact ⟨rfl, hp, b2, k2⟩

set_option maxRecDepth 100000 in
set_option maxHeartbeats 2000000 in
theorem listInt (A : Option Addr) (n c : Nat) (v : Nat → Int) (P g base : Nat) (l : List Nat) (hl : l.length ≤ 17592186044416) (hn : n ≤ 4000) (w : World) (h : Els w base A n 1 (fun j _ => .int .i64 (v j))) (hok : ∀ i, i < n → OkPlace (v i)) (hp : Pens w g base l) (hP : PenVar w P g) (hne : P ≠ g) :
    Calls Try.prog 84 #[.pointer (some ⟨g, 0, none⟩), .slice A n c, .func (.func 85) #[] #[.pointer (some ⟨P, 0, none⟩)]] w (PenAll w g base (l ++ (beL 2 n ++ (List.range n).flatMap fun i => beL 2 (v i).toNat))) := by
  have H0 := Lib.hid h
  have HOK := Lib.hid hok
  clear h hok
  go_enter Try.func84, Try.ntmps84
  go_upto_region 1 with (go_at_call 36; (with_reducible refine (num2 n (by omega) g base l (by omega) _ hp).mono ?_); rintro e w2 ⟨rfl, hp, b2, k2⟩)
  replace hP := hP.keep k2 hne
  go_wp2
  go_loopg [15] n (fun r x wr => ∃ i : Nat, i + r = n ∧ x = .int .i64 i ∧ Pens wr g base (l ++ beL 2 n ++ (List.range i).flatMap fun i => beL 2 (v i).toNat) ∧ PenVar wr P g ∧ Below base w wr ∧ PenKeep w wr g)
  case atStart => exact ⟨0, by omega, rfl, by simpa using hp, hP, b2, k2⟩
  case round =>
    clear hp hP b2 k2
    obtain ⟨i, hi, rfl, hp, hP, hb, hk⟩ := hrel
    have HI := Lib.hid hi
    clear hi
    have hs := hp.size
    by_cases hlt : i < n
    · obtain ⟨ad, rfl, hab, hc⟩ := (H0.out.below hb).cell hlt
      have hoki := HOK.out i hlt
      have hlen : (l ++ beL 2 n ++ (List.range i).flatMap fun i => beL 2 (v i).toNat).length ≤ 17592186060000 := by
        have h1 : ((List.range i).flatMap fun i => beL 2 (v i).toNat).length ≤ 2 * i := flat_len _ 2 i fun j hj => by rw [beL_len]; exact Nat.le_refl _
        rw [List.length_append, List.length_append, beL_len]
        omega
      obtain ⟨ll, hll⟩ : ∃ ll, ll = (l ++ beL 2 n ++ (List.range i).flatMap fun i => beL 2 (v i).toNat) := ⟨_, rfl⟩
      rw [← hll] at hp hlen
      have HLL := Lib.hid hll
      clear hll
      replace hc : wr.cell? (ad.add (i * 1)) = some (.int .i64 (v i)) := by have := hc 0 (by omega); rwa [addr_add_zero] at this
      go_wp2_with (first | (refine wpList_el rfl rfl Try.underlying69 (sz := 1) (by kernel_rfl) rfl rfl hlt ?_) | (refine wpList_load1 rfl rfl Try.underlying3 rfl rfl hc ?_) | (go_at_call 85; (with_reducible refine (onePlace (v i) hoki P g base ll (by omega) _ hp hP hne).mono ?_); rintro e w3 ⟨rfl, hp, b3, k3⟩))
      go_roundg (gk - 1)
      case measure => have := HI.out; omega
      case rel =>
        have hI := HI.out
        refine ⟨i + 1, by omega, by go_num, ?_, hP.keep k3 hne, hb.trans b3, hk.trans k3⟩
        rw [flat_succ, ← List.append_assoc, ← HLL.out]
        exact hp
    · obtain rfl : i = n := by have := HI.out; omega
      go_wp2
      go_end0
      refine ⟨rfl, ?_, hb, hk⟩
      rw [← List.append_assoc]
      exact hp
theorem ZVProp : ZeroV Try.prog 75 34 (arrV 34 (propV 0 0 fun _ => 0)) := ⟨by kernel_rfl, by rw [arrV_size]⟩

set_option maxRecDepth 100000 in
set_option maxHeartbeats 2000000 in
theorem listProp (A : Option Addr) (n c : Nat) (kind id : Nat → Int) (pt : Nat → Nat → Nat) (P g base : Nat) (l : List Nat) (hl : l.length ≤ 17592186044416) (hn : n ≤ 4000) (w : World) (h : Els w base A n 34 (fun i => propV (kind i) (id i) (pt i))) (hok : ∀ i, i < n → OkProp (kind i) (id i) (pt i)) (hp : Pens w g base l) (hP : PenVar w P g) (hne : P ≠ g) :
    Calls Try.prog 79 #[.pointer (some ⟨g, 0, none⟩), .slice A n c, .func (.func 80) #[] #[.pointer (some ⟨P, 0, none⟩)]] w (PenAll w g base (l ++ (beL 2 n ++ (List.range n).flatMap fun i => propL (kind i) (id i) (pt i)))) := by
  have H0 := Lib.hid h
  have HOK := Lib.hid hok
  clear h hok
  go_enter Try.func79, Try.ntmps79
  go_upto_region 1 with (go_at_call 36; (with_reducible refine (num2 n (by omega) g base l (by omega) _ hp).mono ?_); rintro e w2 ⟨rfl, hp, b2, k2⟩)
  replace hP := hP.keep k2 hne
  go_wp2
  go_loopg [15] n (fun r x wr => ∃ i : Nat, i + r = n ∧ x = .int .i64 i ∧ Pens wr g base (l ++ beL 2 n ++ (List.range i).flatMap fun i => propL (kind i) (id i) (pt i)) ∧ PenVar wr P g ∧ Below base w wr ∧ PenKeep w wr g)
  case atStart => exact ⟨0, by omega, rfl, by simpa using hp, hP, b2, k2⟩
  case round =>
    clear hp hP b2 k2
    obtain ⟨i, hi, rfl, hp, hP, hb, hk⟩ := hrel
    have HI := Lib.hid hi
    clear hi
    have hs := hp.size
    by_cases hlt : i < n
    · obtain ⟨ad, rfl, hab, hc⟩ := (H0.out.below hb).cell hlt
      have hoki := HOK.out i hlt
      have hlen : (l ++ beL 2 n ++ (List.range i).flatMap fun i => propL (kind i) (id i) (pt i)).length ≤ 17592186250000 := by
        have h1 : ((List.range i).flatMap fun i => propL (kind i) (id i) (pt i)).length ≤ 37 * i := flat_len _ 37 i fun j hj => by rw [propL_len]; exact Nat.le_refl _
        rw [List.length_append, List.length_append, beL_len]
        omega
      obtain ⟨ll, hll⟩ : ∃ ll, ll = (l ++ beL 2 n ++ (List.range i).flatMap fun i => propL (kind i) (id i) (pt i)) := ⟨_, rfl⟩
      rw [← hll] at hp hlen
      have HLL := Lib.hid hll
      clear hll
      go_wp2_with (first | (refine wpList_el rfl rfl Try.underlying35 (sz := 34) (by kernel_rfl) rfl rfl hlt ?_) | (refine wpList_load_at (n := 34) rfl rfl RTProp rfl hc ?_) | (refine wpList_newV rfl rfl rfl rfl ZVProp RTProp rfl rfl (fun _ _ => propV_one _ _ _ _) ?_; intro w2 g2 bw hsw; replace hp := hp.after bw; replace hP := hP.after bw; replace hb := hb.trans (bw.mono hs); replace hk := hk.trans (PenKeep.below bw)) | (refine wpList_load_all rfl rfl RTProp rfl g2 ?_) | (go_at_call 80; (with_reducible refine (oneProp (kind i) (id i) (pt i) hoki P g base ll (by omega) _ hp hP hne).mono ?_); rintro e w3 ⟨rfl, hp, b3, k3⟩))
      go_roundg (gk - 1)
      case measure => have := HI.out; omega
      case rel =>
        have hI := HI.out
        refine ⟨i + 1, by omega, by go_num, ?_, hP.keep k3 hne, hb.trans b3, hk.trans k3⟩
        rw [flat_succ, ← List.append_assoc, ← HLL.out]
        exact hp
    · obtain rfl : i = n := by have := HI.out; omega
      go_wp2
      go_end0
      refine ⟨rfl, ?_, hb, hk⟩
      rw [← List.append_assoc]
      exact hp
end Go.Proofs.Ytfbfkfdkigpkgaa
