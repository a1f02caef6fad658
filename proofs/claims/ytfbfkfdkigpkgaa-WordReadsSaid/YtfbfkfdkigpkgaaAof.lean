/- The walks of layer 16: any of many places, steps, proposals, boxes that may not be. -/
import Derived.Test.YtfbfkfdkigpkgaaBad
namespace Go.Proofs.Ytfbfkfdkigpkgaa
set_option linter.unusedSimpArgs false
set_option linter.unusedVariables false
open Go.RowKit
attribute [local irreducible] beL beK

theorem all_succ {p : Nat → Prop} {i : Nat} (h : ∀ j, j < i → p j) (hi : p i) : ∀ j, j < i + 1 → p j := fun j hj => by
  rcases Nat.lt_or_ge j i with h1 | h1
  · exact h j h1
  · obtain rfl : j = i := by omega
    exact hi

set_option maxRecDepth 100000 in
set_option maxHeartbeats 2000000 in
theorem IndexInt (A : Option Addr) (n c : Nat) (v : Nat → Int) (B : Nat) (w : World) (h : Els w B A n 1 (fun j _ => .int .i64 (v j))) (hB : B ≤ w.heap.size) (hn : n ≤ 1099511627776) :
    Calls Try.prog 100 #[.slice A n c, .func (.func 89) #[] #[]] w fun e w' => (∃ r : Int, e = .returned (.int .i64 r) ∧ decide (0 ≤ r) = !decide (∀ i, i < n → OkPlace (v i))) ∧ Below w.heap.size w w' := by
  have H0 := Lib.hid h
  clear h
  go_enter Try.func100, Try.ntmps100
  go_wp2
  go_loopg [8] n (fun r x wr => ∃ i : Nat, i + r = n ∧ x = .int .i64 i ∧ (∀ j, j < i → OkPlace (v j)) ∧ Below w.heap.size w wr)
  case atStart => exact ⟨0, by omega, rfl, (fun j hj => absurd hj (by omega)), Below.refl _ _⟩
  case round =>
    obtain ⟨i, hi, rfl, hok, hb⟩ := hrel
    have HI := Lib.hid hi
    have HOK := Lib.hid hok
    clear hi hok
    by_cases hlt : i < n
    · obtain ⟨ad, rfl, hab, hc⟩ := (H0.out.below' hb hB).cell hlt
      replace hc : wr.cell? (ad.add (i * 1)) = some (.int .i64 (v i)) := by have := hc 0 (by omega); rwa [addr_add_zero] at this
      go_wp2_with (first | (refine wpList_el rfl rfl Try.underlying69 (sz := 1) (by kernel_rfl) rfl rfl hlt ?_) | (refine wpList_load1 rfl rfl Try.underlying3 rfl rfl hc ?_) | (go_at_call 89; fail))
      refine (badPlace_any (v i) _).mono ?_
      rintro e w2 ⟨rfl, rfl⟩
      by_cases hk : OkPlace (v i)
      · rw [decide_eq_true hk]
        have HK := Lib.hid hk
        clear hk
        go_wp2
        go_roundg (gk - 1)
        case measure => have := HI.out; omega
        case rel =>
          have hI := HI.out
          refine ⟨i + 1, ?_, by go_num, all_succ HOK.out HK.out, hb⟩
          clear HK HOK H0
          omega
      · rw [decide_eq_false hk]
        have HE := Lib.hid (show decide (∀ i, i < n → OkPlace (v i)) = false from decide_eq_false fun h => hk (h i hlt))
        clear hk
        go_wp2
        go_ret
        refine ⟨⟨_, rfl, ?_⟩, hb⟩
        rw [HE.out]
        show decide (0 ≤ (i : Int)) = _
        rw [decide_eq_true (by omega)]
        rfl
    · obtain rfl : i = n := by have := HI.out; omega
      have HE := Lib.hid (show decide (∀ j, j < i → OkPlace (v j)) = true from decide_eq_true HOK.out)
      go_wp2
      go_ret
      refine ⟨⟨_, rfl, ?_⟩, hb⟩
      rw [HE.out]
      rfl
set_option maxRecDepth 100000 in
set_option maxHeartbeats 2000000 in
theorem ContainsInt (A : Option Addr) (n c : Nat) (v : Nat → Int) (B : Nat) (w : World) (h : Els w B A n 1 (fun j _ => .int .i64 (v j))) (hB : B ≤ w.heap.size) (hn : n ≤ 1099511627776) :
    Calls Try.prog 88 #[.slice A n c, .func (.func 89) #[] #[]] w fun e w' => e = .returned (.bool (!decide (∀ i, i < n → OkPlace (v i)))) ∧ Below w.heap.size w w' := by
  have HC := Lib.hid (IndexInt A n c v B w h hB hn)
  clear h
  go_enter Try.func88, Try.ntmps88
  go_wp2_with (go_at_call 100; (with_reducible refine HC.out.mono ?_); rintro e w1 ⟨⟨r, rfl, hr⟩, hb⟩)
  go_ret
  first | exact ⟨rfl, hb⟩ | exact ⟨congrArg (fun b => Ending.returned (Value.bool b)) hr, hb⟩

set_option maxRecDepth 100000 in
set_option maxHeartbeats 2000000 in
theorem badStep_any (node frm : Int) (A : Option Addr) (n c : Nat) (v : Nat → Int) (B : Nat) (w : World) (h : Els w B A n 1 (fun j _ => .int .i64 (v j))) (hB : B ≤ w.heap.size) :
    Calls Try.prog 50 #[.agg (arrV 3 (stepV node frm A n c))] w fun e w' => e = .returned (.bool (!decide (OkStep node frm n v))) ∧ Below w.heap.size w w' := by
  have H0 := Lib.hid h
  clear h
  by_cases hn : 0 ≤ node ∧ node ≤ 4000
  · have HN := Lib.hid (decide_eq_true hn)
    by_cases h1 : -1 ≤ frm ∧ frm < 4000
    · by_cases h2 : n ≤ 4000
      · have E : decide (OkStep node frm n v) = decide (∀ i, i < n → OkPlace (v i)) := decide_eq_decide.2 ⟨fun h => h.2.2.2.2, fun h => ⟨hn, h1.1, h1.2, h2, h⟩⟩
        clear hn
        obtain ⟨h3, h4⟩ := h1
        have HE := Lib.hid E
        clear E
        obtain ⟨q, hq⟩ : ∃ q, q = decide (OkStep node frm n v) := ⟨_, rfl⟩
        have HQ := Lib.hid hq
        clear hq
        go_enter Try.func50, Try.ntmps50
        have g0 := heap_alloc_new w (.cells (arrV 3 (stepV node frm A n c)) 71)
        have hb : Below w.heap.size w (w.alloc (.cells (arrV 3 (stepV node frm A n c)) 71)) := (Below.refl _ _).alloc (Nat.le_refl _) _
        have c0 := cell_arrV g0 0 (by omega)
        have c1 := cell_arrV g0 1 (by omega)
        have c2 := cell_arrV g0 2 (by omega)
        replace c0 : _ = some (Value.int .i64 node) := c0
        replace c1 : _ = some (Value.int .i64 frm) := c1
        replace c2 : _ = some (Value.slice A n c) := c2
        clear g0
        go_wp2_with (first | (go_at_call 46; (with_reducible refine (within_any _ _ _).mono ?_); rintro e w1 ⟨rfl, rfl⟩; rw [HN.out]) | (go_at_call 88; fail))
        refine (ContainsInt A n c v B _ (H0.out.below' hb hB) (Nat.le_trans hB hb.size) (by omega)).mono ?_
        rintro e w2 ⟨rfl, b2⟩
        rw [← HE.out, ← HQ.out]
        go_wp2
        go_ret
        refine ⟨?_, hb.trans (b2.mono hb.size)⟩
        rw [← HQ.out]
        first | rfl | (show Ending.returned (Value.bool (decide (frm < -1) || decide (4000 ≤ frm) || decide (4000 < (n : Int)) || !q)) = _; rw [decide_eq_false (by omega), decide_eq_false (by omega), decide_eq_false (by omega)]; rfl)
      · have E : decide (OkStep node frm n v) = false := decide_eq_false fun h => h2 h.2.2.2.1
        clear hn
        obtain ⟨h3, h4⟩ := h1
        have HE := Lib.hid E
        clear E
        go_enter Try.func50, Try.ntmps50
        have g0 := heap_alloc_new w (.cells (arrV 3 (stepV node frm A n c)) 71)
        have hb : Below w.heap.size w (w.alloc (.cells (arrV 3 (stepV node frm A n c)) 71)) := (Below.refl _ _).alloc (Nat.le_refl _) _
        have c0 := cell_arrV g0 0 (by omega)
        have c1 := cell_arrV g0 1 (by omega)
        have c2 := cell_arrV g0 2 (by omega)
        replace c0 : _ = some (Value.int .i64 node) := c0
        replace c1 : _ = some (Value.int .i64 frm) := c1
        replace c2 : _ = some (Value.slice A n c) := c2
        clear g0
        go_wp2_with (go_at_call 46; (with_reducible refine (within_any _ _ _).mono ?_); rintro e w1 ⟨rfl, rfl⟩; rw [HN.out])
        go_ret
        refine ⟨?_, hb⟩
        rw [HE.out]
        first | rfl | skip
    · have E : decide (OkStep node frm n v) = false := decide_eq_false fun h => h1 ⟨h.2.1, h.2.2.1⟩
      clear hn
      by_cases h5 : frm < -1
      · have HE := Lib.hid E
        clear E
        go_enter Try.func50, Try.ntmps50
        have g0 := heap_alloc_new w (.cells (arrV 3 (stepV node frm A n c)) 71)
        have hb : Below w.heap.size w (w.alloc (.cells (arrV 3 (stepV node frm A n c)) 71)) := (Below.refl _ _).alloc (Nat.le_refl _) _
        have c0 := cell_arrV g0 0 (by omega)
        have c1 := cell_arrV g0 1 (by omega)
        have c2 := cell_arrV g0 2 (by omega)
        replace c0 : _ = some (Value.int .i64 node) := c0
        replace c1 : _ = some (Value.int .i64 frm) := c1
        replace c2 : _ = some (Value.slice A n c) := c2
        clear g0
        go_wp2_with (go_at_call 46; (with_reducible refine (within_any _ _ _).mono ?_); rintro e w1 ⟨rfl, rfl⟩; rw [HN.out])
        go_ret
        refine ⟨?_, hb⟩
        rw [HE.out]
        first | rfl | skip
      · have HE := Lib.hid E
        clear E
        go_enter Try.func50, Try.ntmps50
        have g0 := heap_alloc_new w (.cells (arrV 3 (stepV node frm A n c)) 71)
        have hb : Below w.heap.size w (w.alloc (.cells (arrV 3 (stepV node frm A n c)) 71)) := (Below.refl _ _).alloc (Nat.le_refl _) _
        have c0 := cell_arrV g0 0 (by omega)
        have c1 := cell_arrV g0 1 (by omega)
        have c2 := cell_arrV g0 2 (by omega)
        replace c0 : _ = some (Value.int .i64 node) := c0
        replace c1 : _ = some (Value.int .i64 frm) := c1
        replace c2 : _ = some (Value.slice A n c) := c2
        clear g0
        go_wp2_with (go_at_call 46; (with_reducible refine (within_any _ _ _).mono ?_); rintro e w1 ⟨rfl, rfl⟩; rw [HN.out])
        go_ret
        refine ⟨?_, hb⟩
        rw [HE.out]
        first | rfl | skip
  · have HN := Lib.hid (decide_eq_false hn)
    have E : decide (OkStep node frm n v) = false := decide_eq_false fun h => hn h.1
    clear hn
    have HE := Lib.hid E
    clear E
    go_enter Try.func50, Try.ntmps50
    have g0 := heap_alloc_new w (.cells (arrV 3 (stepV node frm A n c)) 71)
    have hb : Below w.heap.size w (w.alloc (.cells (arrV 3 (stepV node frm A n c)) 71)) := (Below.refl _ _).alloc (Nat.le_refl _) _
    have c0 := cell_arrV g0 0 (by omega)
    have c1 := cell_arrV g0 1 (by omega)
    have c2 := cell_arrV g0 2 (by omega)
    replace c0 : _ = some (Value.int .i64 node) := c0
    replace c1 : _ = some (Value.int .i64 frm) := c1
    replace c2 : _ = some (Value.slice A n c) := c2
    clear g0
    go_wp2_with (go_at_call 46; (with_reducible refine (within_any _ _ _).mono ?_); rintro e w1 ⟨rfl, rfl⟩; rw [HN.out])
    go_ret
    refine ⟨?_, hb⟩
    rw [HE.out]
    first | rfl | skip

set_option maxRecDepth 100000 in
set_option maxHeartbeats 2000000 in
theorem IndexProp (A : Option Addr) (n c : Nat) (kind id : Nat → Int) (pt : Nat → Nat → Nat) (B : Nat) (w : World) (h : Els w B A n 34 (fun i => propV (kind i) (id i) (pt i))) (hB : B ≤ w.heap.size) (hn : n ≤ 1099511627776) :
    Calls Try.prog 86 #[.slice A n c, .func (.func 48) #[] #[]] w fun e w' => (∃ r : Int, e = .returned (.int .i64 r) ∧ decide (0 ≤ r) = !decide (∀ i, i < n → OkProp (kind i) (id i) (pt i))) ∧ Below w.heap.size w w' := by
  have H0 := Lib.hid h
  clear h
  go_enter Try.func86, Try.ntmps86
  go_wp2
  go_loopg [8] n (fun r x wr => ∃ i : Nat, i + r = n ∧ x = .int .i64 i ∧ (∀ j, j < i → OkProp (kind j) (id j) (pt j)) ∧ Below w.heap.size w wr)
  case atStart => exact ⟨0, by omega, rfl, (fun j hj => absurd hj (by omega)), Below.refl _ _⟩
  case round =>
    obtain ⟨i, hi, rfl, hok, hb⟩ := hrel
    have HI := Lib.hid hi
    have HOK := Lib.hid hok
    clear hi hok
    by_cases hlt : i < n
    · obtain ⟨ad, rfl, hab, hc⟩ := (H0.out.below' hb hB).cell hlt
      skip
      go_wp2_with (first | (refine wpList_el rfl rfl Try.underlying35 (sz := 34) (by kernel_rfl) rfl rfl hlt ?_) | (refine wpList_load_at (n := 34) rfl rfl RTProp rfl hc ?_) | (go_at_call 48; fail))
      refine (badProp_any (kind i) (id i) (pt i) _).mono ?_
      rintro e w2 ⟨rfl, b2⟩
      by_cases hk : OkProp (kind i) (id i) (pt i)
      · rw [decide_eq_true hk]
        have HK := Lib.hid hk
        clear hk
        go_wp2
        go_roundg (gk - 1)
        case measure => have := HI.out; omega
        case rel =>
          have hI := HI.out
          refine ⟨i + 1, ?_, by go_num, all_succ HOK.out HK.out, hb.trans (b2.mono hb.size)⟩
          clear HK HOK H0
          omega
      · rw [decide_eq_false hk]
        have HE := Lib.hid (show decide (∀ i, i < n → OkProp (kind i) (id i) (pt i)) = false from decide_eq_false fun h => hk (h i hlt))
        clear hk
        go_wp2
        go_ret
        refine ⟨⟨_, rfl, ?_⟩, hb.trans (b2.mono hb.size)⟩
        rw [HE.out]
        show decide (0 ≤ (i : Int)) = _
        rw [decide_eq_true (by omega)]
        rfl
    · obtain rfl : i = n := by have := HI.out; omega
      have HE := Lib.hid (show decide (∀ j, j < i → OkProp (kind j) (id j) (pt j)) = true from decide_eq_true HOK.out)
      go_wp2
      go_ret
      refine ⟨⟨_, rfl, ?_⟩, hb⟩
      rw [HE.out]
      rfl
set_option maxRecDepth 100000 in
set_option maxHeartbeats 2000000 in
theorem ContainsProp (A : Option Addr) (n c : Nat) (kind id : Nat → Int) (pt : Nat → Nat → Nat) (B : Nat) (w : World) (h : Els w B A n 34 (fun i => propV (kind i) (id i) (pt i))) (hB : B ≤ w.heap.size) (hn : n ≤ 1099511627776) :
    Calls Try.prog 47 #[.slice A n c, .func (.func 48) #[] #[]] w fun e w' => e = .returned (.bool (!decide (∀ i, i < n → OkProp (kind i) (id i) (pt i)))) ∧ Below w.heap.size w w' := by
  have HC := Lib.hid (IndexProp A n c kind id pt B w h hB hn)
  clear h
  go_enter Try.func47, Try.ntmps47
  go_wp2_with (go_at_call 86; (with_reducible refine HC.out.mono ?_); rintro e w1 ⟨⟨r, rfl, hr⟩, hb⟩)
  go_ret
  first | exact ⟨rfl, hb⟩ | exact ⟨congrArg (fun b => Ending.returned (Value.bool b)) hr, hb⟩

set_option maxRecDepth 100000 in
set_option maxHeartbeats 2000000 in
theorem IndexStep (A : Option Addr) (n c : Nat) (node frm : Nat → Int) (DA : Nat → Option Addr) (dn dc : Nat → Nat) (dv : Nat → Nat → Int) (B : Nat) (w : World) (h : Els w B A n 3 (fun i => stepV (node i) (frm i) (DA i) (dn i) (dc i))) (HS : ∀ i, i < n → Els w B (DA i) (dn i) 1 (fun j _ => .int .i64 (dv i j))) (hB : B ≤ w.heap.size) (hn : n ≤ 1099511627776) :
    Calls Try.prog 87 #[.slice A n c, .func (.func 50) #[] #[]] w fun e w' => (∃ r : Int, e = .returned (.int .i64 r) ∧ decide (0 ≤ r) = !decide (∀ i, i < n → OkStep (node i) (frm i) (dn i) (dv i))) ∧ Below w.heap.size w w' := by
  have H0 := Lib.hid h
  clear h
  go_enter Try.func87, Try.ntmps87
  go_wp2
  go_loopg [8] n (fun r x wr => ∃ i : Nat, i + r = n ∧ x = .int .i64 i ∧ (∀ j, j < i → OkStep (node j) (frm j) (dn j) (dv j)) ∧ Below w.heap.size w wr)
  case atStart => exact ⟨0, by omega, rfl, (fun j hj => absurd hj (by omega)), Below.refl _ _⟩
  case round =>
    obtain ⟨i, hi, rfl, hok, hb⟩ := hrel
    have HI := Lib.hid hi
    have HOK := Lib.hid hok
    clear hi hok
    by_cases hlt : i < n
    · obtain ⟨ad, rfl, hab, hc⟩ := (H0.out.below' hb hB).cell hlt
      have HSi := (HS i hlt).below' hb hB
      go_wp2_with (first | (refine wpList_el rfl rfl Try.underlying38 (sz := 3) (by kernel_rfl) rfl rfl hlt ?_) | (refine wpList_load_at (n := 3) rfl rfl RTStep rfl hc ?_) | (go_at_call 50; fail))
      refine (badStep_any (node i) (frm i) (DA i) (dn i) (dc i) (dv i) B _ HSi (Nat.le_trans hB hb.size)).mono ?_
      rintro e w2 ⟨rfl, b2⟩
      by_cases hk : OkStep (node i) (frm i) (dn i) (dv i)
      · rw [decide_eq_true hk]
        have HK := Lib.hid hk
        clear hk
        go_wp2
        go_roundg (gk - 1)
        case measure => have := HI.out; omega
        case rel =>
          have hI := HI.out
          refine ⟨i + 1, ?_, by go_num, all_succ HOK.out HK.out, hb.trans (b2.mono hb.size)⟩
          clear HK HOK H0
          omega
      · rw [decide_eq_false hk]
        have HE := Lib.hid (show decide (∀ i, i < n → OkStep (node i) (frm i) (dn i) (dv i)) = false from decide_eq_false fun h => hk (h i hlt))
        clear hk
        go_wp2
        go_ret
        refine ⟨⟨_, rfl, ?_⟩, hb.trans (b2.mono hb.size)⟩
        rw [HE.out]
        show decide (0 ≤ (i : Int)) = _
        rw [decide_eq_true (by omega)]
        rfl
    · obtain rfl : i = n := by have := HI.out; omega
      have HE := Lib.hid (show decide (∀ j, j < i → OkStep (node j) (frm j) (dn j) (dv j)) = true from decide_eq_true HOK.out)
      go_wp2
      go_ret
      refine ⟨⟨_, rfl, ?_⟩, hb⟩
      rw [HE.out]
      rfl
set_option maxRecDepth 100000 in
set_option maxHeartbeats 2000000 in
theorem ContainsStep (A : Option Addr) (n c : Nat) (node frm : Nat → Int) (DA : Nat → Option Addr) (dn dc : Nat → Nat) (dv : Nat → Nat → Int) (B : Nat) (w : World) (h : Els w B A n 3 (fun i => stepV (node i) (frm i) (DA i) (dn i) (dc i))) (HS : ∀ i, i < n → Els w B (DA i) (dn i) 1 (fun j _ => .int .i64 (dv i j))) (hB : B ≤ w.heap.size) (hn : n ≤ 1099511627776) :
    Calls Try.prog 49 #[.slice A n c, .func (.func 50) #[] #[]] w fun e w' => e = .returned (.bool (!decide (∀ i, i < n → OkStep (node i) (frm i) (dn i) (dv i)))) ∧ Below w.heap.size w w' := by
  have HC := Lib.hid (IndexStep A n c node frm DA dn dc dv B w h HS hB hn)
  clear h HS
  go_enter Try.func49, Try.ntmps49
  go_wp2_with (go_at_call 87; (with_reducible refine HC.out.mono ?_); rintro e w1 ⟨⟨r, rfl, hr⟩, hb⟩)
  go_ret
  first | exact ⟨rfl, hb⟩ | exact ⟨congrArg (fun b => Ending.returned (Value.bool b)) hr, hb⟩

set_option maxRecDepth 100000 in
set_option maxHeartbeats 2000000 in
theorem IndexBox (A : Option Addr) (n c : Nat) (XA : Nat → Option Addr) (xn xc : Nat → Nat) (B : Nat) (w : World) (h : Els w B A n 1 (fun i _ => .slice (XA i) (xn i) (xc i))) (hB : B ≤ w.heap.size) (hn : n ≤ 1099511627776) :
    Calls Try.prog 90 #[.slice A n c, .func (.func 52) #[] #[]] w fun e w' => (∃ r : Int, e = .returned (.int .i64 r) ∧ decide (0 ≤ r) = !decide (∀ i, i < n → xn i ≤ 1000)) ∧ Below w.heap.size w w' := by
  have H0 := Lib.hid h
  clear h
  go_enter Try.func90, Try.ntmps90
  go_wp2
  go_loopg [8] n (fun r x wr => ∃ i : Nat, i + r = n ∧ x = .int .i64 i ∧ (∀ j, j < i → xn j ≤ 1000) ∧ Below w.heap.size w wr)
  case atStart => exact ⟨0, by omega, rfl, (fun j hj => absurd hj (by omega)), Below.refl _ _⟩
  case round =>
    obtain ⟨i, hi, rfl, hok, hb⟩ := hrel
    have HI := Lib.hid hi
    have HOK := Lib.hid hok
    clear hi hok
    by_cases hlt : i < n
    · obtain ⟨ad, rfl, hab, hc⟩ := (H0.out.below' hb hB).cell hlt
      replace hc : wr.cell? (ad.add (i * 1)) = some (.slice (XA i) (xn i) (xc i)) := by have := hc 0 (by omega); rwa [addr_add_zero] at this
      go_wp2_with (first | (refine wpList_el rfl rfl Try.underlying40 (sz := 1) (by kernel_rfl) rfl rfl hlt ?_) | (refine wpList_load1 rfl rfl Try.underlying22 rfl rfl hc ?_) | (go_at_call 52; fail))
      refine (badBox_any (XA i) (xn i) (xc i) _).mono ?_
      rintro e w2 ⟨rfl, rfl⟩
      by_cases hk : xn i ≤ 1000
      · rw [decide_eq_true hk]
        have HK := Lib.hid hk
        clear hk
        go_wp2
        go_roundg (gk - 1)
        case measure => have := HI.out; omega
        case rel =>
          have hI := HI.out
          refine ⟨i + 1, ?_, by go_num, all_succ HOK.out HK.out, hb⟩
          clear HK HOK H0
          omega
      · rw [decide_eq_false hk]
        have HE := Lib.hid (show decide (∀ i, i < n → xn i ≤ 1000) = false from decide_eq_false fun h => hk (h i hlt))
        clear hk
        go_wp2
        go_ret
        refine ⟨⟨_, rfl, ?_⟩, hb⟩
        rw [HE.out]
        show decide (0 ≤ (i : Int)) = _
        rw [decide_eq_true (by omega)]
        rfl
    · obtain rfl : i = n := by have := HI.out; omega
      have HE := Lib.hid (show decide (∀ j, j < i → xn j ≤ 1000) = true from decide_eq_true HOK.out)
      go_wp2
      go_ret
      refine ⟨⟨_, rfl, ?_⟩, hb⟩
      rw [HE.out]
      rfl
set_option maxRecDepth 100000 in
set_option maxHeartbeats 2000000 in
theorem ContainsBox (A : Option Addr) (n c : Nat) (XA : Nat → Option Addr) (xn xc : Nat → Nat) (B : Nat) (w : World) (h : Els w B A n 1 (fun i _ => .slice (XA i) (xn i) (xc i))) (hB : B ≤ w.heap.size) (hn : n ≤ 1099511627776) :
    Calls Try.prog 51 #[.slice A n c, .func (.func 52) #[] #[]] w fun e w' => e = .returned (.bool (!decide (∀ i, i < n → xn i ≤ 1000))) ∧ Below w.heap.size w w' := by
  have HC := Lib.hid (IndexBox A n c XA xn xc B w h hB hn)
  clear h
  go_enter Try.func51, Try.ntmps51
  go_wp2_with (go_at_call 90; (with_reducible refine HC.out.mono ?_); rintro e w1 ⟨⟨r, rfl, hr⟩, hb⟩)
  go_ret
  first | exact ⟨rfl, hb⟩ | exact ⟨congrArg (fun b => Ending.returned (Value.bool b)) hr, hb⟩
end Go.Proofs.Ytfbfkfdkigpkgaa
