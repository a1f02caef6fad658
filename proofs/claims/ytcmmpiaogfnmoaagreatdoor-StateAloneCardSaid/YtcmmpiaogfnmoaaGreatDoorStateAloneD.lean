/- Trees' shapes (layer 9 and on), walked by computing. Walks by computing: calls that are given what is owned. No program is in sight. Walks by computing: rows of one's own. No program is in sight. Walks by computing: functions that are given what is owned. No program is in sight. Walks by computing: texts that are read. No program is in sight. The lists of a tree's nodes. Trees with points: their nodes, their sums. Walks by computing: rows of bytes of one's own. No program is in sight. Walks by computing: lists behind own rows; nil. No program is in sight. Walks by computing: lists of texts in  -/
import Derived.Test.YtcmmpiaogfnmoaaGreatDoorStateAloneC
set_option linter.unusedSimpArgs false
set_option linter.unusedVariables false
set_option maxRecDepth 200000
set_option maxHeartbeats 6000000
namespace Go.Proofs.YtcmmpiaogfnmoaaGreatDoor
section
open Go.RowKit
def zyq (n : Int) : Bool := decide (n < 2) || decide (n > 3)
def zkq {α : Type} (p : α → Bool) (xs : List α) : Int := if xs.any p then (xs.findIdx p : Int) else -1
section
variable {α : Type} {p : α → Bool} {xs : List α} {i : Nat}
theorem zCm {xs : List Int} (h : ∀ x ∈ xs, 0 ≤ x ∧ x ≤ 3) : 0 ≤ xs.sum ∧ xs.sum ≤ 3 * xs.length := by
 induction xs with
 | nil => simp
 | cons x xs ih =>
  have h1 := h x (List.mem_cons_self ..)
  have h2 := ih fun y hy => h y (List.mem_cons_of_mem _ hy)
  rw [List.sum_cons, List.length_cons]
  omega
theorem zzD {xs : List Int} (h : xs.any zyq = false) : ∀ x ∈ xs, 0 ≤ x ∧ x ≤ 3 := fun x hx => by
 have := List.any_eq_false.1 h x hx
 simp [zyq] at this
 omega
theorem zf1 (h : ∀ y ∈ xs, p y = false) : zkq p xs = -1 := by
 unfold zkq
 rw [if_neg]
 intro ha
 obtain ⟨y, hy, hp⟩ := List.any_eq_true.1 ha
 rw [h y hy] at hp
 cases hp
theorem zkr : decide (zkq p xs ≥ 0) = xs.any p := by
 unfold zkq
 cases h : xs.any p <;> simp
theorem zim (hi : i < xs.length) (h : ∀ y ∈ xs.take i, p y = false) (hp : p xs[i] = true) : zkq p xs = i := by
 unfold zkq
 rw [if_pos (List.any_eq_true.2 ⟨xs[i], List.getElem_mem hi, hp⟩)]
 congr 1
 refine (List.findIdx_eq hi).2 ⟨hp, fun j hj => ?_⟩
 exact h _ (List.mem_take_iff_getElem.2 ⟨j, by omega, rfl⟩)
theorem zf2 (hi : i < xs.length) (h : ∀ y ∈ xs.take i, p y = false) (hp : p xs[i] = false) : ∀ y ∈ xs.take (i + 1), p y = false := fun y hy => by
 rw [List.take_succ_eq_append_getElem hi] at hy
 rcases List.mem_append.1 hy with h1 | h1
 ·exact h y h1
 ·rw [List.mem_singleton.1 h1]; exact hp
end
section
variable {X : List Nat} {w : World}
theorem zCn (hX : ∀ k ∈ X, k < w.heap.size) (n : Int) : Ct Tryz.prog 192 [.int .i64 n] X w (zaH (zyq n)) [] [] := by
 refine vFn (k0 := 0) (rs := [.tmp 2]) (svs := [zaG .i64 n]) (R0 := []) (hnQ []) Tryz.ntmps192 Tryz.func192 rfl rfl rfl rfl rfl zap (by kernel_rfl) hX (fun _ h => by cases h) ?_
 conv => whnf
 refine vIf (fun h => ?_) fun h => ?_
 ·conv => whnf
  refine zan ?_
  simp [zyq, h]; rfl
 ·conv => whnf
  refine vIf (fun h2 => ?_) fun h2 => ?_
  ·conv => whnf
   refine zan ?_
   simp [zyq, h, h2]; rfl
  ·conv => whnf
   refine zan ?_
   simp [zyq, h, h2]; rfl
theorem zwE (hX : ∀ k ∈ X, k < w.heap.size) (xs : List Int) (x : Int) (q : Qd) (hq : St (SlQ zaz xs q) w X) : Ct Tryz.prog 194 [.slice q.1 xs.length q.2, .int .i64 x] X w (zaG .i64 (zkq (· == x) xs)) [] [] := by
 have hbig := SlQ.big hq
 refine vFn (k0 := 1) (rs := [.tmp 4]) (svs := [.a (.s (.p (.hd 0 xs.length))), zaG .i64 x]) (R0 := [.sl 0 xs.length (SlF zaz xs)]) (hnQ [q]) Tryz.ntmps194 Tryz.func194 rfl rfl rfl rfl rfl zap (by kernel_rfl) hX (fun r hr => by rcases List.mem_singleton.1 hr with rfl; exact hq) ?_
 conv => whnf
 refine ⟨Nat, fun k l m R i => ⟨k, (8, zaG .i64 i) :: zbP [0, 1, 7] l, m, R⟩, fun i => i ≤ xs.length ∧ ∀ y ∈ xs.take i, (y == x) = false, fun i => xs.length - i, ⟨0, [], [0], ⟨by omega, by simp⟩, zbX⟩, fun i hφ => ?_⟩
 conv => whnf
 refine vIf (fun h => ?_) fun h => ?_
 ·have hi : i < xs.length := by simpa [Sl.len] using h
  conv => whnf
  refine ⟨i, ⟨rfl, hi, hi⟩, ?_⟩
  conv => whnf
  refine zbz (za6 (T := zaz) (sv := zaG .i64 xs[i]) 0 (jP hi) (fun _ => rfl) rfl rfl rfl (by kernel_rfl) (fun _ => .inr ⟨rfl, rfl, rfl⟩)) rfl rfl ?_
  conv => whnf
  refine vIf (fun he => ?_) fun he => ?_
  ·conv => whnf
   refine zan ?_
   rw [zim hi hφ.2 (by simpa using Eq.symm (by simpa using he))]; rfl
  ·conv => whnf
   refine zei (by omega) (by omega) ?_
   conv => whnf
   exact ⟨i + 1, [], [0], ⟨⟨by omega, zf2 hi hφ.2 (by simp only [beq_eq_false_iff_ne] at he ⊢; exact Ne.symm he)⟩, Nat.sub_lt_sub_left hi (Nat.lt_succ_self i)⟩, zbX⟩
 ·have hi : i = xs.length := by
   have : ¬ i < xs.length := by simpa [Sl.len] using h
   omega
  conv => whnf
  refine zan ?_
  rw [zf1 (by rw [← List.take_length (l := xs), ← hi]; exact hφ.2)]; rfl
theorem zou (hX : ∀ k ∈ X, k < w.heap.size) (xs : List Int) (x : Int) (q : Qd) (hq : St (SlQ zaz xs q) w X) : Ct Tryz.prog 173 [.slice q.1 xs.length q.2, .int .i64 x] X w (zaH (xs.any (· == x))) [] [] := by
 refine vFn (k0 := 1) (rs := [.tmp 4]) (svs := [.a (.s (.p (.hd 0 xs.length))), zaG .i64 x]) (R0 := [.sl 0 xs.length (SlF zaz xs)]) (hnQ [q]) Tryz.ntmps173 Tryz.func173 rfl rfl rfl rfl rfl zap (by kernel_rfl) hX (fun r hr => by rcases List.mem_singleton.1 hr with rfl; exact hq) ?_
 conv => whnf
 refine zah rfl rfl rfl (by kernel_rfl) (fun h X w H => zwE H.xk xs x _ (H.fact 0 rfl)) rfl rfl rfl ?_
 conv => whnf
 refine vIf (fun he => ?_) fun he => ?_
 all_goals
  conv => whnf
  refine zan ?_
  rw [← zkr, he]; rfl
theorem zmN (hX : ∀ k ∈ X, k < w.heap.size) (xs : List Int) (q : Qd) (hq : St (SlQ zaz xs q) w X) {g : FuncId} (hg : fnB Tryz.prog g = true) (p : Int → Bool) (hp : ∀ y ∈ xs, ∀ (X : List Nat) (w : World), (∀ k ∈ X, k < w.heap.size) → Ct Tryz.prog g [.int .i64 y] X w (zaH (p y)) [] []) :
  Ct Tryz.prog 197 [.slice q.1 xs.length q.2, .func (.func g) #[] #[]] X w (zaG .i64 (zkq p xs)) [] [] := by
 have hbig := SlQ.big hq
 refine vFn (k0 := 1) (rs := [.tmp 4]) (svs := [.a (.s (.p (.hd 0 xs.length))), .a (.s (.p (.v (.func (.func g) #[] #[]))))]) (R0 := [.sl 0 xs.length (SlF zaz xs)]) (hnQ [q]) Tryz.ntmps197 Tryz.func197 rfl rfl rfl rfl rfl zap (by kernel_rfl) hX (fun r hr => by rcases List.mem_singleton.1 hr with rfl; exact hq) ?_
 conv => whnf
 refine ⟨Nat, fun k l m R i => ⟨k, (8, zaG .i64 i) :: zbP [0, 1, 7] l, m, R⟩, fun i => i ≤ xs.length ∧ ∀ y ∈ xs.take i, p y = false, fun i => xs.length - i, ⟨0, [], [0], ⟨by omega, by simp⟩, zbX⟩, fun i hφ => ?_⟩
 conv => whnf
 refine vIf (fun h => ?_) fun h => ?_
 ·have hi : i < xs.length := by simpa [Sl.len] using h
  conv => whnf
  refine ⟨i, ⟨rfl, hi, hi⟩, ?_⟩
  conv => whnf
  refine zbz (za6 (T := zaz) (sv := zaG .i64 xs[i]) 0 (jP hi) (fun _ => rfl) rfl rfl rfl (by kernel_rfl) (fun _ => .inr ⟨rfl, rfl, rfl⟩)) rfl rfl ?_
  conv => whnf
  refine zkp rfl rfl rfl hg (fun h X w H => hp _ (List.getElem_mem hi) _ _ H.xk) rfl rfl (fun he => ?_) fun he => ?_
  ·conv => whnf
   refine zan ?_
   rw [zim hi hφ.2 he]; rfl
  ·conv => whnf
   refine zei (by omega) (by omega) ?_
   conv => whnf
   exact ⟨i + 1, [], [0], ⟨⟨by omega, zf2 hi hφ.2 he⟩, Nat.sub_lt_sub_left hi (Nat.lt_succ_self i)⟩, zbX⟩
 ·have hi : i = xs.length := by
   have : ¬ i < xs.length := by simpa [Sl.len] using h
   omega
  conv => whnf
  refine zan ?_
  rw [zf1 (by rw [← List.take_length (l := xs), ← hi]; exact hφ.2)]; rfl
theorem zex (hX : ∀ k ∈ X, k < w.heap.size) (xs : List Int) (q : Qd) (hq : St (SlQ zaz xs q) w X) {g : FuncId} (hg : fnB Tryz.prog g = true) (p : Int → Bool) (hp : ∀ y ∈ xs, ∀ (X : List Nat) (w : World), (∀ k ∈ X, k < w.heap.size) → Ct Tryz.prog g [.int .i64 y] X w (zaH (p y)) [] []) :
  Ct Tryz.prog 191 [.slice q.1 xs.length q.2, .func (.func g) #[] #[]] X w (zaH (xs.any p)) [] [] := by
 refine vFn (k0 := 1) (rs := [.tmp 4]) (svs := [.a (.s (.p (.hd 0 xs.length))), .a (.s (.p (.v (.func (.func g) #[] #[]))))]) (R0 := [.sl 0 xs.length (SlF zaz xs)]) (hnQ [q]) Tryz.ntmps191 Tryz.func191 rfl rfl rfl rfl rfl zap (by kernel_rfl) hX (fun r hr => by rcases List.mem_singleton.1 hr with rfl; exact hq) ?_
 conv => whnf
 refine zah rfl rfl rfl (by kernel_rfl) (fun h X w H => zmN H.xk xs _ (H.fact 0 rfl) hg p hp) rfl rfl rfl ?_
 conv => whnf
 refine vIf (fun he => ?_) fun he => ?_
 all_goals
  conv => whnf
  refine zan ?_
  rw [← zkr, he]; rfl
theorem zCo (hX : ∀ k ∈ X, k < w.heap.size) (xs : List Int) (q : Qd) (hq : St (SlQ zaz xs q) w X) (h3 : ∀ x ∈ xs, 0 ≤ x ∧ x ≤ 3) (hl : xs.length ≤ 1099511627776) : Ct Tryz.prog 193 [.slice q.1 xs.length q.2] X w (zaG .i64 xs.sum) [] [] := by
 refine vFn (k0 := 1) (rs := [.tmp 2]) (svs := [.a (.s (.p (.hd 0 xs.length)))]) (R0 := [.sl 0 xs.length (SlF zaz xs)]) (hnQ [q]) Tryz.ntmps193 Tryz.func193 rfl rfl rfl rfl rfl zap (by kernel_rfl) hX (fun r hr => by rcases List.mem_singleton.1 hr with rfl; exact hq) ?_
 conv => whnf
 refine ⟨Nat, fun k l m R i => ⟨k, (7, zaG .i64 i) :: (2, zaG .i64 (xs.take i).sum) :: zbP [5, 6] l, m, R⟩, fun i => i ≤ xs.length, fun i => xs.length - i, ⟨0, [], [0], by omega, zbX⟩, fun i hφ => ?_⟩
 have hs := zCm (fun x hx => h3 x (List.mem_of_mem_take hx)) (xs := xs.take i)
 rw [List.length_take] at hs
 conv => whnf
 refine vIf (fun h => ?_) fun h => ?_
 ·have hi : i < xs.length := by simpa [Sl.len] using h
  have hx := h3 _ (List.getElem_mem hi)
  conv => whnf
  refine ⟨i, ⟨rfl, hi, hi⟩, ?_⟩
  conv => whnf
  refine zbz (za6 (T := zaz) (sv := zaG .i64 xs[i]) 0 (jP hi) (fun _ => rfl) rfl rfl rfl (by kernel_rfl) (fun _ => .inr ⟨rfl, rfl, rfl⟩)) rfl rfl ?_
  conv => whnf
  refine zdq (z' := (xs.take (i + 1)).sum) (by rw [List.take_succ_eq_append_getElem hi, List.sum_append, List.sum_singleton]) (by omega) (by omega) ?_
  conv => whnf
  refine zei (by omega) (by omega) ?_
  conv => whnf
  exact ⟨i + 1, [], [0], ⟨by omega, Nat.sub_lt_sub_left hi (Nat.lt_succ_self i)⟩, zbX⟩
 ·have hi : i = xs.length := by
   have : ¬ i < xs.length := by simpa [Sl.len] using h
   omega
  conv => whnf
  refine zan ?_
  rw [hi, List.take_length]; rfl
def ztx (n : Int) : Bool := decide (n < 0) || decide (n > 1048576)
theorem zCp (hX : ∀ k ∈ X, k < w.heap.size) (n : Int) : Ct Tryz.prog 190 [.int .i64 n] X w (zaH (ztx n)) [] [] := by
 refine vFn (k0 := 0) (rs := [.tmp 2]) (svs := [zaG .i64 n]) (R0 := []) (hnQ []) Tryz.ntmps190 Tryz.func190 rfl rfl rfl rfl rfl zap (by kernel_rfl) hX (fun _ h => by cases h) ?_
 conv => whnf
 refine vIf (fun h => ?_) fun h => ?_
 ·conv => whnf
  refine zan ?_
  simp [ztx, h]; rfl
 ·conv => whnf
  refine vIf (fun h2 => ?_) fun h2 => ?_
  all_goals
   conv => whnf
   refine zan ?_
   simp [ztx, h, h2]; rfl
def zd3 : Nat → List (List Int) → Bool
 | many, [] => decide (many ≤ 1)
 | many, l :: ls => !decide (many < 2) && !l.any zyq && decide (l.sum = many) && zd3 l.length ls
def zin (ids : List Int) : Bool := (List.range ids.length).all fun i => !(decide (0 < i) && decide (ids.getD (i - 1) 0 ≥ ids.getD i 0))
def zdh (ids : List Int) (ls : List (List Int)) : Bool := decide (ids.length ≤ 1000) && !ids.any ztx && zin ids && zd3 ids.length ls
theorem zmO (hX : ∀ k ∈ X, k < w.heap.size) (ids : List Int) (ls : List (List Int)) (q p : Qd) (hq : St (SlQ zaz ids q) w X) (hp : St (SlQ (zcs zaz) ls p) w X) (hlen : ∀ l ∈ ls, l.length ≤ 1099511627776) :
  Ct Tryz.prog 172 [.agg (ca [.one (.slice q.1 ids.length q.2), .one (.slice p.1 ls.length p.2)])] X w (zaG .i64 (if zdh ids ls then 0 else 1)) [] [] := by
 have hbig := SlQ.big hq
 have hbig2 := SlQ.big hp
 refine vFn (k0 := 2) (rs := [.tmp 2]) (svs := [.a (.agg [.one (.p (.hd 0 ids.length)), .one (.p (.hd 1 ls.length))])]) (R0 := [.sl 0 ids.length (SlF zaz ids), .sl 1 ls.length (SlF (zcs zaz) ls)]) (hnQ [q, p]) Tryz.ntmps172 Tryz.func172 rfl rfl rfl rfl rfl zap (by kernel_rfl) hX (fun r hr => by rcases List.mem_cons.1 hr with rfl | hr; exact hq; rcases List.mem_singleton.1 hr with rfl; exact hp) ?_
 conv => whnf
 refine vIf (fun h1 => ?_) fun h1 => ?_
 ·conv => whnf
  refine zan ?_
  have : ¬ ids.length ≤ 1000 := by simp [Sl.len] at h1; omega
  simp [zdh, this]; rfl
 have h1 : ids.length ≤ 1000 := by simp [Sl.len] at h1; omega
 conv => whnf
 refine zkp rfl rfl rfl (by kernel_rfl) (fun h X w H => zex H.xk ids _ (H.fact 0 rfl) (by kernel_rfl) ztx fun y _ X w hX => zCp hX y) rfl rfl (fun h2 => ?_) fun h2 => ?_
 ·conv => whnf
  refine zan ?_
  simp [zdh, h2]; rfl
 conv => whnf
 refine ⟨Nat, fun k l m R i => ⟨k, (21, zaG .i64 i) :: zbP [1, 20] l, m, R⟩, fun i => i ≤ ids.length ∧ ∀ j, j < i → (decide (0 < j) && decide (ids.getD (j - 1) 0 ≥ ids.getD j 0)) = false, fun i => ids.length - i, ⟨0, [], [0, 1], ⟨by omega, fun j hj => by omega⟩, zbX⟩, fun i hφ => ?_⟩
 conv => whnf
 refine vIf (fun h => ?_) fun h => ?_
 ·have hi : i < ids.length := by simpa [Sl.len] using h
  conv => whnf
  refine zaY 14 [] (by kernel_rfl) ?_
  conv => whnf
  refine vIf (fun h0 => ?_) fun h0 => ?_
  ·have h0 : 0 < i := by simpa using h0
   have e1 : ids.getD (i - 1) 0 = ids[i - 1] := by rw [jR, jP (by omega)]; rfl
   have e2 : ids.getD i 0 = ids[i] := by rw [jR, jP hi]; rfl
   conv => whnf
   refine zei (by omega) (by omega) ?_
   conv => whnf
   refine ⟨i - 1, ⟨by omega, by omega, by omega⟩, ?_⟩
   conv => whnf
   refine zb1 (za6 (T := zaz) (sv := zaG .i64 ids[i - 1]) 0 (jP (by omega)) (fun _ => rfl) rfl rfl rfl (by kernel_rfl) (fun _ => .inr ⟨rfl, rfl, rfl⟩)) ?_
   conv => whnf
   refine ⟨i, ⟨rfl, hi, hi⟩, ?_⟩
   conv => whnf
   refine zb1 (za6 (T := zaz) (sv := zaG .i64 ids[i]) 0 (jP hi) (fun _ => rfl) rfl rfl rfl (by kernel_rfl) (fun _ => .inr ⟨rfl, rfl, rfl⟩)) ?_
   conv => whnf
   refine vIf (fun hc => ?_) fun hc => ?_
   ·conv => whnf
    refine zan ?_
    have : zin ids = false := by
     unfold zin
     rw [List.all_eq_false]
     exact ⟨i, List.mem_range.2 hi, by rw [e1, e2]; simpa [h0] using hc⟩
    simp [zdh, this]; rfl
   ·conv => whnf
    refine zei (by omega) (by omega) ?_
    conv => whnf
    refine ⟨i + 1, [], [0, 1], ⟨⟨by omega, fun j hj => ?_⟩, Nat.sub_lt_sub_left hi (Nat.lt_succ_self i)⟩, zbX⟩
    by_cases e : j = i
    ·subst e
     rw [e1, e2, hc, Bool.and_false]
    ·exact hφ.2 j (by omega)
  ·have h0 : ¬ 0 < i := by simpa using h0
   conv => whnf
   refine zei (by omega) (by omega) ?_
   conv => whnf
   refine ⟨i + 1, [], [0, 1], ⟨⟨by omega, fun j hj => ?_⟩, Nat.sub_lt_sub_left hi (Nat.lt_succ_self i)⟩, zbX⟩
   by_cases e : j = i
   ·subst e
    simp [h0]
   ·exact hφ.2 j (by omega)
 have hi : i = ids.length := by
   have : ¬ i < ids.length := by simpa [Sl.len] using h
   omega
 have hrise : zin ids = true := by
  unfold zin
  rw [List.all_eq_true]
  intro j hj
  rw [hφ.2 j (by have := List.mem_range.1 hj; omega)]
  rfl
 conv => whnf
 refine ⟨Nat × Nat, fun k l m R g => ⟨k, (47, zaG .i64 g.1) :: (5, zaG .i64 g.2) :: zbP [45, 46] l, m, R⟩, fun g => g.1 ≤ ls.length ∧ g.2 ≤ 9223372036854775807 ∧ zd3 ids.length ls = zd3 g.2 (ls.drop g.1), fun g => ls.length - g.1, ⟨(0, ids.length), [], [0, 1], ⟨by simp, by omega, rfl⟩, zbX⟩, fun ⟨i, many⟩ ⟨hi1, hmany, hs⟩ => ?_⟩
 conv => whnf
 refine vIf (fun h => ?_) fun h => ?_
 ·have hj : i < ls.length := by simpa [Sl.len] using h
  obtain ⟨x, hx⟩ : ∃ x, ls[i]? = some x := ⟨_, jP hj⟩
  have hl := hlen x (List.mem_of_getElem? hx)
  rw [List.drop_eq_getElem_cons hj, (List.getElem?_eq_some_iff.1 hx).2, zd3] at hs
  have hbad : zd3 ids.length ls = false → (if zdh ids ls then (0 : Int) else 1) = 1 := fun hb => by simp [zdh, hb]
  conv => whnf
  refine ⟨i, ⟨rfl, hj, hj⟩, ?_⟩
  conv => whnf
  refine zcR (zp3 (T := zaz) 1 hx rfl rfl rfl (by kernel_rfl)) rfl rfl ?_
  conv => whnf
  refine vIf (fun h3 => ?_) fun h3 => ?_
  ·conv => whnf
   refine zan ?_
   have : decide (many < 2) = true := by simp at h3 ⊢; omega
   rw [hbad (by rw [hs, this]; rfl)]; rfl
  have h3' : decide (many < 2) = false := by simp at h3 ⊢; omega
  conv => whnf
  refine zkp rfl rfl rfl (by kernel_rfl) (fun h X w H => zex H.xk x _ (H.fact 0 rfl) (by kernel_rfl) zyq fun y _ X w hX => zCn hX y) rfl rfl (fun h4 => ?_) fun h4 => ?_
  ·conv => whnf
   refine zan ?_
   rw [hbad (by rw [hs, h4]; simp)]; rfl
  conv => whnf
  refine zah rfl rfl rfl (by kernel_rfl) (fun h X w H => zCo H.xk x _ (H.fact 0 rfl) (zzD h4) hl) rfl rfl rfl ?_
  conv => whnf
  refine vIf (fun h5 => ?_) fun h5 => ?_
  ·conv => whnf
   refine zan ?_
   rw [hbad (by
     rw [hs]; have : decide (x.sum = many) = false := by simpa using h5
     rw [this]; simp)]; rfl
  have h5 : decide (x.sum = many) = true := by simpa using h5
  conv => whnf
  refine zei (by omega) (by omega) ?_
  conv => whnf
  exact ⟨(i + 1, x.length), [], [1, 2], ⟨⟨hj, by omega, by rw [hs, h3', h4, h5]; rfl⟩, Nat.sub_lt_sub_left hj (Nat.lt_succ_self i)⟩, zbX⟩
 ·have hi : i = ls.length := by
   have : ¬ i < ls.length := by simpa [Sl.len] using h
   omega
  rw [hi, List.drop_length, zd3] at hs
  have hok : zdh ids ls = decide (many ≤ 1) := by simp [zdh, h1, h2, hrise, hs]
  conv => whnf
  refine vIf (fun h3 => ?_) fun h3 => ?_
  all_goals
   conv => whnf
   refine zan ?_
  ·have : decide (many ≤ 1) = false := by simp at h3 ⊢; omega
   rw [hok, this]; rfl
  ·have : decide (many ≤ 1) = true := by simp at h3 ⊢; omega
   rw [hok, this]; rfl
def zem (ids : List Int) (id : Int) : Nat := (ids.filter fun x => decide (x < id)).length
theorem zty {ids : List Int} {id : Int} {i : Nat} (hi : i < ids.length) : zem (ids.take (i + 1)) id = zem (ids.take i) id + if ids[i] < id then 1 else 0 := by
 unfold zem
 rw [List.take_succ_eq_append_getElem hi, List.filter_append, jQ]
 by_cases h : ids[i] < id <;> simp [List.filter_cons, h]
theorem zzE {ids : List Int} {id : Int} : zem ids id ≤ ids.length := List.length_filter_le _ _
theorem zwF (hX : ∀ k ∈ X, k < w.heap.size) (ids : List Int) (ls : Value) (hls : ls.oneCell' = true) (id : Int) (q : Qd) (hq : St (SlQ zaz ids q) w X) :
  Ct Tryz.prog 146 [.agg (ca [.one (.slice q.1 ids.length q.2), .one ls]), .int .i64 id] X w (.tup [.s (.p (.v (.int .i64 (zem ids id : Nat)))), .s (.p (.v (.bool (ids.any (· == id)))))]) [] [] := by
 have hbig := SlQ.big hq
 refine vFn (k0 := 1) (rs := [.tmp 4, .tmp 5]) (svs := [.a (.agg [.one (.p (.hd 0 ids.length)), .one (.p (.v ls))]), zaG .i64 id]) (R0 := [.sl 0 ids.length (SlF zaz ids)]) (hnQ [q]) Tryz.ntmps146 Tryz.func146 rfl rfl rfl rfl rfl zap (by kernel_rfl) hX (fun r hr => by rcases List.mem_singleton.1 hr with rfl; exact hq) ?_
 conv => whnf
 refine ⟨Nat, fun k l m R i => ⟨k, (11, zaG .i64 i) :: (4, zaG .i64 (zem (ids.take i) id)) :: zbP [1, 2, 9, 10] l, m, R⟩, fun i => i ≤ ids.length, fun i => ids.length - i, ⟨0, [], [0], Nat.zero_le _, zbX⟩, fun i hi => ?_⟩
 conv => whnf
 refine vIf (fun h => ?_) fun h => ?_
 ·have hj : i < ids.length := by simpa [Sl.len] using h
  have hs := zty (id := id) hj
  have hr := zzE (ids := ids.take i) (id := id)
  rw [List.length_take] at hr
  conv => whnf
  refine .inl ?_
  conv => whnf
  refine ⟨i, ⟨rfl, hj, hj⟩, ?_⟩
  conv => whnf
  refine zbz (za6 (T := zaz) (sv := zaG .i64 ids[i]) 0 (jP hj) (fun _ => rfl) rfl rfl rfl (by kernel_rfl) (fun _ => .inr ⟨rfl, rfl, rfl⟩)) rfl rfl ?_
  conv => whnf
  refine vIf (fun h2 => ?_) fun h2 => ?_
  ·have h2 : ids[i] < id := by simpa using h2
   conv => whnf
   rw [if_pos h2] at hs
   have hm : min i ids.length = i := Nat.min_eq_left hi
   refine zdq (z' := (zem (ids.take (i + 1)) id : Nat)) (by rw [hs]; rfl) (by omega) (by omega) ?_
   conv => whnf
   refine zei (by omega) (by omega) ?_
   conv => whnf
   exact ⟨i + 1, [], [0], ⟨hj, Nat.sub_lt_sub_left hj (Nat.lt_succ_self i)⟩, zbX⟩
  ·have h2 : ¬ ids[i] < id := by simpa using h2
   rw [if_neg h2] at hs
   rw [show zem (ids.take i) id = zem (ids.take (i + 1)) id from hs.symm]
   conv => whnf
   refine zei (by omega) (by omega) ?_
   conv => whnf
   exact ⟨i + 1, [], [0], ⟨hj, Nat.sub_lt_sub_left hj (Nat.lt_succ_self i)⟩, zbX⟩
 have hi : i = ids.length := by
   have : ¬ i < ids.length := by simpa [Sl.len] using h
   omega
 rw [hi, List.take_length]
 conv => whnf
 refine zah rfl rfl rfl (by kernel_rfl) (fun h X w H => zou H.xk ids id _ (H.fact 0 rfl)) rfl rfl rfl ?_
 conv => whnf
 refine zan ?_
 rfl
end
end
section
open Go.RowKit
def CtG (P : Program) (f : FuncId) (args : List Value) (X : List Nat) (w : World) (h0 : Hn) (given : MB) (kb : List Nat) (sv : SV) (m1 : MB) (R1 : List SF) : Prop :=
 Calls P f args.toArray w fun e w' => ∃ h : Hn, AgS (fun i => zaR i kb) h0 h ∧ e = .returned (sv.den h) ∧ Sep X (zab (zad h0 [] given)) w w' (zad h [] m1) (zaO h R1)
def zjj : List Nat → Nat → Nat
 | [], _ => 0
 | i :: _, 0 => i
 | _ :: l, j + 1 => zjj l j
def thN (ns : List Nat) (g k j : Nat) : Nat := bif Nat.ble (j + 1) g then zjj ns j else k + (j - g)
def zBM (f : Nat → Nat) : MB → MB → MB
 | [], m => m
 | (i, q) :: m1, m => (f i, q.ren f) :: zBM f m1 m
def zov : List Nat → MB → MB
 | [], m => m
 | i :: ns, m => (i, .gone) :: zov ns m
def zD8 (f : Nat → Nat) (m : MB) : List Nat → MB → Prop
 | _, [] => True
 | s, (i, q) :: m' => (bif zaR (f i) s then False else zaB m (f i) = some (q.ren f)) ∧ zD8 f m (f i :: s) m'
section
variable {h : Hn} {f : Nat → Nat} {m : MB}
theorem zp4 : ∀ {m' : MB} {s : List Nat} {sc : List Nat}, zD8 f m s m' → (∀ j, zaR j sc = true → zaR (f j) s = true) → ∃ s', (zad h s m).Perm (zad (h.ren f) sc m' ++ zad h s' m) ∧ ∀ j, j ∈ s' ↔ j ∈ s ∨ ∃ p ∈ m', f p.1 = j
 | [], s, sc, _, _ => ⟨s, List.Perm.refl _, fun j => by simp⟩
 | (i, q) :: m', s, sc, hs, hsc => by
  cases hb : zaR (f i) s with
  | true => have := hs.1; rw [hb] at this; exact this.elim
  | false =>
   have hl : zaB m (f i) = some (q.ren f) := by have := hs.1; rw [hb] at this; exact this
   have hi : zaR i sc = false := by
    cases hq : zaR i sc with
    | false => rfl
    | true => rw [hsc i hq] at hb; cases hb
   obtain ⟨s', h1, h2⟩ := zp4 (m' := m') (sc := i :: sc) hs.2 fun j hj => by
    rcases List.mem_cons.1 (zas.1 hj) with rfl | hj
    ·exact zas.2 (List.mem_cons_self ..)
    ·exact zas.2 (List.mem_cons_of_mem _ (zas.1 (hsc j (zas.2 hj))))
   refine ⟨s', (zaJ h m s _ _ hl fun hm => by rw [zas.2 hm] at hb; cases hb).trans ?_, fun j => ?_⟩
   ·rw [RB.den_ren, zam, hi, cond_false, List.append_assoc]
    exact List.Perm.append_left _ h1
   ·rw [h2 j]
    simp only [List.mem_cons]
    constructor
    ·rintro ((rfl | h) | ⟨p, hp, h⟩)
     ·exact .inr ⟨(i, q), .inl rfl, rfl⟩
     ·exact .inl h
     ·exact .inr ⟨p, .inr hp, h⟩
    ·rintro (h | ⟨p, rfl | hp, h⟩)
     ·exact .inl (.inr h)
     ·exact .inl (.inl h.symm)
     ·exact .inr ⟨p, hp, h⟩
theorem zks : ∀ {ns s : List Nat}, ∃ s', zad h s (zov ns m) = zad h s' m ∧ ∀ j, j ∈ s' ↔ j ∈ ns ∨ j ∈ s
 | [], s => ⟨s, rfl, fun j => by simp⟩
 | i :: ns, s => by
  cases hb : zaR i s with
  | true =>
   obtain ⟨s', h1, h2⟩ := zks (ns := ns) (s := s)
   refine ⟨s', by rw [zov, zad, hb, cond_true, h1], fun j => ?_⟩
   rw [h2 j]
   simp only [List.mem_cons]
   constructor
   ·rintro (h | h)
    ·exact .inl (.inr h)
    ·exact .inr h
   ·rintro ((rfl | h) | h)
    ·exact .inr (zas.1 hb)
    ·exact .inl h
    ·exact .inr h
  | false =>
   obtain ⟨s', h1, h2⟩ := zks (ns := ns) (s := i :: s)
   refine ⟨s', by rw [zov, zad, hb, cond_false, h1], fun j => ?_⟩
   rw [h2 j]
   simp only [List.mem_cons]
   constructor
   ·rintro (h | h | h)
    ·exact .inl (.inr h)
    ·exact .inl (.inl h)
    ·exact .inr h
   ·rintro ((rfl | h) | h)
    ·exact .inr (.inl rfl)
    ·exact .inl h
    ·exact .inr (.inr h)
theorem zkt {m2 : MB} : ∀ {m1 : MB} {s sc : List Nat}, (∀ p ∈ m1, ∀ j, (j ∈ sc ↔ j ∈ sc) ∧ (zaR p.1 sc = zaR (f p.1) s)) → (∀ p ∈ m1, ∀ p' ∈ m1, f p.1 = f p'.1 → p.1 = p'.1) →
  ∃ s', zad h s (zBM f m1 m2) = zad (h.ren f) sc m1 ++ zad h s' m2 ∧ ∀ j, j ∈ s' ↔ (∃ p ∈ m1, f p.1 = j) ∨ j ∈ s
 | [], s, sc, _, _ => ⟨s, rfl, fun j => by simp⟩
 | (i, q) :: m1, s, sc, hm, hinj => by
  have hi : zaR i sc = zaR (f i) s := (hm (i, q) (List.mem_cons_self ..) 0).2
  cases hb : zaR (f i) s with
  | true =>
   rw [hb] at hi
   obtain ⟨s', h1, h2⟩ := zkt (m2 := m2) (m1 := m1) (s := s) (sc := sc) (fun p hp => hm p (List.mem_cons_of_mem _ hp)) fun p hp p' hp' => hinj p (List.mem_cons_of_mem _ hp) p' (List.mem_cons_of_mem _ hp')
   refine ⟨s', by rw [zBM, zam, hb, cond_true, h1, zam, hi, cond_true], fun j => ?_⟩
   rw [h2 j]
   simp only [List.mem_cons]
   constructor
   ·rintro (⟨p, hp, h⟩ | h)
    ·exact .inl ⟨p, .inr hp, h⟩
    ·exact .inr h
   ·rintro (⟨p, rfl | hp, h⟩ | h)
    ·exact .inr (by rw [← h]; exact zas.1 hb)
    ·exact .inl ⟨p, hp, h⟩
    ·exact .inr h
  | false =>
   rw [hb] at hi
   obtain ⟨s', h1, h2⟩ := zkt (m2 := m2) (m1 := m1) (s := f i :: s) (sc := i :: sc) (fun p hp j => ⟨Iff.rfl, by
    have h3 := (hm p (List.mem_cons_of_mem _ hp) 0).2
    rw [Bool.eq_iff_iff, zas, zas] at h3 ⊢
    simp only [List.mem_cons]
    constructor
    ·rintro (e | e)
     ·exact .inl (by rw [e])
     ·exact .inr (h3.1 e)
    ·rintro (e | e)
     ·exact .inl (hinj p (List.mem_cons_of_mem _ hp) (i, q) (List.mem_cons_self ..) e)
     ·exact .inr (h3.2 e)⟩) fun p hp p' hp' => hinj p (List.mem_cons_of_mem _ hp) p' (List.mem_cons_of_mem _ hp')
   refine ⟨s', by rw [zBM, zam, hb, cond_false, h1, zam, hi, cond_false, RB.den_ren, List.append_assoc], fun j => ?_⟩
   rw [h2 j]
   simp only [List.mem_cons]
   constructor
   ·rintro (⟨p, hp, h⟩ | rfl | h)
    ·exact .inl ⟨p, .inr hp, h⟩
    ·exact .inl ⟨(i, q), .inl rfl, rfl⟩
    ·exact .inr h
   ·rintro (⟨p, rfl | hp, h⟩ | h)
    ·exact .inr (.inl h.symm)
    ·exact .inl ⟨p, hp, h⟩
    ·exact .inr (.inr h)
end
def zwG (g c : Nat) (kb : List Nat) (i : Nat) : Bool := bif zaR i kb then Nat.ble (i + 1) g else (bif Nat.ble g i then Nat.ble (i + 1) (g + c) else false)
def ztz (k : Nat) : List Nat → Bool
 | [] => true
 | i :: ns => bif Nat.ble (i + 1) k then ztz k ns else false
theorem zhy {k : Nat} : ∀ {ns : List Nat}, ztz k ns = true → ∀ i ∈ ns, i < k
 | [], _, i, hi => by cases hi
 | j :: ns, e, i, hi => by
  rcases List.mem_cons.1 hi with rfl | hi
  ·exact Nat.le_of_ble_eq_true (zaa e).1
  ·exact zhy (zaa e).2 i hi
theorem zio : ∀ {ns : List Nat}, zdg ns = true → ns.Nodup
 | [], _ => List.nodup_nil
 | i :: ns, e => by
  unfold zdg at e
  cases hb : zaR i ns with
  | true => rw [hb] at e; cases e
  | false => rw [hb] at e; exact List.nodup_cons.2 ⟨fun h => (by rw [zas.2 h] at hb; cases hb), zio e⟩
theorem zdx : ∀ {ns : List Nat} {i : Nat}, i < ns.length → zjj ns i ∈ ns
 | [], i, hi => by simp at hi
 | j :: ns, 0, _ => List.mem_cons_self ..
 | j :: ns, i + 1, hi => List.mem_cons_of_mem _ (zdx (by simpa using hi))
theorem zp5 : ∀ {ns : List Nat}, ns.Nodup → ∀ {i j : Nat}, i < ns.length → j < ns.length → zjj ns i = zjj ns j → i = j
 | [], _, i, _, hi, _, _ => by simp at hi
 | a :: ns, hn, 0, 0, _, _, _ => rfl
 | a :: ns, hn, 0, j + 1, _, hj, e => absurd (by rw [show a = zjj ns j from e]; exact zdx (by simpa using hj)) (List.nodup_cons.1 hn).1
 | a :: ns, hn, i + 1, 0, hi, _, e => absurd (by rw [← show zjj ns i = a from e]; exact zdx (by simpa using hi)) (List.nodup_cons.1 hn).1
 | a :: ns, hn, i + 1, j + 1, hi, hj, e => by rw [zp5 (List.nodup_cons.1 hn).2 (by simpa using hi) (by simpa using hj) e]
theorem zp6 : ∀ {ns : List Nat} {j : Nat}, j ∈ ns → ∃ i, i < ns.length ∧ zjj ns i = j
 | [], j, hj => by cases hj
 | a :: ns, j, hj => by
  rcases List.mem_cons.1 hj with rfl | hj
  ·exact ⟨0, by simp, rfl⟩
  ·obtain ⟨i, h1, h2⟩ := zp6 hj
   exact ⟨i + 1, by simpa using h1, h2⟩
theorem zp7 : ∀ {a b : List Nat}, a.Nodup → a ⊆ b → a.length ≤ b.length
 | [], b, _, _ => by simp
 | x :: a, b, hn, hs => by
  have h1 := List.nodup_cons.1 hn
  have h2 := zp7 (a := a) (b := b.erase x) h1.2 fun y hy => by
   have hne : y ≠ x := fun e => h1.1 (by rw [← e]; exact hy)
   exact (List.mem_erase_of_ne hne).2 (hs (List.mem_cons_of_mem _ hy))
  have hx := hs (List.mem_cons_self ..)
  rw [List.length_erase_of_mem hx] at h2
  have := List.length_pos_of_mem hx
  rw [List.length_cons]
  omega
theorem zp8 {f : Nat → Nat} (h : Hn) : ∀ (R : List SF), zaO h (shR f R) = zaO (h.ren f) R
 | [] => rfl
 | r :: R => by rw [shR, zaO, zaO, zp8 h R, SF.den_ren]
theorem zgx (h : Hn) : ∀ (m : MB) (s s' : List Nat), (∀ p ∈ m, p.1 ∈ s ↔ p.1 ∈ s') → zad h s m = zad h s' m
 | [], s, s', _ => rfl
 | (i, q) :: m, s, s', hs => by
  have e : zaR i s = zaR i s' := by rw [Bool.eq_iff_iff, zas, zas]; exact hs (i, q) (List.mem_cons_self ..)
  rw [zam, zam, e, zgx h m s s' fun p hp => hs p (List.mem_cons_of_mem _ hp), zgx h m (i :: s) (i :: s') fun p hp => by
   have := hs p (List.mem_cons_of_mem _ hp)
   simp [this]]
section
variable {P : Program} {N k : Nat} {l : LE} {m : MB} {R : List SF} {o : Oper} {sv : SV} {K : KS}
theorem za0 {f : FuncId} {x : Operand} {xs : Array Operand} {ts : Array TypeId} {svs : List SV} {sv0 : SV} {fs cs : Hn → List Value} {given m1 : MB} {R1 : List SF} {kb : List Nat} (ns : List Nat) (c : Nat) (ho : o.op = .call { callee := .value x, args := xs, argTypes := ts }) (hx : evS l x = some sv0) (hargs : zwk l xs.toList = some svs) (hf : fnB P f = true)
  (hfn : ∀ h, sv0.den h = .func (.func f) (fs h).toArray (cs h).toArray) (wm : wfM (lt_ k) m = true) (wr : wfR (lt_ k) R = true) (hsub : zD8 (thN ns ns.length k) m [] given) (hgk : ztz ns.length (given.map Prod.fst) = true) (hga : zdg (given.map Prod.fst) = true) (hall : ns.length = given.length) (hns : zdg ns = true) (hlt : ztz k ns = true)
  (hw : (bif sv.wf (zwG ns.length c kb) then (bif wfM (zwG ns.length c kb) m1 then wfR (zwG ns.length c kb) R1 else false) else false) = true)
  (hc : ∀ (h : Hn) (X : List Nat) (w : World) (L2 : List Res), Sp X w (zad (h.ren (thN ns ns.length k)) [] given ++ L2) (zaO h R) → CtG P f (fs h ++ zmd h svs ++ cs h) (X ++ zab L2) w (h.ren (thN ns ns.length k)) given kb sv m1 R1) :
  zcZ P N k l m R o (sv.ren (thN ns ns.length k)) (zBM (thN ns ns.length k) m1 (zov ns m)) (shR (thN ns ns.length k) R1 ++ R) := fun Q h X a w E H Kk hK => by
 have hnn := zio hns
 have hnl := zhy hlt
 obtain ⟨s', hp, hs'⟩ := zp4 (h := h) (sc := []) hsub (fun j hj => by cases hj)
 have H1 := H.perm hp
 have hcc := hc h X w _ H1
 unfold CtG at hcc
 refine zhr E ho ((zag hx).trans (by rw [hfn])) (zoe hargs) hf ?_
 rw [show (fs h).toArray ++ (zmd h svs).toArray ++ (cs h).toArray = (fs h ++ zmd h svs ++ cs h).toArray by simp]
 refine hcc.mono ?_
 rintro e w' ⟨h1, hag, rfl, S⟩
 let h2 : Hn := ⟨fun i => if i < k then h.b i else h1.b (ns.length + (i - k)), fun i => if i < k then h.r i else h1.r (ns.length + (i - k)), fun i => if i < k then h.q i else h1.q (ns.length + (i - k))⟩
 have ag2 : AgS (lt_ k) h h2 := fun i hi => ⟨if_pos (zci hi), if_pos (zci hi), if_pos (zci hi)⟩
 have ag1 : AgS (zwG ns.length c kb) h1 (h2.ren (thN ns ns.length k)) := fun i hi => by
  unfold zwG at hi
  show h2.b (thN ns ns.length k i) = h1.b i ∧ h2.r (thN ns ns.length k i) = h1.r i ∧ h2.q (thN ns ns.length k i) = h1.q i
  cases hb : zaR i kb with
  | true =>
   rw [hb] at hi
   have hlt : i < ns.length := Nat.le_of_ble_eq_true hi
   have e : thN ns ns.length k i = zjj ns i := by unfold thN; rw [show Nat.ble (i + 1) ns.length = true from hi]; rfl
   have h3 := hnl _ (zdx hlt)
   have h4 := hag i hb
   have h5 : (h.ren (thN ns ns.length k)).b i = h.b (zjj ns i) ∧ (h.ren (thN ns ns.length k)).r i = h.r (zjj ns i) ∧ (h.ren (thN ns ns.length k)).q i = h.q (zjj ns i) := by
    show h.b (thN ns ns.length k i) = _ ∧ h.r (thN ns ns.length k i) = _ ∧ h.q (thN ns ns.length k i) = _
    rw [e]; exact ⟨rfl, rfl, rfl⟩
   rw [e]
   exact ⟨(if_pos h3).trans (by rw [h4.1, h5.1]), (if_pos h3).trans (by rw [h4.2.1, h5.2.1]), (if_pos h3).trans (by rw [h4.2.2, h5.2.2])⟩
  | false =>
   rw [hb, cond_false] at hi
   cases hg : Nat.ble ns.length i with
   | false => rw [hg] at hi; cases hi
   | true =>
    have hge : ns.length ≤ i := Nat.le_of_ble_eq_true hg
    have e : thN ns ns.length k i = k + (i - ns.length) := by
     unfold thN
     rw [show Nat.ble (i + 1) ns.length = false from by
      cases hq : Nat.ble (i + 1) ns.length with
      | false => rfl
      | true => have := Nat.le_of_ble_eq_true hq; omega]
     rfl
    rw [e]
    have e2 : ns.length + (k + (i - ns.length) - k) = i := by omega
    exact ⟨(if_neg (by omega)).trans (by rw [e2]), (if_neg (by omega)).trans (by rw [e2]), (if_neg (by omega)).trans (by rw [e2])⟩
 have hw1 := zaa hw
 have hw2 := zaa hw1.2
 have hinj : ∀ i j, zwG ns.length c kb i = true → zwG ns.length c kb j = true → thN ns ns.length k i = thN ns ns.length k j → i = j := fun i j hi hj e => by
  have key : ∀ i, zwG ns.length c kb i = true → (i < ns.length ∧ thN ns ns.length k i = zjj ns i) ∨ (ns.length ≤ i ∧ thN ns ns.length k i = k + (i - ns.length)) := fun i hi => by
   by_cases hl : i < ns.length
   ·exact .inl ⟨hl, by unfold thN; rw [show Nat.ble (i + 1) ns.length = true from Nat.ble_eq_true_of_le hl]; rfl⟩
   ·refine .inr ⟨by omega, ?_⟩
    unfold thN
    rw [show Nat.ble (i + 1) ns.length = false from by
     cases hq : Nat.ble (i + 1) ns.length with
     | false => rfl
     | true => have := Nat.le_of_ble_eq_true hq; omega]
    rfl
  rcases key i hi with ⟨h1, e1⟩ | ⟨h1, e1⟩ <;> rcases key j hj with ⟨h2, e2⟩ | ⟨h2, e2⟩
  ·exact zp5 hnn h1 h2 (by rw [← e1, ← e2, e])
  ·have := hnl _ (zdx h1)
   omega
  ·have := hnl _ (zdx h2)
   omega
  ·omega
 have hnum : ∀ p ∈ m1, zwG ns.length c kb p.1 = true := zgV hw2.1
 obtain ⟨s1, e1, hs1⟩ := zkt (h := h2) (f := thN ns ns.length k) (m2 := zov ns m) (m1 := m1) (s := []) (sc := []) (fun p hp j => ⟨Iff.rfl, rfl⟩) fun p hp p' hp' e => hinj _ _ (hnum p hp) (hnum p' hp') e
 obtain ⟨s2, e2, hs2⟩ := zks (h := h2) (m := m) (ns := ns) (s := s1)
 have hgiven : ∀ j, (∃ p ∈ given, thN ns ns.length k p.1 = j) ↔ j ∈ ns := fun j => by
  have hgl := zhy hgk
  have hth : ∀ p ∈ given, thN ns ns.length k p.1 = zjj ns p.1 := fun p hp => by
   have := hgl p.1 (List.mem_map.2 ⟨p, hp, rfl⟩)
   unfold thN
   rw [show Nat.ble (p.1 + 1) ns.length = true from Nat.ble_eq_true_of_le this]; rfl
  constructor
  ·rintro ⟨p, hp, rfl⟩
   rw [hth p hp]
   exact zdx (hgl p.1 (List.mem_map.2 ⟨p, hp, rfl⟩))
  ·intro hj
   have hfull : ∀ i, i < ns.length → i ∈ given.map Prod.fst := fun i hi => by
    refine Classical.byContradiction fun hno => ?_
    have hsub : (given.map Prod.fst) ⊆ (List.range ns.length).erase i := fun a ha => by
     rw [(List.nodup_range).mem_erase_iff]
     exact ⟨fun e => hno (by rw [← e]; exact ha), List.mem_range.2 (hgl a ha)⟩
    have h3 := zp7 (zio hga) hsub
    rw [List.length_erase_of_mem (List.mem_range.2 hi), List.length_range, List.length_map] at h3
    omega
   obtain ⟨i, hi, rfl⟩ := zp6 hj
   obtain ⟨p, hp, rfl⟩ := List.mem_map.1 (hfull i hi)
   exact ⟨p, hp, hth p hp⟩
 have eM : zad h2 s2 m = zad h s' m := by
  rw [zaP ag2 wm]
  have hset : ∀ j, j ∈ s' ↔ j ∈ ns := fun j => by rw [hs' j, hgiven j]; simp
  refine zgx h m s2 s' fun p hp => ?_
  rw [hs2, hs1, hset]
  constructor
  ·rintro (h3 | ⟨q, hq, h3⟩ | h3)
   ·exact h3
   ·have hpk : p.1 < k := zci (zgV wm p hp)
    have hq2 := hnum q hq
    by_cases hl : q.1 < ns.length
    ·rw [← h3]
     unfold thN
     rw [show Nat.ble (q.1 + 1) ns.length = true from Nat.ble_eq_true_of_le hl]
     exact zdx hl
    ·exfalso
     unfold thN at h3
     rw [show Nat.ble (q.1 + 1) ns.length = false from by
      cases hq : Nat.ble (q.1 + 1) ns.length with
      | false => rfl
      | true => have := Nat.le_of_ble_eq_true hq; omega] at h3
     simp only [cond_false] at h3
     omega
   ·cases h3
  ·intro h3; exact .inl h3
 have eAll : zad h2 [] (zBM (thN ns ns.length k) m1 (zov ns m)) = zad h1 [] m1 ++ zad h s' m := by
  rw [e1, e2, eM, zaP ag1 hw2.1]
 have hS := H1.callG S
 have h3 := hK h2 w' ag2 ⟨S.frm.os, S.frm.tape, S.frm.output, S.frm.size, fun j hj hn => S.frm.block j hj fun hm => hn ?_⟩ ?_ ?_
 ·rw [SV.den_ren, SV.same ag1 hw1.1] at h3
  exact h3
 ·refine (zar hp).mem_iff.2 ?_
  rw [zai]
  exact List.mem_append_left _ hm
 ·have h4 : zaO h2 (shR (thN ns ns.length k) R1 ++ R) = zaO h1 R1 ++ zaO h R := by
   rw [zj5, zp8, za5 ag1 hw2.2, za5 ag2 wr]
  rw [eAll, h4]
  exact hS.1
 ·intro j hj
  rw [eAll] at hj
  rcases hS.2 j hj with h4 | h4
  ·exact .inl ((zar hp).mem_iff.2 h4)
  ·exact .inr h4
end
end
section
open Go.RowKit
class Dec {α : Type} (T : Ty α) where
 dec : List Qd → T.μ
 enc : T.μ → List Qd
 de : ∀ m, dec (enc m) = m
instance : Dec zaz := ⟨fun _ => (), fun _ => [], fun _ => rfl⟩
instance : Dec zbU := ⟨fun _ => (), fun _ => [], fun _ => rfl⟩
instance {α : Type} (T : Ty α) : Dec (zcs T) := ⟨fun l => qs l 0, fun m => [m], fun _ => rfl⟩
section
variable {α : Type} (T : Ty α) [Dec T]
def itQ (xs : List α) (g : Nat → List Qd) : List (α × T.μ) := zaE T xs fun i => Dec.dec (g i)
def zbh (xs : List α) (e : Nat) : RB := .row e T.sz xs.length fun g => zbI T (itQ T xs g)
def zbY (xs : List α) (g : Nat → List Qd) (w : World) : Prop := zfN T (itQ T xs g) w
end
section
variable {P : Program} {Tb : Tab} {N k k0 ix : Nat} {l : LE} {m : MB} {R : List SF} {o : Oper} {sv : SV} {K : KS} {dst : Option Nat} {vis : List Nat} {gs : List GO} {KG : Nat → List GO → Prop}
variable {α : Type} {T : Ty α} [Dec T] {xs : List α} {x : α} {i j n0 off n ty e : Nat}
theorem zbD {g : Nat → List Qd} : (itQ T xs g).length = xs.length := zbj
theorem zjA {g : Nat → List Qd} (hj : xs[j]? = some x) : (itQ T xs g)[j]? = some (x, Dec.dec (g j)) := by unfold itQ; rw [zbW, hj]; rfl
theorem ztA {g : Nat → List Qd} : (itQ T xs g).map Prod.fst = xs := zsE
theorem ztB {g : Nat → List Qd} (hj : xs[j]? = some x) (x' : α) : (itQ T xs g).set j (x', Dec.dec (g j)) = itQ T (xs.set j x') g := by
 refine List.ext_getElem? fun t => ?_
 have hl : j < xs.length := (List.getElem?_eq_some_iff.1 hj).1
 rw [List.getElem?_set, zbD]
 unfold itQ
 rw [zbW, zbW, List.getElem?_set]
 by_cases ht : j = t
 ·subst ht; simp [hl]
 ·simp [ht]
theorem zwH {g g' : Nat → List Qd} (hg : ∀ t, t < xs.length → g' t = g t) : itQ T (xs ++ [x]) g' = itQ T xs g ++ [(x, Dec.dec (g' xs.length))] := by
 refine List.ext_getElem? fun t => ?_
 unfold itQ
 rw [zbW]
 by_cases ht : t < xs.length
 ·rw [List.getElem?_append_left ht, List.getElem?_append_left (by rw [zbj]; exact ht), zbW, hg t ht]
 ·rw [List.getElem?_append_right (by omega), List.getElem?_append_right (by rw [zbj]; omega), zbj]
  by_cases h0 : t - xs.length = 0
  ·have : t = xs.length := by omega
   subst this
   simp
  ·obtain ⟨c, hc⟩ : ∃ c, t - xs.length = c + 1 := ⟨t - xs.length - 1, by omega⟩
   rw [hc]
   simp
theorem ztC {X : List Nat} {w : World} {Rr : List (World → Prop)} {h : Hn} (H : Sp X w (zad h [] m) Rr) (hm : zaB m i = some (zbh T xs e)) : w.ownsRow 0 e T.sz (.slice (h.r i).1 xs.length (h.r i).2) xs.length (zbI T (itQ T xs (h.q i))) :=
 H.holds _ ((zaJ h m [] i _ hm (by simp)).mem_iff.2 (List.mem_cons_self ..))
theorem zp9 {X : List Nat} {w : World} {Rr : List (World → Prop)} {h : Hn} (H : Sp X w (zad h [] m) Rr) (hm : zaB m i = some (zbh T xs e)) (hj : xs[j]? = some x) : ∃ g, (h.r i).1 = some ⟨g, 0, none⟩ ∧ AtC ((⟨g, 0, none⟩ : Addr).add (j * T.sz)) (T.ch x (Dec.dec (h.q i j))) w := by
 have hown := ztC H hm
 obtain ⟨g, hg⟩ := zwh hown (by have := (List.getElem?_eq_some_iff.1 hj).1; omega)
 refine ⟨g, hg, fun t u hu => ?_⟩
 rw [hg] at hown
 rw [Addr.add_add]
 exact World.ownsRow.cells hown (g := g) rfl _ u (zhY _ _ _ _ u (zjA hj) hu)
theorem zqa {h : Hn} {g : Nat} {A : Option Addr} (hg : A = some ⟨g, 0, none⟩) (hr : (h.r i).1 = A) {s : Nat} : (hpS i j s off).den h = .pointer (some (((⟨g, 0, none⟩ : Addr).add (j * s)).add off)) := by
 show Value.pointer (some ((((h.r i).1.getD ⟨0, 0, none⟩).add (j * s)).add off)) = _
 rw [hr, hg]
 rfl
theorem ziq {ag : Bool} {sub : List Chunk} {xop : Operand} (hm : zaB m i = some (zbh T xs e)) (hj : xs[j]? = some x) (hp : ∀ μ, zgq (T.ch x μ) off n = some sub) (ho : o.op = .load ty xop) (hx : evS l xop = some (hpS i j T.sz off)) (ht : tyK P ty = some (n, ag)) (hv : ∀ h, (ag = true ∧ sv.den h = .agg (ca sub)) ∨ (ag = false ∧ n = 1 ∧ sub = [.one (sv.den h)])) : zfU P N l m R o sv := fun h X a w E H => by
 obtain ⟨g, hg, h1⟩ := zp9 H hm hj
 have h2 := zer h1 (hp _)
 have hx' := (zag (h := h) hx).trans (by rw [zqa hg rfl])
 rcases hv h with ⟨rfl, e⟩ | ⟨rfl, rfl, e⟩
 ·rw [e]
  exact zbm E ho hx' ht (zdr (hp (Dec.dec (h.q i j)))).2.1 h2
 ·rw [e] at h2
  exact zaU E ho hx' ht h2
theorem zeX {m2 m' : MB} {R2 R' : List SF} {k2 : Nat} (hk : Nat.ble k k2 = true) (hc : ∀ (h : Hn) (X : List Nat) (w : World), Sp X w (zad h [] m) (zaO h R) → ∃ h2, AgS (lt_ k) h h2 ∧ Sp X w (zad h2 [] m2) (zaO h2 R2) ∧ ∀ j ∈ zab (zad h2 [] m2), j ∈ zab (zad h [] m)) (wl : wfE (lt_ k) l = true) (hs : zcZ P N k2 l m2 R2 o sv m' R') : zcZ P N k l m R o sv m' R' := fun Q h X a w E H Kk hK => by
 obtain ⟨h2, ha, H2, hkk⟩ := hc h X w H
 refine hs Q h2 X a w (by rw [zmp ha wl]; exact E) H2 Kk fun h1 w' h3 h4 h5 h6 => ?_
 refine hK h1 w' (fun i hi => ?_) ⟨h4.os, h4.tape, h4.output, h4.size, fun j hj hn => h4.block j hj fun hm => hn (hkk j hm)⟩ h5 fun j hj => ?_
 ·have e1 := ha i hi
  have e2 := h3 i (zdc (Nat.le_of_ble_eq_true hk) i hi)
  exact ⟨e2.1.trans e1.1, e2.2.1.trans e1.2.1, e2.2.2.trans e1.2.2⟩
 ·exact (h6 j hj).imp_left (hkk j)
theorem zeY {h : Hn} {i k : Nat} (hi : i ≠ k) (wm : wfM (lt_ k) m = true) : zad h [k] ((i, .gone) :: m) = zad h [i] m := by
 have h1 : zaR i [k] = false := by
  cases hq : zaR i [k] with
  | false => rfl
  | true => exact absurd (List.mem_singleton.1 (zas.1 hq)) hi
 rw [zad, h1, cond_false, zcF h m [i, k] (k :: [i]) (fun j => by simp [or_comm]), zc3 h m [i] k fun p hp => Nat.ne_of_lt (zci (zgV wm p hp))]
theorem zmP {new : List SC} {nn : Nat × Bool} {xop y : Operand} (x' : α) (hT : zbu P Tb) (hm : zaB m i = some (zbh T xs e)) (hj : xs[j]? = some x) (ho : o.op = .store ty xop y) (hx : evS l xop = some (hpS i j T.sz off)) (hy : zff (evS l y) = some new) (hn : szT Tb ty = some nn) (hl : zeN new = nn.1) (h1 : ∀ h, zn9 (zay h new)) (hp : ∀ h μ, zi3 (T.ch x μ) off (zay h new) = some (T.ch x' μ)) : zcZ P N k l m R o (zek undef) ((i, zbh T (xs.set j x') e) :: m) R := fun Q h X a w E H Kk hK => by
 obtain ⟨g, hg, _⟩ := zp9 H hm hj
 have H1 : Sp X w (.row (.slice (h.r i).1 xs.length (h.r i).2) e T.sz xs.length (zbI T (itQ T xs (h.q i))) :: zad h [i] m) (zaO h R) := H.numAt hm
 cases hv : evS l y with
 | none => rw [hv] at hy; cases hy
 | some v =>
  rw [hv] at hy
  have hx' := (zag (h := h) hx).trans (by rw [zqa hg rfl])
  have hkm : ∀ j, j ∈ zab (zad h [] m) ↔ j ∈ zab (.row (.slice (h.r i).1 xs.length (h.r i).2) e T.sz xs.length (zbI T (itQ T xs (h.q i))) :: zad h [i] m) := fun j => (zar (zaJ h m [] i _ hm (by simp))).mem_iff
  refine zjw (T := T) (its := itQ T xs (h.q i)) (p := (x, Dec.dec (h.q i j))) (x', Dec.dec (h.q i j)) 0 E H1.sep rfl hg zbD.symm (zjA hj) ho hx' rfl (zag hv) (zdP hy) (h1 h) (hp h _) (by rw [zbb, hl]; exact zht (zeu hT hn)) fun w' HS hF => ?_
  have e1 : zad h [] ((i, zbh T (xs.set j x') e) :: m) = .row (.slice (h.r i).1 xs.length (h.r i).2) e T.sz xs.length (zbI T ((itQ T xs (h.q i)).set j (x', Dec.dec (h.q i j)))) :: zad h [i] m := by
   rw [ztB hj, zam]
   show RB.den h i (zbh T (xs.set j x') e) ++ zad h [i] m = _
   simp only [zbh, RB.den, List.length_set]
   rfl
  have hk2 : ∀ j', j' ∈ zab (zad h [] ((i, zbh T (xs.set j x') e) :: m)) → j' ∈ zab (zad h [] m) := fun j' hj' => by
   rw [e1] at hj'
   exact (hkm j').2 hj'
  refine hK h w' (fun _ _ => ⟨rfl, rfl, rfl⟩) ⟨hF.os, hF.tape, hF.output, hF.size, fun t ht hn => hF.block t ht fun hm' => hn ?_⟩ ?_ fun j' hj' => .inl (hk2 j' hj')
  ·rcases List.mem_singleton.1 hm' with rfl
   rw [hkm]
   exact List.mem_append_left _ (by simp [Res.keys, Value.ownBlock, hg])
  ·rw [e1]
   exact Sp.of_sep HS fun t ht hX => H1.xap t ht hX
theorem zwI {g : Nat → List Qd} {w : World} {x' : α} (hj : xs[j]? = some x) (hn : ∀ μ, T.nest x μ w → T.nest x' μ w) (H : zbY T xs g w) : zbY T (xs.set j x') g w := by
 unfold zbY at H ⊢
 rw [← ztB hj]
 intro p hp
 rcases List.mem_or_eq_of_mem_set hp with h1 | rfl
 ·exact H p h1
 ·exact hn _ (H (x, Dec.dec (g j)) (List.mem_of_getElem? (zjA hj)))
theorem zmQ {sv : SV} {m' : MB} {R' R2 : List SF} (hs : zcZ P N k l m R o sv m' R') (hc : ∀ (h : Hn) (w : World) (Y : List Nat), (∀ r ∈ R', St (r.den h) w Y) → ∀ r ∈ R2, St (r.den h) w Y) : zcZ P N k l m R o sv m' R2 := fun Q h X a w E H Kk hK => hs Q h X a w E H Kk fun h1 w' a1 a2 a3 a4 => hK h1 w' a1 a2 (a3.refacts fun r hr => by
 obtain ⟨q, hq, rfl⟩ := zaw.1 hr
 exact hc h1 w' _ (fun r hr => a3.facts _ (zaw.2 ⟨r, hr, rfl⟩)) q hq) a4
theorem zzF {new : List SC} {nn : Nat × Bool} {xop y : Operand} (x' : α) (hT : zbu P Tb) (hm : zaB m i = some (zbh T xs e)) (hj : xs[j]? = some x) (hr : .q i (zbY T xs) ∈ R) (hnest : ∀ μ w, T.nest x μ w → T.nest x' μ w) (ho : o.op = .store ty xop y) (hx : evS l xop = some (hpS i j T.sz off)) (hy : zff (evS l y) = some new) (hn : szT Tb ty = some nn) (hl : zeN new = nn.1) (h1 : ∀ h, zn9 (zay h new)) (hp : ∀ h μ, zi3 (T.ch x μ) off (zay h new) = some (T.ch x' μ)) : zcZ P N k l m R o (zek undef) ((i, zbh T (xs.set j x') e) :: m) (.q i (zbY T (xs.set j x')) :: R) :=
 zmQ (zmP x' hT hm hj ho hx hy hn hl h1 hp) fun h w Y hY r hr' => by
  rcases List.mem_cons.1 hr' with rfl | hr'
  ·have h2 : St (zbY T xs (h.q i)) w Y := hY _ hr
   exact h2.imp fun w' hw => zwI hj (fun μ => hnest μ w') hw
  ·exact hY r hr'
theorem zku {cs : List SC} {μs : Hn → List Qd} {t by_ : Nat} {s y : Operand} (hm : zaB m i = some (zbh T xs e)) (ho : o.op = .call { callee := .builtin .append, args := #[s, y], argTypes := #[t, t] }) (hs : evS l s = some (.a (.s (.p (.hd i n0))))) (hn0 : n0 = xs.length) (hy : evS l y = some (slS j 0 1 1)) (hj : zaB m j = some (.blk cs e)) (hij : zaR j [i] = false) (hq : ∀ h, zay h cs = T.ch x (Dec.dec (μs h)))
  (hT : AppK P t e T.sz by_) (hn : xs.length + 1 ≤ 9223372036854775807) (hby : (xs.length + 1) * by_ ≤ 140737488355328) (wm : wfM (lt_ k) m = true) (wr : wfR (lt_ k) R = true) (hr : .q i (zbY T xs) ∈ R) (hμ : ∀ h h', AgS (lt_ k) h h' → μs h' = μs h)
  (hnest : ∀ (h : Hn) (w : World) (Y : List Nat), (∀ r ∈ R, St (r.den h) w Y) → St (T.nest x (Dec.dec (μs h))) w Y) : zcZ P N k l m R o (.a (.s (.p (.hd k (n0 + 1))))) ((k, zbh T (xs ++ [x]) e) :: (i, .gone) :: m) (.q k (zbY T (xs ++ [x])) :: R) := fun Q h X a w E H Kk hK => by
 subst hn0
 have hji : j ∉ [i] := fun hm' => by rw [zas.2 hm'] at hij; cases hij
 have hik : i < k := by
  have key : ∀ (m : MB) q, zaB m i = some q → wfM (lt_ k) m = true → i < k := by
   intro m
   induction m with
   | nil => intro q e; cases e
   | cons p m ih =>
    intro q e hw
    unfold zaB at e
    cases hb : Nat.beq p.1 i with
    | true => rw [← Nat.eq_of_beq_eq_true hb]; exact zci (zaa hw).1
    | false => rw [hb] at e; exact ih q e (zaa (zaa hw).2).2
  exact key m _ hm wm
 have hp1 := zaJ h m [] i _ hm (by simp)
 have hp2 := zaJ h m [i] j _ hj hji
 have H1 : Sp X w (.row (.slice (h.r i).1 xs.length (h.r i).2) e T.sz (itQ T xs (h.q i)).length (zbI T (itQ T xs (h.q i))) :: .blk (h.b j) (ca (zay h cs)) e :: zad h [j, i] m) (zaO h R) := by
  rw [zbD]
  exact (H.perm hp1).perm (List.Perm.cons _ hp2)
 refine zwg (T := T) (q := (x, Dec.dec (μs h))) 0 1 E H1.sep ho (zag hs) (zag hy) rfl rfl (hq h) hT (by rw [zbD]; exact hn) (by rw [zbD]; exact hby) fun A' c' w' hc HS hF => ?_
 let h1 : Hn := ⟨h.b, fun t => if t = k then (A', c') else h.r t, fun t => if t = k then (fun u => if u < xs.length then h.q i u else μs h) else h.q t⟩
 have hag : AgS (lt_ k) h h1 := fun t ht => by
  have := zci ht
  exact ⟨rfl, if_neg (by omega), if_neg (by omega)⟩
 have er : h1.r k = (A', c') := if_pos rfl
 have eq : h1.q k = fun u => if u < xs.length then h.q i u else μs h := if_pos rfl
 have eits : itQ T xs (h.q i) ++ [(x, Dec.dec (μs h))] = itQ T (xs ++ [x]) (h1.q k) := by
  rw [zwH (g := h.q i) (fun t ht => by rw [eq]; exact if_pos ht), eq]
  simp
 have e1 : zad h1 [] ((k, zbh T (xs ++ [x]) e) :: (i, .gone) :: m) = .row (.slice A' (itQ T (xs ++ [x]) (h1.q k)).length c') e T.sz (itQ T (xs ++ [x]) (h1.q k)).length (zbI T (itQ T (xs ++ [x]) (h1.q k))) :: zad h [i] m := by
  rw [zam]
  show RB.den h1 k (zbh T (xs ++ [x]) e) ++ zad h1 [k] ((i, .gone) :: m) = _
  rw [zeY (by omega) wm, zaP hag wm, zbD]
  simp only [zbh, RB.den, er]
  rfl
 have e2 : (a.put o.dst (.slice A' (itQ T xs (h.q i) ++ [(x, Dec.dec (μs h))]).length c')) = a.put o.dst (SV.den h1 (.a (.s (.p (.hd k (xs.length + 1)))))) := by
  show _ = a.put o.dst (.slice (h1.r k).1 (xs.length + 1) (h1.r k).2)
  rw [er, jQ, zbD]
  rfl
 rw [e2]
 have hkk : ∀ t, t ∈ zab (zad h [] m) ↔ t ∈ zab (.row (.slice (h.r i).1 xs.length (h.r i).2) e T.sz (itQ T xs (h.q i)).length (zbI T (itQ T xs (h.q i))) :: .blk (h.b j) (ca (zay h cs)) e :: zad h [j, i] m) := fun t => (zar (hp1.trans (List.Perm.cons _ hp2))).mem_iff
 have HS2 : Sep X (zab (zad h [] m)) w w' (zad h1 [] ((k, zbh T (xs ++ [x]) e) :: (i, .gone) :: m)) (zaO h R) := by
  rw [e1]
  have HS3 := HS.perm (List.Perm.cons _ hp2.symm)
  rw [eits] at HS3
  exact ⟨⟨HS3.frm.os, HS3.frm.tape, HS3.frm.output, HS3.frm.size, fun t ht hn => HS3.frm.block t ht fun hm' => hn ((hkk t).2 hm')⟩, HS3.xlt, HS3.holds, HS3.apart, fun t ht => (HS3.mine t ht).imp_left (hkk t).2, HS3.facts⟩
 have hqR : ∀ r ∈ R, St (r.den h) w' (X ++ zab (zad h1 [] ((k, zbh T (xs ++ [x]) e) :: (i, .gone) :: m))) := fun r hr => HS2.facts _ (zaw.2 ⟨r, hr, rfl⟩)
 refine hK h1 w' hag HS2.frm ?_ (fun t ht => HS2.mine t ht)
 have hX : ∀ t ∈ zab (zad h1 [] ((k, zbh T (xs ++ [x]) e) :: (i, .gone) :: m)), t ∉ X := fun t ht hX => by
  rcases HS2.mine t ht with h3 | h3
  ·exact H.xap t h3 hX
  ·have := H.xlt t hX; omega
 refine (Sp.of_sep HS2 hX).refacts fun r hr' => ?_
 obtain ⟨q, hq', rfl⟩ := zaw.1 hr'
 rcases List.mem_cons.1 hq' with rfl | hq'
 ·show St (zbY T (xs ++ [x]) (h1.q k)) w' _
  unfold zbY
  rw [← eits]
  exact zsL (hqR _ hr) (hnest h w' _ hqR)
 ·rw [SF.same hag (zck wr _ hq')]
  exact hqR _ hq'
theorem zkv {X : List Nat} {w : World} {h : Hn} {cs : List SC} {t : Nat} (hm : zaB m i = some (.blk cs t)) (H : Sp X w (zad h [] m) (zaO h R)) : Sp X w (zad h [] ((i, .gone) :: m)) (zaO h (.blk i cs :: R)) ∧ ∀ j ∈ zab (zad h [] ((i, .gone) :: m)), j ∈ zab (zad h [] m) := by
 have hp := zaJ h m [] i _ hm (by simp)
 have hf := (H.numAt hm).freeze
 refine ⟨hf.refacts fun r hr' => ?_, fun j hj => (zar hp).mem_iff.2 (List.mem_append_right _ hj)⟩
 rcases List.mem_cons.1 hr' with rfl | hr'
 ·exact (hf.facts _ (List.mem_cons_self ..)).imp fun w' hw => zeg (t := t) (fr := (0, 0)) hw
 ·exact hf.facts _ (List.mem_cons_of_mem _ hr')
def zzG : List Nat → MB → MB
 | [], m => m
 | i :: is, m => zzG is ((i, .gone) :: m)
def zyr : List Nat → MB → List SF → Option (List SF)
 | [], _, R => some R
 | i :: is, m, R => match zaB m i with
  | some (.blk cs _) => zyr is ((i, .gone) :: m) (.blk i cs :: R)
  | _ => none
theorem zhz {X : List Nat} {w : World} {h : Hn} {R' : List SF} : ∀ {is : List Nat} {m : MB} {R : List SF}, zyr is m R = some R' → Sp X w (zad h [] m) (zaO h R) → Sp X w (zad h [] (zzG is m)) (zaO h R') ∧ ∀ j ∈ zab (zad h [] (zzG is m)), j ∈ zab (zad h [] m)
 | [], m, R, e, H => by obtain rfl := Option.some.inj e; exact ⟨H, fun _ h => h⟩
 | i :: is, m, R, e, H => by
  unfold zyr at e
  split at e
  ·rename_i cs t hm
   obtain ⟨h1, h2⟩ := zkv hm H
   obtain ⟨h3, h4⟩ := zhz e h1
   exact ⟨h3, fun j hj => h2 j (h4 j hj)⟩
  ·cases e
theorem zbe {sv : SV} {m' : MB} {R2 R' : List SF} (is : List Nat) (hz : zyr is m R = some R2) (wl : wfE (lt_ k) l = true) (hs : zcZ P N k l (zzG is m) R2 o sv m' R') : zcZ P N k l m R o sv m' R' :=
 zeX (Nat.ble_eq_true_of_le (jV k)) (fun h X w H => ⟨h, fun _ _ => ⟨rfl, rfl, rfl⟩, zhz hz H⟩) wl hs
theorem zkw {X : List Nat} {w : World} {h : Hn} (hm : zaB m i = some (zbh T xs e)) (hr : .q i (zbY T xs) ∈ R) (H : Sp X w (zad h [] m) (zaO h R)) : Sp X w (zad h [] ((i, .gone) :: m)) (zaO h (.sl i xs.length (SlF T xs) :: R)) ∧ ∀ j ∈ zab (zad h [] ((i, .gone) :: m)), j ∈ zab (zad h [] m) := by
 have hp := zaJ h m [] i _ hm (by simp)
 have H1 : Sp X w (.row (.slice (h.r i).1 xs.length (h.r i).2) e T.sz xs.length (zbI T (itQ T xs (h.q i))) :: zad h [i] m) (zaO h R) := H.numAt hm
 have hf := H1.freeze
 have h1 := zza (T := T) (its := itQ T xs (h.q i)) (e := e) (n := xs.length) (A := (h.r i).1) (c := (h.r i).2) (hf.facts _ (List.mem_cons_self ..)) zbD.symm (hf.facts _ (List.mem_cons_of_mem _ (zaw.2 ⟨_, hr, rfl⟩)))
 rw [ztA] at h1
 refine ⟨hf.refacts fun r hr' => ?_, fun j hj => (zar hp).mem_iff.2 (List.mem_append_right _ hj)⟩
 rcases List.mem_cons.1 hr' with rfl | hr'
 ·exact h1.imp fun w' hw => ⟨fun e => (hw.nil e).1, _, hw⟩
 ·exact hf.facts _ (List.mem_cons_of_mem _ hr')
theorem zwJ {n : Nat} {d : α} {c : List Chunk} {g : Nat → List Qd} (hc : ∀ i, T.ch d (Dec.dec (g i)) = c) : zbI T (itQ T (List.replicate n d) g) = (madeCells (ca c) (n * T.sz)).toList := by
 have hlen : zdo c = T.sz := by rw [← hc 0]; exact T.len _ _
 refine List.ext_getElem? fun j => ?_
 by_cases hj : j < n * T.sz
 ·have hlt : j / T.sz < n := (Nat.div_lt_iff_lt_mul T.pos).2 hj
  have hmod := Nat.mod_lt j T.pos
  have hcl : j % T.sz < (cl c).length := by rw [za4, hlen]; exact hmod
  have h1 := zhY (T := T) (itQ T (List.replicate n d) g) (j / T.sz) (j % T.sz) (d, Dec.dec (g (j / T.sz))) _ (zjA (by simp [hlt])) (by rw [hc]; exact jP hcl)
  rw [show j / T.sz * T.sz + j % T.sz = j by rw [Nat.mul_comm]; exact Nat.div_add_mod j T.sz] at h1
  rw [h1]
  have hs : (ca c).size = T.sz := by rw [zcL, hlen]
  have hl2 : (cl c).length = T.sz := by rw [za4, hlen]
  simp [madeCells, hj, ca, hl2]
  rw [jP hcl]
  rfl
 ·rw [List.getElem?_eq_none (by rw [zdt, zbD, List.length_replicate]; omega), List.getElem?_eq_none (by rw [Array.length_toList, size_madeCells]; omega)]
theorem zys {d : α} {c : List Chunk} {t by_ : Nat} {x y : Operand} {kx ky : IntKind} {z1 z2 : Int} (hT : AppK P t e T.sz by_) (hz : zdM P e = some (ca c)) (hc : T.ch d (Dec.dec []) = c) (ho : o.op = .makeSlice t x y) (hx : evS l x = some (zaG kx z1)) (hy : evS l y = some (zaG ky z2)) (h1 : z1 = (n : Int)) (h2 : z2 = (n : Int)) (hb : by_ * n ≤ 281474976710656) (hn : n ≤ maxLen) : zfg P N k l m R o (.a (.s (.p (.hd k n)))) [zbh T (List.replicate n d) e] [] := fun Q h X a w E H Kk hK => by
 subst h1 h2
 have hinfo := hT.info
 cases hi : P.info? e with
 | none => rw [hi] at hinfo; cases hinfo
 | some i =>
  rw [hi] at hinfo
  simp only [Option.map_some, Option.some.injEq, Prod.mk.injEq] at hinfo
  obtain ⟨hz0, hs, hbt⟩ := hinfo
  obtain ⟨i', zv, hi', hzz, hzc⟩ := zds hz
  obtain rfl : i = i' := by rw [hi] at hi'; exact Option.some.inj hi'
  obtain ⟨w', hrun, hown, hgr⟩ := run_make_full (P := P) w 0 t e i zv T.sz hT.sl hi hzz hs kx ky n (by rw [hbt]; exact hb) hn (Nat.zero_le _)
  let h1 : Hn := ⟨h.b, fun t => if t = k then (some ⟨w.heap.size, 0, none⟩, n) else h.r t, fun t => if t = k then (fun _ => []) else h.q t⟩
  have er : h1.r k = (some ⟨w.heap.size, 0, none⟩, n) := if_pos rfl
  have eq : h1.q k = fun _ => [] := if_pos rfl
  have e1 : zdu h1 k [zbh T (List.replicate n d) e] = [.row (.slice (some ⟨w.heap.size, 0, none⟩) n n) e T.sz n (madeCells zv.cells (n * T.sz)).toList] := by
   rw [hzc, ← zwJ (T := T) (d := d) (g := h1.q k) (fun _ => by rw [eq]; exact hc)]
   simp only [zdu, zbh, RB.den, er, List.length_replicate, List.append_nil]
  have hsv : SV.den h1 (.a (.s (.p (.hd k n)))) = .slice (some ⟨w.heap.size, 0, none⟩) n n := by
   show Value.slice (h1.r k).1 n (h1.r k).2 = _
   rw [er]
  unfold Oper.wp execOp
  simp only [ho, E.ev (zag hx), E.ev (zag hy), Sem.run_bind]
  have hx0 : (SV.den h (zaG kx n)) = .int kx n := rfl
  have hy0 : (SV.den h (zaG ky n)) = .int ky n := rfl
  rw [hx0, hy0, hrun]
  simp only [Result.andThen_ok, Sem.run_pure]
  have hf : Frm [] w w' := Frm.of_grown hgr
  have := hK h1 w' (fun t ht => ⟨rfl, if_neg (by simp at ht; omega), if_neg (by simp at ht; omega)⟩) hf (by
   rw [e1]
   exact (Sep.none_ H.xk).own hf hown (by simp [Res.keys, Value.ownBlock]) (by simp [Res.keys, Value.ownBlock]))
  rw [hsv] at this
  exact this
theorem zCq {cs : List SC} {xop : Operand} {s : Nat} (hm : zjf R m i = some cs) (ho : o.op = .load ty xop) (hx : evS l xop = some (apS i off j s)) (ht : tyK P ty = some (1, false)) (hc : ∀ h, (cl (zay h cs))[off + j * s]? = some (sv.den h)) : zfU P N l m R o sv := fun h X a w E H =>
 zaU E ho (zag (h := h) hx) ht (zzs H hm (hc h))
theorem zej {w : World} {b t c : Nat} {A A' : List Chunk} {v : Value} (hg : w.heap[b]? = some (.cells (ca A) t (0, 0))) (h1 : v.oneCell' = true) (hoff : c < zdo A) (hA : cl A' = (cl A).set c v) (hs : zcY P ty = some 1) : (storeVar ty ⟨b, c, none⟩ v).run P w = .ok () (w.setRow b (ca A')) := by
 have hv : v.cells = #[v] := zmv h1
 have h4 := run_storeCells_at P b c t [v] 0 (ca A) w hg (by rw [zcL]; simp; omega) (fun u hu => by rw [List.mem_singleton.1 hu]; exact h1)
 unfold zcY at hs
 rw [Option.map_eq_some_iff] at hs
 obtain ⟨i, hi, hsz⟩ := hs
 have e : ((ca A).toList.take (c + 0) ++ [v] ++ (ca A).toList.drop (c + 0 + [v].length)).toArray = ca A' := by
  unfold ca
  rw [hA, List.set_eq_take_append_cons_drop, if_pos (by rw [za4]; exact hoff)]
  simp
 rw [e] at h4
 unfold storeVar
 simp only [sizeOf, typeInfo, Sem.run_bind, hv]
 simp [hi, hsz]
 exact h4
theorem ztD {cs cs' : List SC} {t s : Nat} {xop y : Operand} {x : SS} (hm : zaB m i = some (.blk cs t)) (ho : o.op = .store ty xop y) (hx : evS l xop = some (apS i off j s)) (hy : evS l y = some (.a (.s x))) (hok : okS x = true) (hs : zcY P ty = some 1) (hlt : off + j * s < zeN cs) (hc : ∀ h, cl (zay h cs') = (cl (zay h cs)).set (off + j * s) (x.den h)) : zcZ P N k l m R o (zek undef) ((i, .blk cs' t) :: m) R := fun Q h X a w E H Kk hK => by
 have hb := zch H hm
 have H1 : Sp X w (.blk (h.b i) (ca (zay h cs)) t :: zad h [i] m) (zaO h R) := H.numAt hm
 have hr := zbJ ho (E.ev (zag hx)) (E.ev (zag hy)) (zej (P := P) (ty := ty) (A' := zay h cs') hb (zom hok) (by rw [zbb]; exact hlt) (hc h) hs)
 unfold Oper.wp
 rw [hr]
 have hf := zcb (h.b i) (ca (zay h cs')) w
 have ht := H1.turnAt (q' := .blk (h.b i) (ca (zay h cs')) t) 0 rfl hf (zaC hb) (by simp [Res.keys]) (by simp [Res.keys]) rfl
 have hkm : ∀ j, j ∈ zab (.blk (h.b i) (ca (zay h cs)) t :: zad h [i] m) ↔ j ∈ zab (zad h [] m) := fun j => (zar (zaJ h m [] i _ hm (by simp))).mem_iff.symm
 refine hK h _ (fun _ _ => ⟨rfl, rfl, rfl⟩) ⟨hf.os, hf.tape, hf.output, hf.size, fun k hk hn => hf.block k hk fun hm' => hn ?_⟩ ht.1 fun j hj => ?_
 ·exact (hkm k).1 (List.mem_append_left _ hm')
 ·rcases ht.2 j hj with h2 | h2
  ·exact .inl ((hkm j).1 h2)
  ·exact .inr h2
theorem zjB {n j : Nat} {f : Nat → Value} {post : List Chunk} {v : Value} (hj : j < n) : cl (.row n (upd f j v) :: post) = (cl (.row n f :: post)).set j v := by
 refine List.ext_getElem? fun t => ?_
 rw [List.getElem?_set]
 simp only [cl, Chunk.cells]
 by_cases ht : t < n
 ·rw [List.getElem?_append_left (by simpa using ht), List.getElem?_append_left (by simpa using ht)]
  by_cases e : j = t
  ·subst e; simp [ht, upd]; omega
  ·simp [ht, upd, e, Ne.symm e]
 ·rw [List.getElem?_append_right (by simp; omega), List.getElem?_append_right (by simp; omega)]
  simp
  omega
theorem zBN {n t : Nat} {f : Nat → Value} (f' : Nat → Value) {post : List SC} {xop y : Operand} {v : Value} (hm : zaB m i = some (.blk (.row n f :: post) t)) (ho : o.op = .store ty xop y) (hx : evS l xop = some (apS i 0 j 1)) (hy : evS l y = some (zi4 v)) (hok : v.oneCell' = true) (hs : zcY P ty = some 1) (hj : j < n) (hf : ∀ u, upd f j v u = f' u) : zcZ P N k l m R o (zek undef) ((i, .blk (.row n f' :: post) t) :: m) R := by
 obtain rfl : upd f j v = f' := funext hf
 exact ztD (x := .p (.v v)) hm ho hx hy hok hs (by simp only [zeN, SC.len]; omega) fun h => by
  rw [Nat.zero_add, Nat.mul_one]
  exact zjB hj
end
end
section
open Go.RowKit
def Hn.ext (h : Hn) (g : Nat) (bl : List Nat) (ql : List Qd) : Hn := ⟨fun i => if g ≤ i then zjj bl (i - g) else h.b i, fun i => if g ≤ i then qs ql (i - g) else h.r i, h.q⟩
def ztE (h0 : Hn) (i : Nat) : Nat → Qd → (Nat → List Qd) → World → Prop := fun b r q _ => b = h0.b i ∧ r = h0.r i ∧ q = h0.q i
def kbF (h0 : Hn) : List Nat → List SF
 | [] => []
 | i :: kb => .nm i (ztE h0 i) :: kbF h0 kb
def kbR (f : List (Nat × Nat)) (h0 : Hn) (R : List SF) : List Nat → List Nat → Prop
 | [], _ => True
 | i :: kb, j :: js => R[j]? = some (.nm (zcJ f i) (ztE h0 i)) ∧ kbR f h0 R kb js
 | _ :: _, [] => False
theorem Hn.ext_ag (h : Hn) (g : Nat) (bl : List Nat) (ql : List Qd) : AgS (lt_ g) h (h.ext g bl ql) := fun i hi => ⟨if_neg (by have := zci hi; omega), if_neg (by have := zci hi; omega), rfl⟩
section
variable {P : Program} {T : Tab} {N : Nat} {X : List Nat} {w0 : World}
theorem zyt {S : Nat → Bool} {h0 : Hn} : ∀ {kb : List Nat}, (∀ i ∈ kb, S i = true) → wfR S (kbF h0 kb) = true
 | [], _ => rfl
 | i :: kb, h => zau (h i (List.mem_cons_self ..)) (zyt fun j hj => h j (List.mem_cons_of_mem _ hj))
theorem ztF {h0 : Hn} : ∀ {kb : List Nat} {r : SF}, r ∈ kbF h0 kb → ∃ i ∈ kb, r = .nm i (ztE h0 i)
 | [], r, h => by cases h
 | i :: kb, r, h => by
  rcases List.mem_cons.1 h with rfl | h
  ·exact ⟨i, List.mem_cons_self .., rfl⟩
  ·obtain ⟨j, h1, h2⟩ := ztF h
   exact ⟨j, List.mem_cons_of_mem _ h1, h2⟩
theorem zyu {f : List (Nat × Nat)} {h0 : Hn} {R : List SF} : ∀ {kb js : List Nat}, kbR f h0 R kb js → ∀ i ∈ kb, .nm (zcJ f i) (ztE h0 i) ∈ R
 | [], _, _, i, hi => by cases hi
 | _ :: _, [], h, _, _ => h.elim
 | i' :: kb, j :: js, h, i, hi => by
  rcases List.mem_cons.1 hi with rfl | hi
  ·exact List.mem_of_getElem? h.1
  ·exact zyu h.2 i hi
theorem zyv {g k0 : Nat} {f : FuncId} {fn : Func} {c : Code} {rs : List ResultVar} {svs : List SV} {h0 : Hn} {bl : List Nat} {ql : List Qd} {given : MB} {Rg : List SF} {kb : List Nat} {sv0 : SV} {m1 : MB} {R1 : List SF} (hn : fn.ntmps = N) (hf : P.funcs[f]? = some fn) (hb : fn.body = some c) (hrs : fn.results = rs.toArray) (hlen : Nat.ble rs.length 4 = true) (hT : zbu P T) (hmx : P.follows .mixedOrders = true)
  (hs : Nat.ble svs.length N = true) (hw : (bif Nat.ble g k0 then (bif wfE (lt_ k0) (zik 0 svs) then (bif wfM (lt_ g) given then (bif ztz g kb then wfR (lt_ k0) Rg else false) else false) else false) else false) = true)
  (hsp : Sp X w0 (zad h0 [] given) (zaO (h0.ext g bl ql) Rg))
  (hv : vC P T N c k0 (zik 0 svs) given (kbF h0 kb ++ Rg) (zwC T rs (RetOk X (zab (zad h0 [] given)) w0 fun e w' => ∃ h : Hn, AgS (fun i => zaR i kb) h0 h ∧ e = .returned (sv0.den h) ∧ Sep X (zab (zad h0 [] given)) w0 w' (zad h [] m1) (zaO h R1))) (fun _ _ _ _ _ => False) (zwC T rs (RetOk X (zab (zad h0 [] given)) w0 fun e w' => ∃ h : Hn, AgS (fun i => zaR i kb) h0 h ∧ e = .returned (sv0.den h) ∧ Sep X (zab (zad h0 [] given)) w0 w' (zad h [] m1) (zaO h R1)))) :
  CtG P f (zmd (h0.ext g bl ql) svs) X w0 h0 given kb sv0 m1 R1 := by
 have h1 := zaa hw
 have h2 := zaa h1.2
 have h3 := zaa h2.2
 have h4 := zaa h3.2
 have hle : g ≤ k0 := Nat.le_of_ble_eq_true h1.1
 have hag := Hn.ext_ag h0 g bl ql
 have hkb := zhy h4.1
 have hmo := zdc hle
 refine zER (k0 := k0) (h := h0.ext g bl ql) (m0 := given) hn hf hb hrs hlen hs (zau h2.1 (zau (zd1 hmo h3.1) ?_)) hT hmx ?_ ?_ hv
 ·have key : ∀ (A B : List SF), wfR (lt_ k0) A = true → wfR (lt_ k0) B = true → wfR (lt_ k0) (A ++ B) = true := by
   intro A B hA hB
   induction A with
   | nil => exact hB
   | cons r A ih =>
    have := zaa hA
    exact zau this.1 (ih this.2)
  exact key _ _ (zyt fun i hi => Nat.ble_eq_true_of_le (by have := hkb i hi; omega)) h4.2
 ·rw [zaP hag h3.1]
  have := hsp.sep
  refine this.refacts fun r hr => ?_
  obtain ⟨q, hq, rfl⟩ := zaw.1 hr
  rcases List.mem_append.1 hq with hq | hq
  ·obtain ⟨i, hi, rfl⟩ := ztF hq
   have hi2 := hag i (Nat.ble_eq_true_of_le (hkb i hi))
   exact fun w' _ => ⟨hi2.1, hi2.2.1, hi2.2.2⟩
  ·exact this.facts _ (zaw.2 ⟨q, hq, rfl⟩)
 ·rw [zaP hag h3.1]
  exact hsp.xap
theorem zdD {G : List Nat} {k : Nat} {h0 : Hn} {kb : List Nat} {sv sv0 : SV} {m m1 : MB} {R R1 : List SF} (f : List (Nat × Nat)) (js bs : List Nat) (hv : sv = sv0.ren (zcJ f) ∨ nlV k sv (sv0.ren (zcJ f))) (hm : zd2 k f m [] m1) (ha : zdg (zdf f [] m1) = true) (hR : zor k f R js R1) (hb : kbR f h0 R kb bs) :
  RetOk X G w0 (fun e w' => ∃ h : Hn, AgS (fun i => zaR i kb) h0 h ∧ e = .returned (sv0.den h) ∧ Sep X G w0 w' (zad h [] m1) (zaO h R1)) k sv m R := ⟨fun h w ws wm wr H _ => by
 have hg := Hn.nil_ag h k
 refine ⟨(h.nilFrom k).ren (zcJ f), fun i hi => ?_, ?_, H.subM wm wr hm ha hR⟩
 ·have hmem := zyu hb i (zas.1 hi)
  have hf : ztE h0 i (h.b (zcJ f i)) (h.r (zcJ f i)) (h.q (zcJ f i)) w := (H.facts _ (zaw.2 ⟨_, hmem, rfl⟩)).now
  have hlt : lt_ k (zcJ f i) = true := zck wr _ hmem
  have h2 := hg _ hlt
  exact ⟨h2.1.trans hf.1, h2.2.1.trans hf.2.1, h2.2.2.trans hf.2.2⟩
 ·rw [← SV.same hg ws]
  rcases hv with hv | hv
  ·rw [hv, SV.den_ren]
  ·rw [← zos (Hn.nil_r h k) hv, SV.den_ren]⟩
end
section
variable {P : Program} {N k k0 i : Nat} {l : LE} {m m' : MB} {R R' : List SF} {o : Oper} {sv : SV} {K : KS}
theorem za8 (hs : zcZ P N k l m R o sv m' R') (h : bif okN k k sv m' R' then zji N o.dst sv l (fun l' => K k l' m' R') else False) : zdZ P N o k l m R K := ⟨sv, k, m', R', hs.q, h⟩
def zwK (R : List SF) : List Nat → Option (List SF)
 | [] => some []
 | i :: is => match R[i]? with
  | some r => match zwK R is with
   | some R' => some (r :: R')
   | none => none
  | none => none
theorem zmR {R : List SF} : ∀ {is : List Nat} {R' : List SF}, zwK R is = some R' → ∀ r ∈ R', r ∈ R
 | [], R', e, r, hr => by rw [← Option.some.inj e] at hr; cases hr
 | i :: is, R', e, r, hr => by
  unfold zwK at e
  split at e
  ·rename_i r0 h0
   split at e
   ·rename_i R2 h2
    rw [← Option.some.inj e] at hr
    rcases List.mem_cons.1 hr with rfl | hr
    ·exact List.mem_of_getElem? h0
    ·exact zmR h2 r hr
   ·cases e
  ·cases e
theorem Sp.pick {X : List Nat} {w : World} {L1 L2 : List Res} {h : Hn} {R R2 : List SF} (H : Sp X w (L1 ++ L2) (zaO h R)) (is : List Nat) (e : zwK R is = some R2) : Sp (X ++ zab L2) w L1 (zaO h R2) := by
 have hg : Sp (X ++ zab L2) w L1 (zaO h R) := Sp.of_sep H.giveL fun t ht hm => by
  rcases List.mem_append.1 hm with h4 | h4
  ·exact H.xap t (by rw [zai]; exact List.mem_append_left _ ht) h4
  ·have := H.apart
   rw [zai] at this
   exact (List.nodup_append.1 this).2.2 t ht t h4 rfl
 exact hg.refacts fun r hr => by
  obtain ⟨q, hq, rfl⟩ := zaw.1 hr
  exact hg.facts _ (zaw.2 ⟨q, zmR e q hq, rfl⟩)
theorem zd4 {H H' : MB} {Rs R' : List SF} (c : Nat) (hs : zcZ P N k l H R o sv H' R') (hr : ∀ r ∈ Rs, r ∈ R') (hw : (bif sv.wf (lt_ (k + c)) then (bif wfM (lt_ (k + c)) H' then wfR (lt_ (k + c)) Rs else false) else false) = true) : zkj P N k l m R H o sv c H' Rs := fun Q h X a w E HS Kk hK => by
 have h1 := zaa hw
 have h2 := zaa h1.2
 have hg : Sp (X ++ zab (zad h [] m)) w (zad h [] H) (zaO h R) := by
  have h3 : Sp X w (zad h [] H ++ zad h [] m) (zaO h R) := HS
  refine Sp.of_sep h3.giveL fun t ht hm => ?_
  rcases List.mem_append.1 hm with h4 | h4
  ·exact h3.xap t (by rw [zai]; exact List.mem_append_left _ ht) h4
  ·have := h3.apart
   rw [zai] at this
   exact (List.nodup_append.1 this).2.2 t ht t h4 rfl
 refine hs Q h _ a w E hg Kk fun hn w' ha F S hm => ?_
 let h' : Hn := ⟨fun i => if i < k + c then hn.b i else h.b i, fun i => if i < k + c then hn.r i else h.r i, fun i => if i < k + c then hn.q i else h.q i⟩
 have hag : AgS (lt_ (k + c)) hn h' := fun i hi => ⟨if_pos (zci hi), if_pos (zci hi), if_pos (zci hi)⟩
 have := hK h' w' (fun i hi => ?_) ?_
 ·rw [SV.same hag h1.1] at this
  exact this
 ·rcases hi with hi | hi
  ·have h5 := ha i (Nat.ble_eq_true_of_le hi)
   exact ⟨(if_pos (by omega)).trans h5.1, (if_pos (by omega)).trans h5.2.1, (if_pos (by omega)).trans h5.2.2⟩
  ·exact ⟨if_neg (by omega), if_neg (by omega), if_neg (by omega)⟩
 ·rw [zaP hag h2.1, za5 hag h2.2]
  exact ⟨F, hg.xlt, S.holds, S.apart, hm, fun r hr' => by
   obtain ⟨q, hq, rfl⟩ := zaw.1 hr'
   exact S.facts _ (zaw.2 ⟨q, hr q hq, rfl⟩)⟩
theorem zaZ (hs : zcZ P N k l m R o sv m' R') (h : zbO (k + 1) fun k' => bif okN k k' sv m' R' then zji N o.dst sv l (fun l' => K k' l' m' R') else False) : zdZ P N o k l m R K := ⟨sv, k + 1, m', R', hs.q, za9 h⟩
theorem ztG (c : Nat) (hs : zcZ P N k l m R o sv m' R') (h : zbO (k + c) fun k' => bif okN k k' sv m' R' then zji N o.dst sv l (fun l' => K k' l' m' R') else False) : zdZ P N o k l m R K := ⟨sv, k + c, m', R', hs.q, za9 h⟩
end
theorem zaM {α : Type} {T : Ty α} {k b : Nat} (hb : Nat.ble k b = true) : zDK k (.sl b 0 (SlF T [])) := fun h w Y hn => by
 show St (fun w => ((h.r b).1 = none → 0 = 0) ∧ SlF T [] (h.r b) w) w Y
 rw [hn b (Nat.le_of_ble_eq_true hb)]
 exact zcz
section
variable {P : Program} {N k i : Nat} {X : List Nat} {w0 : World} {l : LE} {m m' : MB} {R R' : List SF} {o : Oper} {sv : SV} {α : Type} {T : Ty α} [Dec T] {xs : List α} {e : Nat}
theorem zdy : ∀ {m : MB} {q : RB}, zaB m i = some q → wfM (lt_ k) m = true → i < k
 | [], _, e, _ => by cases e
 | p :: m, q, e, hw => by
  unfold zaB at e
  cases hb : Nat.beq p.1 i with
  | true => rw [← Nat.eq_of_beq_eq_true hb]; exact zci (zaa hw).1
  | false => rw [hb] at e; exact zdy e (zaa (zaa hw).2).2
theorem zwL {t : Nat} (hm : zaB m i = some (.blk [.one (.p (.v (.slice none 0 0)))] t)) (wl : wfE (lt_ k) l = true) (wm : wfM (lt_ k) m = true) (wr : wfR (lt_ k) R = true) (hs : zcZ P N (k + 1) l ((i, .blk [.one (.p (.hd k 0))] t) :: (k, zbh T [] e) :: m) (.q k (zbY T []) :: R) o sv m' R') : zcZ P N k l m R o sv m' R' :=
 zeX (Nat.ble_eq_true_of_le (Nat.le_succ k)) (fun h X w H => by
  have hik : i < k := zdy hm wm
  let h2 : Hn := ⟨h.b, fun t => if t = k then (none, 0) else h.r t, h.q⟩
  have er : h2.r k = (none, 0) := if_pos rfl
  have hag : AgS (lt_ k) h h2 := fun j hj => ⟨rfl, if_neg (by have := zci hj; omega), rfl⟩
  have e1 : zad h2 [] ((i, .blk [.one (.p (.hd k 0))] t) :: (k, zbh T [] e) :: m) = .blk (h.b i) (ca [.one (.slice none 0 0)]) t :: .row (.slice none 0 0) e T.sz 0 [] :: zad h [i] m := by
   have hki : zaR k [i] = false := by
    cases hq : zaR k [i] with
    | false => rfl
    | true => have := List.mem_singleton.1 (zas.1 hq); omega
   rw [zam, show zaR i [] = false from rfl, cond_false, zam, hki]
   show _ :: RB.den h2 k (zbh T [] e) ++ zad h2 [k, i] m = _
   rw [zc3 h2 m [i] k fun p hp => Nat.ne_of_lt (zci (zgV wm p hp)), zaP hag wm]
   simp only [zbh, RB.den, er]
   show Res.blk (h.b i) (ca [.one (.slice (h2.r k).1 0 (h2.r k).2)]) t :: _ = _
   rw [er]
   rfl
  have H1 : Sp X w (.blk (h.b i) (ca [.one (.slice none 0 0)]) t :: zad h [i] m) (zaO h R) := H.numAt hm
  have H2 := (H1.nils (L1 := [.row (.slice none 0 0) e T.sz 0 []]) fun q hq => ⟨_, _, List.mem_singleton.1 hq⟩).perm (List.Perm.swap _ _ _)
  refine ⟨h2, hag, ?_, fun j hj => ?_⟩
  ·rw [e1]
   refine H2.refacts fun r hr => ?_
   obtain ⟨q, hq, rfl⟩ := zaw.1 hr
   rcases List.mem_cons.1 hq with rfl | hq
   ·exact zbE
   ·rw [SF.same hag (zck wr _ hq)]
    exact H2.facts _ (zaw.2 ⟨q, hq, rfl⟩)
  ·rw [e1] at hj
   exact (zar (zaJ h m [] i _ hm (by simp))).mem_iff.2 hj) wl hs
theorem zgy {G : List Nat} {Rr : Ending → World → Prop} (i : Nat) (hm : zaB m i = some (zbh T xs e)) (hr : .q i (zbY T xs) ∈ R) (hi : lt_ k i = true) (hk : RetOk X G w0 Rr k sv ((i, .gone) :: m) (.sl i xs.length (SlF T xs) :: R)) : RetOk X G w0 Rr k sv m R := ⟨fun h w ws wm wr H hX => by
 obtain ⟨h1, h2⟩ := zkw hm hr (Sp.of_sep H hX)
 exact hk.ok h w ws (zau hi (zau rfl wm)) (zau hi wr) ⟨H.frm, H.xlt, h1.holds, h1.apart, fun j hj => H.mine j (h2 j hj), h1.facts⟩ fun j hj => hX j (h2 j hj)⟩
theorem zdi (r : SF) (hr : ∀ (h : Hn) (w : World) (Y : List Nat), St (r.den h) w Y) (wl : wfE (lt_ k) l = true) (hs : zcZ P N k l m (r :: R) o sv m' R') : zcZ P N k l m R o sv m' R' :=
 zeX (Nat.ble_eq_true_of_le (jV k)) (fun h X w H => ⟨h, fun _ _ => ⟨rfl, rfl, rfl⟩, H.know (hr h w _), fun _ h => h⟩) wl hs
theorem zwM {G : List Nat} {Rr : Ending → World → Prop} (r : SF) (hr : ∀ (h : Hn) (w : World) (Y : List Nat), St (r.den h) w Y) (hw : r.wf (lt_ k) = true) (hk : RetOk X G w0 Rr k sv m (r :: R)) : RetOk X G w0 Rr k sv m R :=
 ⟨fun h w ws wm wr H hX => hk.ok h w ws wm (zau hw wr) (H.refacts fun q hq => by
  rcases List.mem_cons.1 hq with rfl | hq
  ·exact hr h w _
  ·exact H.facts q hq) hX⟩
theorem zkx (hT : ∀ x μ w, T.nest x μ w) {i : Nat} (h : Hn) (w : World) (Y : List Nat) : St ((SF.q i (zbY T xs)).den h) w Y := fun w' _ p _ => hT _ _ _
theorem zqb {x : α} {cs : List SC} {t by_ j n0 : Nat} {s y : Operand} (hT0 : ∀ x μ w, T.nest x μ w) (hm : zaB m i = some (zbh T xs e)) (ho : o.op = .call { callee := .builtin .append, args := #[s, y], argTypes := #[t, t] }) (hs : evS l s = some (.a (.s (.p (.hd i n0))))) (hn0 : n0 = xs.length) (hy : evS l y = some (slS j 0 1 1)) (hj : zaB m j = some (.blk cs e)) (hij : zaR j [i] = false) (hq : ∀ h, zay h cs = T.ch x (Dec.dec []))
  (hT : AppK P t e T.sz by_) (hn : xs.length + 1 ≤ 9223372036854775807) (hby : (xs.length + 1) * by_ ≤ 140737488355328) (wl : wfE (lt_ k) l = true) (wm : wfM (lt_ k) m = true) (wr : wfR (lt_ k) R = true) : zcZ P N k l m R o (.a (.s (.p (.hd k (n0 + 1))))) ((k, zbh T (xs ++ [x]) e) :: (i, .gone) :: m) R :=
 zmQ (zdi (.q i (zbY T xs)) (zkx hT0) wl (zku (μs := fun _ => []) hm ho hs hn0 hy hj hij hq hT hn hby wm (zau (Nat.ble_eq_true_of_le (zdy hm wm)) wr) (.head _) (fun _ _ _ => rfl) fun h w Y _ => fun w' _ => hT0 _ _ _)) fun h w Y hY r hr => hY r (.tail _ (.tail _ hr))
theorem zwN {G : List Nat} {Rr : Ending → World → Prop} (i : Nat) (hT0 : ∀ x μ w, T.nest x μ w) (hm : zaB m i = some (zbh T xs e)) (hi : lt_ k i = true) (hk : RetOk X G w0 Rr k sv ((i, .gone) :: m) (.sl i xs.length (SlF T xs) :: .q i (zbY T xs) :: R)) : RetOk X G w0 Rr k sv m R :=
 zwM (.q i (zbY T xs)) (zkx hT0) hi (zgy i hm (.head _) hi hk)
end
end
section
open Go.RowKit
theorem zir {α : Type} {l : List α} {i : Nat} (d : α) (hi : i < l.length) : l[i]? = some (l.getD i d) := by rw [jR, jP hi]; rfl
section
variable {P : Program} {N k i : Nat} {l : LE} {m : MB} {R : List SF} {o : Oper} {sv : SV}
theorem zgY {h : Hn} {X : List Nat} {w : World} {r n0 : Nat} {t : List Nat} (H : Sp X w (zad h [] m) (zaO h R)) (hr : R[r]? = some (.sl i n0 (TxG t))) : St (TxF (h.r i).1 (h.r i).2 t) w (X ++ zab (zad h [] m)) := fun w' hk => by
 have hf : ((h.r i).1 = none → n0 = 0) ∧ TxG t (h.r i) w' := (H.facts _ (zaS.2 ⟨_, List.mem_of_getElem? hr, rfl⟩)) w' hk
 exact hf.2
theorem zqc {t : List Nat} {b j n0 ty : Nat} {xop : Operand} (r : Nat) (hj : t[j]? = some b) (hr : R[r]? = some (.sl i n0 (TxG t))) (ho : o.op = .load ty xop) (hx : evS l xop = some (hpS i j 1 0)) (ht : tyK P ty = some (1, false)) : zfU P N l m R o (.a (.s (.p (.v (bv b))))) := fun h X a w E H => by
 have hf := (zgY H hr).now
 cases hA : (h.r i).1 with
 | none =>
  have := (hf.nil hA).1
  have := (List.getElem?_eq_some_iff.1 hj).1
  omega
 | some ad =>
  have hx' : ev (zct h l) xop = some (.pointer (some (ad.add (j * 1)))) := by
   rw [zag (h := h) hx]
   show some (Value.pointer (some ((((h.r i).1.getD ⟨0, 0, none⟩).add (j * 1)).add 0))) = _
   rw [hA, zax]
   rfl
  exact zzb (S := zfp) (zgY H hr) (fun _ _ _ => trivial) hA ho hx' hj ht w (CanB.Keep.refl _ _) a N E
theorem zzH {A : Option Addr} {c lo hi : Nat} {t : List Nat} {w : World} {Y : List Nat} (h : St (TxF A c t) w Y) (hlo : lo ≤ hi) (hhi : hi ≤ t.length) : ∃ q : Qd, zjc A 1 lo hi c = .slice q.1 (hi - lo) q.2 ∧ St (TxQ ((t.drop lo).take (hi - lo)) q) w Y := by
 have hl : ((t.drop lo).take (hi - lo)).length = hi - lo := by rw [List.length_take, List.length_drop]; omega
 refine ⟨(if c = lo then A else A.map (·.add (lo * 1)), c - lo), rfl, zp2 fun w' hk => ?_⟩
 have h' := h w' hk
 have hcap := h'.cap
 refine ⟨by rw [hl]; show hi - lo ≤ c - lo; omega, by rw [hl]; have := h'.len; omega, fun x hx => h'.byt x (List.mem_of_mem_drop (List.mem_of_mem_take hx)), fun hA => ?_, fun ad hA i x hx => ?_⟩
 ·have hA0 : A = none := by
   simp only at hA
   split at hA
   ·exact hA
   ·cases A with
    | none => rfl
    | some _ => cases hA
  have := h'.nil hA0
  rw [hl]
  show hi - lo = 0 ∧ c - lo = 0
  omega
 ·have hi' := (List.getElem?_eq_some_iff.1 hx).1
  rw [hl] at hi'
  rw [List.getElem?_take_of_lt hi', List.getElem?_drop] at hx
  simp only at hA
  rw [if_neg (by omega)] at hA
  cases A with
  | none => cases hA
  | some ad0 =>
   obtain rfl := Option.some.inj hA
   rw [Nat.mul_one, Addr.add_add]
   exact h'.at_ ad0 rfl _ x hx
theorem zqd {t : List Nat} {lo hi n0 : Nat} (r : Nat) (hr : R[r]? = some (.sl i n0 (TxG t))) (hlo : lo ≤ hi) (hhi : hi ≤ t.length) (hp : ∀ (h : Hn) (w : World), TxF (h.r i).1 (h.r i).2 t w → PK P zfp w (zct h l) o (zjc (h.r i).1 1 lo hi (h.r i).2)) : zfg P N k l m R o (.a (.s (.p (.hd k (hi - lo))))) [.gone] [.sl k (hi - lo) (TxG ((t.drop lo).take (hi - lo)))] := fun Q h X a w E H Kk hK => by
 have hf := zgY H hr
 obtain ⟨q, hq, hs⟩ := zzH hf hlo hhi
 let h1 : Hn := ⟨h.b, fun t => if t = k then q else h.r t, h.q⟩
 have er : h1.r k = q := if_pos rfl
 have hrun := hp h w hf.now w (CanB.Keep.refl _ _) a N E
 unfold Oper.wp
 rw [hrun, hq]
 have hl : ((t.drop lo).take (hi - lo)).length = hi - lo := by rw [List.length_take, List.length_drop]; omega
 have := hK h1 w (fun t ht => ⟨rfl, if_neg (by simp at ht; omega), rfl⟩) (Frm.refl _ _) (by
  show Sep (X ++ zab (zad h [] m)) [] w w (zdu h1 k [.gone]) (zaO h1 [_])
  have e0 : zdu h1 k [RB.gone] = [] := rfl
  rw [e0]
  refine (Sep.none_ H.xk).refacts fun r hr => ?_
  rcases List.mem_singleton.1 hr with rfl
  have hs' : St (fun w => ((h1.r k).1 = none → hi - lo = 0) ∧ TxG ((t.drop lo).take (hi - lo)) (h1.r k) w) w (X ++ zab (zad h [] m)) := by
   rw [er]
   have := hs
   unfold TxQ at this
   rwa [hl] at this
  have ek : (X ++ zab (zad h [] m)) ++ zab ([] : List Res) = X ++ zab (zad h [] m) := by simp [zab]
  rw [ek]
  exact hs')
 have e1 : SV.den h1 (.a (.s (.p (.hd k (hi - lo))))) = .slice q.1 (hi - lo) q.2 := by
  show Value.slice (h1.r k).1 (hi - lo) (h1.r k).2 = _
  rw [er]
 rw [e1] at this
 exact this
theorem zCr {ad : Addr} {cs : List SC} {ty n : Nat} {xop : Operand} (r : Nat) (f : World → Prop) (hr : R[r]? = some (.c f)) (hf : ∀ w, f w → ∀ h, AtC ad (zay h cs) w) (ho : o.op = .load ty xop) (hx : evS l xop = some (zvZ ad)) (ht : tyK P ty = some (n, true)) (hn : zeN cs = n) : zfU P N l m R o (.a (.agg cs)) := fun h X a w E H =>
 zbm E ho (zag (h := h) hx) ht (by rw [zbb, hn]) (hf w (H.facts _ (zaS.2 ⟨_, List.mem_of_getElem? hr, rfl⟩)).now h)
end
end
section
open Go.RowKit
structure Nd where
 lv : Int
 pl : Int
 red : Bool
 fr : Int
 tt : Int
 kids : List Int
 up : Int
def zbF : Ty Nd where
 μ := Qd
 dft := (none, 0)
 sz := 7
 pos := by decide
 ch x q := [.one (.int .i64 x.lv), .one (.int .i64 x.pl), .one (.bool x.red), .one (.int .i64 x.fr), .one (.int .i64 x.tt), .one (.slice q.1 x.kids.length q.2), .one (.int .i64 x.up)]
 nest x q := SlQ zaz x.kids q
 len _ _ := rfl
 one _ _ := ⟨rfl, rfl, rfl, rfl, rfl, rfl, rfl, trivial⟩
instance : Dec zbF := ⟨fun l => qs l 0, fun m => [m], fun _ => rfl⟩
section
variable {X : List Nat} {w : World} {h0' : Hn}
def zv3 (ns : List Nd) : MB := [(0, .blk [.one (.p (.hd 1 ns.length))] 110), (1, zbh zbF ns 117)]
def ksI (ks : List Nat) : List Int := ks.map Int.ofNat
theorem zow {ks : List Nat} : (ksI ks).length = ks.length := List.length_map ..
def zdE (z : Int) : SC := .one (.p (.v (.int .i64 z)))
def zrz (n : Int) (l : List Nd) (k : Nat) : List Nd := match l[k]? with
 | some x => l.set k { x with up := n }
 | none => l
def zcS (n : Int) (ks : List Nat) (l : List Nd) : List Nd := ks.foldl (zrz n) l
theorem ztH {n : Int} {l : List Nd} {k : Nat} : (zrz n l k).length = l.length := by unfold zrz; split <;> simp
theorem zjC {n : Int} {ks : List Nat} : ∀ {l : List Nd}, (zcS n ks l).length = l.length := by
 induction ks with
 | nil => intro l; rfl
 | cons k ks ih => intro l; show (zcS n ks (zrz n l k)).length = _; rw [ih, ztH]
theorem zox {n : Int} {ks : List Nat} {l : List Nd} {i k : Nat} {x : Nd} (hk : ks[i]? = some k) (hx : (zcS n (ks.take i) l)[k]? = some x) : zcS n (ks.take (i + 1)) l = (zcS n (ks.take i) l).set k { x with up := n } := by
 have h1 : ks.take (i + 1) = ks.take i ++ [k] := by rw [List.take_add_one, hk]; rfl
 have h2 : zcS n (ks.take (i + 1)) l = zrz n (zcS n (ks.take i) l) k := by unfold zcS; rw [h1, List.foldl_append]; rfl
 rw [h2]
 generalize zcS n (ks.take i) l = l2 at hx ⊢
 unfold zrz
 rw [hx]
theorem zwO (lv pl : Int) (rd : Bool) (ns : List Nd) (ks : List Nat) (q : Qd) {i0 i1 : Nat} {a b : Nd} (hks : ∀ k ∈ ks, k < ns.length) (h0 : ks[0]? = some i0) (h1 : ks[ks.length - 1]? = some i1) (ha : ns[i0]? = some a) (hb : ns[i1]? = some b) (hkl : ks.length ≤ 3) (hn : ns.length ≤ 1000000) (hsp : Sp X w (zad h0' [] (zv3 ns)) [zbY zbF ns (h0'.q 1), SlQ zaz (ksI ks) q]) :
  CtG Tryz.prog 174 [.agg (ca [.one (.int .i64 lv), .one (.int .i64 pl), .one (.bool rd), .one (.int .i64 0), .one (.int .i64 0), .one (.slice none 0 0), .one (.int .i64 0)]), .slice q.1 (ksI ks).length q.2, .pointer (some ⟨h0'.b 0, 0, none⟩)] X w h0' (zv3 ns) [0] (zaG .i64 ns.length) [(0, .blk [.one (.p (.hd 2 (ns.length + 1)))] 110), (2, zbh zbF (zcS ns.length ks ns ++ [⟨lv, pl, rd, a.fr, b.tt, ksI ks, -1⟩]) 117)] [.q 2 (zbY zbF (zcS ns.length ks ns ++ [⟨lv, pl, rd, a.fr, b.tt, ksI ks, -1⟩]))] := by
 refine zyv (g := 2) (k0 := 3) (bl := []) (ql := [q]) (svs := [.a (.agg [zdE lv, zdE pl, .one (.p (.v (.bool rd))), zdE 0, zdE 0, .one (.p (.v (.slice none 0 0))), zdE 0]), .a (.s (.p (.hd 2 (ksI ks).length))), atS 0 0]) (given := zv3 ns) (Rg := [.q 1 (zbY zbF ns), .sl 2 (ksI ks).length (SlF zaz (ksI ks))]) (kb := [0]) Tryz.ntmps174 Tryz.func174 rfl rfl rfl zap (by kernel_rfl) rfl rfl hsp ?_
 have hl : (ksI ks).length = ks.length := zow
 have hne : 0 < ks.length := (List.getElem?_eq_some_iff.1 h0).1
 have hi0 : i0 < ns.length := (List.getElem?_eq_some_iff.1 ha).1
 have hi1 : i1 < ns.length := (List.getElem?_eq_some_iff.1 hb).1
 have e0 : (ksI ks)[0]? = some (i0 : Int) := by unfold ksI; rw [List.getElem?_map, h0]; rfl
 have e1 : (ksI ks)[ks.length - 1]? = some (i1 : Int) := by unfold ksI; rw [List.getElem?_map, h1]; rfl
 have h0k : 0 < (ksI ks).length := by omega
 conv => whnf
 refine zaY 22 [3] (by kernel_rfl) ?_
 conv => whnf
 refine ⟨0, ⟨rfl, h0k, h0k⟩, ?_⟩
 conv => whnf
 refine zb1 (za6 (T := zaz) (sv := zaG .i64 i0) 2 e0 (fun _ => rfl) rfl rfl rfl (by kernel_rfl) (fun _ => .inr ⟨rfl, rfl, rfl⟩)) ?_
 conv => whnf
 refine ⟨i0, ⟨rfl, hi0, hi0⟩, ?_⟩
 conv => whnf
 refine zb1 (ziq (T := zbF) (sv := zaG .i64 a.fr) (e := 117) rfl ha (fun _ => rfl) rfl rfl (by kernel_rfl) (fun _ => .inr ⟨rfl, rfl, rfl⟩)) ?_
 conv => whnf
 have el : ((Sl.hd 2 (ksI ks).length).len : Int) - 1 = ((ks.length - 1 : Nat) : Int) := by show (((ksI ks).length : Nat) : Int) - 1 = _; omega
 refine zdq el (by omega) (by omega) ?_
 conv => whnf
 refine ⟨ks.length - 1, ⟨rfl, by omega, by omega⟩, ?_⟩
 conv => whnf
 refine zb1 (za6 (T := zaz) (sv := zaG .i64 i1) 2 e1 (fun _ => rfl) rfl rfl rfl (by kernel_rfl) (fun _ => .inr ⟨rfl, rfl, rfl⟩)) ?_
 conv => whnf
 refine ⟨i1, ⟨rfl, hi1, hi1⟩, ?_⟩
 conv => whnf
 refine zb1 (ziq (T := zbF) (sv := zaG .i64 b.tt) (e := 117) rfl hb (fun _ => rfl) rfl rfl (by kernel_rfl) (fun _ => .inr ⟨rfl, rfl, rfl⟩)) ?_
 conv => whnf
 refine ⟨Nat, fun k l m R i => ⟨k, (32, zaG .i64 i) :: zbP [2, 3, 5, 30, 31] l, (1, zbh zbF (zcS ns.length (ks.take i) ns) 117) :: m, .q 1 (zbY zbF (zcS ns.length (ks.take i) ns)) :: R⟩, fun i => i ≤ ks.length, fun i => ks.length - i, ⟨0, [], [1, 0, 1, 2], Nat.zero_le _, zbX⟩, fun i hi => ?_⟩
 have hsl : (zcS ns.length (ks.take i) ns).length = ns.length := zjC
 conv => whnf
 refine vIf (fun h => ?_) fun h => ?_
 ·have hj : i < ks.length := by
   have h2 : (i : Int) < ((ksI ks).length : Nat) := by simpa [Sl.len] using h
   omega
  have ek : ks[i]? = some ks[i] := jP hj
  obtain ⟨k, hk⟩ : ∃ k, ks[i]? = some k := ⟨_, ek⟩
  have hkn : k < ns.length := hks k (List.mem_of_getElem? hk)
  have eki : (ksI ks)[i]? = some (k : Int) := by unfold ksI; rw [List.getElem?_map, hk]; rfl
  obtain ⟨x, hx⟩ : ∃ x, (zcS ns.length (ks.take i) ns)[k]? = some x := ⟨_, jP (by omega)⟩
  conv => whnf
  refine ⟨i, ⟨rfl, by omega, by omega⟩, ?_⟩
  conv => whnf
  refine zbz (za6 (T := zaz) (sv := zaG .i64 k) 3 eki (fun _ => rfl) rfl rfl rfl (by kernel_rfl) (fun _ => .inr ⟨rfl, rfl, rfl⟩)) rfl rfl ?_
  conv => whnf
  refine ⟨k, ⟨rfl, by omega, by omega⟩, ?_⟩
  conv => whnf
  refine za8 (zzF (T := zbF) (e := 117) { x with up := (ns.length : Int) } zap rfl hx (List.mem_cons_self ..) (fun _ _ h => h) rfl rfl rfl rfl rfl (fun _ => ⟨rfl, trivial⟩) fun _ _ => rfl) ?_
  rw [← zox hk hx]
  conv => whnf
  refine zei (by omega) (by omega) ?_
  conv => whnf
  exact ⟨i + 1, [], [0, 2, 3, 4], ⟨hj, Nat.sub_lt_sub_left hj (Nat.lt_succ_self i)⟩, zbX⟩
 have hi2 : i = ks.length := by
  have h2 : ¬ (i : Int) < ((ksI ks).length : Nat) := by simpa [Sl.len] using h
  omega
 rw [hi2, List.take_length]
 rw [hi2, List.take_length] at hsl
 conv => whnf
 refine zaZ (zku (T := zbF) (e := 117) (x := ⟨lv, pl, rd, a.fr, b.tt, ksI ks, -1⟩) (μs := fun h => [h.r 2]) rfl rfl rfl hsl.symm rfl rfl rfl (fun h => rfl) (by_ := 72) ⟨by kernel_rfl, by kernel_rfl⟩ (by omega) (by omega) rfl rfl (List.mem_cons_self ..) (fun h h' ag => by rw [(ag 2 rfl).2.1]) fun h w Y H => H _ (.tail _ (.tail _ (.tail _ (.head _))))) ?_
 conv => whnf
 have ez : ((Sl.hd 5 (ns.length + 1)).len : Int) - 1 = (ns.length : Int) := by show (((ns.length + 1 : Nat) : Int)) - 1 = _; omega
 refine zdq ez (show -9223372036854775808 ≤ ((ns.length + 1 : Nat) : Int) - 1 by omega) (show ((ns.length + 1 : Nat) : Int) - 1 ≤ 9223372036854775807 by omega) ?_
 conv => whnf
 exact zdD [(0, 0), (2, 5)] [0] [2] (.inl rfl) ⟨.inl rfl, .inl rfl, trivial⟩ rfl ⟨.inl rfl, trivial⟩ ⟨rfl, trivial⟩
def dNd : Nd := ⟨0, 0, false, 0, 0, [], 0⟩
def zcT (ns : List Nd) (lv pl : Int) (rd : Bool) (ks : List Nat) : List Nd := zcS ns.length ks ns ++ [⟨lv, pl, rd, (ns.getD (ks.getD 0 0) dNd).fr, (ns.getD (ks.getD (ks.length - 1) 0) dNd).tt, ksI ks, -1⟩]
def zbn (two : Bool) (ls : List (List Int)) : Nat → List Int × List Nd → List Int × List Nd
 | 0, s => (s.1.set 0 (s.1.getD 0 0 + 1), s.2 ++ [⟨0, s.1.getD 0 0, false, s.1.getD 0 0, s.1.getD 0 0 + 1, [], -1⟩])
 | l + 1, s =>
  let a := s.1.getD (l + 1) 0
  let s1 := zbn two ls l (s.1.set (l + 1) (a + 1), s.2)
  let s2 := zbn two ls l s1
  if (ls.getD l []).getD a.toNat 0 = 2 then (s2.1, zcT s2.2 (l + 1) a false [s1.2.length - 1, s2.2.length - 1])
  else if two then
   let s3 := zbn two ls l s2
   (s3.1, zcT s3.2 (l + 1) a false [s1.2.length - 1, s2.2.length - 1, s3.2.length - 1])
  else
   let s3 := zbn two ls l (s2.1, zcT s2.2 (l + 1) a true [s1.2.length - 1, s2.2.length - 1])
   (s3.1, zcT s3.2 (l + 1) a false [s2.2.length, s3.2.length - 1])
def okD (two : Bool) (ls : List (List Int)) : Nat → List Int × List Nd → Prop
 | 0, s => ∃ a : Nat, s.1[0]? = some (a : Int) ∧ a ≤ 1000000 ∧ s.2.length ≤ 1000000
 | l + 1, s => ∃ (a : Nat) (r : List Int) (v : Int), s.1[l + 1]? = some (a : Int) ∧ a ≤ 1000000 ∧ ls[l]? = some r ∧ r[a]? = some v ∧
  (let s1 := zbn two ls l (s.1.set (l + 1) ((a : Int) + 1), s.2)
   let s2 := zbn two ls l s1
   okD two ls l (s.1.set (l + 1) ((a : Int) + 1), s.2) ∧ okD two ls l s1 ∧ s2.2.length ≤ 1000000 ∧
   (v ≠ 2 → if two then okD two ls l s2 ∧ (zbn two ls l s2).2.length ≤ 1000000 else okD two ls l (s2.1, zcT s2.2 ((l + 1 : Nat) : Int) a true [s1.2.length - 1, s2.2.length - 1]) ∧ (zbn two ls l (s2.1, zcT s2.2 ((l + 1 : Nat) : Int) a true [s1.2.length - 1, s2.2.length - 1])).2.length ≤ 1000000))
def dnM (nl r : Nat) (nx : List Int) (ns : List Nd) : MB := [(0, .blk [.one (.p (.hd 1 nl))] 24), (1, zbh zaz nx 3), (2, .blk [.one (.p (.hd r ns.length))] 110), (r, zbh zbF ns 117)]
def dnR (nx : List Int) (ns : List Nd) (nids : Nat) (ls : List (List Int)) (kd : Int) : List SF := [.q 3 (zbY zbF ns), .blk 4 [.one (.fn (.func 175) [] [.at_ 0 0, .at_ 2 0, .at_ 4 0, .at_ 5 0, .at_ 6 0, .at_ 7 0])], .blk 5 [.one (.p (.hd 8 nids)), .one (.p (.hd 9 ls.length))], .blk 6 [.one (.fn (.func 174) [] [.at_ 2 0])], .blk 7 [zdE kd], .sl 9 ls.length (SlF (zcs zaz) ls)]
def dnA (l : Nat) (h : Hn) (bl : List Nat) : List Value := [.int .i64 l, .pointer (some ⟨h.b 0, 0, none⟩), .pointer (some ⟨h.b 2, 0, none⟩), .pointer (some ⟨zjj bl 0, 0, none⟩), .pointer (some ⟨zjj bl 1, 0, none⟩), .pointer (some ⟨zjj bl 2, 0, none⟩), .pointer (some ⟨zjj bl 3, 0, none⟩)]
def zES (l : Nat) : List SV := [zaG .i64 l, atS 0 0, atS 2 0, atS 4 0, atS 5 0, atS 6 0, atS 7 0]
def zCs (two : Bool) (ls : List (List Int)) (l : Nat) : Prop := ∀ (X : List Nat) (w : World) (h0 : Hn) (bl : List Nat) (ql : List Qd) (nl : Nat) (nx : List Int) (ns : List Nd) (nids : Nat) (kd : Int), nx.length = nl → okD two ls l (nx, ns) → (kd == 1) = two → Sp X w (zad h0 [] (dnM nl 3 nx ns)) (zaO (h0.ext 4 bl ql) (dnR nx ns nids ls kd)) →
 CtG Tryz.prog 175 (dnA l h0 bl) X w h0 (dnM nl 3 nx ns) [0, 1, 2] (zaG .i64 (((zbn two ls l (nx, ns)).2.length - 1 : Nat) : Int)) (dnM nl 4 (zbn two ls l (nx, ns)).1 (zbn two ls l (nx, ns)).2) [.q 4 (zbY zbF (zbn two ls l (nx, ns)).2)]
theorem ztI (two : Bool) (ls : List (List Int)) : zCs two ls 0 := fun X w h0 bl ql nl nx ns nids kd hnl hok hkd hsp => by
 obtain ⟨a, ha, ha2, hn⟩ := hok
 simp only at ha hn
 have hl : 0 < nx.length := (List.getElem?_eq_some_iff.1 ha).1
 refine zyv (g := 4) (k0 := 10) (bl := bl) (ql := ql) (svs := zES 0) (given := dnM nl 3 nx ns) (Rg := dnR nx ns nids ls kd) (kb := [0, 1, 2]) Tryz.ntmps175 Tryz.func175 rfl rfl rfl zap (by kernel_rfl) rfl rfl hsp ?_
 conv => whnf
 refine ⟨0, ⟨rfl, hnl ▸ hl, hl⟩, ?_⟩
 conv => whnf
 refine zbz (ziq (T := zaz) (sv := zaG .i64 a) (e := 3) rfl ha (fun _ => rfl) rfl rfl (by kernel_rfl) (fun _ => .inr ⟨rfl, rfl, rfl⟩)) rfl rfl ?_
 conv => whnf
 refine ⟨0, ⟨rfl, hnl ▸ hl, hl⟩, ?_⟩
 conv => whnf
 refine zbz (ziq (T := zaz) (sv := zaG .i64 a) (e := 3) rfl ha (fun _ => rfl) rfl rfl (by kernel_rfl) (fun _ => .inr ⟨rfl, rfl, rfl⟩)) rfl rfl ?_
 conv => whnf
 refine zei (by omega) (by omega) ?_
 conv => whnf
 refine ⟨0, ⟨rfl, hnl ▸ hl, hl⟩, ?_⟩
 conv => whnf
 refine za8 (zmP (T := zaz) (e := 3) ((a : Int) + 1) zap rfl ha rfl rfl rfl rfl rfl (fun _ => ⟨rfl, trivial⟩) fun _ _ => rfl) ?_
 conv => whnf
 refine zei (by omega) (by omega) ?_
 conv => whnf
 refine zaZ (zku (T := zbF) (e := 117) (x := ⟨0, a, false, a, (a : Int) + 1, [], -1⟩) (μs := fun _ => [(none, 0)]) rfl rfl rfl rfl rfl rfl rfl (fun h => rfl) (by_ := 72) ⟨by kernel_rfl, by kernel_rfl⟩ (by omega) (by omega) rfl rfl (.tail _ (.tail _ (.tail _ (.head _)))) (fun h h' ag => rfl) fun h w Y H => zcz) ?_
 conv => whnf
 have ez : ((Sl.hd 11 (ns.length + 1)).len : Int) - 1 = (ns.length : Int) := by show (((ns.length + 1 : Nat) : Int)) - 1 = _; omega
 refine zdq ez (show -9223372036854775808 ≤ ((ns.length + 1 : Nat) : Int) - 1 by omega) (show ((ns.length + 1 : Nat) : Int) - 1 ≤ 9223372036854775807 by omega) ?_
 have e1 : zbn two ls 0 (nx, ns) = (nx.set 0 ((a : Int) + 1), ns ++ [⟨0, a, false, a, (a : Int) + 1, [], -1⟩]) := by
  unfold zbn
  have : nx.getD 0 0 = (a : Int) := by rw [jR, ha]; rfl
  simp only [this]
 have e2 : (ns ++ [(⟨0, a, false, a, (a : Int) + 1, [], -1⟩ : Nd)]).length - 1 = ns.length := by simp
 have e4 : ns.length + 1 = (ns ++ [(⟨0, a, false, a, (a : Int) + 1, [], -1⟩ : Nd)]).length := by simp
 rw [e1, e2]
 conv => whnf
 exact zdD [(0, 0), (1, 1), (2, 2), (4, 11)] [0] [1, 2, 3] (.inl rfl) ⟨.inl rfl, .inl rfl, .inl (by rw [← e4]; rfl), .inl rfl, trivial⟩ rfl ⟨.inl rfl, trivial⟩ ⟨rfl, rfl, rfl, trivial⟩
theorem zbB {ns : List Nd} {lv pl : Int} {rd : Bool} {ks : List Nat} : (zcT ns lv pl rd ks).length = ns.length + 1 := by unfold zcT; simp [zjC]
theorem zeZ {two : Bool} {ls : List (List Int)} : ∀ {l : Nat} {s : List Int × List Nd}, (zbn two ls l s).1.length = s.1.length
 | 0, s => by simp [zbn]
 | l + 1, s => by
  unfold zbn
  simp only
  split
  ·simp [zeZ (l := l)]
  ·split <;> simp [zeZ (l := l)]
theorem zcd {two : Bool} {ls : List (List Int)} : ∀ {l : Nat} {s : List Int × List Nd}, s.2.length < (zbn two ls l s).2.length
 | 0, s => by simp [zbn]
 | l + 1, s => by
  have h1 := zcd (two := two) (ls := ls) (l := l) (s := (s.1.set (l + 1) (s.1.getD (l + 1) 0 + 1), s.2))
  have h2 := zcd (two := two) (ls := ls) (l := l) (s := zbn two ls l (s.1.set (l + 1) (s.1.getD (l + 1) 0 + 1), s.2))
  unfold zbn
  simp only at h1 ⊢
  split
  ·simp only [zbB]; omega
  ·split
   ·have h3 := zcd (two := two) (ls := ls) (l := l) (s := zbn two ls l (zbn two ls l (s.1.set (l + 1) (s.1.getD (l + 1) 0 + 1), s.2)))
    simp only [zbB]; omega
   ·have h3 := zcd (two := two) (ls := ls) (l := l) (s := ((zbn two ls l (zbn two ls l (s.1.set (l + 1) (s.1.getD (l + 1) 0 + 1), s.2))).1, zcT (zbn two ls l (zbn two ls l (s.1.set (l + 1) (s.1.getD (l + 1) 0 + 1), s.2))).2 (l + 1) (s.1.getD (l + 1) 0) true [(zbn two ls l (s.1.set (l + 1) (s.1.getD (l + 1) 0 + 1), s.2)).2.length - 1, (zbn two ls l (zbn two ls l (s.1.set (l + 1) (s.1.getD (l + 1) 0 + 1), s.2))).2.length - 1]))
    simp only [zbB] at h3 ⊢
    omega
def ksC (ks : List Nat) : List SC := ks.map fun k : Nat => zdE (Int.ofNat k)
theorem ztJ {h : Hn} : ∀ {ks : List Nat}, zay h (ksC ks) = (ksI ks).map fun z => Chunk.one (.int .i64 z)
 | [] => rfl
 | k :: ks => by
  show Chunk.one (.int .i64 (Int.ofNat k)) :: zay h (ksC ks) = _
  rw [ztJ]
  rfl
theorem ztK : ∀ (zs : List Int), cl (zs.map fun z => Chunk.one (.int .i64 z)) = zs.map fun z => Value.int .i64 z
 | [] => rfl
 | z :: zs => by
  show Value.int .i64 z :: cl _ = _
  rw [ztK zs]
  rfl
theorem zCt {b : Nat} {zs : List Int} {w : World} (hz : 0 < zs.length) (hb : zs.length ≤ 9223372036854775807) (H : AtC ⟨b, 0, none⟩ (zs.map fun z => Chunk.one (.int .i64 z)) w) : SlQ zaz zs (some ⟨b, 0, none⟩, zs.length) w := by
 refine ⟨fun e => (by cases e), fun _ => (), jV _, hb, fun e => (by cases e), fun ad hA i x hx => ⟨fun j u hu => ?_, trivial⟩⟩
 obtain rfl := Option.some.inj hA
 have hj : j = 0 ∧ u = .int .i64 x := by
  cases j with
  | zero => simp [zaz, cl, Chunk.cells] at hu; exact ⟨rfl, hu.symm⟩
  | succ j => simp [zaz, cl, Chunk.cells] at hu
 obtain ⟨rfl, rfl⟩ := hj
 have := H i (.int .i64 x) (by rw [ztK, List.getElem?_map, hx]; rfl)
 rw [zax]
 simpa [zaz] using this
theorem zqe (lv pl : Int) (rd : Bool) {ns : List Nd} {ks : List Nat} (hks : ∀ k ∈ ks, k < ns.length) (hne : 0 < ks.length) (hkl : ks.length ≤ 3) (hn : ns.length ≤ 1000000) {X : List Nat} {w : World} {h h0' : Hn} {r j : Nat} (hsp : Sp X w (zad h0' [] (zv3 ns)) (zaO h [.q r (zbY zbF ns), .blk j (ksC ks)])) (hq : h.q r = h0'.q 1) :
  CtG Tryz.prog 174 [.agg (ca [.one (.int .i64 lv), .one (.int .i64 pl), .one (.bool rd), .one (.int .i64 0), .one (.int .i64 0), .one (.slice none 0 0), .one (.int .i64 0)]), .slice (some ⟨h.b j, 0, none⟩) (ksI ks).length (ksI ks).length, .pointer (some ⟨h0'.b 0, 0, none⟩)] X w h0' (zv3 ns) [0] (zaG .i64 ns.length) [(0, .blk [.one (.p (.hd 2 (ns.length + 1)))] 110), (2, zbh zbF (zcT ns lv pl rd ks) 117)] [.q 2 (zbY zbF (zcT ns lv pl rd ks))] := by
 have e0 : ks[0]? = some (ks.getD 0 0) := zir 0 hne
 have e1 : ks[ks.length - 1]? = some (ks.getD (ks.length - 1) 0) := zir 0 (by omega)
 refine zwO lv pl rd ns ks (some ⟨h.b j, 0, none⟩, (ksI ks).length) hks e0 e1 (zir dNd (hks _ (List.mem_of_getElem? e0))) (zir dNd (hks _ (List.mem_of_getElem? e1))) hkl hn (hsp.refacts fun q' hq' => ?_)
 rcases List.mem_cons.1 hq' with rfl | hq'
 ·rw [← hq]
  exact hsp.facts _ (List.mem_cons_self ..)
 ·rcases List.mem_singleton.1 hq' with rfl
  have h1 : St (AtC ⟨h.b j, 0, none⟩ (zay h (ksC ks))) w (X ++ zab (zad h0' [] (zv3 ns))) := hsp.facts _ (List.mem_cons_of_mem _ (List.mem_cons_self ..))
  rw [ztJ] at h1
  exact h1.imp fun w' hw => zCt (by rw [zow]; exact hne) (by rw [zow]; omega) hw
theorem zmS {two : Bool} {ls : List (List Int)} {l : Nat} (ih : zCs two ls l) {nl : Nat} {nx nx1 : List Int} {ns ns1 : List Nd} {nids : Nat} {kd : Int} (e : zbn two ls l (nx, ns) = (nx1, ns1)) (hnl : nx.length = nl) (hok : okD two ls l (nx, ns)) (hkd : (kd == 1) = two) {X : List Nat} {w : World} {h0 : Hn} {bl : List Nat} {ql : List Qd} (hsp : Sp X w (zad h0 [] (dnM nl 3 nx ns)) (zaO (h0.ext 4 bl ql) (dnR nx ns nids ls kd))) :
  CtG Tryz.prog 175 (dnA l h0 bl) X w h0 (dnM nl 3 nx ns) [0, 1, 2] (zaG .i64 ((ns1.length - 1 : Nat) : Int)) (dnM nl 4 nx1 ns1) [.q 4 (zbY zbF ns1)] := by
 have := ih X w h0 bl ql nl nx ns nids kd hnl hok hkd hsp
 rwa [e] at this
theorem ztL (two : Bool) (ls : List (List Int)) (l : Nat) (hl : l ≤ 1000) (ih : zCs two ls l) : zCs two ls (l + 1) := fun X w h0 bl ql nl nx ns nids kd hnl hok hkd hsp => by
 obtain ⟨a, r, v, ha, ha2, hr, hv, h1, h2, hn, h3⟩ := hok
 simp only at ha
 have hlt : l + 1 < nx.length := (List.getElem?_eq_some_iff.1 ha).1
 simp only at h1 h2 hn h3
 obtain ⟨⟨nx1, ns1⟩, e1⟩ : ∃ s, zbn two ls l (nx.set (l + 1) ((a : Int) + 1), ns) = s := ⟨_, rfl⟩
 have hl1 : nx1.length = nl := by have := zeZ (two := two) (ls := ls) (l := l) (s := (nx.set (l + 1) ((a : Int) + 1), ns)); rw [e1] at this; simpa [hnl] using this
 have hg1 : ns.length < ns1.length := by have := zcd (two := two) (ls := ls) (l := l) (s := (nx.set (l + 1) ((a : Int) + 1), ns)); rw [e1] at this; exact this
 rw [e1] at h2 hn h3
 obtain ⟨⟨nx2, ns2⟩, e2⟩ : ∃ s, zbn two ls l (nx1, ns1) = s := ⟨_, rfl⟩
 have hl2 : nx2.length = nl := by have := zeZ (two := two) (ls := ls) (l := l) (s := (nx1, ns1)); rw [e2] at this; simpa [hl1] using this
 have hg2 : ns1.length < ns2.length := by have := zcd (two := two) (ls := ls) (l := l) (s := (nx1, ns1)); rw [e2] at this; exact this
 rw [e2] at hn h3
 simp only at h2 hn h3
 refine zyv (g := 4) (k0 := 10) (bl := bl) (ql := ql) (svs := zES (l + 1)) (given := dnM nl 3 nx ns) (Rg := dnR nx ns nids ls kd) (kb := [0, 1, 2]) Tryz.ntmps175 Tryz.func175 rfl rfl rfl zap (by kernel_rfl) rfl rfl hsp ?_
 conv => whnf
 refine ⟨l + 1, ⟨rfl, hnl ▸ hlt, hlt⟩, ?_⟩
 conv => whnf
 refine zbz (ziq (T := zaz) (sv := zaG .i64 a) (e := 3) rfl ha (fun _ => rfl) rfl rfl (by kernel_rfl) (fun _ => .inr ⟨rfl, rfl, rfl⟩)) rfl rfl ?_
 conv => whnf
 refine ⟨l + 1, ⟨rfl, hnl ▸ hlt, hlt⟩, ?_⟩
 conv => whnf
 refine zbz (ziq (T := zaz) (sv := zaG .i64 a) (e := 3) rfl ha (fun _ => rfl) rfl rfl (by kernel_rfl) (fun _ => .inr ⟨rfl, rfl, rfl⟩)) rfl rfl ?_
 conv => whnf
 refine zei (by omega) (by omega) ?_
 conv => whnf
 refine ⟨l + 1, ⟨rfl, hnl ▸ hlt, hlt⟩, ?_⟩
 conv => whnf
 refine za8 (zmP (T := zaz) (e := 3) ((a : Int) + 1) zap rfl ha rfl rfl rfl rfl rfl (fun _ => ⟨rfl, trivial⟩) fun _ _ => rfl) ?_
 conv => whnf
 refine zaY 7 [0, 1, 2, 3] (by kernel_rfl) ?_
 conv => whnf
 have el : ((l + 1 : Nat) : Int) - 1 = (l : Int) := by omega
 refine zdq el (by omega) (by omega) ?_
 conv => whnf
 refine zf0 rfl (zd4 1 (za0 [0, 1, 2, 3] 1 rfl rfl rfl (by kernel_rfl) (fs := fun _ => []) (cs := fun h => zhf h [.at_ 0 0, .at_ 2 0, .at_ 4 0, .at_ 5 0, .at_ 6 0, .at_ 7 0]) (fun h => rfl) rfl rfl (given := dnM nl 3 (nx.set (l + 1) ((a : Int) + 1)) ns) ⟨rfl, rfl, rfl, rfl, trivial⟩ rfl rfl rfl rfl rfl rfl fun h X w L2 H => zmS ih e1 (by rw [List.length_set]; exact hnl) h1 hkd (bl := [h.b 4, h.b 5, h.b 6, h.b 7]) (ql := [(none, 0), (none, 0), (none, 0), (none, 0), h.r 8, h.r 9]) (H.pick [3, 4, 5, 6, 7, 8] rfl)) (fun _ => List.mem_append_left _) rfl) ?_
 conv => whnf
 refine zdq el (by omega) (by omega) ?_
 conv => whnf
 refine zaZ (za0 [0, 1, 2, 11] 1 rfl rfl rfl (by kernel_rfl) (fs := fun _ => []) (cs := fun h => zhf h [.at_ 0 0, .at_ 2 0, .at_ 4 0, .at_ 5 0, .at_ 6 0, .at_ 7 0]) (fun h => rfl) rfl rfl (given := dnM nl 3 nx1 ns1) ⟨rfl, rfl, rfl, rfl, trivial⟩ rfl rfl rfl rfl rfl rfl fun h X w L2 H => zmS ih e2 hl1 h2 hkd (bl := [h.b 4, h.b 5, h.b 6, h.b 7]) (ql := [(none, 0), (none, 0), (none, 0), (none, 0), h.r 8, h.r 9]) (H.pick [0, 5, 6, 7, 8, 9] rfl)) ?_
 conv => whnf
 refine zdq el (by omega) (by omega) ?_
 have hll : l < ls.length := (List.getElem?_eq_some_iff.1 hr).1
 have har : a < r.length := (List.getElem?_eq_some_iff.1 hv).1
 conv => whnf
 refine ⟨l, ⟨rfl, hll, hll⟩, ?_⟩
 conv => whnf
 refine zcR (zp3 (T := zaz) 10 hr rfl rfl rfl (by kernel_rfl)) rfl rfl ?_
 conv => whnf
 refine ⟨a, ⟨rfl, har, har⟩, ?_⟩
 conv => whnf
 refine zbz (za6 (T := zaz) (sv := zaG .i64 v) 0 hv (fun _ => rfl) rfl rfl rfl (by kernel_rfl) (fun _ => .inr ⟨rfl, rfl, rfl⟩)) rfl rfl ?_
 have ea : nx.getD (l + 1) 0 = (a : Int) := by rw [jR, ha]; rfl
 have er : (ls.getD l []).getD (a : Int).toNat 0 = v := by
  have h5 : ls.getD l [] = r := by rw [jR, hr]; rfl
  rw [h5]
  show r.getD a 0 = v
  rw [jR, hv]; rfl
 conv => whnf
 refine vIf (fun h => ?_) fun h => ?_
 ·have hv2 : v = 2 := by simpa using h
  have e9 : zbn two ls (l + 1) (nx, ns) = (nx2, zcT ns2 ((l + 1 : Nat) : Int) a false [ns1.length - 1, ns2.length - 1]) := by
   unfold zbn
   simp only [ea, e1, e2, er, hv2, if_true]
   rfl
  rw [e9]
  conv => whnf
  refine zaZ (zbe [14] rfl rfl (za0 [2, 12] 1 rfl rfl rfl (by kernel_rfl) (fs := fun _ => []) (cs := fun h => zhf h [.at_ 2 0]) (fun h => rfl) rfl rfl (given := zv3 ns2) ⟨rfl, rfl, trivial⟩ rfl rfl rfl rfl rfl rfl fun h X w L2 H => zqe ((l + 1 : Nat) : Int) a false (ks := [ns1.length - 1, ns2.length - 1]) (by simp; omega) (by simp) (by simp) hn (r := 12) (j := 14) (H.pick [2, 0] rfl) rfl)) ?_
  conv => whnf
  exact zdD [(0, 0), (1, 1), (2, 2), (4, 15)] [0] [5, 6, 7] (.inl (by rw [zbB]; rfl)) ⟨.inl rfl, .inl rfl, .inl (by rw [zbB]; rfl), .inl rfl, trivial⟩ rfl ⟨.inl rfl, trivial⟩ ⟨rfl, rfl, rfl, trivial⟩
 have hv2 : v ≠ 2 := by simpa using h
 have h3 := h3 hv2
 conv => whnf
 refine vIf (fun hk => ?_) fun hk => ?_
 ·obtain rfl : two = true := by rw [← hkd]; exact hk
  obtain ⟨h4, hn3⟩ := (if_pos rfl : (if true = true then _ else _) = _) ▸ h3
  obtain ⟨⟨nx3, ns3⟩, e3⟩ : ∃ s, zbn true ls l (nx2, ns2) = s := ⟨_, rfl⟩
  have hg3 : ns2.length < ns3.length := by have := zcd (two := true) (ls := ls) (l := l) (s := (nx2, ns2)); rw [e3] at this; exact this
  rw [e3] at hn3
  have e9 : zbn true ls (l + 1) (nx, ns) = (nx3, zcT ns3 ((l + 1 : Nat) : Int) a false [ns1.length - 1, ns2.length - 1, ns3.length - 1]) := by
   unfold zbn
   simp only [ea, e1, e2, e3, er, if_neg hv2, if_true]
   rfl
  rw [e9]
  conv => whnf
  refine zaY 9 [0, 1, 2, 12] (by kernel_rfl) ?_
  conv => whnf
  refine zdq el (by omega) (by omega) ?_
  conv => whnf
  refine zf0 rfl (zd4 1 (za0 [0, 1, 2, 12] 1 rfl rfl rfl (by kernel_rfl) (fs := fun _ => []) (cs := fun h => zhf h [.at_ 0 0, .at_ 2 0, .at_ 4 0, .at_ 5 0, .at_ 6 0, .at_ 7 0]) (fun h => rfl) rfl rfl (given := dnM nl 3 nx2 ns2) ⟨rfl, rfl, rfl, rfl, trivial⟩ rfl rfl rfl rfl rfl rfl fun h X w L2 H => zmS ih e3 hl2 h4 hkd (bl := [h.b 4, h.b 5, h.b 6, h.b 7]) (ql := [(none, 0), (none, 0), (none, 0), (none, 0), h.r 8, h.r 9]) (H.pick [1, 7, 8, 9, 10, 11] rfl)) (fun _ => List.mem_append_left _) rfl) ?_
  conv => whnf
  refine zaZ (zbe [15] rfl rfl (za0 [2, 14] 1 rfl rfl rfl (by kernel_rfl) (fs := fun _ => []) (cs := fun h => zhf h [.at_ 2 0]) (fun h => rfl) rfl rfl (given := zv3 ns3) ⟨rfl, rfl, trivial⟩ rfl rfl rfl rfl rfl rfl fun h X w L2 H => zqe ((l + 1 : Nat) : Int) a false (ks := [ns1.length - 1, ns2.length - 1, ns3.length - 1]) (by simp; omega) (by simp) (by simp) hn3 (r := 14) (j := 15) (H.pick [1, 0] rfl) rfl)) ?_
  conv => whnf
  exact zdD [(0, 0), (1, 1), (2, 2), (4, 16)] [0] [6, 7, 8] (.inl (by rw [zbB]; rfl)) ⟨.inl rfl, .inl rfl, .inl (by rw [zbB]; rfl), .inl rfl, trivial⟩ rfl ⟨.inl rfl, trivial⟩ ⟨rfl, rfl, rfl, trivial⟩
 obtain rfl : two = false := by rw [← hkd]; exact hk
 obtain ⟨h4, hn3⟩ := (if_neg (by decide) : (if false = true then _ else _) = _) ▸ h3
 obtain ⟨lf, elf⟩ : ∃ lf, zcT ns2 ((l + 1 : Nat) : Int) a true [ns1.length - 1, ns2.length - 1] = lf := ⟨_, rfl⟩
 have hlf : ns2.length + 1 = lf.length := by rw [← elf, zbB]
 rw [elf] at h4 hn3
 obtain ⟨⟨nx3, ns3⟩, e3⟩ : ∃ s, zbn false ls l (nx2, lf) = s := ⟨_, rfl⟩
 have hg3 : lf.length < ns3.length := by have := zcd (two := false) (ls := ls) (l := l) (s := (nx2, lf)); rw [e3] at this; exact this
 rw [e3] at hn3
 have e9 : zbn false ls (l + 1) (nx, ns) = (nx3, zcT ns3 ((l + 1 : Nat) : Int) a false [ns2.length, ns3.length - 1]) := by
  have elf' : zcT ns2 ((l : Int) + 1) a true [ns1.length - 1, ns2.length - 1] = lf := elf
  unfold zbn
  simp only [ea, e1, e2, er, if_neg hv2, elf, elf', e3, Bool.false_eq_true, if_false]
  rfl
 rw [e9]
 conv => whnf
 refine zaZ (zbe [14] rfl rfl (za0 [2, 12] 1 rfl rfl rfl (by kernel_rfl) (fs := fun _ => []) (cs := fun h => zhf h [.at_ 2 0]) (fun h => rfl) rfl rfl (given := zv3 ns2) ⟨rfl, rfl, trivial⟩ rfl rfl rfl rfl rfl rfl fun h X w L2 H => zqe ((l + 1 : Nat) : Int) a true (ks := [ns1.length - 1, ns2.length - 1]) (by simp; omega) (by simp) (by simp) hn (r := 12) (j := 14) (H.pick [2, 0] rfl) rfl)) ?_
 rw [elf, hlf]
 conv => whnf
 refine zaY 8 [0, 1, 2, 15] (by kernel_rfl) ?_
 conv => whnf
 refine zdq el (by omega) (by omega) ?_
 conv => whnf
 refine zf0 rfl (zd4 1 (za0 [0, 1, 2, 15] 1 rfl rfl rfl (by kernel_rfl) (fs := fun _ => []) (cs := fun h => zhf h [.at_ 0 0, .at_ 2 0, .at_ 4 0, .at_ 5 0, .at_ 6 0, .at_ 7 0]) (fun h => rfl) rfl rfl (given := dnM nl 3 nx2 lf) ⟨rfl, rfl, rfl, rfl, trivial⟩ rfl rfl rfl rfl rfl rfl fun h X w L2 H => zmS ih e3 hl2 h4 hkd (bl := [h.b 4, h.b 5, h.b 6, h.b 7]) (ql := [(none, 0), (none, 0), (none, 0), (none, 0), h.r 8, h.r 9]) (H.pick [0, 9, 10, 11, 12, 13] rfl)) (fun _ => List.mem_append_left _) rfl) ?_
 conv => whnf
 refine zaZ (zbe [17] rfl rfl (za0 [2, 16] 1 rfl rfl rfl (by kernel_rfl) (fs := fun _ => []) (cs := fun h => zhf h [.at_ 2 0]) (fun h => rfl) rfl rfl (given := zv3 ns3) ⟨rfl, rfl, trivial⟩ rfl rfl rfl rfl rfl rfl fun h X w L2 H => zqe ((l + 1 : Nat) : Int) a false (ks := [ns2.length, ns3.length - 1]) (by simp; omega) (by simp) (by simp) hn3 (r := 16) (j := 17) (H.pick [1, 0] rfl) rfl)) ?_
 conv => whnf
 exact zdD [(0, 0), (1, 1), (2, 2), (4, 18)] [0] [8, 9, 10] (.inl (by rw [zbB]; rfl)) ⟨.inl rfl, .inl rfl, .inl (by rw [zbB]; rfl), .inl rfl, trivial⟩ rfl ⟨.inl rfl, trivial⟩ ⟨rfl, rfl, rfl, trivial⟩
def zbs (two : Bool) (ls : List (List Int)) (nids : Nat) : List Nd := if 0 < nids then (zbn two ls ls.length (List.replicate (ls.length + 1) 0, [])).2 else []
theorem ztM (two : Bool) (ls : List (List Int)) : ∀ l, l ≤ 1001 → zCs two ls l
 | 0, _ => ztI two ls
 | l + 1, h => ztL two ls l (by omega) (ztM two ls l (by omega))
theorem zqf (hX : ∀ k ∈ X, k < w.heap.size) (two : Bool) (kd : Int) (hkd : (kd == 1) = two) (nids : Nat) (ls : List (List Int)) (qi qL : Qd) (hls : St (SlQ (zcs zaz) ls qL) w X) (hl : ls.length ≤ 1000) (hok : 0 < nids → okD two ls ls.length (List.replicate (ls.length + 1) 0, [])) :
  Ct Tryz.prog 147 [.int .i64 kd, .agg (ca [.one (.slice qi.1 nids qi.2), .one (.slice qL.1 ls.length qL.2)])] X w (.a (.s (.p (.hd 0 (zbs two ls nids).length)))) [.gone] [.sl 0 (zbs two ls nids).length (SlF zbF (zbs two ls nids))] := by
 refine vFn (k0 := 2) (rs := [.cell 4 110]) (svs := [zaG .i64 kd, .a (.agg [.one (.p (.hd 0 nids)), .one (.p (.hd 1 ls.length))])]) (R0 := [.sl 1 ls.length (SlF (zcs zaz) ls)]) (hnQ [qi, qL]) Tryz.ntmps147 Tryz.func147 rfl rfl rfl rfl rfl zap (by kernel_rfl) hX (fun r hr => by rcases List.mem_singleton.1 hr with rfl; exact hls) ?_
 conv => whnf
 refine zdq (z' := ((ls.length + 1 : Nat) : Int)) rfl (by show -9223372036854775808 ≤ ((ls.length : Nat) : Int) + 1; omega) (by show ((ls.length : Nat) : Int) + 1 ≤ 9223372036854775807; omega) ?_
 conv => whnf
 have hA : AppK Tryz.prog 24 3 zaz.sz 8 := ⟨by kernel_rfl, by kernel_rfl⟩
 have hz : zdM Tryz.prog 3 = some (ca [.one (.int .i64 0)]) := by kernel_rfl
 refine zbC (zys (T := zaz) (n := ls.length + 1) (d := 0) hA hz rfl rfl rfl rfl rfl rfl (by omega) (by unfold maxLen; omega)) rfl rfl ?_
 conv => whnf
 refine .inl ?_
 conv => whnf
 refine vIf (fun h => ?_) fun h => ?_
 ·have hpos : 0 < nids := by
   have : (nids : Int) > 0 := by simpa [Sl.len] using h
   omega
  have hd := ztM two ls ls.length (by omega)
  obtain ⟨⟨nx1, ns1⟩, e1⟩ : ∃ s, zbn two ls ls.length (List.replicate (ls.length + 1) 0, []) = s := ⟨_, rfl⟩
  have e2 : zbs two ls nids = ns1 := by unfold zbs; rw [if_pos hpos, e1]
  rw [e2]
  conv => whnf
  refine ztG 2 (zbe [8, 3, 5, 2] rfl rfl (zwL (T := zbF) (e := 117) (i := 4) rfl rfl rfl rfl (za0 [7, 6, 4, 9] 1 rfl rfl rfl (by kernel_rfl) (fs := fun _ => []) (cs := fun h => zhf h [.at_ 7 0, .at_ 4 0, .at_ 8 0, .at_ 3 0, .at_ 5 0, .at_ 2 0]) (fun h => rfl) rfl rfl (given := dnM (ls.length + 1) 3 (List.replicate (ls.length + 1) 0) []) ⟨rfl, rfl, rfl, rfl, trivial⟩ rfl rfl rfl rfl rfl rfl fun h X w L2 H => zmS hd e1 (by simp) (hok hpos) hkd (bl := [h.b 8, h.b 3, h.b 5, h.b 2]) (ql := [(none, 0), (none, 0), (none, 0), (none, 0), h.r 0, h.r 1]) (H.pick [0, 4, 3, 2, 1, 5] rfl)))) ?_
  conv => whnf
  refine zgy (T := zbF) (e := 117) (xs := ns1) 10 rfl (.head _) rfl ?_
  exact zaK [(0, 10)] [0] (.inl rfl) trivial rfl ⟨.inl rfl, trivial⟩
 have hpos : ¬ 0 < nids := by
  intro h0
  have : ¬ (nids : Int) > 0 := by simpa [Sl.len] using h
  omega
 have e2 : zbs two ls nids = [] := by unfold zbs; rw [if_neg hpos]
 rw [e2]
 conv => whnf
 exact zaK [(0, 9)] [0] (.inr rfl) trivial rfl ⟨.inr (zaM rfl), trivial⟩
def zeo (kd : Int) (ids : List Int) (ls : List (List Int)) : Bool := (kd == 1 || kd == 2) && zdh ids ls
theorem zyw (hX : ∀ k ∈ X, k < w.heap.size) (kd : Int) (ids : List Int) (ls : List (List Int)) (q p : Qd) (hq : St (SlQ zaz ids q) w X) (hp : St (SlQ (zcs zaz) ls p) w X) (hlen : ∀ l ∈ ls, l.length ≤ 1099511627776) :
  Ct Tryz.prog 145 [.int .i64 kd, .agg (ca [.one (.slice q.1 ids.length q.2), .one (.slice p.1 ls.length p.2)])] X w (zaG .i64 (if zeo kd ids ls then 0 else 1)) [] [] := by
 refine vFn (k0 := 2) (rs := [.tmp 4]) (svs := [zaG .i64 kd, .a (.agg [.one (.p (.hd 0 ids.length)), .one (.p (.hd 1 ls.length))])]) (R0 := [.sl 0 ids.length (SlF zaz ids), .sl 1 ls.length (SlF (zcs zaz) ls)]) (hnQ [q, p]) Tryz.ntmps145 Tryz.func145 rfl rfl rfl rfl rfl zap (by kernel_rfl) hX (fun r hr => by rcases List.mem_cons.1 hr with rfl | hr; exact hq; rcases List.mem_singleton.1 hr with rfl; exact hp) ?_
 conv => whnf
 refine vIf (fun h1 => ?_) fun h1 => ?_
 ·conv => whnf
  refine vIf (fun h2 => ?_) fun h2 => ?_
  ·conv => whnf
   refine zan ?_
   have : zeo kd ids ls = false := by simp at h1 h2; simp [zeo, h1, h2]
   rw [this]; rfl
  conv => whnf
  refine zah rfl rfl rfl (by kernel_rfl) (fun h X w H => zmO H.xk ids ls _ _ (H.fact 0 rfl) (H.fact 1 rfl) hlen) rfl rfl rfl ?_
  conv => whnf
  refine zan ?_
  have : zeo kd ids ls = zdh ids ls := by simp at h2; simp [zeo, h2]
  rw [this]; rfl
 conv => whnf
 refine zah rfl rfl rfl (by kernel_rfl) (fun h X w H => zmO H.xk ids ls _ _ (H.fact 0 rfl) (H.fact 1 rfl) hlen) rfl rfl rfl ?_
 conv => whnf
 refine zan ?_
 have : zeo kd ids ls = zdh ids ls := by simp at h1; simp [zeo, h1]
 rw [this]; rfl
def zFc (bl : List Nat) (ql : List Qd) : Hn := ⟨zjj bl, qs ql, fun _ _ => []⟩
theorem zqg : Inj zbF := fun x a b h => by
 simp only [zbF, cl, Chunk.cells, List.cons_append, List.nil_append, List.cons.injEq, Value.slice.injEq, and_true, true_and] at h
 exact Prod.ext h.1 h.2
theorem zwP (hX : ∀ k ∈ X, k < w.heap.size) (x : Nd) (μ : Qd) (b : Nat) (t : Int) (hb : St (AtC ⟨b, 0, none⟩ [.one (.int .i64 t)]) w X) :
  Ct Tryz.prog 149 [.agg (ca (zbF.ch x μ)), .pointer (some ⟨b, 0, none⟩)] X w (zaH (x.lv == 0 && x.pl == t)) [] [] := by
 refine vFn (k0 := 2) (rs := [.tmp 3]) (svs := [.a (.agg [zdE x.lv, zdE x.pl, .one (.p (.v (.bool x.red))), zdE x.fr, zdE x.tt, .one (.p (.hd 0 x.kids.length)), zdE x.up]), atS 1 0]) (R0 := [.blk 1 [zdE t]]) (zFc [0, b] [μ]) Tryz.ntmps149 Tryz.func149 rfl rfl rfl rfl rfl zap (by kernel_rfl) hX (fun r hr => by rcases List.mem_singleton.1 hr with rfl; exact hb) ?_
 conv => whnf
 refine vIf (fun h1 => ?_) fun h1 => ?_
 ·conv => whnf
  refine vIf (fun h2 => ?_) fun h2 => ?_
  all_goals
   conv => whnf
   refine zan ?_
   rw [h1, h2]; rfl
 conv => whnf
 refine zan ?_
 rw [h1]; rfl
theorem zwQ (hX : ∀ k ∈ X, k < w.heap.size) (xs : List Nd) (q : Qd) (hq : St (SlQ zbF xs q) w X) {g : FuncId} (cs : List Value) (F : World → Prop) (hF : St F w X) (hg : fnB Tryz.prog g = true) (p : Nd → Bool) (hp : ∀ y ∈ xs, ∀ (X : List Nat) (w : World) (μ : Qd), (∀ k ∈ X, k < w.heap.size) → St F w X → Ct Tryz.prog g (.agg (ca (zbF.ch y μ)) :: cs) X w (zaH (p y)) [] []) :
  Ct Tryz.prog 148 [.slice q.1 xs.length q.2, .func (.func g) #[] cs.toArray] X w (zaG .i64 (zkq p xs)) [] [] := by
 have hbig := SlQ.big hq
 refine vFn (k0 := 1) (rs := [.tmp 4]) (svs := [.a (.s (.p (.hd 0 xs.length))), .a (.s (.p (.v (.func (.func g) #[] cs.toArray))))]) (R0 := [.sl 0 xs.length (SlF zbF xs), .c F]) (hnQ [q]) Tryz.ntmps148 Tryz.func148 rfl rfl rfl rfl rfl zap (by kernel_rfl) hX (fun r hr => by rcases List.mem_cons.1 hr with rfl | hr; exact hq; rcases List.mem_singleton.1 hr with rfl; exact hF) ?_
 conv => whnf
 refine ⟨Nat, fun k l m R i => ⟨k, (8, zaG .i64 i) :: zbP [0, 1, 7] l, m, R⟩, fun i => i ≤ xs.length ∧ ∀ y ∈ xs.take i, p y = false, fun i => xs.length - i, ⟨0, [], [0, 1], ⟨by omega, by simp⟩, zbX⟩, fun i hφ => ?_⟩
 conv => whnf
 refine vIf (fun h => ?_) fun h => ?_
 ·have hi : i < xs.length := by simpa [Sl.len] using h
  obtain ⟨x, hx⟩ : ∃ x, xs[i]? = some x := ⟨_, jP hi⟩
  have hxi : xs[i] = x := (List.getElem?_eq_some_iff.1 hx).2
  conv => whnf
  refine ⟨i, ⟨rfl, hi, hi⟩, ?_⟩
  conv => whnf
  refine zcR (zfu zqg (n := 7) (off := 0) (sub := [zdE x.lv, zdE x.pl, .one (.p (.v (.bool x.red))), zdE x.fr, zdE x.tt, .one (.p (.hd 1 x.kids.length)), zdE x.up]) (Rs := []) 0 (fun μ => [μ]) 1 hx rfl rfl rfl (by kernel_rfl) (.inl ⟨rfl, rfl⟩) (fun μ h hh => by
   have e : h.r 1 = μ := hh 0 (by omega)
   subst e
   rfl) fun μ h w Y hh hn r hr => by cases hr) rfl rfl ?_
  conv => whnf
  refine zcR (zcy (sv := zaH (p x)) (rs := []) (Rs := []) rfl rfl rfl hg rfl (fs := fun _ => []) (cs := fun _ => cs) (fun h => rfl) fun h X w H => hp x (List.mem_of_getElem? hx) _ _ (h.r 1) H.xk (H.fact 1 rfl)) rfl rfl ?_
  conv => whnf
  refine vIf (fun he => ?_) fun he => ?_
  ·conv => whnf
   refine zan ?_
   rw [zim hi hφ.2 (by rw [hxi]; exact he)]; rfl
  ·conv => whnf
   refine zei (by omega) (by omega) ?_
   conv => whnf
   exact ⟨i + 1, [], [0, 1], ⟨⟨by omega, zf2 hi hφ.2 (by rw [hxi]; exact he)⟩, Nat.sub_lt_sub_left hi (Nat.lt_succ_self i)⟩, zbX⟩
 ·have hi : i = xs.length := by
   have : ¬ i < xs.length := by simpa [Sl.len] using h
   omega
  conv => whnf
  refine zan ?_
  rw [zf1 (by rw [← List.take_length (l := xs), ← hi]; exact hφ.2)]; rfl
theorem zzI {α : Type} {p : α → Bool} {xs : List α} : -1 ≤ zkq p xs ∧ zkq p xs < xs.length := by
 unfold zkq
 cases h : xs.any p with
 | false => simp; omega
 | true =>
  obtain ⟨y, hy, hp⟩ := List.any_eq_true.1 h
  have := List.findIdx_lt_length_of_exists ⟨y, hy, hp⟩
  rw [if_pos rfl]
  exact ⟨by omega, by omega⟩
def zv4 (ns : List Nd) : Nat → Int → List Int
 | 0, _ => []
 | f + 1, i => if i < 0 then [] else i :: zv4 ns f (ns.getD i.toNat dNd).up
def zCu (ns : List Nd) (t : Int) : Int := zkq (fun x : Nd => x.lv == 0 && x.pl == t) ns
def zDL (ns : List Nd) (t : Int) : List Int := zv4 ns ns.length (zCu ns t)
def zey (two : Bool) (kd : Int) (ids : List Int) (ls : List (List Int)) (id : Int) : List Int × List Nd × Int :=
 if zeo kd ids ls then (if ids.any (· == id) then (zDL (zbs two ls ids.length) (zem ids id), zbs two ls ids.length, 0) else ([], [], 6)) else ([], [], 1)
def zD9 (r : List Int × List Nd × Int) : SV := .tup [.s (.p (.hd 0 r.1.length)), .s (.p (.hd 1 r.2.1.length)), .s (.p (.v (.int .i64 r.2.2)))]
def zEa (r : List Int × List Nd × Int) : List SF := [.sl 0 r.1.length (SlF zaz r.1), .sl 1 r.2.1.length (SlF zbF r.2.1)]
theorem zzJ (hX : ∀ k ∈ X, k < w.heap.size) (two : Bool) (kd : Int) (hkd : (kd == 1) = two) (ids : List Int) (ls : List (List Int)) (id : Int) (q p : Qd) (hq : St (SlQ zaz ids q) w X) (hp : St (SlQ (zcs zaz) ls p) w X) (hlen : ∀ l ∈ ls, l.length ≤ 1099511627776) (hl : ls.length ≤ 1000)
  (hok : zeo kd ids ls = true → 0 < ids.length → okD two ls ls.length (List.replicate (ls.length + 1) 0, [])) (hn : (zbs two ls ids.length).length ≤ 1000000) (hup : ∀ (j : Nat) (x : Nd), (zbs two ls ids.length)[j]? = some x → x.up < 0 ∨ (j < x.up.toNat ∧ x.up.toNat < (zbs two ls ids.length).length)) :
  Ct Tryz.prog 105 [.int .i64 kd, .agg (ca [.one (.slice q.1 ids.length q.2), .one (.slice p.1 ls.length p.2)]), .int .i64 id] X w (zD9 (zey two kd ids ls id)) [.gone, .gone] (zEa (zey two kd ids ls id)) := by
 refine vFn (k0 := 2) (rs := [.tmp 6, .tmp 7, .tmp 8]) (svs := [zaG .i64 kd, .a (.agg [.one (.p (.hd 0 ids.length)), .one (.p (.hd 1 ls.length))]), zaG .i64 id]) (R0 := [.sl 0 ids.length (SlF zaz ids), .sl 1 ls.length (SlF (zcs zaz) ls)]) (hnQ [q, p]) Tryz.ntmps105 Tryz.func105 rfl rfl rfl rfl rfl zap (by kernel_rfl) hX (fun r hr => by rcases List.mem_cons.1 hr with rfl | hr; exact hq; rcases List.mem_singleton.1 hr with rfl; exact hp) ?_
 conv => whnf
 refine zah rfl rfl rfl (by kernel_rfl) (fun h X w H => zyw H.xk kd ids ls _ _ (H.fact 0 rfl) (H.fact 1 rfl) hlen) rfl rfl rfl ?_
 cases hm : zeo kd ids ls with
 | false =>
  have e : zey two kd ids ls id = ([], [], 1) := by simp [zey, hm]
  rw [e]
  conv => whnf
  exact zaK [(0, 3), (1, 4)] [0, 0] (.inr ⟨rfl, rfl, rfl, trivial⟩) trivial rfl ⟨.inr (zaM rfl), .inr (zaM rfl), trivial⟩
 | true =>
  conv => whnf
  refine zah rfl rfl rfl (by kernel_rfl) (fun h X w H => zwF H.xk ids (.slice (h.r 1).1 ls.length (h.r 1).2) rfl id _ (H.fact 0 rfl)) rfl rfl rfl ?_
  cases ha : ids.any (· == id) with
  | false =>
   have e : zey two kd ids ls id = ([], [], 6) := by simp [zey, hm, ha]
   rw [e]
   conv => whnf
   exact zaK [(0, 4), (1, 5)] [0, 0] (.inr ⟨rfl, rfl, rfl, trivial⟩) trivial rfl ⟨.inr (zaM rfl), .inr (zaM rfl), trivial⟩
  | true =>
   have e : zey two kd ids ls id = (zDL (zbs two ls ids.length) (zem ids id), zbs two ls ids.length, 0) := by simp [zey, hm, ha]
   rw [e]
   conv => whnf
   refine zah rfl rfl rfl (by kernel_rfl) (fun h X w H => zqf H.xk two kd hkd ids.length ls (h.r 0) _ (H.fact 1 rfl) hl fun h0 => hok hm h0) rfl rfl rfl ?_
   conv => whnf
   refine za8 (zbe [3] rfl rfl (zaF (zae (rs := []) (Rs := []) rfl rfl rfl (by kernel_rfl) rfl fun h X w H => zwQ H.xk (zbs two ls ids.length) _ (H.fact 1 rfl) [.pointer (some ⟨h.b 3, 0, none⟩)] (AtC ⟨h.b 3, 0, none⟩ [.one (.int .i64 (zem ids id : Nat))]) (H.fact 0 rfl) (by kernel_rfl) (fun x => x.lv == 0 && x.pl == (zem ids id : Nat)) fun y _ X w μ hX hF => zwP hX y μ _ _ hF) rfl rfl)) ?_
   conv => whnf
   obtain ⟨ns, hns⟩ : ∃ ns, zbs two ls ids.length = ns := ⟨_, rfl⟩
   obtain ⟨lf, hlf⟩ : ∃ lf, zkq (fun x : Nd => x.lv == 0 && x.pl == (zem ids id : Nat)) ns = lf := ⟨_, rfl⟩
   have hlb := zzI (p := fun x : Nd => x.lv == 0 && x.pl == (zem ids id : Nat)) (xs := ns)
   rw [hlf] at hlb
   have hw : zDL ns (zem ids id) = zv4 ns ns.length lf := by unfold zDL zCu; rw [hlf]
   rw [hns, hw, hlf]
   rw [hns] at hn hup
   refine ⟨Int × List Int × Nat × Nat, fun k l m R g => ⟨k + 1, (13, zaG .i64 g.1) :: (6, .a (.s (.p (.hd k g.2.2.2)))) :: zbP [7] l, (k, zbh zaz g.2.1 3) :: m, R⟩, fun g => zv4 ns ns.length lf = g.2.1 ++ zv4 ns g.2.2.1 g.1 ∧ g.2.2.2 = g.2.1.length ∧ g.2.1.length + g.2.2.1 = ns.length ∧ (0 ≤ g.1 → g.1.toNat < ns.length ∧ ns.length - g.1.toNat ≤ g.2.2.1), fun g => g.2.2.1, ⟨(lf, [], ns.length, 0), [], [0, 1, 2, 3], ⟨rfl, rfl, by simp, fun h => by dsimp only at h ⊢; omega⟩, zbX⟩, fun ⟨i, ds, f, n⟩ ⟨h1, h2, h3, h4⟩ => ?_⟩
   dsimp only at h1 h2 h3 h4
   conv => whnf
   refine vIf (fun h => ?_) fun h => ?_
   ·have hi : 0 ≤ i := by simpa using h
    obtain ⟨h5, h6⟩ := h4 hi
    obtain ⟨x, hx⟩ : ∃ x, ns[i.toNat]? = some x := ⟨_, jP h5⟩
    obtain ⟨f', rfl⟩ : ∃ f', f = f' + 1 := ⟨f - 1, by omega⟩
    have hx2 : ns.getD i.toNat dNd = x := by rw [jR, hx]; rfl
    have h7 : zv4 ns (f' + 1) i = i :: zv4 ns f' x.up := by rw [zv4, if_neg (by omega), hx2]
    conv => whnf
    refine zaZ (zqb (T := zaz) (e := 3) (x := i) (fun _ _ _ => trivial) rfl rfl rfl h2 rfl rfl rfl (fun _ => rfl) (by_ := 8) ⟨by kernel_rfl, by kernel_rfl⟩ (by omega) (by omega) rfl rfl rfl) ?_
    conv => whnf
    refine ⟨i.toNat, ⟨(Int.toNat_of_nonneg hi).symm, h5, h5⟩, ?_⟩
    conv => whnf
    refine zbz (za6 (T := zbF) (sv := zaG .i64 x.up) 1 hx (fun _ => rfl) rfl rfl rfl (by kernel_rfl) (fun _ => .inr ⟨rfl, rfl, rfl⟩)) rfl rfl ?_
    conv => whnf
    exact ⟨(x.up, ds ++ [i], f', n + 1), [(5, 7)], [0, 1, 2, 3], ⟨⟨by rw [h1, h7]; simp, by simp [h2], by simp; omega, fun h => by
     rcases hup _ _ hx with h8 | h8
     ·dsimp only at h; omega
     ·dsimp only at h ⊢; exact ⟨h8.2, by omega⟩⟩, Nat.lt_succ_self f'⟩, zbX⟩
   have hi : i < 0 := by simpa using h
   have h7 : zv4 ns f i = [] := by
    cases f with
    | zero => rfl
    | succ f => rw [zv4, if_pos hi]
   rw [h7, List.append_nil] at h1
   rw [h1]
   subst h2
   conv => whnf
   refine zwN (T := zaz) (e := 3) (xs := ds) 5 (fun _ _ _ => trivial) rfl rfl ?_
   exact zaK [(0, 5), (1, 4)] [0, 3] (.inl rfl) trivial rfl ⟨.inl rfl, .inl rfl, trivial⟩
theorem zzK (hX : ∀ k ∈ X, k < w.heap.size) (two : Bool) (kd : Int) (hkd : (kd == 1) = two) (ids : List Int) (ls : List (List Int)) (id : Int) (q p : Qd) (hq : St (SlQ zaz ids q) w X) (hp : St (SlQ (zcs zaz) ls p) w X) (hlen : ∀ l ∈ ls, l.length ≤ 1099511627776) (hl : ls.length ≤ 1000)
  (hok : zeo kd ids ls = true → 0 < ids.length → okD two ls ls.length (List.replicate (ls.length + 1) 0, [])) (hn : (zbs two ls ids.length).length ≤ 1000000) (hup : ∀ (j : Nat) (x : Nd), (zbs two ls ids.length)[j]? = some x → x.up < 0 ∨ (j < x.up.toNat ∧ x.up.toNat < (zbs two ls ids.length).length)) :
  Ct Tryz.prog 81 [.int .i64 kd, .agg (ca [.one (.slice q.1 ids.length q.2), .one (.slice p.1 ls.length p.2)]), .int .i64 id] X w (.tup [.s (.p (.hd 0 (zey two kd ids ls id).1.length)), .s (.p (.v (.int .i64 (zey two kd ids ls id).2.2)))]) [.gone] [.sl 0 (zey two kd ids ls id).1.length (SlF zaz (zey two kd ids ls id).1)] := by
 refine vFn (k0 := 2) (rs := [.tmp 6, .tmp 7]) (svs := [zaG .i64 kd, .a (.agg [.one (.p (.hd 0 ids.length)), .one (.p (.hd 1 ls.length))]), zaG .i64 id]) (R0 := [.sl 0 ids.length (SlF zaz ids), .sl 1 ls.length (SlF (zcs zaz) ls)]) (hnQ [q, p]) Tryz.ntmps81 Tryz.func81 rfl rfl rfl rfl rfl zap (by kernel_rfl) hX (fun r hr => by rcases List.mem_cons.1 hr with rfl | hr; exact hq; rcases List.mem_singleton.1 hr with rfl; exact hp) ?_
 conv => whnf
 refine zah rfl rfl rfl (by kernel_rfl) (fun h X w H => zzJ H.xk two kd hkd ids ls id _ _ (H.fact 0 rfl) (H.fact 1 rfl) hlen hl hok hn hup) rfl rfl rfl ?_
 obtain ⟨⟨wy, ns, er⟩, e⟩ : ∃ r, zey two kd ids ls id = r := ⟨_, rfl⟩
 rw [e]
 conv => whnf
 exact zaK [(0, 3)] [0] (.inl rfl) trivial rfl ⟨.inl rfl, trivial⟩
def zsi (two : Bool) (kd : Int) (ids : List Int) (ls : List (List Int)) : List Nd × Int := if zeo kd ids ls then (zbs two ls ids.length, 0) else ([], 1)
theorem zwR (hX : ∀ k ∈ X, k < w.heap.size) (two : Bool) (kd : Int) (hkd : (kd == 1) = two) (ids : List Int) (ls : List (List Int)) (q p : Qd) (hq : St (SlQ zaz ids q) w X) (hp : St (SlQ (zcs zaz) ls p) w X) (hlen : ∀ l ∈ ls, l.length ≤ 1099511627776) (hl : ls.length ≤ 1000)
  (hok : zeo kd ids ls = true → 0 < ids.length → okD two ls ls.length (List.replicate (ls.length + 1) 0, [])) :
  Ct Tryz.prog 112 [.int .i64 kd, .agg (ca [.one (.slice q.1 ids.length q.2), .one (.slice p.1 ls.length p.2)])] X w (.tup [.s (.p (.hd 0 (zsi two kd ids ls).1.length)), .s (.p (.v (.int .i64 (zsi two kd ids ls).2)))]) [.gone] [.sl 0 (zsi two kd ids ls).1.length (SlF zbF (zsi two kd ids ls).1)] := by
 refine vFn (k0 := 2) (rs := [.tmp 4, .tmp 5]) (svs := [zaG .i64 kd, .a (.agg [.one (.p (.hd 0 ids.length)), .one (.p (.hd 1 ls.length))])]) (R0 := [.sl 0 ids.length (SlF zaz ids), .sl 1 ls.length (SlF (zcs zaz) ls)]) (hnQ [q, p]) Tryz.ntmps112 Tryz.func112 rfl rfl rfl rfl rfl zap (by kernel_rfl) hX (fun r hr => by rcases List.mem_cons.1 hr with rfl | hr; exact hq; rcases List.mem_singleton.1 hr with rfl; exact hp) ?_
 conv => whnf
 refine zah rfl rfl rfl (by kernel_rfl) (fun h X w H => zyw H.xk kd ids ls _ _ (H.fact 0 rfl) (H.fact 1 rfl) hlen) rfl rfl rfl ?_
 cases hm : zeo kd ids ls with
 | false =>
  have e : zsi two kd ids ls = ([], 1) := by simp [zsi, hm]
  rw [e]
  conv => whnf
  exact zaK [(0, 3)] [0] (.inr ⟨rfl, rfl, trivial⟩) trivial rfl ⟨.inr (zaM rfl), trivial⟩
 | true =>
  have e : zsi two kd ids ls = (zbs two ls ids.length, 0) := by simp [zsi, hm]
  rw [e]
  conv => whnf
  refine zah rfl rfl rfl (by kernel_rfl) (fun h X w H => zqf H.xk two kd hkd ids.length ls (h.r 0) _ (H.fact 1 rfl) hl fun h0 => hok hm h0) rfl rfl rfl ?_
  conv => whnf
  exact zaK [(0, 3)] [0] (.inl rfl) trivial rfl ⟨.inl rfl, trivial⟩
end
end
section
open Go.RowKit
section
variable {X : List Nat} {w : World}
theorem zzL (hX : ∀ k ∈ X, k < w.heap.size) (xs : List (List Nat)) (x : List Nat) (q : Qd) (hq : St (SlQ zbU xs q) w X) :
  Ct Tryz.prog 152 [.slice q.1 xs.length q.2, .agg (ca [.key x])] X w (zaG .i64 (zkq (fun y => decide (zaX x = zaX y)) xs)) [] [] := by
 have hbig := SlQ.big hq
 refine vFn (k0 := 1) (rs := [.tmp 4]) (svs := [.a (.s (.p (.hd 0 xs.length))), .a (.agg [.key x])]) (R0 := [.sl 0 xs.length (SlF zbU xs)]) (hnQ [q]) Tryz.ntmps152 Tryz.func152 rfl rfl rfl rfl rfl zap (by kernel_rfl) hX (fun r hr => by rcases List.mem_singleton.1 hr with rfl; exact hq) ?_
 conv => whnf
 refine ⟨Nat, fun k l m R i => ⟨k, (8, zaG .i64 i) :: zbP [0, 3, 7] l, m, R⟩, fun i => i ≤ xs.length ∧ ∀ y ∈ xs.take i, decide (zaX x = zaX y) = false, fun i => xs.length - i, ⟨0, [], [0], ⟨by omega, by simp⟩, zbX⟩, fun i hφ => ?_⟩
 conv => whnf
 refine vIf (fun h => ?_) fun h => ?_
 ·have hi : i < xs.length := by simpa [Sl.len] using h
  conv => whnf
  refine zaY 5 [] (by kernel_rfl) ?_
  conv => whnf
  refine ⟨i, ⟨rfl, hi, hi⟩, ?_⟩
  conv => whnf
  refine zb1 (za6 (T := zbU) (n := 32) (off := 0) (sub := [.key xs[i]]) (sv := .a (.agg [.key xs[i]])) 0 (jP hi) (fun _ => rfl) rfl rfl rfl (by kernel_rfl) (fun _ => .inl ⟨rfl, rfl⟩)) ?_
  conv => whnf
  refine vIf (fun he => ?_) fun he => ?_
  ·conv => whnf
   refine zan ?_
   rw [zim hi hφ.2 he]; rfl
  ·conv => whnf
   refine zei (by omega) (by omega) ?_
   conv => whnf
   exact ⟨i + 1, [], [0], ⟨⟨by omega, zf2 hi hφ.2 he⟩, Nat.sub_lt_sub_left hi (Nat.lt_succ_self i)⟩, zbX⟩
 ·have hi : i = xs.length := by
   have : ¬ i < xs.length := by simpa [Sl.len] using h
   omega
  conv => whnf
  refine zan ?_
  rw [zf1 (by rw [← List.take_length (l := xs), ← hi]; exact hφ.2)]; rfl
theorem zzM (hX : ∀ k ∈ X, k < w.heap.size) (xs : List (List Nat)) (x : List Nat) (q : Qd) (hq : St (SlQ zbU xs q) w X) : Ct Tryz.prog 113 [.slice q.1 xs.length q.2, .agg (ca [.key x])] X w (zaH (xs.any fun y => decide (zaX x = zaX y))) [] [] := by
 refine vFn (k0 := 1) (rs := [.tmp 4]) (svs := [.a (.s (.p (.hd 0 xs.length))), .a (.agg [.key x])]) (R0 := [.sl 0 xs.length (SlF zbU xs)]) (hnQ [q]) Tryz.ntmps113 Tryz.func113 rfl rfl rfl rfl rfl zap (by kernel_rfl) hX (fun r hr => by rcases List.mem_singleton.1 hr with rfl; exact hq) ?_
 conv => whnf
 refine zah rfl rfl rfl (by kernel_rfl) (fun h X w H => zzL H.xk xs x _ (H.fact 0 rfl)) rfl rfl rfl ?_
 conv => whnf
 refine vIf (fun he => ?_) fun he => ?_
 all_goals
  conv => whnf
  refine zan ?_
  rw [← zkr, he]; rfl
structure Tre where
 kd : Int
 ids : List Int
 ls : List (List Int)
 ps : List (List Nat)
def Tre.two (t : Tre) : Bool := t.kd == 1
def Tre.all (t : Tre) : List Nd × Int := zsi t.two t.kd t.ids t.ls
def Tre.ok (t : Tre) : Bool := t.all.2 == 0 && (!((t.all.1.length : Int) == 0) && ((t.all.1.length : Int) == t.ps.length && !(t.ps.any fun y => decide (zaX [] = zaX y))))
def Tre.nodes (t : Tre) : List Nd × Int := if t.ok then (t.all.1, 0) else ([], 1)
def Tre.val (t : Tre) (q p r : Qd) : Value := .agg (ca [.one (.int .i64 t.kd), .one (.slice q.1 t.ids.length q.2), .one (.slice p.1 t.ls.length p.2), .one (.slice r.1 t.ps.length r.2)])
structure Tre.fits (t : Tre) : Prop where
 len : ∀ l ∈ t.ls, l.length ≤ 1099511627776
 lv : t.ls.length ≤ 1000
 ok : zeo t.kd t.ids t.ls = true → 0 < t.ids.length → okD t.two t.ls t.ls.length (List.replicate (t.ls.length + 1) 0, [])
theorem zis (hX : ∀ k ∈ X, k < w.heap.size) (t : Tre) (ht : t.fits) (q p r : Qd) (hq : St (SlQ zaz t.ids q) w X) (hp : St (SlQ (zcs zaz) t.ls p) w X) (hr : St (SlQ zbU t.ps r) w X) :
  Ct Tryz.prog 90 [t.val q p r] X w (.tup [.s (.p (.hd 0 t.nodes.1.length)), .s (.p (.v (.int .i64 t.nodes.2)))]) [.gone] [.sl 0 t.nodes.1.length (SlF zbF t.nodes.1)] := by
 refine vFn (k0 := 3) (rs := [.tmp 2, .tmp 3]) (svs := [.a (.agg [zdE t.kd, .one (.p (.hd 0 t.ids.length)), .one (.p (.hd 1 t.ls.length)), .one (.p (.hd 2 t.ps.length))])]) (R0 := [.sl 0 t.ids.length (SlF zaz t.ids), .sl 1 t.ls.length (SlF (zcs zaz) t.ls), .sl 2 t.ps.length (SlF zbU t.ps)]) (hnQ [q, p, r]) Tryz.ntmps90 Tryz.func90 rfl rfl rfl rfl rfl zap (by kernel_rfl) hX (fun r hr' => by rcases List.mem_cons.1 hr' with rfl | hr'; exact hq; rcases List.mem_cons.1 hr' with rfl | hr'; exact hp; rcases List.mem_singleton.1 hr' with rfl; exact hr) ?_
 conv => whnf
 refine zah rfl rfl rfl (by kernel_rfl) (fun h X w H => zwR H.xk t.two t.kd rfl t.ids t.ls _ _ (H.fact 0 rfl) (H.fact 1 rfl) ht.len ht.lv ht.ok) rfl rfl rfl ?_
 obtain ⟨⟨ns, er⟩, e⟩ : ∃ r, t.all = r := ⟨_, rfl⟩
 have e' : zsi t.two t.kd t.ids t.ls = (ns, er) := e
 rw [e']
 have bad : t.ok = false → t.nodes = ([], 1) := fun h => by simp [Tre.nodes, h]
 have okE : t.ok = (er == 0 && (!((ns.length : Int) == 0) && ((ns.length : Int) == t.ps.length && !(t.ps.any fun y => decide (zaX [] = zaX y))))) := by unfold Tre.ok; rw [e]
 conv => whnf
 refine vIf (fun h1 => ?_) fun h1 => ?_
 ·rw [bad (by rw [okE]; simp at h1; simp [h1])]
  conv => whnf
  exact zaK [(0, 5)] [0] (.inr ⟨rfl, rfl, trivial⟩) trivial rfl ⟨.inr (zaM rfl), trivial⟩
 have h1 : er = 0 := by simpa using h1
 conv => whnf
 refine vIf (fun h2 => ?_) fun h2 => ?_
 ·have h2 : ((ns.length : Int) == 0) = true := h2
  rw [bad (by rw [okE, h2]; simp)]
  conv => whnf
  exact zaK [(0, 5)] [0] (.inr ⟨rfl, rfl, trivial⟩) trivial rfl ⟨.inr (zaM rfl), trivial⟩
 have h2 : ((ns.length : Int) == 0) = false := h2
 conv => whnf
 refine vIf (fun h3 => ?_) fun h3 => ?_
 ·have h3 : ((ns.length : Int) != t.ps.length) = true := h3
  rw [bad (by rw [okE]; simp only [bne_iff_ne] at h3; simp [h3])]
  conv => whnf
  exact zaK [(0, 5)] [0] (.inr ⟨rfl, rfl, trivial⟩) trivial rfl ⟨.inr (zaM rfl), trivial⟩
 have h3 : ((ns.length : Int) != t.ps.length) = false := h3
 have h3' : ((ns.length : Int) == t.ps.length) = true := by simpa [bne] using h3
 conv => whnf
 refine zkp rfl rfl rfl (by kernel_rfl) (fun h X w H => zzM H.xk t.ps [] _ (H.fact 3 rfl)) rfl rfl (fun h4 => ?_) fun h4 => ?_
 ·rw [bad (by rw [okE, h4]; simp)]
  conv => whnf
  exact zaK [(0, 5)] [0] (.inr ⟨rfl, rfl, trivial⟩) trivial rfl ⟨.inr (zaM rfl), trivial⟩
 have hgood : t.nodes = (ns, 0) := by
  unfold Tre.nodes
  rw [okE, h1, h2, h3', h4, e]
  rfl
 rw [hgood]
 conv => whnf
 exact zaK [(0, 4)] [0] (.inl rfl) trivial rfl ⟨.inl rfl, trivial⟩
theorem zjD (hX : ∀ k ∈ X, k < w.heap.size) (t : Tre) (ht : t.fits) (q p r : Qd) (hq : St (SlQ zaz t.ids q) w X) (hp : St (SlQ (zcs zaz) t.ls p) w X) (hr : St (SlQ zbU t.ps r) w X) :
  Ct Tryz.prog 80 [t.val q p r] X w (zaG .i64 t.nodes.2) [] [] := by
 refine vFn (k0 := 3) (rs := [.tmp 2]) (svs := [.a (.agg [zdE t.kd, .one (.p (.hd 0 t.ids.length)), .one (.p (.hd 1 t.ls.length)), .one (.p (.hd 2 t.ps.length))])]) (R0 := [.sl 0 t.ids.length (SlF zaz t.ids), .sl 1 t.ls.length (SlF (zcs zaz) t.ls), .sl 2 t.ps.length (SlF zbU t.ps)]) (hnQ [q, p, r]) Tryz.ntmps80 Tryz.func80 rfl rfl rfl rfl rfl zap (by kernel_rfl) hX (fun r hr' => by rcases List.mem_cons.1 hr' with rfl | hr'; exact hq; rcases List.mem_cons.1 hr' with rfl | hr'; exact hp; rcases List.mem_singleton.1 hr' with rfl; exact hr) ?_
 conv => whnf
 refine zah rfl rfl rfl (by kernel_rfl) (fun h X w H => zis H.xk t ht _ _ _ (H.fact 0 rfl) (H.fact 1 rfl) (H.fact 2 rfl)) rfl rfl rfl ?_
 obtain ⟨⟨ns, er⟩, e⟩ : ∃ r, t.nodes = r := ⟨_, rfl⟩
 rw [e]
 conv => whnf
 refine zan ?_
 rfl
end
end
section
open Go.RowKit
def ByT : Ty Nat where
 μ := Unit
 dft := ()
 sz := 1
 pos := by decide
 ch x _ := [.one (bv x)]
 nest _ _ _ := True
 len _ _ := rfl
 one _ _ := ⟨rfl, trivial⟩
instance : Dec ByT := ⟨fun _ => (), fun _ => [], fun _ => rfl⟩
abbrev zi6 (xs : List Nat) (e : Nat) : RB := zbh ByT xs e
theorem zqh (x : Nat) (μ : ByT.μ) (w : World) : ByT.nest x μ w := trivial
theorem zwS {xs : List Nat} {g : Nat → List Qd} : zbI ByT (itQ ByT xs g) = xs.map bv := by
 have h : ∀ its : List (Nat × ByT.μ), zbI ByT its = (its.map Prod.fst).map bv := fun its => by
  unfold zbI
  induction its with
  | nil => rfl
  | cons p its ih => rw [List.flatMap_cons, ih]; rfl
 rw [h, ztA]
section
variable {P : Program} {Tb : Tab} {N k k0 ix : Nat} {l : LE} {m : MB} {R : List SF} {o : Oper} {sv : SV} {K : KS}
variable {xs : List Nat} {i j n0 n e : Nat}
theorem zhA {h : Hn} {i : Nat} : RB.den h i (zi6 xs e) = [.row (.slice (h.r i).1 xs.length (h.r i).2) e 1 xs.length (xs.map bv)] := by
 simp only [zbh, RB.den, zwS]
 rfl
theorem zqi {X : List Nat} {w : World} {Rr : List (World → Prop)} {h : Hn} (H : Sp X w (zad h [] m) Rr) (hm : zaB m i = some (zi6 xs e)) : Sp X w (.row (.slice (h.r i).1 xs.length (h.r i).2) e 1 xs.length (xs.map bv) :: zad h [i] m) Rr := by
 have := H.perm (zaJ h m [] i _ hm (by simp))
 rw [zhA] at this
 exact this
theorem zzN {xs' : List Nat} (hm : zaB m i = some (zi6 xs e)) (wm : wfM (lt_ k) m = true) (wr : wfR (lt_ k) R = true)
  (hop : ∀ (Q : Exit → Act → World → Prop) (h : Hn) (X : List Nat) (a : Act) (w : World), Env a N (zct h l) → Sp X w (zad h [] m) (zaO h R) → ∀ Kk : Act → World → Prop, (∀ A' c' w', Sep X (zab (.row (.slice (h.r i).1 xs.length (h.r i).2) e 1 xs.length (xs.map bv) :: zad h [i] m)) w w' (.row (.slice A' xs'.length c') e 1 xs'.length (xs'.map bv) :: zad h [i] m) (zaO h R) → Kk (a.put o.dst (.slice A' xs'.length c')) w') → o.wp P a w Kk Q) :
  zcZ P N k l m R o (.a (.s (.p (.hd k xs'.length)))) ((k, zi6 xs' e) :: (i, .gone) :: m) R := fun Q h X a w E H Kk hK => by
 have hik : i < k := zdy hm wm
 have hp1 := zaJ h m [] i _ hm (by simp)
 have H1 := zqi H hm
 refine hop Q h X a w E H Kk fun A' c' w' HS => ?_
 let h1 : Hn := ⟨h.b, fun t => if t = k then (A', c') else h.r t, h.q⟩
 have hag : AgS (lt_ k) h h1 := fun t ht => by
  have := zci ht
  exact ⟨rfl, if_neg (by omega), rfl⟩
 have er : h1.r k = (A', c') := if_pos rfl
 have e1 : zad h1 [] ((k, zi6 xs' e) :: (i, .gone) :: m) = .row (.slice A' xs'.length c') e 1 xs'.length (xs'.map bv) :: zad h [i] m := by
  rw [zam]
  show RB.den h1 k (zi6 xs' e) ++ zad h1 [k] ((i, .gone) :: m) = _
  rw [zeY (by omega) wm, zaP hag wm, zhA, er]
  rfl
 have e2 : SV.den h1 (.a (.s (.p (.hd k xs'.length)))) = .slice A' xs'.length c' := by
  show Value.slice (h1.r k).1 xs'.length (h1.r k).2 = _
  rw [er]
 have hkk : ∀ t, t ∈ zab (zad h [] m) ↔ t ∈ zab (.row (.slice (h.r i).1 xs.length (h.r i).2) e 1 xs.length (xs.map bv) :: zad h [i] m) := fun t => by
  have := (zar hp1).mem_iff (a := t)
  rw [zhA] at this
  exact this
 have hX : ∀ t ∈ zab (.row (.slice A' xs'.length c') e 1 xs'.length (xs'.map bv) :: zad h [i] m), t ∉ X := fun t ht hX => by
  rcases HS.mine t ht with h3 | h3
  ·exact H1.xap t h3 hX
  ·have := H.xlt t hX; omega
 have := hK h1 w' hag ⟨HS.frm.os, HS.frm.tape, HS.frm.output, HS.frm.size, fun t ht hn => HS.frm.block t ht fun hm' => hn ((hkk t).2 hm')⟩ (by
  rw [e1, za5 hag wr]
  exact Sp.of_sep HS hX) fun t ht => by
   rw [e1] at ht
   exact (HS.mine t ht).imp_left (hkk t).2
 rw [e2] at this
 exact this
theorem ztN {t r ny : Nat} {ys : List Nat} {s y : Operand} (hm : zaB m i = some (zi6 xs e)) (hr : R[r]? = some (.sl j ny (TxG ys))) (hny : ny = ys.length) (ho : o.op = .call { callee := .builtin .append, args := #[s, y], argTypes := #[t, t] }) (hs : evS l s = some (.a (.s (.p (.hd i xs.length))))) (hy : evS l y = some (.a (.s (.p (.hd j ny)))))
  (hT : AppK P t e 1 1) (hn : xs.length + ys.length ≤ 140737488355328) (wm : wfM (lt_ k) m = true) (wr : wfR (lt_ k) R = true) : zcZ P N k l m R o (.a (.s (.p (.hd k (xs ++ ys).length)))) ((k, zi6 (xs ++ ys) e) :: (i, .gone) :: m) R :=
 zzN hm wm wr fun Q h X a w E H Kk hK => by
  subst hny
  have hf := (zgY H hr).now
  have H1 := zqi H hm
  refine zoc (news := ys.map bv) 0 E H1.sep ho (zag hs) (zag hy) rfl hT (by omega) (by simp) (fun hA => hf.nil hA) (by have := zh4 (m := ys.length) hf; rwa [List.take_length] at this) (fun u hu => by obtain ⟨z, _, rfl⟩ := List.mem_map.1 hu; rfl) (by omega) (by omega) fun A' c' w' _ HS F => ?_
  rw [← jQ, ← List.map_append] at HS
  have := hK A' c' w' HS
  rw [jQ] at this
  exact this
theorem zEb {q : Qd} {w : World} (hl : xs.length ≤ 140737488355328) (hb : ∀ x ∈ xs, x < 256) (h : SlF ByT xs q w) : TxG xs q w := by
 obtain ⟨mm, hm⟩ := h
 refine ⟨hm.cap, hl, hb, hm.nil, fun ad hA i x hx => ?_⟩
 have := (hm.at_ ad hA i x hx).1 0 (bv x) rfl
 rwa [zax, show i * ByT.sz = i from Nat.mul_one i] at this
theorem ztO {X : List Nat} {w : World} {h : Hn} (hm : zaB m i = some (zi6 xs e)) (hl : xs.length ≤ 140737488355328) (hb : ∀ x ∈ xs, x < 256) (H : Sp X w (zad h [] m) (zaO h R)) : Sp X w (zad h [] ((i, .gone) :: m)) (zaO h (.sl i xs.length (TxG xs) :: R)) ∧ ∀ j ∈ zab (zad h [] ((i, .gone) :: m)), j ∈ zab (zad h [] m) := by
 obtain ⟨h1, h2⟩ := zkw (R := .q i (zbY ByT xs) :: R) hm (.head _) (H.know (zkx zqh h w _))
 refine ⟨h1.refacts fun r hr => ?_, h2⟩
 rcases List.mem_cons.1 hr with rfl | hr
 ·have h3 := h1.facts _ (List.mem_cons_self ..)
  exact h3.imp fun w' hw => ⟨hw.1, zEb hl hb hw.2⟩
 ·exact h1.facts _ (List.mem_cons_of_mem _ (List.mem_cons_of_mem _ hr))
theorem zit {m' : MB} {R' : List SF} (i : Nat) (hm : zaB m i = some (zi6 xs e)) (hl : xs.length ≤ 140737488355328) (hb : ∀ x ∈ xs, x < 256) (wl : wfE (lt_ k) l = true) (hs : zcZ P N k l ((i, .gone) :: m) (.sl i xs.length (TxG xs) :: R) o sv m' R') : zcZ P N k l m R o sv m' R' :=
 zeX (Nat.ble_eq_true_of_le (jV k)) (fun h X w H => ⟨h, fun _ _ => ⟨rfl, rfl, rfl⟩, ztO hm hl hb H⟩) wl hs
theorem ztP {m' m2 : MB} {R' R2 : List SF} (hs : zcZ P N k l m R o sv m' R') (hc : ∀ (h : Hn) (X : List Nat) (w : World), Sp X w (zad h [] m') (zaO h R') → Sp X w (zad h [] m2) (zaO h R2) ∧ ∀ j ∈ zab (zad h [] m2), j ∈ zab (zad h [] m')) : zcZ P N k l m R o sv m2 R2 := fun Q h X a w E H Kk hK =>
 hs Q h X a w E H Kk fun h1 w' a1 a2 a3 a4 => hK h1 w' a1 a2 (hc h1 X w' a3).1 fun j hj => a4 j ((hc h1 X w' a3).2 j hj)
theorem zrA {m' : MB} {R' : List SF} (i : Nat) (hs : zcZ P N k l m R o sv m' R') (hm : zaB m' i = some (zi6 xs e)) (hl : xs.length ≤ 140737488355328) (hb : ∀ x ∈ xs, x < 256) : zcZ P N k l m R o sv ((i, .gone) :: m') (.sl i xs.length (TxG xs) :: R') := ztP hs fun h X w H => ztO hm hl hb H
theorem zyx {t c : Nat} {x y : Operand} {z1 z2 : Int} (n : Nat) (hT : ByteT P t e) (ho : o.op = .makeSlice t x y) (hx : evS l x = some (zaG .i64 z1)) (hy : evS l y = some (zaG .i64 z2)) (h1 : z1 = (n : Int)) (h2 : z2 = (c : Int)) (hnc : n ≤ c) (hc : c ≤ 140737488355328) : zfg P N k l m R o (.a (.s (.p (.hd k n)))) [zi6 (List.replicate n 0) e] [] := fun Q h X a w E H Kk hK => by
 refine zpA E (Sep.none_ H.xk) ho hT (zag hx) (zag hy) h1 h2 hnc hc fun b w' HS F => ?_
 let h1 : Hn := ⟨h.b, fun t => if t = k then (some ⟨b, 0, none⟩, c) else h.r t, h.q⟩
 have er : h1.r k = (some ⟨b, 0, none⟩, c) := if_pos rfl
 have := hK h1 w' (fun t ht => ⟨rfl, if_neg (by simp at ht; omega), rfl⟩) F (by
  have e1 : zdu h1 k [zi6 (List.replicate n 0) e] = [.row (.slice (some ⟨b, 0, none⟩) n c) e 1 n ((List.range n).map fun _ => bv 0)] := by
   rw [zdu, zhA, er]
   simp [zdu, List.map_const']
  rw [e1]
  exact HS.rowOf hnc hc)
 rw [show SV.den h1 (.a (.s (.p (.hd k n)))) = .slice (some ⟨b, 0, none⟩) n c by show Value.slice (h1.r k).1 n (h1.r k).2 = _; rw [er]] at this
 exact this
theorem zwT {dT sT off dn dc t r : Nat} {cs cs' : List SC} {ys : List Nat} {x y : Operand} (mm : Nat) (hm : zaB m i = some (.blk cs t)) (hr : R[r]? = some (.sl j ys.length (TxG ys))) (ho : o.op = .call { callee := .builtin .copy, args := #[x, y], argTypes := #[dT, sT] }) (hx : evS l x = some (slS i off dn dc)) (hy : evS l y = some (.a (.s (.p (.hd j ys.length))))) (hT : elK P dT = some 1)
  (hmm : mm = min ys.length dn) (hfit : off + mm ≤ zeN cs) (hcl : ∀ h, cl (zay h cs') = (cl (zay h cs)).take off ++ (ys.take mm).map bv ++ (cl (zay h cs)).drop (off + mm)) : zcZ P N k l m R o (zaG .i64 (mm : Int)) ((i, .blk cs' t) :: m) R := fun Q h X a w E H Kk hK => by
 have hf := (zgY H hr).now
 have H1 : Sp X w (.blk (h.b i) (ca (zay h cs)) t :: zad h [i] m) (zaO h R) := H.numAt hm
 have hkm : ∀ j, j ∈ zab (.blk (h.b i) (ca (zay h cs)) t :: zad h [i] m) ↔ j ∈ zab (zad h [] m) := fun j => (zar (zaJ h m [] i _ hm (by simp))).mem_iff.symm
 refine zpB (news := (ys.take mm).map bv) 0 E H1.sep ho (zag hx) rfl (zag hy) hT rfl hmm (by rw [List.length_map, List.length_take]; omega) (fun hA => (hf.nil hA).1) (zh4 hf) (fun u hu => by obtain ⟨z, _, rfl⟩ := List.mem_map.1 hu; rfl) (hcl h) (by rw [zbb]; exact hfit) rfl fun w' HS F => ?_
 have e1 : zad h [] ((i, .blk cs' t) :: m) = .blk (h.b i) (ca (zay h cs')) t :: zad h [i] m := by rw [zam]; rfl
 have hX : ∀ t' ∈ zab (.blk (h.b i) (ca (zay h cs')) t :: zad h [i] m), t' ∉ X := fun t' ht' hX => H.xap t' ((hkm t').1 ht') hX
 refine hK h w' (fun _ _ => ⟨rfl, rfl, rfl⟩) ⟨F.os, F.tape, F.output, F.size, fun t' ht' hn => F.block t' ht' fun hm' => hn ?_⟩ ?_ fun t' ht' => ?_
 ·exact (hkm t').1 (List.mem_append_left _ hm')
 ·rw [e1]
  exact Sp.of_sep HS hX
 ·rw [e1] at ht'
  exact .inl ((hkm t').1 ht')
theorem zmT {t : List Nat} {lo hi n0 : Nat} (ys : List Nat) (r : Nat) (hys : ys = (t.drop lo).take (hi - lo)) (hr : R[r]? = some (.sl i n0 (TxG t))) (hlo : lo ≤ hi) (hhi : hi ≤ t.length) (hp : ∀ (h : Hn) (w : World), TxF (h.r i).1 (h.r i).2 t w → PK P zfp w (zct h l) o (zjc (h.r i).1 1 lo hi (h.r i).2)) : zfg P N k l m R o (.a (.s (.p (.hd k ys.length)))) [.gone] [.sl k ys.length (TxG ys)] := by
 have hl : ys.length = hi - lo := by rw [hys, List.length_take, List.length_drop]; omega
 rw [hl, hys]
 exact zqd r hr hlo hhi hp
theorem zzO {b t : Nat} {s y : Operand} (xs' : List Nat) (hxs : xs ++ [b] = xs') (hm : zaB m i = some (zi6 xs e)) (ho : o.op = .call { callee := .builtin .append, args := #[s, y], argTypes := #[t, t] }) (hs : evS l s = some (.a (.s (.p (.hd i xs.length))))) (hy : evS l y = some (slS j 0 1 1)) (hj : zaB m j = some (.blk [.one (.p (.v (bv b)))] e)) (hij : zaR j [i] = false) (hT : AppK P t e 1 1) (hn : xs.length + 1 ≤ 140737488355328) (wl : wfE (lt_ k) l = true) (wm : wfM (lt_ k) m = true) (wr : wfR (lt_ k) R = true) : zcZ P N k l m R o (.a (.s (.p (.hd k xs'.length)))) ((k, zi6 xs' e) :: (i, .gone) :: m) R := by
 subst hxs
 have := zqb (N := N) (T := ByT) (x := b) (by_ := 1) zqh hm ho hs rfl hy hj hij (fun _ => rfl) hT (by omega) (by omega) wl wm wr
 rw [jQ]
 exact this
theorem zCv {b ty : Nat} {xop y : Operand} (xs' : List Nat) (hxs : xs.set j b = xs') (hT : zbu P Tb) (hm : zaB m i = some (zi6 xs e)) (hj : j < xs.length) (ho : o.op = .store ty xop y) (hx : evS l xop = some (hpS i j 1 0)) (hy : evS l y = some (zi4 (bv b))) (hs : szT Tb ty = some (1, false)) : zcZ P N k l m R o (zek undef) ((i, zi6 xs' e) :: m) R := by
 subst hxs
 exact zmP (T := ByT) (new := [.one (.p (.v (bv b)))]) b hT hm (jP hj) ho hx (by rw [hy]; rfl) hs rfl (fun _ => ⟨rfl, trivial⟩) fun _ _ => rfl
theorem zwU {dT sT off dn dc t tj n : Nat} {cs cs' cj : List SC} {ys : List Nat} {x y : Operand} (hm : zaB m i = some (.blk cs t)) (hmj : zaB m j = some (.blk cj tj)) (hcj : ∀ h, cl (zay h cj) = ys.map bv) (ho : o.op = .call { callee := .builtin .copy, args := #[x, y], argTypes := #[dT, sT] }) (hx : evS l x = some (slS i off dn dc)) (hy : evS l y = some (slS j 0 n n)) (hn : n = ys.length) (hT : elK P dT = some 1)
  (hfit : n ≤ dn) (hfit2 : off + n ≤ zeN cs) (hcl : ∀ h, cl (zay h cs') = (cl (zay h cs)).take off ++ ys.map bv ++ (cl (zay h cs)).drop (off + n)) : zcZ P N k l m R o (zaG .i64 (n : Int)) ((i, .blk cs' t) :: m) R := fun Q h X a w E H Kk hK => by
 subst hn
 have hat : AtC ⟨h.b j, 0, none⟩ (zay h cj) w := zeg (zch H hmj)
 have H1 : Sp X w (.blk (h.b i) (ca (zay h cs)) t :: zad h [i] m) (zaO h R) := H.numAt hm
 have hkm : ∀ j, j ∈ zab (.blk (h.b i) (ca (zay h cs)) t :: zad h [i] m) ↔ j ∈ zab (zad h [] m) := fun j => (zar (zaJ h m [] i _ hm (by simp))).mem_iff.symm
 refine zpB (news := ys.map bv) (A := some ⟨h.b j, 0, none⟩) 0 E H1.sep ho (zag hx) rfl (zag hy) hT rfl (m := ys.length) (by omega) (by simp) (fun hA => by cases hA) (fun ad hA t u hu => by
  obtain rfl := Option.some.inj hA
  exact hat t u (by rw [hcj]; exact hu)) (fun u hu => by obtain ⟨z, _, rfl⟩ := List.mem_map.1 hu; rfl) (hcl h) (by rw [zbb]; exact hfit2) rfl fun w' HS F => ?_
 have e1 : zad h [] ((i, .blk cs' t) :: m) = .blk (h.b i) (ca (zay h cs')) t :: zad h [i] m := by rw [zam]; rfl
 have hX : ∀ t' ∈ zab (.blk (h.b i) (ca (zay h cs')) t :: zad h [i] m), t' ∉ X := fun t' ht' hX => H.xap t' ((hkm t').1 ht') hX
 refine hK h w' (fun _ _ => ⟨rfl, rfl, rfl⟩) ⟨F.os, F.tape, F.output, F.size, fun t' ht' hn => F.block t' ht' fun hm' => hn ?_⟩ ?_ fun t' ht' => ?_
 ·exact (hkm t').1 (List.mem_append_left _ hm')
 ·rw [e1]
  exact Sp.of_sep HS hX
 ·rw [e1] at ht'
  exact .inl ((hkm t').1 ht')
theorem zwV {dT sT off dn dc t tj n : Nat} {kk : List Nat} {cj : List SC} {ys : List Nat} {x y : Operand} (kk' : List Nat) (hkk : kk ++ ys = kk') (hm : zaB m i = some (.blk [.key kk] t)) (hmj : zaB m j = some (.blk cj tj)) (hcj : ∀ h, cl (zay h cj) = ys.map bv) (ho : o.op = .call { callee := .builtin .copy, args := #[x, y], argTypes := #[dT, sT] }) (hx : evS l x = some (slS i off dn dc)) (hy : evS l y = some (slS j 0 n n)) (hn : n = ys.length) (hoff : off = kk.length) (hT : elK P dT = some 1) (hfit : n ≤ dn) (hfit2 : off + n ≤ 32) : zcZ P N k l m R o (zaG .i64 (n : Int)) ((i, .blk [.key kk'] t) :: m) R := by
 subst hkk hoff
 exact zwU hm hmj hcj ho hx hy hn hT hfit hfit2 fun h => by
  rw [hn]
  simp only [zay, SC.den, cl, Chunk.cells, List.append_nil]
  exact zwp (by rw [← hn]; exact hfit2)
theorem zCw {t M lo : Nat} {x y : Operand} {z : Int} (ho : o.op = .slice t x (some y) none none) (ht : arK P t = some (M, 1)) (hx : evS l x = some (atS i 0)) (hy : evS l y = some (zaG .i64 z)) (hz : z = (lo : Int)) (hlo : lo < M) : ∀ (h : Hn) (w : World), PK P zfp w (zct h l) o ((slS i lo (M - lo) (M - lo)).den h) := fun h w => by
 have := zwn (S := zfp) (ws := w) ho ht (zag (h := h) hx) (zag hy) hz hlo
 rw [Nat.mul_one, zh9, Nat.zero_add] at this
 exact this
end
end
section
open Go.RowKit
section
variable {P : Program} {Tb : Tab} {N k k0 ix : Nat} {l : LE} {m : MB} {R : List SF} {o : Oper} {sv : SV} {K : KS}
variable {α : Type} {T : Ty α} [D : Dec T] {xs ys : List α} {i j n0 n e : Nat}
theorem zCx : Inj ByT := fun _ _ _ _ => rfl
theorem zEc {xs : List Nat} {q : Qd} {w : World} (h : TxG xs q w) : SlF ByT xs q w := by
 have h : TxF q.1 q.2 xs w := h
 refine ⟨fun _ => (), h.cap, by have := h.len; omega, h.nil, fun ad hA i x hx => ⟨fun j u hu => ?_, trivial⟩⟩
 cases j with
 | zero =>
  have : u = bv x := by simpa [ByT, cl, Chunk.cells] using hu.symm
  rw [this, zax, show i * ByT.sz = i from Nat.mul_one i]
  exact h.at_ ad hA i x hx
 | succ j => simp [ByT, cl, Chunk.cells] at hu
theorem zyy {xs : List Nat} {q : Qd} {w : World} {Y : List Nat} (h : St (TxQ xs q) w Y) : St (SlQ ByT xs q) w Y := h.imp fun w' hw => ⟨hw.1, zEc hw.2⟩
theorem ze0 {q : Qd} {t u : TypeId} {x y : Operand} (r : Nat) (hr : R[r]? = some (.h i fun q' _ => q' = q)) (ho : o.op = .binOp .eql t x y u) (hx : evS l x = some (.a (.s (.p (.hd i n))))) (hy : evS l y = some (zi4 (.slice none 0 0))) (ht : zvW P t = true) : zfU P N l m R o (zaH q.1.isNone) := fun h X a w E H => by
 have hq : h.r i = q := (H.facts _ (zaS.2 ⟨_, List.mem_of_getElem? hr, rfl⟩)).now
 have := zwj (P := P) (S := zfp) (ws := w) (A := (h.r i).1) (n := n) (c := (h.r i).2) ho (zag (h := h) hx) (zag hy) ht w (CanB.Keep.refl _ _) a N E
 rw [hq] at this
 exact this
theorem ze1 {t : Nat} (ho : o.op = .buildSlice t 0 #[]) (hu : P.underlying t = some (.slice e)) (hs : zcY P e = some T.sz) : zfg P N k l m R o (.a (.s (.p (.hd k 0)))) [zbh T [] e] [] := fun Q h X a w E H Kk hK => by
 refine zoa (Sep.none_ H.xk) ho hu hs fun b w' HS F => ?_
 let h1 : Hn := ⟨h.b, fun t => if t = k then (some ⟨b, 0, none⟩, 0) else h.r t, h.q⟩
 have er : h1.r k = (some ⟨b, 0, none⟩, 0) := if_pos rfl
 have := hK h1 w' (fun t ht => ⟨rfl, if_neg (by simp at ht; omega), rfl⟩) F (by
  have e1 : zdu h1 k [zbh T [] e] = [.row (.slice (some ⟨b, 0, none⟩) 0 0) e T.sz 0 []] := by
   simp only [zdu, zbh, RB.den, er]
   rfl
  rw [e1]
  exact HS)
 rw [show SV.den h1 (.a (.s (.p (.hd k 0)))) = .slice (some ⟨b, 0, none⟩) 0 0 by show Value.slice (h1.r k).1 0 (h1.r k).2 = _; rw [er]] at this
 exact this
theorem ztQ {g g' : Nat → List Qd} {mm : Nat → T.μ} (h1 : ∀ t, t < xs.length → g' t = g t) (h2 : ∀ t, t < ys.length → g' (xs.length + t) = Dec.enc (mm t)) : itQ T (xs ++ ys) g' = itQ T xs g ++ zaE T ys mm := by
 refine List.ext_getElem? fun t => ?_
 unfold itQ
 rw [zbW]
 by_cases ht : t < xs.length
 ·rw [List.getElem?_append_left ht, List.getElem?_append_left (by rw [zbj]; exact ht), zbW, h1 t ht]
 ·rw [List.getElem?_append_right (by omega), List.getElem?_append_right (by rw [zbj]; omega), zbj, zbW]
  by_cases hy : t - xs.length < ys.length
  ·have := h2 (t - xs.length) hy
   rw [show xs.length + (t - xs.length) = t by omega] at this
   rw [this, D.de]
  ·rw [List.getElem?_eq_none (by omega)]
   rfl
theorem zgz {t by_ r : Nat} {s y : Operand} (hI : Inj T) (hm : zaB m i = some (zbh T xs e)) (hrr : R[r]? = some (.sl j ys.length (SlF T ys))) (ho : o.op = .call { callee := .builtin .append, args := #[s, y], argTypes := #[t, t] }) (hs : evS l s = some (.a (.s (.p (.hd i xs.length))))) (hy : evS l y = some (.a (.s (.p (.hd j ys.length)))))
  (hT : AppK P t e T.sz by_) (hn : xs.length + ys.length ≤ 9223372036854775807) (hby : (xs.length + ys.length) * by_ ≤ 140737488355328) (wm : wfM (lt_ k) m = true) (wr : wfR (lt_ k) R = true) (hr : .q i (zbY T xs) ∈ R) : zcZ P N k l m R o (.a (.s (.p (.hd k (xs ++ ys).length)))) ((k, zbh T (xs ++ ys) e) :: (i, .gone) :: m) (.q k (zbY T (xs ++ ys)) :: R) := fun Q h X a w E H Kk hK => by
 have hik : i < k := zdy hm wm
 have hp1 := zaJ h m [] i _ hm (by simp)
 have hSl : St (SlQ T ys (h.r j)) w (X ++ zab (zad h [] m)) := H.facts _ (zaS.2 ⟨_, List.mem_of_getElem? hrr, rfl⟩)
 obtain ⟨mm, hmm⟩ := zry hI hSl
 have H1 : Sp X w (.row (.slice (h.r i).1 xs.length (h.r i).2) e T.sz (itQ T xs (h.q i)).length (zbI T (itQ T xs (h.q i))) :: zad h [i] m) (LiF T (h.r j).1 (h.r j).2 ys mm :: zaO h R) := by
  rw [zbD]
  exact (H.know hmm).perm hp1
 refine zpx (T := T) 0 E H1.sep hmm ho (zag hs) (zag hy) rfl hT (by rw [zbD]; exact hn) (by rw [zbD]; exact hby) fun A' c' w' hc HS hF => ?_
 let h1 : Hn := ⟨h.b, fun t => if t = k then (A', c') else h.r t, fun t => if t = k then (fun u => if u < xs.length then h.q i u else Dec.enc (mm (u - xs.length))) else h.q t⟩
 have hag : AgS (lt_ k) h h1 := fun t ht => by
  have := zci ht
  exact ⟨rfl, if_neg (by omega), if_neg (by omega)⟩
 have er : h1.r k = (A', c') := if_pos rfl
 have eq : h1.q k = fun u => if u < xs.length then h.q i u else Dec.enc (mm (u - xs.length)) := if_pos rfl
 have eits : itQ T xs (h.q i) ++ zaE T ys mm = itQ T (xs ++ ys) (h1.q k) := by
  rw [ztQ (g := h.q i) (mm := mm) (fun t ht => by rw [eq]; exact if_pos ht) fun t ht => by
   rw [eq]
   show (if xs.length + t < xs.length then h.q i (xs.length + t) else Dec.enc (mm (xs.length + t - xs.length))) = _
   rw [if_neg (by omega), Nat.add_sub_cancel_left]]
 have e1 : zad h1 [] ((k, zbh T (xs ++ ys) e) :: (i, .gone) :: m) = .row (.slice A' (itQ T (xs ++ ys) (h1.q k)).length c') e T.sz (itQ T (xs ++ ys) (h1.q k)).length (zbI T (itQ T (xs ++ ys) (h1.q k))) :: zad h [i] m := by
  rw [zam]
  show RB.den h1 k (zbh T (xs ++ ys) e) ++ zad h1 [k] ((i, .gone) :: m) = _
  rw [zeY (by omega) wm, zaP hag wm, zbD]
  simp only [zbh, RB.den, er]
  rfl
 have e2 : (a.put o.dst (.slice A' (itQ T xs (h.q i) ++ zaE T ys mm).length c')) = a.put o.dst (SV.den h1 (.a (.s (.p (.hd k (xs ++ ys).length))))) := by
  show _ = a.put o.dst (.slice (h1.r k).1 (xs ++ ys).length (h1.r k).2)
  rw [er, eits, zbD]
 rw [e2]
 have hkk : ∀ t, t ∈ zab (zad h [] m) ↔ t ∈ zab (.row (.slice (h.r i).1 xs.length (h.r i).2) e T.sz (itQ T xs (h.q i)).length (zbI T (itQ T xs (h.q i))) :: zad h [i] m) := fun t => (zar hp1).mem_iff
 have HS2 : Sep X (zab (zad h [] m)) w w' (zad h1 [] ((k, zbh T (xs ++ ys) e) :: (i, .gone) :: m)) (LiF T (h.r j).1 (h.r j).2 ys mm :: zaO h R) := by
  rw [e1]
  rw [eits] at HS
  exact ⟨⟨HS.frm.os, HS.frm.tape, HS.frm.output, HS.frm.size, fun t ht hn => HS.frm.block t ht fun hm' => hn ((hkk t).2 hm')⟩, HS.xlt, HS.holds, HS.apart, fun t ht => (HS.mine t ht).imp_left (hkk t).2, HS.facts⟩
 have hqR : ∀ r ∈ R, St (r.den h) w' (X ++ zab (zad h1 [] ((k, zbh T (xs ++ ys) e) :: (i, .gone) :: m))) := fun r hr => HS2.facts _ (List.mem_cons_of_mem _ (zaw.2 ⟨r, hr, rfl⟩))
 have hX : ∀ t ∈ zab (zad h1 [] ((k, zbh T (xs ++ ys) e) :: (i, .gone) :: m)), t ∉ X := fun t ht hX => by
  rcases HS2.mine t ht with h3 | h3
  ·exact H.xap t h3 hX
  ·have := H.xlt t hX; omega
 refine hK h1 w' hag HS2.frm ?_ (fun t ht => HS2.mine t ht)
 refine (Sp.of_sep HS2 hX).refacts fun r hr' => ?_
 obtain ⟨q, hq', rfl⟩ := zaw.1 hr'
 rcases List.mem_cons.1 hq' with rfl | hq'
 ·show St (zbY T (xs ++ ys) (h1.q k)) w' _
  unfold zbY
  rw [← eits]
  exact zpy (hqR _ hr) (zjv (HS2.facts _ (List.mem_cons_self ..)))
 ·rw [SF.same hag (zck wr _ hq')]
  exact hqR _ hq'
theorem zky : Inj zaA := fun x a b h => by
 simp only [zaA, cl, Chunk.cells, List.append_nil, List.cons.injEq, Value.slice.injEq, and_true, true_and] at h
 exact Prod.ext h.1 h.2
theorem zCy {xs : List (List Nat)} {x : List Nat} {n0 ty : Nat} {xop : Operand} (r : Nat) (hj : xs[j]? = some x) (hr : R[r]? = some (.sl i n0 (SlF zaA xs))) (ho : o.op = .load ty xop) (hx : evS l xop = some (hpS i j 1 0)) (ht : tyK P ty = some (1, false)) : zfg P N k l m R o (.a (.s (.p (.hd k x.length)))) [.gone] [.sl k x.length (TxG x)] :=
 zfu zky (sub := [.one (.p (.hd k x.length))]) r (fun μ => [μ]) 1 hj hr ho hx ht (.inr ⟨_, rfl, rfl, rfl, rfl⟩) (fun μ h hh => by
  have e : h.r k = μ := hh 0 (by omega)
  show some [Chunk.one (.slice μ.1 x.length μ.2)] = some [Chunk.one (.slice (h.r k).1 x.length (h.r k).2)]
  rw [e]) fun μ h w Y hh hn r hr => by
  have e : h.r k = μ := hh 0 (by omega)
  rcases List.mem_singleton.1 hr with rfl
  show St (fun w => ((h.r k).1 = none → x.length = 0) ∧ TxG x (h.r k) w) w Y
  rw [e]
  exact zp2 hn
end
end
section
open Go.RowKit
instance : Dec zaA := ⟨fun l => qs l 0, fun m => [m], fun _ => rfl⟩
def qT (ql : List Qd) : Nat → zaA.μ := qs ql
def zdz : List (List Nat) → List Qd → List Chunk
 | x :: xs, q :: ql => .one (.slice q.1 x.length q.2) :: zdz xs ql
 | _, _ => []
theorem zmU : ∀ {xs : List (List Nat)} {ql : List Qd} {t : Nat} {x : List Nat}, xs.length = ql.length → xs[t]? = some x → (cl (zdz xs ql))[t]? = some (.slice (qs ql t).1 x.length (qs ql t).2)
 | [], _, t, x, _, h => by simp at h
 | y :: xs, [], _, _, hl, _ => by simp at hl
 | y :: xs, q :: ql, 0, x, hl, h => by
  rw [jD] at h
  obtain rfl := Option.some.inj h
  rfl
 | y :: xs, q :: ql, t + 1, x, hl, h => by
  rw [jE] at h
  have := zmU (ql := ql) (by simpa using hl) h
  simpa [zdz, cl, Chunk.cells, qs] using this
theorem zjE : ∀ {xs : List (List Nat)} {ql : List Qd}, xs.length = ql.length → cl (zdz xs ql) = zbI zaA (zaE zaA xs (qT ql))
 | [], ql, _ => by cases ql <;> rfl
 | x :: xs, [], hl => by simp at hl
 | x :: xs, q :: ql, hl => by
  have h := zjE (xs := xs) (ql := ql) (by simpa using hl)
  have e : zaE zaA (x :: xs) (qT (q :: ql)) = (x, q) :: zaE zaA xs (qT ql) := by
   simp only [zaE, List.mapIdx_cons]
   rfl
  rw [e, zdz, cl, h]
  rfl
theorem zzP {ad : Addr} {xs : List (List Nat)} {ql : List Qd} {w : World} (hl : xs.length = ql.length) (hb : xs.length ≤ 9223372036854775807) (hat : AtC ad (zdz xs ql) w) (hn : ∀ t x, xs[t]? = some x → TxF (qs ql t).1 (qs ql t).2 x w) : LiF zaA (some ad) xs.length xs (qT ql) w :=
 ⟨jV _, hb, fun e => (by cases e), fun ad' e t x hx => by
  obtain rfl := Option.some.inj e
  refine ⟨fun j u hu => ?_, hn t x hx⟩
  cases j with
  | zero =>
   have : u = .slice (qs ql t).1 x.length (qs ql t).2 := by
    have h3 : u = .slice (qT ql t).1 x.length (qT ql t).2 := by simpa [zaA, cl, Chunk.cells] using hu.symm
    exact h3
   rw [this, zax, show t * zaA.sz = t from Nat.mul_one t]
   exact hat t _ (zmU hl hx)
  | succ j => simp [zaA, cl, Chunk.cells] at hu⟩
theorem zd5 {ad : Addr} {xs : List (List Nat)} {ql : List Qd} {w : World} {Y : List Nat} (hl : xs.length = ql.length) (hb : xs.length ≤ 9223372036854775807) (hat : St (AtC ad (zdz xs ql)) w Y) (hn : ∀ t x, xs[t]? = some x → St (TxF (qs ql t).1 (qs ql t).2 x) w Y) : St (SlQ zaA xs (some ad, xs.length)) w Y := fun w' hk =>
 ⟨fun e => (by cases e), qT ql, zzP hl hb (hat w' hk) fun t x hx => hn t x hx w' hk⟩
section
variable {P : Program} {Tb : Tab} {N k k0 ix : Nat} {l : LE} {m : MB} {R : List SF} {o : Oper} {sv : SV} {K : KS} {rs : List RB}
variable {xs ys : List (List Nat)} {i j n0 n e : Nat}
theorem zwW {t by_ r : Nat} {s y : Operand} {cs : List SC} (ql : Hn → List Qd) (hm : zaB m j = some (.blk cs e)) (hcs : ∀ h, zay h cs = zdz xs (ql h)) (hql : ∀ h, xs.length = (ql h).length) (hnest : ∀ (h : Hn) (X : List Nat) (w : World), Sp X w (zad h [] m) (zaO h R) → ∀ t x, xs[t]? = some x → St (TxF (qs (ql h) t).1 (qs (ql h) t).2 x) w (X ++ zab (zad h [] m)))
  (hrr : R[r]? = some (.sl i ys.length (SlF zaA ys))) (ho : o.op = .call { callee := .builtin .append, args := #[s, y], argTypes := #[t, t] }) (hs : evS l s = some (slS j 0 n0 n0)) (hn0 : n0 = xs.length) (hy : evS l y = some (.a (.s (.p (.hd i ys.length)))))
  (hT : AppK P t e 1 by_) (hn : xs.length + ys.length ≤ 140737488355328) (hby : (xs.length + ys.length) * by_ ≤ 140737488355328) (wm : wfM (lt_ k) m = true) (wr : wfR (lt_ k) R = true) : zcZ P N k l m R o (.a (.s (.p (.hd k (xs ++ ys).length)))) ((k, zbh zaA (xs ++ ys) e) :: (j, .gone) :: m) (.q k (zbY zaA (xs ++ ys)) :: R) := fun Q h X a w E H Kk hK => by
 subst hn0
 have hjk : j < k := zdy hm wm
 have hp1 := zaJ h m [] j _ hm (by simp)
 have hSl : St (SlQ zaA ys (h.r i)) w (X ++ zab (zad h [] m)) := H.facts _ (zaS.2 ⟨_, List.mem_of_getElem? hrr, rfl⟩)
 obtain ⟨mm, hmm⟩ := zry zky hSl
 have hN : St (zfN zaA (zaE zaA xs (qT (ql h)))) w (X ++ zab (zad h [] m)) := fun w' hk p hp => by
  obtain ⟨t, ht⟩ := List.mem_iff_getElem?.1 hp
  rw [zbW] at ht
  obtain ⟨x, hx, rfl⟩ := Option.map_eq_some_iff.1 ht
  exact hnest h X w H t x hx w' hk
 have hcl : cl (zay h cs) = zbI zaA (zaE zaA xs (qT (ql h))) := by rw [hcs, zjE (hql h)]
 have H1 : Sp X w (.row (.slice (some ⟨h.b j, 0, none⟩) xs.length xs.length) e zaA.sz (zaE zaA xs (qT (ql h))).length (zbI zaA (zaE zaA xs (qT (ql h)))) :: zad h [j] m) (LiF zaA (h.r i).1 (h.r i).2 ys mm :: zfN zaA (zaE zaA xs (qT (ql h))) :: zaO h R) := by
  have h2 := ((H.know hN).know (r := LiF zaA (h.r i).1 (h.r i).2 ys mm) hmm).perm hp1
  have h3 : Sp X w (.blk (h.b j) (ca (zay h cs)) e :: zad h [j] m) (LiF zaA (h.r i).1 (h.r i).2 ys mm :: zfN zaA (zaE zaA xs (qT (ql h))) :: zaO h R) := h2
  have e0 : ca (zay h cs) = ca [.row xs.length fun t => ((zbI zaA (zaE zaA xs (qT (ql h))))[t]?).getD (.bool false)] := by
   refine zpJ ?_
   rw [hcl]
   refine List.ext_getElem? fun t => ?_
   by_cases ht : t < xs.length
   ·have hlt : t < (zbI zaA (zaE zaA xs (qT (ql h)))).length := by rw [zdt, zbj]; simpa [zaA] using ht
    simp [ht, jP hlt]
   ·rw [List.getElem?_eq_none (by rw [zdt, zbj]; simpa [zaA] using ht), List.getElem?_eq_none (by simpa using ht)]
  rw [e0] at h3
  have h4 := Sep.rowOf (n := xs.length) h3.sep (jV _) (by omega)
  have e1 : ((List.range xs.length).map fun t => ((zbI zaA (zaE zaA xs (qT (ql h))))[t]?).getD (.bool false)) = zbI zaA (zaE zaA xs (qT (ql h))) := by
   refine List.ext_getElem? fun t => ?_
   by_cases ht : t < xs.length
   ·have hlt : t < (zbI zaA (zaE zaA xs (qT (ql h)))).length := by rw [zdt, zbj]; simpa [zaA] using ht
    simp [ht, jP hlt]
   ·rw [List.getElem?_eq_none (by simpa using ht), List.getElem?_eq_none (by rw [zdt, zbj]; simpa [zaA] using ht)]
  rw [e1] at h4
  rw [zbj]
  refine Sp.of_sep h4 fun t ht hX => h3.xap t ?_ hX
  simpa [zab, Res.keys, Value.ownBlock] using ht
 refine zpx (T := zaA) 0 E H1.sep hmm ho (zag hs) (zag hy) rfl hT (by rw [zbj]; omega) (by rw [zbj]; exact hby) fun A' c' w' hc HS hF => ?_
 let h1 : Hn := ⟨h.b, fun t => if t = k then (A', c') else h.r t, fun t => if t = k then (fun u => if u < xs.length then [qs (ql h) u] else ([mm (u - xs.length)] : List Qd)) else h.q t⟩
 have hag : AgS (lt_ k) h h1 := fun t ht => by
  have := zci ht
  exact ⟨rfl, if_neg (by omega), if_neg (by omega)⟩
 have er : h1.r k = (A', c') := if_pos rfl
 have eq : h1.q k = fun u => if u < xs.length then [qs (ql h) u] else ([mm (u - xs.length)] : List Qd) := if_pos rfl
 have eits : zaE zaA xs (qT (ql h)) ++ zaE zaA ys mm = itQ zaA (xs ++ ys) (h1.q k) := by
  rw [ztQ (g := fun u => [qs (ql h) u]) (mm := mm) (fun t ht => by rw [eq]; exact if_pos ht) fun t ht => by
   rw [eq]
   have h5 : (if xs.length + t < xs.length then [qs (ql h) (xs.length + t)] else ([mm (xs.length + t - xs.length)] : List Qd)) = [mm t] := by
    rw [if_neg (by omega), Nat.add_sub_cancel_left]
    try rfl
   exact h5]
  rfl
 have e1 : zad h1 [] ((k, zbh zaA (xs ++ ys) e) :: (j, .gone) :: m) = .row (.slice A' (itQ zaA (xs ++ ys) (h1.q k)).length c') e zaA.sz (itQ zaA (xs ++ ys) (h1.q k)).length (zbI zaA (itQ zaA (xs ++ ys) (h1.q k))) :: zad h [j] m := by
  rw [zam]
  show RB.den h1 k (zbh zaA (xs ++ ys) e) ++ zad h1 [k] ((j, .gone) :: m) = _
  rw [zeY (by omega) wm, zaP hag wm, zbD]
  simp only [zbh, RB.den, er]
  rfl
 have e2 : (a.put o.dst (.slice A' (zaE zaA xs (qT (ql h)) ++ zaE zaA ys mm).length c')) = a.put o.dst (SV.den h1 (.a (.s (.p (.hd k (xs ++ ys).length))))) := by
  show _ = a.put o.dst (.slice (h1.r k).1 (xs ++ ys).length (h1.r k).2)
  rw [er, eits, zbD]
 rw [e2]
 have hkk : ∀ t, t ∈ zab (zad h [] m) ↔ t ∈ zab (.row (.slice (some ⟨h.b j, 0, none⟩) xs.length xs.length) e zaA.sz (zaE zaA xs (qT (ql h))).length (zbI zaA (zaE zaA xs (qT (ql h)))) :: zad h [j] m) := fun t => by
  have := (zar hp1).mem_iff (a := t)
  simpa [zab, RB.den, Res.keys, Value.ownBlock] using this
 have HS2 : Sep X (zab (zad h [] m)) w w' (zad h1 [] ((k, zbh zaA (xs ++ ys) e) :: (j, .gone) :: m)) (LiF zaA (h.r i).1 (h.r i).2 ys mm :: zfN zaA (zaE zaA xs (qT (ql h))) :: zaO h R) := by
  rw [e1]
  rw [eits] at HS
  exact ⟨⟨HS.frm.os, HS.frm.tape, HS.frm.output, HS.frm.size, fun t ht hn => HS.frm.block t ht fun hm' => hn ((hkk t).2 hm')⟩, HS.xlt, HS.holds, HS.apart, fun t ht => (HS.mine t ht).imp_left (hkk t).2, HS.facts⟩
 have hX : ∀ t ∈ zab (zad h1 [] ((k, zbh zaA (xs ++ ys) e) :: (j, .gone) :: m)), t ∉ X := fun t ht hX => by
  rcases HS2.mine t ht with h3 | h3
  ·exact H.xap t h3 hX
  ·have := H.xlt t hX; omega
 refine hK h1 w' hag HS2.frm ?_ (fun t ht => HS2.mine t ht)
 refine (Sp.of_sep HS2 hX).refacts fun r hr' => ?_
 obtain ⟨q, hq', rfl⟩ := zaw.1 hr'
 rcases List.mem_cons.1 hq' with rfl | hq'
 ·show St (zbY zaA (xs ++ ys) (h1.q k)) w' _
  unfold zbY
  rw [← eits]
  exact zpy (HS2.facts _ (List.mem_cons_of_mem _ (List.mem_cons_self ..))) (zjv (HS2.facts _ (List.mem_cons_self ..)))
 ·rw [SF.same hag (zck wr _ hq')]
  exact HS2.facts _ (List.mem_cons_of_mem _ (List.mem_cons_of_mem _ (zaw.2 ⟨_, hq', rfl⟩)))
theorem zmV {R2 : List SF} (is : List Nat) (hz : zyr is m R = some R2) (ht : zfg P N k l (zzG is m) R2 o sv rs []) : zfg P N k l m R o sv rs [] := fun Q h X a w E H Kk hK =>
 ht Q h X a w E (zhz hz H).1 Kk fun h1 w' h2 h3 h4 => hK h1 w' h2 h3 ⟨h4.frm, H.xk, h4.holds, h4.apart, h4.mine, fun _ hr => by cases hr⟩
theorem ziu {α : Type} {T : Ty α} [Dec T] {zs : List α} {m' : MB} {R' : List SF} (i : Nat) (hm : zaB m i = some (zbh T zs e)) (hr : .q i (zbY T zs) ∈ R) (wl : wfE (lt_ k) l = true) (hs : zcZ P N k l ((i, .gone) :: m) (.sl i zs.length (SlF T zs) :: R) o sv m' R') : zcZ P N k l m R o sv m' R' :=
 zeX (Nat.ble_eq_true_of_le (jV k)) (fun h X w H => ⟨h, fun _ _ => ⟨rfl, rfl, rfl⟩, zkw hm hr H⟩) wl hs
theorem zCz {t : Nat} {x y : Operand} {z1 z2 : Int} (n : Nat) (hT : ByteT P t e) (ho : o.op = .makeSlice t x y) (hx : evS l x = some (zaG .i64 z1)) (hy : evS l y = some (zaG .i64 z2)) (h1 : z1 = (n : Int)) (h2 : z2 = (n : Int)) (hn : n ≤ 140737488355328) : zfg P N k l m R o (slS k 0 n n) [.blk [.row n fun _ => bv 0] e] [] := fun Q h X a w E H Kk hK => by
 refine zpA E (Sep.none_ H.xk) ho hT (zag hx) (zag hy) h1 h2 (jV _) hn fun b w' HS F => ?_
 let h1 : Hn := ⟨fun t => if t = k then b else h.b t, h.r, h.q⟩
 have er : h1.b k = b := if_pos rfl
 have := hK h1 w' (fun t ht => ⟨if_neg (by simp at ht; omega), rfl, rfl⟩) F (by
  have e1 : zdu h1 k [.blk [.row n fun _ => bv 0] e] = [.blk b (ca [.row n fun _ => bv 0]) e] := by
   simp only [zdu, RB.den, er]
   rfl
  rw [e1]
  exact HS)
 rw [show SV.den h1 (slS k 0 n n) = .slice (some ⟨b, 0, none⟩) n n by show Value.slice (some ⟨h1.b k, 0, none⟩) n n = _; rw [er]] at this
 exact this
theorem zwX {X G : List Nat} {w0 : World} {Rr : Ending → World → Prop} {t : Nat} {kk : List Nat} {sv' : SV} {m' : MB} (i : Nat) (hm : zaB m i = some (.blk [.key kk] t)) (hk32 : kk.length = 32) (hkb : ∀ x ∈ kk, x < 256) (he : ∀ h : Hn, h.r k = (some ⟨h.b i, 0, none⟩, 32) → sv'.den h = sv.den h ∧ zad h [] m' = zad h [] ((i, .gone) :: m)) (hw : (bif sv'.wf (lt_ (k + 1)) then wfM (lt_ (k + 1)) m' else false) = true)
  (hk : RetOk X G w0 Rr (k + 1) sv' m' (.sl k 32 (TxG kk) :: R)) : RetOk X G w0 Rr k sv m R := ⟨fun h w ws wm wr H hX => by
 have hi : lt_ k i = true := Nat.ble_eq_true_of_le (zdy hm wm)
 obtain ⟨h1, h2⟩ := zkv hm (Sp.of_sep H hX)
 let h3 : Hn := ⟨h.b, fun t => if t = k then (some ⟨h.b i, 0, none⟩, 32) else h.r t, h.q⟩
 have er : h3.r k = (some ⟨h3.b i, 0, none⟩, 32) := if_pos rfl
 have hag : AgS (lt_ k) h h3 := fun j hj => ⟨rfl, if_neg (by have := zci hj; omega), rfl⟩
 obtain ⟨e1, e2⟩ := he h3 er
 have hw2 := zaa hw
 have wg : wfM (lt_ k) ((i, .gone) :: m) = true := zau hi (zau rfl wm)
 rw [← SV.same hag ws, ← e1]
 have e3 : zad h3 [] m' = zad h [] ((i, .gone) :: m) := by rw [e2, zaP hag wg]
 refine hk.ok h3 w hw2.1 hw2.2 (zau (Nat.ble_eq_true_of_le (jV _)) (zcE (zdc (Nat.le_succ k)) wr)) ?_ fun j hj => hX j (h2 j (by rw [← e3]; exact hj))
 rw [e3]
 refine ⟨H.frm, H.xlt, h1.holds, h1.apart, fun j hj => H.mine j (h2 j hj), fun r hr => ?_⟩
 rcases List.mem_cons.1 hr with rfl | hr
 ·have hb := h1.facts _ (List.mem_cons_self ..)
  have ht : St (TxF (some ⟨h.b i, 0, none⟩) 32 kk) w (X ++ zab (zad h [] ((i, .gone) :: m))) := zh5 hb (by rw [show zay h [.key kk] = [.key kk] from rfl, zjx, zh6 hk32]) (by omega) (by omega) hkb
  refine ht.imp fun w' hw' => ?_
  show ((h3.r k).1 = none → 32 = 0) ∧ TxG kk (h3.r k) w'
  rw [er]
  exact ⟨fun e => (by cases e), hw'⟩
 ·rw [za5 hag wr] at hr
  exact h1.facts _ (List.mem_cons_of_mem _ hr)⟩
theorem ztR {R2 : List SF} : ∀ {is : List Nat} {m : MB} {R : List SF}, zyr is m R = some R2 → wfM (lt_ k) m = true → wfR (lt_ k) R = true → wfM (lt_ k) (zzG is m) = true ∧ wfR (lt_ k) R2 = true
 | [], m, R, e, h1, h2 => by obtain rfl := Option.some.inj e; exact ⟨h1, h2⟩
 | i :: is, m, R, e, h1, h2 => by
  unfold zyr at e
  split at e
  ·rename_i cs t hm
   have hi : lt_ k i = true := Nat.ble_eq_true_of_le (zdy hm h1)
   have := ztR (is := is) e (zau hi (zau rfl h1)) (zau (zau hi (zth h1 hm).2) h2)
   exact this
  ·cases e
theorem zwY {X G : List Nat} {w0 : World} {Rr : Ending → World → Prop} {R2 : List SF} (is : List Nat) (hz : zyr is m R = some R2) (hk : RetOk X G w0 Rr k sv (zzG is m) R2) : RetOk X G w0 Rr k sv m R := ⟨fun h w ws wm wr H hX => by
 obtain ⟨h1, h2⟩ := zhz hz (Sp.of_sep H hX)
 obtain ⟨w1, w2⟩ := ztR hz wm wr
 exact hk.ok h w ws w1 w2 ⟨H.frm, H.xlt, h1.holds, h1.apart, fun j hj => H.mine j (h2 j hj), h1.facts⟩ fun j hj => hX j (h2 j hj)⟩
theorem ztS {t : List Nat} {n : Nat} {x xh xm : Operand} {ty : Nat} {z z2 : Int} (ys : List Nat) (r : Nat) (hys : ys = t.take n) (hr : R[r]? = some (.sl i n0 (TxG t))) (hn : n ≤ t.length) (ho : o.op = .slice ty x none (some xh) (some xm)) (ht : elK P ty = some 1) (hx : evS l x = some (.a (.s (.p (.hd i n0))))) (hh : evS l xh = some (zaG .i64 z)) (hm : evS l xm = some (zaG .i64 z2)) (hz : z = (n : Int)) (hz2 : z2 = (n : Int)) : zfg P N k l m R o (.a (.s (.p (.hd k n)))) [.gone] [.sl k n (TxG ys)] := fun Q h X a w E H Kk hK => by
 have hf := zgY H hr
 have hcap := hf.now.cap
 let q : Qd := (if n = 0 then (h.r i).1 else (h.r i).1.map (·.add (0 * 1)), n - 0)
 have hq : zjc (h.r i).1 1 0 n n = .slice q.1 (n - 0) q.2 := rfl
 have hh' : ev (zct h l) xh = some (.int .i64 z) := zag hh
 have hm' : ev (zct h l) xm = some (.int .i64 z2) := zag hm
 have hrun := zsO (P := P) (S := zfp) (ws := w) (A := (h.r i).1) (c := (h.r i).2) (lo := 0) (hi := n) (mx := n) ho ht (zag (h := h) hx) (fun a N w E => by
  unfold Instr.sliceBounds
  simp [E.ev hh', E.ev hm', zes hz (jV n), zes hz2 (show n ≤ (h.r i).2 by omega), Sem.run_bind]) w (CanB.Keep.refl _ _) a N E
 let h1 : Hn := ⟨h.b, fun t => if t = k then q else h.r t, h.q⟩
 have er : h1.r k = q := if_pos rfl
 have hl : ys.length = n := by rw [hys, List.length_take]; omega
 unfold Oper.wp
 rw [hrun, hq]
 have := hK h1 w (fun t ht => ⟨rfl, if_neg (by simp at ht; omega), rfl⟩) (Frm.refl _ _) (by
  show Sep (X ++ zab (zad h [] m)) [] w w [] (zaO h1 [_])
  refine (Sep.none_ H.xk).refacts fun r hr => ?_
  rcases List.mem_singleton.1 hr with rfl
  rw [show (X ++ zab (zad h [] m)) ++ zab ([] : List Res) = X ++ zab (zad h [] m) by simp [zab]]
  intro w' hk
  have h' := hf w' hk
  show ((h1.r k).1 = none → n = 0) ∧ TxF (h1.r k).1 (h1.r k).2 ys w'
  rw [er]
  have hA0 : q.1 = none → n = 0 := fun e => by
   by_cases h0 : n = 0
   ·exact h0
   ·have e : (h.r i).1.map (·.add (0 * 1)) = none := by simpa [q, h0] using e
    have := h'.nil (Option.map_eq_none_iff.1 e)
    omega
  refine ⟨hA0, by show ys.length ≤ n - 0; omega, by have := h'.len; omega, fun x hx => h'.byt x (by rw [hys] at hx; exact List.mem_of_mem_take hx), fun e => ⟨by rw [hl]; exact hA0 e, by show n - 0 = 0; rw [hA0 e]⟩, fun ad hA i' x hx => ?_⟩
  have hi' := (List.getElem?_eq_some_iff.1 hx).1
  have h0 : n ≠ 0 := by omega
  rw [hys, List.getElem?_take_of_lt (by omega)] at hx
  cases hAA : (h.r i).1 with
  | none => have := (h'.nil hAA).1; omega
  | some ad0 =>
   have e : q.1 = some (ad0.add (0 * 1)) := by simp [q, h0, hAA]
   rw [e] at hA
   obtain rfl := Option.some.inj hA
   rw [Nat.zero_mul, zax]
   exact h'.at_ ad0 hAA _ x hx)
 rw [show SV.den h1 (.a (.s (.p (.hd k n)))) = .slice q.1 (n - 0) q.2 by show Value.slice (h1.r k).1 n (h1.r k).2 = _; rw [er]; rfl] at this
 exact this
theorem zzQ {b : Nat} (hb : Nat.ble k b = true) : zDK k (.sl b 0 (TxG [])) := fun h w Y hn => by
 show St (fun w => ((h.r b).1 = none → 0 = 0) ∧ TxG [] (h.r b) w) w Y
 rw [hn b (Nat.le_of_ble_eq_true hb)]
 exact zot
end
end
end Go.Proofs.YtcmmpiaogfnmoaaGreatDoor
