/- Trees' shapes (layer 9 and on), walked by computing. Walks by computing: calls that are given what is owned. No program is in sight. Walks by computing: rows of one's own. No program is in sight. Walks by computing: functions that are given what is owned. No program is in sight. Walks by computing: texts that are read. No program is in sight. The lists of a tree's nodes. Trees with points: their nodes, their sums. Walks by computing: rows of bytes of one's own. No program is in sight. Walks by computing: lists behind own rows; nil. No program is in sight. Walks by computing: lists of texts in  -/
import Derived.Test.YtcmmpiaogfnmoaaGreatDoorStateChainsC
set_option linter.unusedSimpArgs false
set_option linter.unusedVariables false
set_option maxRecDepth 200000
set_option maxHeartbeats 6000000
namespace Go.Proofs.YtcmmpiaogfnmoaaGreatDoor
section
open Go.RowKit
def zw5 (n : Int) : Bool := decide (n < 2) || decide (n > 3)
def zjG {α : Type} (p : α → Bool) (xs : List α) : Int := if xs.any p then (xs.findIdx p : Int) else -1
section
variable {α : Type} {p : α → Bool} {xs : List α} {i : Nat}
theorem zA5 {xs : List Int} (h : ∀ x ∈ xs, 0 ≤ x ∧ x ≤ 3) : 0 ≤ xs.sum ∧ xs.sum ≤ 3 * xs.length := by
 induction xs with
 | nil => simp
 | cons x xs ih =>
  have h1 := h x (List.mem_cons_self ..)
  have h2 := ih fun y hy => h y (List.mem_cons_of_mem _ hy)
  rw [List.sum_cons, List.length_cons]
  omega
theorem zyk {xs : List Int} (h : xs.any zw5 = false) : ∀ x ∈ xs, 0 ≤ x ∧ x ≤ 3 := fun x hx => by
 have := List.any_eq_false.1 h x hx
 simp [zw5] at this
 omega
theorem zfF (h : ∀ y ∈ xs, p y = false) : zjG p xs = -1 := by
 unfold zjG
 rw [if_neg]
 intro ha
 obtain ⟨y, hy, hp⟩ := List.any_eq_true.1 ha
 rw [h y hy] at hp
 cases hp
theorem zjH : decide (zjG p xs ≥ 0) = xs.any p := by
 unfold zjG
 cases h : xs.any p <;> simp
theorem zhR (hi : i < xs.length) (h : ∀ y ∈ xs.take i, p y = false) (hp : p xs[i] = true) : zjG p xs = i := by
 unfold zjG
 rw [if_pos (List.any_eq_true.2 ⟨xs[i], List.getElem_mem hi, hp⟩)]
 congr 1
 refine (List.findIdx_eq hi).2 ⟨hp, fun j hj => ?_⟩
 exact h _ (List.mem_take_iff_getElem.2 ⟨j, by omega, rfl⟩)
theorem zfG (hi : i < xs.length) (h : ∀ y ∈ xs.take i, p y = false) (hp : p xs[i] = false) : ∀ y ∈ xs.take (i + 1), p y = false := fun y hy => by
 rw [List.take_succ_eq_append_getElem hi] at hy
 rcases List.mem_append.1 hy with h1 | h1
 ·exact h y h1
 ·rw [List.mem_singleton.1 h1]; exact hp
end
section
variable {X : List Nat} {w : World}
theorem zA6 (hX : ∀ k ∈ X, k < w.heap.size) (n : Int) : Ct Tryz.prog 192 [.int .i64 n] X w (zbu (zw5 n)) [] [] := by
 refine vFn (k0 := 0) (rs := [.tmp 2]) (svs := [zaH .i64 n]) (R0 := []) (hnQ []) Tryz.ntmps192 Tryz.func192 rfl rfl rfl rfl rfl zaw (by kernel_rfl) hX (fun _ h => by cases h) ?_
 conv => whnf
 refine vIf (fun h => ?_) fun h => ?_
 ·conv => whnf
  refine zaF ?_
  simp [zw5, h]; rfl
 ·conv => whnf
  refine vIf (fun h2 => ?_) fun h2 => ?_
  ·conv => whnf
   refine zaF ?_
   simp [zw5, h, h2]; rfl
  ·conv => whnf
   refine zaF ?_
   simp [zw5, h, h2]; rfl
theorem zvk (hX : ∀ k ∈ X, k < w.heap.size) (xs : List Int) (x : Int) (q : Qd) (hq : St (SlQ zaS xs q) w X) : Ct Tryz.prog 194 [.slice q.1 xs.length q.2, .int .i64 x] X w (zaH .i64 (zjG (· == x) xs)) [] [] := by
 have hbig := SlQ.big hq
 refine vFn (k0 := 1) (rs := [.tmp 4]) (svs := [.a (.s (.p (.hd 0 xs.length))), zaH .i64 x]) (R0 := [.sl 0 xs.length (SlF zaS xs)]) (hnQ [q]) Tryz.ntmps194 Tryz.func194 rfl rfl rfl rfl rfl zaw (by kernel_rfl) hX (fun r hr => by rcases List.mem_singleton.1 hr with rfl; exact hq) ?_
 conv => whnf
 refine ⟨Nat, fun k l m R i => ⟨k, (8, zaH .i64 i) :: zbV [0, 1, 7] l, m, R⟩, fun i => i ≤ xs.length ∧ ∀ y ∈ xs.take i, (y == x) = false, fun i => xs.length - i, ⟨0, [], [0], ⟨by omega, by simp⟩, zbW⟩, fun i hφ => ?_⟩
 conv => whnf
 refine vIf (fun h => ?_) fun h => ?_
 ·have hi : i < xs.length := by simpa [Sl.len] using h
  conv => whnf
  refine ⟨i, ⟨rfl, hi, hi⟩, ?_⟩
  conv => whnf
  refine zbE (zbr (T := zaS) (sv := zaH .i64 xs[i]) 0 (jP hi) (fun _ => rfl) rfl rfl rfl (by kernel_rfl) (fun _ => .inr ⟨rfl, rfl, rfl⟩)) rfl rfl ?_
  conv => whnf
  refine vIf (fun he => ?_) fun he => ?_
  ·conv => whnf
   refine zaF ?_
   rw [zhR hi hφ.2 (by simpa using Eq.symm (by simpa using he))]; rfl
  ·conv => whnf
   refine zd6 (by omega) (by omega) ?_
   conv => whnf
   exact ⟨i + 1, [], [0], ⟨⟨by omega, zfG hi hφ.2 (by simp only [beq_eq_false_iff_ne] at he ⊢; exact Ne.symm he)⟩, Nat.sub_lt_sub_left hi (Nat.lt_succ_self i)⟩, zbW⟩
 ·have hi : i = xs.length := by
   have : ¬ i < xs.length := by simpa [Sl.len] using h
   omega
  conv => whnf
  refine zaF ?_
  rw [zfF (by rw [← List.take_length (l := xs), ← hi]; exact hφ.2)]; rfl
theorem znu (hX : ∀ k ∈ X, k < w.heap.size) (xs : List Int) (x : Int) (q : Qd) (hq : St (SlQ zaS xs q) w X) : Ct Tryz.prog 173 [.slice q.1 xs.length q.2, .int .i64 x] X w (zbu (xs.any (· == x))) [] [] := by
 refine vFn (k0 := 1) (rs := [.tmp 4]) (svs := [.a (.s (.p (.hd 0 xs.length))), zaH .i64 x]) (R0 := [.sl 0 xs.length (SlF zaS xs)]) (hnQ [q]) Tryz.ntmps173 Tryz.func173 rfl rfl rfl rfl rfl zaw (by kernel_rfl) hX (fun r hr => by rcases List.mem_singleton.1 hr with rfl; exact hq) ?_
 conv => whnf
 refine zak rfl rfl rfl (by kernel_rfl) (fun h X w H => zvk H.xk xs x _ (H.fact 0 rfl)) rfl rfl rfl ?_
 conv => whnf
 refine vIf (fun he => ?_) fun he => ?_
 all_goals
  conv => whnf
  refine zaF ?_
  rw [← zjH, he]; rfl
theorem zkW (hX : ∀ k ∈ X, k < w.heap.size) (xs : List Int) (q : Qd) (hq : St (SlQ zaS xs q) w X) {g : FuncId} (hg : fnB Tryz.prog g = true) (p : Int → Bool) (hp : ∀ y ∈ xs, ∀ (X : List Nat) (w : World), (∀ k ∈ X, k < w.heap.size) → Ct Tryz.prog g [.int .i64 y] X w (zbu (p y)) [] []) :
  Ct Tryz.prog 197 [.slice q.1 xs.length q.2, .func (.func g) #[] #[]] X w (zaH .i64 (zjG p xs)) [] [] := by
 have hbig := SlQ.big hq
 refine vFn (k0 := 1) (rs := [.tmp 4]) (svs := [.a (.s (.p (.hd 0 xs.length))), .a (.s (.p (.v (.func (.func g) #[] #[]))))]) (R0 := [.sl 0 xs.length (SlF zaS xs)]) (hnQ [q]) Tryz.ntmps197 Tryz.func197 rfl rfl rfl rfl rfl zaw (by kernel_rfl) hX (fun r hr => by rcases List.mem_singleton.1 hr with rfl; exact hq) ?_
 conv => whnf
 refine ⟨Nat, fun k l m R i => ⟨k, (8, zaH .i64 i) :: zbV [0, 1, 7] l, m, R⟩, fun i => i ≤ xs.length ∧ ∀ y ∈ xs.take i, p y = false, fun i => xs.length - i, ⟨0, [], [0], ⟨by omega, by simp⟩, zbW⟩, fun i hφ => ?_⟩
 conv => whnf
 refine vIf (fun h => ?_) fun h => ?_
 ·have hi : i < xs.length := by simpa [Sl.len] using h
  conv => whnf
  refine ⟨i, ⟨rfl, hi, hi⟩, ?_⟩
  conv => whnf
  refine zbE (zbr (T := zaS) (sv := zaH .i64 xs[i]) 0 (jP hi) (fun _ => rfl) rfl rfl rfl (by kernel_rfl) (fun _ => .inr ⟨rfl, rfl, rfl⟩)) rfl rfl ?_
  conv => whnf
  refine zjF rfl rfl rfl hg (fun h X w H => hp _ (List.getElem_mem hi) _ _ H.xk) rfl rfl (fun he => ?_) fun he => ?_
  ·conv => whnf
   refine zaF ?_
   rw [zhR hi hφ.2 he]; rfl
  ·conv => whnf
   refine zd6 (by omega) (by omega) ?_
   conv => whnf
   exact ⟨i + 1, [], [0], ⟨⟨by omega, zfG hi hφ.2 he⟩, Nat.sub_lt_sub_left hi (Nat.lt_succ_self i)⟩, zbW⟩
 ·have hi : i = xs.length := by
   have : ¬ i < xs.length := by simpa [Sl.len] using h
   omega
  conv => whnf
  refine zaF ?_
  rw [zfF (by rw [← List.take_length (l := xs), ← hi]; exact hφ.2)]; rfl
theorem zd8 (hX : ∀ k ∈ X, k < w.heap.size) (xs : List Int) (q : Qd) (hq : St (SlQ zaS xs q) w X) {g : FuncId} (hg : fnB Tryz.prog g = true) (p : Int → Bool) (hp : ∀ y ∈ xs, ∀ (X : List Nat) (w : World), (∀ k ∈ X, k < w.heap.size) → Ct Tryz.prog g [.int .i64 y] X w (zbu (p y)) [] []) :
  Ct Tryz.prog 191 [.slice q.1 xs.length q.2, .func (.func g) #[] #[]] X w (zbu (xs.any p)) [] [] := by
 refine vFn (k0 := 1) (rs := [.tmp 4]) (svs := [.a (.s (.p (.hd 0 xs.length))), .a (.s (.p (.v (.func (.func g) #[] #[]))))]) (R0 := [.sl 0 xs.length (SlF zaS xs)]) (hnQ [q]) Tryz.ntmps191 Tryz.func191 rfl rfl rfl rfl rfl zaw (by kernel_rfl) hX (fun r hr => by rcases List.mem_singleton.1 hr with rfl; exact hq) ?_
 conv => whnf
 refine zak rfl rfl rfl (by kernel_rfl) (fun h X w H => zkW H.xk xs _ (H.fact 0 rfl) hg p hp) rfl rfl rfl ?_
 conv => whnf
 refine vIf (fun he => ?_) fun he => ?_
 all_goals
  conv => whnf
  refine zaF ?_
  rw [← zjH, he]; rfl
theorem zA7 (hX : ∀ k ∈ X, k < w.heap.size) (xs : List Int) (q : Qd) (hq : St (SlQ zaS xs q) w X) (h3 : ∀ x ∈ xs, 0 ≤ x ∧ x ≤ 3) (hl : xs.length ≤ 1099511627776) : Ct Tryz.prog 193 [.slice q.1 xs.length q.2] X w (zaH .i64 xs.sum) [] [] := by
 refine vFn (k0 := 1) (rs := [.tmp 2]) (svs := [.a (.s (.p (.hd 0 xs.length)))]) (R0 := [.sl 0 xs.length (SlF zaS xs)]) (hnQ [q]) Tryz.ntmps193 Tryz.func193 rfl rfl rfl rfl rfl zaw (by kernel_rfl) hX (fun r hr => by rcases List.mem_singleton.1 hr with rfl; exact hq) ?_
 conv => whnf
 refine ⟨Nat, fun k l m R i => ⟨k, (7, zaH .i64 i) :: (2, zaH .i64 (xs.take i).sum) :: zbV [5, 6] l, m, R⟩, fun i => i ≤ xs.length, fun i => xs.length - i, ⟨0, [], [0], by omega, zbW⟩, fun i hφ => ?_⟩
 have hs := zA5 (fun x hx => h3 x (List.mem_of_mem_take hx)) (xs := xs.take i)
 rw [List.length_take] at hs
 conv => whnf
 refine vIf (fun h => ?_) fun h => ?_
 ·have hi : i < xs.length := by simpa [Sl.len] using h
  have hx := h3 _ (List.getElem_mem hi)
  conv => whnf
  refine ⟨i, ⟨rfl, hi, hi⟩, ?_⟩
  conv => whnf
  refine zbE (zbr (T := zaS) (sv := zaH .i64 xs[i]) 0 (jP hi) (fun _ => rfl) rfl rfl rfl (by kernel_rfl) (fun _ => .inr ⟨rfl, rfl, rfl⟩)) rfl rfl ?_
  conv => whnf
  refine zc6 (z' := (xs.take (i + 1)).sum) (by rw [List.take_succ_eq_append_getElem hi, List.sum_append, List.sum_singleton]) (by omega) (by omega) ?_
  conv => whnf
  refine zd6 (by omega) (by omega) ?_
  conv => whnf
  exact ⟨i + 1, [], [0], ⟨by omega, Nat.sub_lt_sub_left hi (Nat.lt_succ_self i)⟩, zbW⟩
 ·have hi : i = xs.length := by
   have : ¬ i < xs.length := by simpa [Sl.len] using h
   omega
  conv => whnf
  refine zaF ?_
  rw [hi, List.take_length]; rfl
def zw6 (n : Int) : Bool := decide (n < 0) || decide (n > 1048576)
theorem zA8 (hX : ∀ k ∈ X, k < w.heap.size) (n : Int) : Ct Tryz.prog 190 [.int .i64 n] X w (zbu (zw6 n)) [] [] := by
 refine vFn (k0 := 0) (rs := [.tmp 2]) (svs := [zaH .i64 n]) (R0 := []) (hnQ []) Tryz.ntmps190 Tryz.func190 rfl rfl rfl rfl rfl zaw (by kernel_rfl) hX (fun _ h => by cases h) ?_
 conv => whnf
 refine vIf (fun h => ?_) fun h => ?_
 ·conv => whnf
  refine zaF ?_
  simp [zw6, h]; rfl
 ·conv => whnf
  refine vIf (fun h2 => ?_) fun h2 => ?_
  all_goals
   conv => whnf
   refine zaF ?_
   simp [zw6, h, h2]; rfl
def zd9 : Nat → List (List Int) → Bool
 | many, [] => decide (many ≤ 1)
 | many, l :: ls => !decide (many < 2) && !l.any zw5 && decide (l.sum = many) && zd9 l.length ls
def ziV (ids : List Int) : Bool := (List.range ids.length).all fun i => !(decide (0 < i) && decide (ids.getD (i - 1) 0 ≥ ids.getD i 0))
def zdw (ids : List Int) (ls : List (List Int)) : Bool := decide (ids.length ≤ 1000) && !ids.any zw6 && ziV ids && zd9 ids.length ls
theorem zkX (hX : ∀ k ∈ X, k < w.heap.size) (ids : List Int) (ls : List (List Int)) (q p : Qd) (hq : St (SlQ zaS ids q) w X) (hp : St (SlQ (zfY zaS) ls p) w X) (hlen : ∀ l ∈ ls, l.length ≤ 1099511627776) :
  Ct Tryz.prog 172 [.agg (ca [.one (.slice q.1 ids.length q.2), .one (.slice p.1 ls.length p.2)])] X w (zaH .i64 (if zdw ids ls then 0 else 1)) [] [] := by
 have hbig := SlQ.big hq
 have hbig2 := SlQ.big hp
 refine vFn (k0 := 2) (rs := [.tmp 2]) (svs := [.a (.agg [.one (.p (.hd 0 ids.length)), .one (.p (.hd 1 ls.length))])]) (R0 := [.sl 0 ids.length (SlF zaS ids), .sl 1 ls.length (SlF (zfY zaS) ls)]) (hnQ [q, p]) Tryz.ntmps172 Tryz.func172 rfl rfl rfl rfl rfl zaw (by kernel_rfl) hX (fun r hr => by rcases List.mem_cons.1 hr with rfl | hr; exact hq; rcases List.mem_singleton.1 hr with rfl; exact hp) ?_
 conv => whnf
 refine vIf (fun h1 => ?_) fun h1 => ?_
 ·conv => whnf
  refine zaF ?_
  have : ¬ ids.length ≤ 1000 := by simp [Sl.len] at h1; omega
  simp [zdw, this]; rfl
 have h1 : ids.length ≤ 1000 := by simp [Sl.len] at h1; omega
 conv => whnf
 refine zjF rfl rfl rfl (by kernel_rfl) (fun h X w H => zd8 H.xk ids _ (H.fact 0 rfl) (by kernel_rfl) zw6 fun y _ X w hX => zA8 hX y) rfl rfl (fun h2 => ?_) fun h2 => ?_
 ·conv => whnf
  refine zaF ?_
  simp [zdw, h2]; rfl
 conv => whnf
 refine ⟨Nat, fun k l m R i => ⟨k, (21, zaH .i64 i) :: zbV [1, 20] l, m, R⟩, fun i => i ≤ ids.length ∧ ∀ j, j < i → (decide (0 < j) && decide (ids.getD (j - 1) 0 ≥ ids.getD j 0)) = false, fun i => ids.length - i, ⟨0, [], [0, 1], ⟨by omega, fun j hj => by omega⟩, zbW⟩, fun i hφ => ?_⟩
 conv => whnf
 refine vIf (fun h => ?_) fun h => ?_
 ·have hi : i < ids.length := by simpa [Sl.len] using h
  conv => whnf
  refine zbd 14 [] (by kernel_rfl) ?_
  conv => whnf
  refine vIf (fun h0 => ?_) fun h0 => ?_
  ·have h0 : 0 < i := by simpa using h0
   have e1 : ids.getD (i - 1) 0 = ids[i - 1] := by rw [jR, jP (by omega)]; rfl
   have e2 : ids.getD i 0 = ids[i] := by rw [jR, jP hi]; rfl
   conv => whnf
   refine zd6 (by omega) (by omega) ?_
   conv => whnf
   refine ⟨i - 1, ⟨by omega, by omega, by omega⟩, ?_⟩
   conv => whnf
   refine zd7 (zbr (T := zaS) (sv := zaH .i64 ids[i - 1]) 0 (jP (by omega)) (fun _ => rfl) rfl rfl rfl (by kernel_rfl) (fun _ => .inr ⟨rfl, rfl, rfl⟩)) ?_
   conv => whnf
   refine ⟨i, ⟨rfl, hi, hi⟩, ?_⟩
   conv => whnf
   refine zd7 (zbr (T := zaS) (sv := zaH .i64 ids[i]) 0 (jP hi) (fun _ => rfl) rfl rfl rfl (by kernel_rfl) (fun _ => .inr ⟨rfl, rfl, rfl⟩)) ?_
   conv => whnf
   refine vIf (fun hc => ?_) fun hc => ?_
   ·conv => whnf
    refine zaF ?_
    have : ziV ids = false := by
     unfold ziV
     rw [List.all_eq_false]
     exact ⟨i, List.mem_range.2 hi, by rw [e1, e2]; simpa [h0] using hc⟩
    simp [zdw, this]; rfl
   ·conv => whnf
    refine zd6 (by omega) (by omega) ?_
    conv => whnf
    refine ⟨i + 1, [], [0, 1], ⟨⟨by omega, fun j hj => ?_⟩, Nat.sub_lt_sub_left hi (Nat.lt_succ_self i)⟩, zbW⟩
    by_cases e : j = i
    ·subst e
     rw [e1, e2, hc, Bool.and_false]
    ·exact hφ.2 j (by omega)
  ·have h0 : ¬ 0 < i := by simpa using h0
   conv => whnf
   refine zd6 (by omega) (by omega) ?_
   conv => whnf
   refine ⟨i + 1, [], [0, 1], ⟨⟨by omega, fun j hj => ?_⟩, Nat.sub_lt_sub_left hi (Nat.lt_succ_self i)⟩, zbW⟩
   by_cases e : j = i
   ·subst e
    simp [h0]
   ·exact hφ.2 j (by omega)
 have hi : i = ids.length := by
   have : ¬ i < ids.length := by simpa [Sl.len] using h
   omega
 have hrise : ziV ids = true := by
  unfold ziV
  rw [List.all_eq_true]
  intro j hj
  rw [hφ.2 j (by have := List.mem_range.1 hj; omega)]
  rfl
 conv => whnf
 refine ⟨Nat × Nat, fun k l m R g => ⟨k, (47, zaH .i64 g.1) :: (5, zaH .i64 g.2) :: zbV [45, 46] l, m, R⟩, fun g => g.1 ≤ ls.length ∧ g.2 ≤ 9223372036854775807 ∧ zd9 ids.length ls = zd9 g.2 (ls.drop g.1), fun g => ls.length - g.1, ⟨(0, ids.length), [], [0, 1], ⟨by simp, by omega, rfl⟩, zbW⟩, fun ⟨i, many⟩ ⟨hi1, hmany, hs⟩ => ?_⟩
 conv => whnf
 refine vIf (fun h => ?_) fun h => ?_
 ·have hj : i < ls.length := by simpa [Sl.len] using h
  obtain ⟨x, hx⟩ : ∃ x, ls[i]? = some x := ⟨_, jP hj⟩
  have hl := hlen x (List.mem_of_getElem? hx)
  rw [List.drop_eq_getElem_cons hj, (List.getElem?_eq_some_iff.1 hx).2, zd9] at hs
  have hbad : zd9 ids.length ls = false → (if zdw ids ls then (0 : Int) else 1) = 1 := fun hb => by simp [zdw, hb]
  conv => whnf
  refine ⟨i, ⟨rfl, hj, hj⟩, ?_⟩
  conv => whnf
  refine zeT (zw4 (T := zaS) 1 hx rfl rfl rfl (by kernel_rfl)) rfl rfl ?_
  conv => whnf
  refine vIf (fun h3 => ?_) fun h3 => ?_
  ·conv => whnf
   refine zaF ?_
   have : decide (many < 2) = true := by simp at h3 ⊢; omega
   rw [hbad (by rw [hs, this]; rfl)]; rfl
  have h3' : decide (many < 2) = false := by simp at h3 ⊢; omega
  conv => whnf
  refine zjF rfl rfl rfl (by kernel_rfl) (fun h X w H => zd8 H.xk x _ (H.fact 0 rfl) (by kernel_rfl) zw5 fun y _ X w hX => zA6 hX y) rfl rfl (fun h4 => ?_) fun h4 => ?_
  ·conv => whnf
   refine zaF ?_
   rw [hbad (by rw [hs, h4]; simp)]; rfl
  conv => whnf
  refine zak rfl rfl rfl (by kernel_rfl) (fun h X w H => zA7 H.xk x _ (H.fact 0 rfl) (zyk h4) hl) rfl rfl rfl ?_
  conv => whnf
  refine vIf (fun h5 => ?_) fun h5 => ?_
  ·conv => whnf
   refine zaF ?_
   rw [hbad (by
     rw [hs]; have : decide (x.sum = many) = false := by simpa using h5
     rw [this]; simp)]; rfl
  have h5 : decide (x.sum = many) = true := by simpa using h5
  conv => whnf
  refine zd6 (by omega) (by omega) ?_
  conv => whnf
  exact ⟨(i + 1, x.length), [], [1, 2], ⟨⟨hj, by omega, by rw [hs, h3', h4, h5]; rfl⟩, Nat.sub_lt_sub_left hj (Nat.lt_succ_self i)⟩, zbW⟩
 ·have hi : i = ls.length := by
   have : ¬ i < ls.length := by simpa [Sl.len] using h
   omega
  rw [hi, List.drop_length, zd9] at hs
  have hok : zdw ids ls = decide (many ≤ 1) := by simp [zdw, h1, h2, hrise, hs]
  conv => whnf
  refine vIf (fun h3 => ?_) fun h3 => ?_
  all_goals
   conv => whnf
   refine zaF ?_
  ·have : decide (many ≤ 1) = false := by simp at h3 ⊢; omega
   rw [hok, this]; rfl
  ·have : decide (many ≤ 1) = true := by simp at h3 ⊢; omega
   rw [hok, this]; rfl
def zdW (ids : List Int) (id : Int) : Nat := (ids.filter fun x => decide (x < id)).length
theorem zsn {ids : List Int} {id : Int} {i : Nat} (hi : i < ids.length) : zdW (ids.take (i + 1)) id = zdW (ids.take i) id + if ids[i] < id then 1 else 0 := by
 unfold zdW
 rw [List.take_succ_eq_append_getElem hi, List.filter_append, jQ]
 by_cases h : ids[i] < id <;> simp [List.filter_cons, h]
theorem zym {ids : List Int} {id : Int} : zdW ids id ≤ ids.length := List.length_filter_le _ _
theorem zvm (hX : ∀ k ∈ X, k < w.heap.size) (ids : List Int) (ls : Value) (hls : ls.oneCell' = true) (id : Int) (q : Qd) (hq : St (SlQ zaS ids q) w X) :
  Ct Tryz.prog 146 [.agg (ca [.one (.slice q.1 ids.length q.2), .one ls]), .int .i64 id] X w (.tup [.s (.p (.v (.int .i64 (zdW ids id : Nat)))), .s (.p (.v (.bool (ids.any (· == id)))))]) [] [] := by
 have hbig := SlQ.big hq
 refine vFn (k0 := 1) (rs := [.tmp 4, .tmp 5]) (svs := [.a (.agg [.one (.p (.hd 0 ids.length)), .one (.p (.v ls))]), zaH .i64 id]) (R0 := [.sl 0 ids.length (SlF zaS ids)]) (hnQ [q]) Tryz.ntmps146 Tryz.func146 rfl rfl rfl rfl rfl zaw (by kernel_rfl) hX (fun r hr => by rcases List.mem_singleton.1 hr with rfl; exact hq) ?_
 conv => whnf
 refine ⟨Nat, fun k l m R i => ⟨k, (11, zaH .i64 i) :: (4, zaH .i64 (zdW (ids.take i) id)) :: zbV [1, 2, 9, 10] l, m, R⟩, fun i => i ≤ ids.length, fun i => ids.length - i, ⟨0, [], [0], Nat.zero_le _, zbW⟩, fun i hi => ?_⟩
 conv => whnf
 refine vIf (fun h => ?_) fun h => ?_
 ·have hj : i < ids.length := by simpa [Sl.len] using h
  have hs := zsn (id := id) hj
  have hr := zym (ids := ids.take i) (id := id)
  rw [List.length_take] at hr
  conv => whnf
  refine .inl ?_
  conv => whnf
  refine ⟨i, ⟨rfl, hj, hj⟩, ?_⟩
  conv => whnf
  refine zbE (zbr (T := zaS) (sv := zaH .i64 ids[i]) 0 (jP hj) (fun _ => rfl) rfl rfl rfl (by kernel_rfl) (fun _ => .inr ⟨rfl, rfl, rfl⟩)) rfl rfl ?_
  conv => whnf
  refine vIf (fun h2 => ?_) fun h2 => ?_
  ·have h2 : ids[i] < id := by simpa using h2
   conv => whnf
   rw [if_pos h2] at hs
   have hm : min i ids.length = i := Nat.min_eq_left hi
   refine zc6 (z' := (zdW (ids.take (i + 1)) id : Nat)) (by rw [hs]; rfl) (by omega) (by omega) ?_
   conv => whnf
   refine zd6 (by omega) (by omega) ?_
   conv => whnf
   exact ⟨i + 1, [], [0], ⟨hj, Nat.sub_lt_sub_left hj (Nat.lt_succ_self i)⟩, zbW⟩
  ·have h2 : ¬ ids[i] < id := by simpa using h2
   rw [if_neg h2] at hs
   rw [show zdW (ids.take i) id = zdW (ids.take (i + 1)) id from hs.symm]
   conv => whnf
   refine zd6 (by omega) (by omega) ?_
   conv => whnf
   exact ⟨i + 1, [], [0], ⟨hj, Nat.sub_lt_sub_left hj (Nat.lt_succ_self i)⟩, zbW⟩
 have hi : i = ids.length := by
   have : ¬ i < ids.length := by simpa [Sl.len] using h
   omega
 rw [hi, List.take_length]
 conv => whnf
 refine zak rfl rfl rfl (by kernel_rfl) (fun h X w H => znu H.xk ids id _ (H.fact 0 rfl)) rfl rfl rfl ?_
 conv => whnf
 refine zaF ?_
 rfl
end
end
section
open Go.RowKit
def CtG (P : Program) (f : FuncId) (args : List Value) (X : List Nat) (w : World) (h0 : Hn) (given : MB) (kb : List Nat) (sv : SV) (m1 : MB) (R1 : List SF) : Prop :=
 Calls P f args.toArray w fun e w' => ∃ h : Hn, AgS (fun i => zaM i kb) h0 h ∧ e = .returned (sv.den h) ∧ Sep X (zab (zad h0 [] given)) w w' (zad h [] m1) (zaN h R1)
def ziL : List Nat → Nat → Nat
 | [], _ => 0
 | i :: _, 0 => i
 | _ :: l, j + 1 => ziL l j
def thN (ns : List Nat) (g k j : Nat) : Nat := bif Nat.ble (j + 1) g then ziL ns j else k + (j - g)
def zAx (f : Nat → Nat) : MB → MB → MB
 | [], m => m
 | (i, q) :: m1, m => (f i, q.ren f) :: zAx f m1 m
def znv : List Nat → MB → MB
 | [], m => m
 | i :: ns, m => (i, .gone) :: znv ns m
def zCS (f : Nat → Nat) (m : MB) : List Nat → MB → Prop
 | _, [] => True
 | s, (i, q) :: m' => (bif zaM (f i) s then False else zaB m (f i) = some (q.ren f)) ∧ zCS f m (f i :: s) m'
section
variable {h : Hn} {f : Nat → Nat} {m : MB}
theorem zo4 : ∀ {m' : MB} {s : List Nat} {sc : List Nat}, zCS f m s m' → (∀ j, zaM j sc = true → zaM (f j) s = true) → ∃ s', (zad h s m).Perm (zad (h.ren f) sc m' ++ zad h s' m) ∧ ∀ j, j ∈ s' ↔ j ∈ s ∨ ∃ p ∈ m', f p.1 = j
 | [], s, sc, _, _ => ⟨s, List.Perm.refl _, fun j => by simp⟩
 | (i, q) :: m', s, sc, hs, hsc => by
  cases hb : zaM (f i) s with
  | true => have := hs.1; rw [hb] at this; exact this.elim
  | false =>
   have hl : zaB m (f i) = some (q.ren f) := by have := hs.1; rw [hb] at this; exact this
   have hi : zaM i sc = false := by
    cases hq : zaM i sc with
    | false => rfl
    | true => rw [hsc i hq] at hb; cases hb
   obtain ⟨s', h1, h2⟩ := zo4 (m' := m') (sc := i :: sc) hs.2 fun j hj => by
    rcases List.mem_cons.1 (zaq.1 hj) with rfl | hj
    ·exact zaq.2 (List.mem_cons_self ..)
    ·exact zaq.2 (List.mem_cons_of_mem _ (zaq.1 (hsc j (zaq.2 hj))))
   refine ⟨s', (zaG h m s _ _ hl fun hm => by rw [zaq.2 hm] at hb; cases hb).trans ?_, fun j => ?_⟩
   ·rw [RB.den_ren, zan, hi, cond_false, List.append_assoc]
    exact List.Perm.append_left _ h1
   ·rw [h2 j]
    simp only [List.mem_cons]
    constructor
    ·rintro ((rfl | h) | ⟨p, hp, h⟩)
     ·exact .inr ⟨(i, q), .inl rfl, rfl⟩
     ·exact .inl h
     ·exact .inr ⟨p, .inr hp, h⟩
    ·rintro (h | ⟨p, rfl | hp, h⟩)
     ·exact .inl (.inr h)
     ·exact .inl (.inl h.symm)
     ·exact .inr ⟨p, hp, h⟩
theorem zjI : ∀ {ns s : List Nat}, ∃ s', zad h s (znv ns m) = zad h s' m ∧ ∀ j, j ∈ s' ↔ j ∈ ns ∨ j ∈ s
 | [], s => ⟨s, rfl, fun j => by simp⟩
 | i :: ns, s => by
  cases hb : zaM i s with
  | true =>
   obtain ⟨s', h1, h2⟩ := zjI (ns := ns) (s := s)
   refine ⟨s', by rw [znv, zad, hb, cond_true, h1], fun j => ?_⟩
   rw [h2 j]
   simp only [List.mem_cons]
   constructor
   ·rintro (h | h)
    ·exact .inl (.inr h)
    ·exact .inr h
   ·rintro ((rfl | h) | h)
    ·exact .inr (zaq.1 hb)
    ·exact .inl h
    ·exact .inr h
  | false =>
   obtain ⟨s', h1, h2⟩ := zjI (ns := ns) (s := i :: s)
   refine ⟨s', by rw [znv, zad, hb, cond_false, h1], fun j => ?_⟩
   rw [h2 j]
   simp only [List.mem_cons]
   constructor
   ·rintro (h | h | h)
    ·exact .inl (.inr h)
    ·exact .inl (.inl h)
    ·exact .inr h
   ·rintro ((rfl | h) | h)
    ·exact .inr (.inl rfl)
    ·exact .inl h
    ·exact .inr (.inr h)
theorem zjJ {m2 : MB} : ∀ {m1 : MB} {s sc : List Nat}, (∀ p ∈ m1, ∀ j, (j ∈ sc ↔ j ∈ sc) ∧ (zaM p.1 sc = zaM (f p.1) s)) → (∀ p ∈ m1, ∀ p' ∈ m1, f p.1 = f p'.1 → p.1 = p'.1) →
  ∃ s', zad h s (zAx f m1 m2) = zad (h.ren f) sc m1 ++ zad h s' m2 ∧ ∀ j, j ∈ s' ↔ (∃ p ∈ m1, f p.1 = j) ∨ j ∈ s
 | [], s, sc, _, _ => ⟨s, rfl, fun j => by simp⟩
 | (i, q) :: m1, s, sc, hm, hinj => by
  have hi : zaM i sc = zaM (f i) s := (hm (i, q) (List.mem_cons_self ..) 0).2
  cases hb : zaM (f i) s with
  | true =>
   rw [hb] at hi
   obtain ⟨s', h1, h2⟩ := zjJ (m2 := m2) (m1 := m1) (s := s) (sc := sc) (fun p hp => hm p (List.mem_cons_of_mem _ hp)) fun p hp p' hp' => hinj p (List.mem_cons_of_mem _ hp) p' (List.mem_cons_of_mem _ hp')
   refine ⟨s', by rw [zAx, zan, hb, cond_true, h1, zan, hi, cond_true], fun j => ?_⟩
   rw [h2 j]
   simp only [List.mem_cons]
   constructor
   ·rintro (⟨p, hp, h⟩ | h)
    ·exact .inl ⟨p, .inr hp, h⟩
    ·exact .inr h
   ·rintro (⟨p, rfl | hp, h⟩ | h)
    ·exact .inr (by rw [← h]; exact zaq.1 hb)
    ·exact .inl ⟨p, hp, h⟩
    ·exact .inr h
  | false =>
   rw [hb] at hi
   obtain ⟨s', h1, h2⟩ := zjJ (m2 := m2) (m1 := m1) (s := f i :: s) (sc := i :: sc) (fun p hp j => ⟨Iff.rfl, by
    have h3 := (hm p (List.mem_cons_of_mem _ hp) 0).2
    rw [Bool.eq_iff_iff, zaq, zaq] at h3 ⊢
    simp only [List.mem_cons]
    constructor
    ·rintro (e | e)
     ·exact .inl (by rw [e])
     ·exact .inr (h3.1 e)
    ·rintro (e | e)
     ·exact .inl (hinj p (List.mem_cons_of_mem _ hp) (i, q) (List.mem_cons_self ..) e)
     ·exact .inr (h3.2 e)⟩) fun p hp p' hp' => hinj p (List.mem_cons_of_mem _ hp) p' (List.mem_cons_of_mem _ hp')
   refine ⟨s', by rw [zAx, zan, hb, cond_false, h1, zan, hi, cond_false, RB.den_ren, List.append_assoc], fun j => ?_⟩
   rw [h2 j]
   simp only [List.mem_cons]
   constructor
   ·rintro (⟨p, hp, h⟩ | rfl | h)
    ·exact .inl ⟨p, .inr hp, h⟩
    ·exact .inl ⟨(i, q), .inl rfl, rfl⟩
    ·exact .inr h
   ·rintro (⟨p, rfl | hp, h⟩ | h)
    ·exact .inr (.inl h.symm)
    ·exact .inl ⟨p, hp, h⟩
    ·exact .inr (.inr h)
end
def zvn (g c : Nat) (kb : List Nat) (i : Nat) : Bool := bif zaM i kb then Nat.ble (i + 1) g else (bif Nat.ble g i then Nat.ble (i + 1) (g + c) else false)
def zso (k : Nat) : List Nat → Bool
 | [] => true
 | i :: ns => bif Nat.ble (i + 1) k then zso k ns else false
theorem zg4 {k : Nat} : ∀ {ns : List Nat}, zso k ns = true → ∀ i ∈ ns, i < k
 | [], _, i, hi => by cases hi
 | j :: ns, e, i, hi => by
  rcases List.mem_cons.1 hi with rfl | hi
  ·exact Nat.le_of_ble_eq_true (zaa e).1
  ·exact zg4 (zaa e).2 i hi
theorem zhS : ∀ {ns : List Nat}, zc1 ns = true → ns.Nodup
 | [], _ => List.nodup_nil
 | i :: ns, e => by
  unfold zc1 at e
  cases hb : zaM i ns with
  | true => rw [hb] at e; cases e
  | false => rw [hb] at e; exact List.nodup_cons.2 ⟨fun h => (by rw [zaq.2 h] at hb; cases hb), zhS e⟩
theorem zdc : ∀ {ns : List Nat} {i : Nat}, i < ns.length → ziL ns i ∈ ns
 | [], i, hi => by simp at hi
 | j :: ns, 0, _ => List.mem_cons_self ..
 | j :: ns, i + 1, hi => List.mem_cons_of_mem _ (zdc (by simpa using hi))
theorem zo5 : ∀ {ns : List Nat}, ns.Nodup → ∀ {i j : Nat}, i < ns.length → j < ns.length → ziL ns i = ziL ns j → i = j
 | [], _, i, _, hi, _, _ => by simp at hi
 | a :: ns, hn, 0, 0, _, _, _ => rfl
 | a :: ns, hn, 0, j + 1, _, hj, e => absurd (by rw [show a = ziL ns j from e]; exact zdc (by simpa using hj)) (List.nodup_cons.1 hn).1
 | a :: ns, hn, i + 1, 0, hi, _, e => absurd (by rw [← show ziL ns i = a from e]; exact zdc (by simpa using hi)) (List.nodup_cons.1 hn).1
 | a :: ns, hn, i + 1, j + 1, hi, hj, e => by rw [zo5 (List.nodup_cons.1 hn).2 (by simpa using hi) (by simpa using hj) e]
theorem zo6 : ∀ {ns : List Nat} {j : Nat}, j ∈ ns → ∃ i, i < ns.length ∧ ziL ns i = j
 | [], j, hj => by cases hj
 | a :: ns, j, hj => by
  rcases List.mem_cons.1 hj with rfl | hj
  ·exact ⟨0, by simp, rfl⟩
  ·obtain ⟨i, h1, h2⟩ := zo6 hj
   exact ⟨i + 1, by simpa using h1, h2⟩
theorem zo7 : ∀ {a b : List Nat}, a.Nodup → a ⊆ b → a.length ≤ b.length
 | [], b, _, _ => by simp
 | x :: a, b, hn, hs => by
  have h1 := List.nodup_cons.1 hn
  have h2 := zo7 (a := a) (b := b.erase x) h1.2 fun y hy => by
   have hne : y ≠ x := fun e => h1.1 (by rw [← e]; exact hy)
   exact (List.mem_erase_of_ne hne).2 (hs (List.mem_cons_of_mem _ hy))
  have hx := hs (List.mem_cons_self ..)
  rw [List.length_erase_of_mem hx] at h2
  have := List.length_pos_of_mem hx
  rw [List.length_cons]
  omega
theorem zo8 {f : Nat → Nat} (h : Hn) : ∀ (R : List SF), zaN h (shR f R) = zaN (h.ren f) R
 | [] => rfl
 | r :: R => by rw [shR, zaN, zaN, zo8 h R, SF.den_ren]
theorem zga (h : Hn) : ∀ (m : MB) (s s' : List Nat), (∀ p ∈ m, p.1 ∈ s ↔ p.1 ∈ s') → zad h s m = zad h s' m
 | [], s, s', _ => rfl
 | (i, q) :: m, s, s', hs => by
  have e : zaM i s = zaM i s' := by rw [Bool.eq_iff_iff, zaq, zaq]; exact hs (i, q) (List.mem_cons_self ..)
  rw [zan, zan, e, zga h m s s' fun p hp => hs p (List.mem_cons_of_mem _ hp), zga h m (i :: s) (i :: s') fun p hp => by
   have := hs p (List.mem_cons_of_mem _ hp)
   simp [this]]
section
variable {P : Program} {N k : Nat} {l : LE} {m : MB} {R : List SF} {o : Oper} {sv : SV} {K : KS}
theorem zaQ {f : FuncId} {x : Operand} {xs : Array Operand} {ts : Array TypeId} {svs : List SV} {sv0 : SV} {fs cs : Hn → List Value} {given m1 : MB} {R1 : List SF} {kb : List Nat} (ns : List Nat) (c : Nat) (ho : o.op = .call { callee := .value x, args := xs, argTypes := ts }) (hx : evS l x = some sv0) (hargs : zu1 l xs.toList = some svs) (hf : fnB P f = true)
  (hfn : ∀ h, sv0.den h = .func (.func f) (fs h).toArray (cs h).toArray) (wm : wfM (lt_ k) m = true) (wr : wfR (lt_ k) R = true) (hsub : zCS (thN ns ns.length k) m [] given) (hgk : zso ns.length (given.map Prod.fst) = true) (hga : zc1 (given.map Prod.fst) = true) (hall : ns.length = given.length) (hns : zc1 ns = true) (hlt : zso k ns = true)
  (hw : (bif sv.wf (zvn ns.length c kb) then (bif wfM (zvn ns.length c kb) m1 then wfR (zvn ns.length c kb) R1 else false) else false) = true)
  (hc : ∀ (h : Hn) (X : List Nat) (w : World) (L2 : List Res), Sp X w (zad (h.ren (thN ns ns.length k)) [] given ++ L2) (zaN h R) → CtG P f (fs h ++ zko h svs ++ cs h) (X ++ zab L2) w (h.ren (thN ns ns.length k)) given kb sv m1 R1) :
  zcK P N k l m R o (sv.ren (thN ns ns.length k)) (zAx (thN ns ns.length k) m1 (znv ns m)) (shR (thN ns ns.length k) R1 ++ R) := fun Q h X a w E H Kk hK => by
 have hnn := zhS hns
 have hnl := zg4 hlt
 obtain ⟨s', hp, hs'⟩ := zo4 (h := h) (sc := []) hsub (fun j hj => by cases hj)
 have H1 := H.perm hp
 have hcc := hc h X w _ H1
 unfold CtG at hcc
 refine zgY E ho ((zaf hx).trans (by rw [hfn])) (znd hargs) hf ?_
 rw [show (fs h).toArray ++ (zko h svs).toArray ++ (cs h).toArray = (fs h ++ zko h svs ++ cs h).toArray by simp]
 refine hcc.mono ?_
 rintro e w' ⟨h1, hag, rfl, S⟩
 let h2 : Hn := ⟨fun i => if i < k then h.b i else h1.b (ns.length + (i - k)), fun i => if i < k then h.r i else h1.r (ns.length + (i - k)), fun i => if i < k then h.q i else h1.q (ns.length + (i - k))⟩
 have ag2 : AgS (lt_ k) h h2 := fun i hi => ⟨if_pos (zb6 hi), if_pos (zb6 hi), if_pos (zb6 hi)⟩
 have ag1 : AgS (zvn ns.length c kb) h1 (h2.ren (thN ns ns.length k)) := fun i hi => by
  unfold zvn at hi
  show h2.b (thN ns ns.length k i) = h1.b i ∧ h2.r (thN ns ns.length k i) = h1.r i ∧ h2.q (thN ns ns.length k i) = h1.q i
  cases hb : zaM i kb with
  | true =>
   rw [hb] at hi
   have hlt : i < ns.length := Nat.le_of_ble_eq_true hi
   have e : thN ns ns.length k i = ziL ns i := by unfold thN; rw [show Nat.ble (i + 1) ns.length = true from hi]; rfl
   have h3 := hnl _ (zdc hlt)
   have h4 := hag i hb
   have h5 : (h.ren (thN ns ns.length k)).b i = h.b (ziL ns i) ∧ (h.ren (thN ns ns.length k)).r i = h.r (ziL ns i) ∧ (h.ren (thN ns ns.length k)).q i = h.q (ziL ns i) := by
    show h.b (thN ns ns.length k i) = _ ∧ h.r (thN ns ns.length k i) = _ ∧ h.q (thN ns ns.length k i) = _
    rw [e]; exact ⟨rfl, rfl, rfl⟩
   rw [e]
   exact ⟨(if_pos h3).trans (by rw [h4.1, h5.1]), (if_pos h3).trans (by rw [h4.2.1, h5.2.1]), (if_pos h3).trans (by rw [h4.2.2, h5.2.2])⟩
  | false =>
   rw [hb, cond_false] at hi
   cases hg : Nat.ble ns.length i with
   | false => rw [hg] at hi; cases hi
   | true =>
    have hge : ns.length ≤ i := Nat.le_of_ble_eq_true hg
    have e : thN ns ns.length k i = k + (i - ns.length) := by
     unfold thN
     rw [show Nat.ble (i + 1) ns.length = false from by
      cases hq : Nat.ble (i + 1) ns.length with
      | false => rfl
      | true => have := Nat.le_of_ble_eq_true hq; omega]
     rfl
    rw [e]
    have e2 : ns.length + (k + (i - ns.length) - k) = i := by omega
    exact ⟨(if_neg (by omega)).trans (by rw [e2]), (if_neg (by omega)).trans (by rw [e2]), (if_neg (by omega)).trans (by rw [e2])⟩
 have hw1 := zaa hw
 have hw2 := zaa hw1.2
 have hinj : ∀ i j, zvn ns.length c kb i = true → zvn ns.length c kb j = true → thN ns ns.length k i = thN ns ns.length k j → i = j := fun i j hi hj e => by
  have key : ∀ i, zvn ns.length c kb i = true → (i < ns.length ∧ thN ns ns.length k i = ziL ns i) ∨ (ns.length ≤ i ∧ thN ns ns.length k i = k + (i - ns.length)) := fun i hi => by
   by_cases hl : i < ns.length
   ·exact .inl ⟨hl, by unfold thN; rw [show Nat.ble (i + 1) ns.length = true from Nat.ble_eq_true_of_le hl]; rfl⟩
   ·refine .inr ⟨by omega, ?_⟩
    unfold thN
    rw [show Nat.ble (i + 1) ns.length = false from by
     cases hq : Nat.ble (i + 1) ns.length with
     | false => rfl
     | true => have := Nat.le_of_ble_eq_true hq; omega]
    rfl
  rcases key i hi with ⟨h1, e1⟩ | ⟨h1, e1⟩ <;> rcases key j hj with ⟨h2, e2⟩ | ⟨h2, e2⟩
  ·exact zo5 hnn h1 h2 (by rw [← e1, ← e2, e])
  ·have := hnl _ (zdc h1)
   omega
  ·have := hnl _ (zdc h2)
   omega
  ·omega
 have hnum : ∀ p ∈ m1, zvn ns.length c kb p.1 = true := zgw hw2.1
 obtain ⟨s1, e1, hs1⟩ := zjJ (h := h2) (f := thN ns ns.length k) (m2 := znv ns m) (m1 := m1) (s := []) (sc := []) (fun p hp j => ⟨Iff.rfl, rfl⟩) fun p hp p' hp' e => hinj _ _ (hnum p hp) (hnum p' hp') e
 obtain ⟨s2, e2, hs2⟩ := zjI (h := h2) (m := m) (ns := ns) (s := s1)
 have hgiven : ∀ j, (∃ p ∈ given, thN ns ns.length k p.1 = j) ↔ j ∈ ns := fun j => by
  have hgl := zg4 hgk
  have hth : ∀ p ∈ given, thN ns ns.length k p.1 = ziL ns p.1 := fun p hp => by
   have := hgl p.1 (List.mem_map.2 ⟨p, hp, rfl⟩)
   unfold thN
   rw [show Nat.ble (p.1 + 1) ns.length = true from Nat.ble_eq_true_of_le this]; rfl
  constructor
  ·rintro ⟨p, hp, rfl⟩
   rw [hth p hp]
   exact zdc (hgl p.1 (List.mem_map.2 ⟨p, hp, rfl⟩))
  ·intro hj
   have hfull : ∀ i, i < ns.length → i ∈ given.map Prod.fst := fun i hi => by
    refine Classical.byContradiction fun hno => ?_
    have hsub : (given.map Prod.fst) ⊆ (List.range ns.length).erase i := fun a ha => by
     rw [(List.nodup_range).mem_erase_iff]
     exact ⟨fun e => hno (by rw [← e]; exact ha), List.mem_range.2 (hgl a ha)⟩
    have h3 := zo7 (zhS hga) hsub
    rw [List.length_erase_of_mem (List.mem_range.2 hi), List.length_range, List.length_map] at h3
    omega
   obtain ⟨i, hi, rfl⟩ := zo6 hj
   obtain ⟨p, hp, rfl⟩ := List.mem_map.1 (hfull i hi)
   exact ⟨p, hp, hth p hp⟩
 have eM : zad h2 s2 m = zad h s' m := by
  rw [zaK ag2 wm]
  have hset : ∀ j, j ∈ s' ↔ j ∈ ns := fun j => by rw [hs' j, hgiven j]; simp
  refine zga h m s2 s' fun p hp => ?_
  rw [hs2, hs1, hset]
  constructor
  ·rintro (h3 | ⟨q, hq, h3⟩ | h3)
   ·exact h3
   ·have hpk : p.1 < k := zb6 (zgw wm p hp)
    have hq2 := hnum q hq
    by_cases hl : q.1 < ns.length
    ·rw [← h3]
     unfold thN
     rw [show Nat.ble (q.1 + 1) ns.length = true from Nat.ble_eq_true_of_le hl]
     exact zdc hl
    ·exfalso
     unfold thN at h3
     rw [show Nat.ble (q.1 + 1) ns.length = false from by
      cases hq : Nat.ble (q.1 + 1) ns.length with
      | false => rfl
      | true => have := Nat.le_of_ble_eq_true hq; omega] at h3
     simp only [cond_false] at h3
     omega
   ·cases h3
  ·intro h3; exact .inl h3
 have eAll : zad h2 [] (zAx (thN ns ns.length k) m1 (znv ns m)) = zad h1 [] m1 ++ zad h s' m := by
  rw [e1, e2, eM, zaK ag1 hw2.1]
 have hS := H1.callG S
 have h3 := hK h2 w' ag2 ⟨S.frm.os, S.frm.tape, S.frm.output, S.frm.size, fun j hj hn => S.frm.block j hj fun hm => hn ?_⟩ ?_ ?_
 ·rw [SV.den_ren, SV.same ag1 hw1.1] at h3
  exact h3
 ·refine (zar hp).mem_iff.2 ?_
  rw [zag]
  exact List.mem_append_left _ hm
 ·have h4 : zaN h2 (shR (thN ns ns.length k) R1 ++ R) = zaN h1 R1 ++ zaN h R := by
   rw [zjn, zo8, zaX ag1 hw2.2, zaX ag2 wr]
  rw [eAll, h4]
  exact hS.1
 ·intro j hj
  rw [eAll] at hj
  rcases hS.2 j hj with h4 | h4
  ·exact .inl ((zar hp).mem_iff.2 h4)
  ·exact .inr h4
end
end
section
open Go.RowKit
class Dec {α : Type} (T : Ty α) where
 dec : List Qd → T.μ
 enc : T.μ → List Qd
 de : ∀ m, dec (enc m) = m
instance : Dec zaS := ⟨fun _ => (), fun _ => [], fun _ => rfl⟩
instance : Dec zeQ := ⟨fun _ => (), fun _ => [], fun _ => rfl⟩
instance {α : Type} (T : Ty α) : Dec (zfY T) := ⟨fun l => qs l 0, fun m => [m], fun _ => rfl⟩
section
variable {α : Type} (T : Ty α) [Dec T]
def itQ (xs : List α) (g : Nat → List Qd) : List (α × T.μ) := zaC T xs fun i => Dec.dec (g i)
def zbF (xs : List α) (e : Nat) : RB := .row e T.sz xs.length fun g => zbL T (itQ T xs g)
def zdd (xs : List α) (g : Nat → List Qd) (w : World) : Prop := zf3 T (itQ T xs g) w
end
section
variable {P : Program} {Tb : Tab} {N k k0 ix : Nat} {l : LE} {m : MB} {R : List SF} {o : Oper} {sv : SV} {K : KS} {dst : Option Nat} {vis : List Nat} {gs : List GO} {KG : Nat → List GO → Prop}
variable {α : Type} {T : Ty α} [Dec T] {xs : List α} {x : α} {i j n0 off n ty e : Nat}
theorem zbM {g : Nat → List Qd} : (itQ T xs g).length = xs.length := zbb
theorem zo9 {g : Nat → List Qd} (hj : xs[j]? = some x) : (itQ T xs g)[j]? = some (x, Dec.dec (g j)) := by unfold itQ; rw [zb3, hj]; rfl
theorem zsp {g : Nat → List Qd} : (itQ T xs g).map Prod.fst = xs := zrs
theorem zsq {g : Nat → List Qd} (hj : xs[j]? = some x) (x' : α) : (itQ T xs g).set j (x', Dec.dec (g j)) = itQ T (xs.set j x') g := by
 refine List.ext_getElem? fun t => ?_
 have hl : j < xs.length := (List.getElem?_eq_some_iff.1 hj).1
 rw [List.getElem?_set, zbM]
 unfold itQ
 rw [zb3, zb3, List.getElem?_set]
 by_cases ht : j = t
 ·subst ht; simp [hl]
 ·simp [ht]
theorem zvo {g g' : Nat → List Qd} (hg : ∀ t, t < xs.length → g' t = g t) : itQ T (xs ++ [x]) g' = itQ T xs g ++ [(x, Dec.dec (g' xs.length))] := by
 refine List.ext_getElem? fun t => ?_
 unfold itQ
 rw [zb3]
 by_cases ht : t < xs.length
 ·rw [List.getElem?_append_left ht, List.getElem?_append_left (by rw [zbb]; exact ht), zb3, hg t ht]
 ·rw [List.getElem?_append_right (by omega), List.getElem?_append_right (by rw [zbb]; omega), zbb]
  by_cases h0 : t - xs.length = 0
  ·have : t = xs.length := by omega
   subst this
   simp
  ·obtain ⟨c, hc⟩ : ∃ c, t - xs.length = c + 1 := ⟨t - xs.length - 1, by omega⟩
   rw [hc]
   simp
theorem zsr {X : List Nat} {w : World} {Rr : List (World → Prop)} {h : Hn} (H : Sp X w (zad h [] m) Rr) (hm : zaB m i = some (zbF T xs e)) : w.ownsRow 0 e T.sz (.slice (h.r i).1 xs.length (h.r i).2) xs.length (zbL T (itQ T xs (h.q i))) :=
 H.holds _ ((zaG h m [] i _ hm (by simp)).mem_iff.2 (List.mem_cons_self ..))
theorem zw7 {X : List Nat} {w : World} {Rr : List (World → Prop)} {h : Hn} (H : Sp X w (zad h [] m) Rr) (hm : zaB m i = some (zbF T xs e)) (hj : xs[j]? = some x) : ∃ g, (h.r i).1 = some ⟨g, 0, none⟩ ∧ AtC ((⟨g, 0, none⟩ : Addr).add (j * T.sz)) (T.ch x (Dec.dec (h.q i j))) w := by
 have hown := zsr H hm
 obtain ⟨g, hg⟩ := zuY hown (by have := (List.getElem?_eq_some_iff.1 hj).1; omega)
 refine ⟨g, hg, fun t u hu => ?_⟩
 rw [hg] at hown
 rw [Addr.add_add]
 exact World.ownsRow.cells hown (g := g) rfl _ u (zhu _ _ _ _ u (zo9 hj) hu)
theorem zw8 {h : Hn} {g : Nat} {A : Option Addr} (hg : A = some ⟨g, 0, none⟩) (hr : (h.r i).1 = A) {s : Nat} : (hpS i j s off).den h = .pointer (some (((⟨g, 0, none⟩ : Addr).add (j * s)).add off)) := by
 show Value.pointer (some ((((h.r i).1.getD ⟨0, 0, none⟩).add (j * s)).add off)) = _
 rw [hr, hg]
 rfl
theorem zhT {ag : Bool} {sub : List Chunk} {xop : Operand} (hm : zaB m i = some (zbF T xs e)) (hj : xs[j]? = some x) (hp : ∀ μ, zgN (T.ch x μ) off n = some sub) (ho : o.op = .load ty xop) (hx : evS l xop = some (hpS i j T.sz off)) (ht : tyK P ty = some (n, ag)) (hv : ∀ h, (ag = true ∧ sv.den h = .agg (ca sub)) ∨ (ag = false ∧ n = 1 ∧ sub = [.one (sv.den h)])) : zfy P N l m R o sv := fun h X a w E H => by
 obtain ⟨g, hg, h1⟩ := zw7 H hm hj
 have h2 := ze1 h1 (hp _)
 have hx' := (zaf (h := h) hx).trans (by rw [zw8 hg rfl])
 rcases hv h with ⟨rfl, e⟩ | ⟨rfl, rfl, e⟩
 ·rw [e]
  exact zbp E ho hx' ht (zdD (hp (Dec.dec (h.q i j)))).2.1 h2
 ·rw [e] at h2
  exact zaR E ho hx' ht h2
theorem zeB {m2 m' : MB} {R2 R' : List SF} {k2 : Nat} (hk : Nat.ble k k2 = true) (hc : ∀ (h : Hn) (X : List Nat) (w : World), Sp X w (zad h [] m) (zaN h R) → ∃ h2, AgS (lt_ k) h h2 ∧ Sp X w (zad h2 [] m2) (zaN h2 R2) ∧ ∀ j ∈ zab (zad h2 [] m2), j ∈ zab (zad h [] m)) (wl : wfE (lt_ k) l = true) (hs : zcK P N k2 l m2 R2 o sv m' R') : zcK P N k l m R o sv m' R' := fun Q h X a w E H Kk hK => by
 obtain ⟨h2, ha, H2, hkk⟩ := hc h X w H
 refine hs Q h2 X a w (by rw [zhy ha wl]; exact E) H2 Kk fun h1 w' h3 h4 h5 h6 => ?_
 refine hK h1 w' (fun i hi => ?_) ⟨h4.os, h4.tape, h4.output, h4.size, fun j hj hn => h4.block j hj fun hm => hn (hkk j hm)⟩ h5 fun j hj => ?_
 ·have e1 := ha i hi
  have e2 := h3 i (zcX (Nat.le_of_ble_eq_true hk) i hi)
  exact ⟨e2.1.trans e1.1, e2.2.1.trans e1.2.1, e2.2.2.trans e1.2.2⟩
 ·exact (h6 j hj).imp_left (hkk j)
theorem zeC {h : Hn} {i k : Nat} (hi : i ≠ k) (wm : wfM (lt_ k) m = true) : zad h [k] ((i, .gone) :: m) = zad h [i] m := by
 have h1 : zaM i [k] = false := by
  cases hq : zaM i [k] with
  | false => rfl
  | true => exact absurd (List.mem_singleton.1 (zaq.1 hq)) hi
 rw [zad, h1, cond_false, zcs h m [i, k] (k :: [i]) (fun j => by simp [or_comm]), zcO h m [i] k fun p hp => Nat.ne_of_lt (zb6 (zgw wm p hp))]
theorem zkY {new : List SC} {nn : Nat × Bool} {xop y : Operand} (x' : α) (hT : zbt P Tb) (hm : zaB m i = some (zbF T xs e)) (hj : xs[j]? = some x) (ho : o.op = .store ty xop y) (hx : evS l xop = some (hpS i j T.sz off)) (hy : zfw (evS l y) = some new) (hn : szT Tb ty = some nn) (hl : zeL new = nn.1) (h1 : ∀ h, zoq (zay h new)) (hp : ∀ h μ, ziD (T.ch x μ) off (zay h new) = some (T.ch x' μ)) : zcK P N k l m R o (zdZ undef) ((i, zbF T (xs.set j x') e) :: m) R := fun Q h X a w E H Kk hK => by
 obtain ⟨g, hg, _⟩ := zw7 H hm hj
 have H1 : Sp X w (.row (.slice (h.r i).1 xs.length (h.r i).2) e T.sz xs.length (zbL T (itQ T xs (h.q i))) :: zad h [i] m) (zaN h R) := H.numAt hm
 cases hv : evS l y with
 | none => rw [hv] at hy; cases hy
 | some v =>
  rw [hv] at hy
  have hx' := (zaf (h := h) hx).trans (by rw [zw8 hg rfl])
  have hkm : ∀ j, j ∈ zab (zad h [] m) ↔ j ∈ zab (.row (.slice (h.r i).1 xs.length (h.r i).2) e T.sz xs.length (zbL T (itQ T xs (h.q i))) :: zad h [i] m) := fun j => (zar (zaG h m [] i _ hm (by simp))).mem_iff
  refine zqi (T := T) (its := itQ T xs (h.q i)) (p := (x, Dec.dec (h.q i j))) (x', Dec.dec (h.q i j)) 0 E H1.sep rfl hg zbM.symm (zo9 hj) ho hx' rfl (zaf hv) (zd4 hy) (h1 h) (hp h _) (by rw [za6, hl]; exact zjt (zeR hT hn)) fun w' HS hF => ?_
  have e1 : zad h [] ((i, zbF T (xs.set j x') e) :: m) = .row (.slice (h.r i).1 xs.length (h.r i).2) e T.sz xs.length (zbL T ((itQ T xs (h.q i)).set j (x', Dec.dec (h.q i j)))) :: zad h [i] m := by
   rw [zsq hj, zan]
   show RB.den h i (zbF T (xs.set j x') e) ++ zad h [i] m = _
   simp only [zbF, RB.den, List.length_set]
   rfl
  have hk2 : ∀ j', j' ∈ zab (zad h [] ((i, zbF T (xs.set j x') e) :: m)) → j' ∈ zab (zad h [] m) := fun j' hj' => by
   rw [e1] at hj'
   exact (hkm j').2 hj'
  refine hK h w' (fun _ _ => ⟨rfl, rfl, rfl⟩) ⟨hF.os, hF.tape, hF.output, hF.size, fun t ht hn => hF.block t ht fun hm' => hn ?_⟩ ?_ fun j' hj' => .inl (hk2 j' hj')
  ·rcases List.mem_singleton.1 hm' with rfl
   rw [hkm]
   exact List.mem_append_left _ (by simp [Res.keys, Value.ownBlock, hg])
  ·rw [e1]
   exact Sp.of_sep HS fun t ht hX => H1.xap t ht hX
theorem zvp {g : Nat → List Qd} {w : World} {x' : α} (hj : xs[j]? = some x) (hn : ∀ μ, T.nest x μ w → T.nest x' μ w) (H : zdd T xs g w) : zdd T (xs.set j x') g w := by
 unfold zdd at H ⊢
 rw [← zsq hj]
 intro p hp
 rcases List.mem_or_eq_of_mem_set hp with h1 | rfl
 ·exact H p h1
 ·exact hn _ (H (x, Dec.dec (g j)) (List.mem_of_getElem? (zo9 hj)))
theorem zkZ {sv : SV} {m' : MB} {R' R2 : List SF} (hs : zcK P N k l m R o sv m' R') (hc : ∀ (h : Hn) (w : World) (Y : List Nat), (∀ r ∈ R', St (r.den h) w Y) → ∀ r ∈ R2, St (r.den h) w Y) : zcK P N k l m R o sv m' R2 := fun Q h X a w E H Kk hK => hs Q h X a w E H Kk fun h1 w' a1 a2 a3 a4 => hK h1 w' a1 a2 (a3.refacts fun r hr => by
 obtain ⟨q, hq, rfl⟩ := zav.1 hr
 exact hc h1 w' _ (fun r hr => a3.facts _ (zav.2 ⟨r, hr, rfl⟩)) q hq) a4
theorem zyn {new : List SC} {nn : Nat × Bool} {xop y : Operand} (x' : α) (hT : zbt P Tb) (hm : zaB m i = some (zbF T xs e)) (hj : xs[j]? = some x) (hr : .q i (zdd T xs) ∈ R) (hnest : ∀ μ w, T.nest x μ w → T.nest x' μ w) (ho : o.op = .store ty xop y) (hx : evS l xop = some (hpS i j T.sz off)) (hy : zfw (evS l y) = some new) (hn : szT Tb ty = some nn) (hl : zeL new = nn.1) (h1 : ∀ h, zoq (zay h new)) (hp : ∀ h μ, ziD (T.ch x μ) off (zay h new) = some (T.ch x' μ)) : zcK P N k l m R o (zdZ undef) ((i, zbF T (xs.set j x') e) :: m) (.q i (zdd T (xs.set j x')) :: R) :=
 zkZ (zkY x' hT hm hj ho hx hy hn hl h1 hp) fun h w Y hY r hr' => by
  rcases List.mem_cons.1 hr' with rfl | hr'
  ·have h2 : St (zdd T xs (h.q i)) w Y := hY _ hr
   exact h2.imp fun w' hw => zvp hj (fun μ => hnest μ w') hw
  ·exact hY r hr'
theorem zhU {cs : List SC} {μs : Hn → List Qd} {t by_ : Nat} {s y : Operand} (hm : zaB m i = some (zbF T xs e)) (ho : o.op = .call { callee := .builtin .append, args := #[s, y], argTypes := #[t, t] }) (hs : evS l s = some (.a (.s (.p (.hd i n0))))) (hn0 : n0 = xs.length) (hy : evS l y = some (slS j 0 1 1)) (hj : zaB m j = some (.blk cs e)) (hij : zaM j [i] = false) (hq : ∀ h, zay h cs = T.ch x (Dec.dec (μs h)))
  (hT : AppK P t e T.sz by_) (hn : xs.length + 1 ≤ 9223372036854775807) (hby : (xs.length + 1) * by_ ≤ 140737488355328) (wm : wfM (lt_ k) m = true) (wr : wfR (lt_ k) R = true) (hr : .q i (zdd T xs) ∈ R) (hμ : ∀ h h', AgS (lt_ k) h h' → μs h' = μs h)
  (hnest : ∀ (h : Hn) (w : World) (Y : List Nat), (∀ r ∈ R, St (r.den h) w Y) → St (T.nest x (Dec.dec (μs h))) w Y) : zcK P N k l m R o (.a (.s (.p (.hd k (n0 + 1))))) ((k, zbF T (xs ++ [x]) e) :: (i, .gone) :: m) (.q k (zdd T (xs ++ [x])) :: R) := fun Q h X a w E H Kk hK => by
 subst hn0
 have hji : j ∉ [i] := fun hm' => by rw [zaq.2 hm'] at hij; cases hij
 have hik : i < k := by
  have key : ∀ (m : MB) q, zaB m i = some q → wfM (lt_ k) m = true → i < k := by
   intro m
   induction m with
   | nil => intro q e; cases e
   | cons p m ih =>
    intro q e hw
    unfold zaB at e
    cases hb : Nat.beq p.1 i with
    | true => rw [← Nat.eq_of_beq_eq_true hb]; exact zb6 (zaa hw).1
    | false => rw [hb] at e; exact ih q e (zaa (zaa hw).2).2
  exact key m _ hm wm
 have hp1 := zaG h m [] i _ hm (by simp)
 have hp2 := zaG h m [i] j _ hj hji
 have H1 : Sp X w (.row (.slice (h.r i).1 xs.length (h.r i).2) e T.sz (itQ T xs (h.q i)).length (zbL T (itQ T xs (h.q i))) :: .blk (h.b j) (ca (zay h cs)) e :: zad h [j, i] m) (zaN h R) := by
  rw [zbM]
  exact (H.perm hp1).perm (List.Perm.cons _ hp2)
 refine zuX (T := T) (q := (x, Dec.dec (μs h))) 0 1 E H1.sep ho (zaf hs) (zaf hy) rfl rfl (hq h) hT (by rw [zbM]; exact hn) (by rw [zbM]; exact hby) fun A' c' w' hc HS hF => ?_
 let h1 : Hn := ⟨h.b, fun t => if t = k then (A', c') else h.r t, fun t => if t = k then (fun u => if u < xs.length then h.q i u else μs h) else h.q t⟩
 have hag : AgS (lt_ k) h h1 := fun t ht => by
  have := zb6 ht
  exact ⟨rfl, if_neg (by omega), if_neg (by omega)⟩
 have er : h1.r k = (A', c') := if_pos rfl
 have eq : h1.q k = fun u => if u < xs.length then h.q i u else μs h := if_pos rfl
 have eits : itQ T xs (h.q i) ++ [(x, Dec.dec (μs h))] = itQ T (xs ++ [x]) (h1.q k) := by
  rw [zvo (g := h.q i) (fun t ht => by rw [eq]; exact if_pos ht), eq]
  simp
 have e1 : zad h1 [] ((k, zbF T (xs ++ [x]) e) :: (i, .gone) :: m) = .row (.slice A' (itQ T (xs ++ [x]) (h1.q k)).length c') e T.sz (itQ T (xs ++ [x]) (h1.q k)).length (zbL T (itQ T (xs ++ [x]) (h1.q k))) :: zad h [i] m := by
  rw [zan]
  show RB.den h1 k (zbF T (xs ++ [x]) e) ++ zad h1 [k] ((i, .gone) :: m) = _
  rw [zeC (by omega) wm, zaK hag wm, zbM]
  simp only [zbF, RB.den, er]
  rfl
 have e2 : (a.put o.dst (.slice A' (itQ T xs (h.q i) ++ [(x, Dec.dec (μs h))]).length c')) = a.put o.dst (SV.den h1 (.a (.s (.p (.hd k (xs.length + 1)))))) := by
  show _ = a.put o.dst (.slice (h1.r k).1 (xs.length + 1) (h1.r k).2)
  rw [er, jQ, zbM]
  rfl
 rw [e2]
 have hkk : ∀ t, t ∈ zab (zad h [] m) ↔ t ∈ zab (.row (.slice (h.r i).1 xs.length (h.r i).2) e T.sz (itQ T xs (h.q i)).length (zbL T (itQ T xs (h.q i))) :: .blk (h.b j) (ca (zay h cs)) e :: zad h [j, i] m) := fun t => (zar (hp1.trans (List.Perm.cons _ hp2))).mem_iff
 have HS2 : Sep X (zab (zad h [] m)) w w' (zad h1 [] ((k, zbF T (xs ++ [x]) e) :: (i, .gone) :: m)) (zaN h R) := by
  rw [e1]
  have HS3 := HS.perm (List.Perm.cons _ hp2.symm)
  rw [eits] at HS3
  exact ⟨⟨HS3.frm.os, HS3.frm.tape, HS3.frm.output, HS3.frm.size, fun t ht hn => HS3.frm.block t ht fun hm' => hn ((hkk t).2 hm')⟩, HS3.xlt, HS3.holds, HS3.apart, fun t ht => (HS3.mine t ht).imp_left (hkk t).2, HS3.facts⟩
 have hqR : ∀ r ∈ R, St (r.den h) w' (X ++ zab (zad h1 [] ((k, zbF T (xs ++ [x]) e) :: (i, .gone) :: m))) := fun r hr => HS2.facts _ (zav.2 ⟨r, hr, rfl⟩)
 refine hK h1 w' hag HS2.frm ?_ (fun t ht => HS2.mine t ht)
 have hX : ∀ t ∈ zab (zad h1 [] ((k, zbF T (xs ++ [x]) e) :: (i, .gone) :: m)), t ∉ X := fun t ht hX => by
  rcases HS2.mine t ht with h3 | h3
  ·exact H.xap t h3 hX
  ·have := H.xlt t hX; omega
 refine (Sp.of_sep HS2 hX).refacts fun r hr' => ?_
 obtain ⟨q, hq', rfl⟩ := zav.1 hr'
 rcases List.mem_cons.1 hq' with rfl | hq'
 ·show St (zdd T (xs ++ [x]) (h1.q k)) w' _
  unfold zdd
  rw [← eits]
  exact zrz (hqR _ hr) (hnest h w' _ hqR)
 ·rw [SF.same hag (zb9 wr _ hq')]
  exact hqR _ hq'
theorem zjK {X : List Nat} {w : World} {h : Hn} {cs : List SC} {t : Nat} (hm : zaB m i = some (.blk cs t)) (H : Sp X w (zad h [] m) (zaN h R)) : Sp X w (zad h [] ((i, .gone) :: m)) (zaN h (.blk i cs :: R)) ∧ ∀ j ∈ zab (zad h [] ((i, .gone) :: m)), j ∈ zab (zad h [] m) := by
 have hp := zaG h m [] i _ hm (by simp)
 have hf := (H.numAt hm).freeze
 refine ⟨hf.refacts fun r hr' => ?_, fun j hj => (zar hp).mem_iff.2 (List.mem_append_right _ hj)⟩
 rcases List.mem_cons.1 hr' with rfl | hr'
 ·exact (hf.facts _ (List.mem_cons_self ..)).imp fun w' hw => zdS (t := t) (fr := (0, 0)) hw
 ·exact hf.facts _ (List.mem_cons_of_mem _ hr')
def zyo : List Nat → MB → MB
 | [], m => m
 | i :: is, m => zyo is ((i, .gone) :: m)
def zw9 : List Nat → MB → List SF → Option (List SF)
 | [], _, R => some R
 | i :: is, m, R => match zaB m i with
  | some (.blk cs _) => zw9 is ((i, .gone) :: m) (.blk i cs :: R)
  | _ => none
theorem zg5 {X : List Nat} {w : World} {h : Hn} {R' : List SF} : ∀ {is : List Nat} {m : MB} {R : List SF}, zw9 is m R = some R' → Sp X w (zad h [] m) (zaN h R) → Sp X w (zad h [] (zyo is m)) (zaN h R') ∧ ∀ j ∈ zab (zad h [] (zyo is m)), j ∈ zab (zad h [] m)
 | [], m, R, e, H => by obtain rfl := Option.some.inj e; exact ⟨H, fun _ h => h⟩
 | i :: is, m, R, e, H => by
  unfold zw9 at e
  split at e
  ·rename_i cs t hm
   obtain ⟨h1, h2⟩ := zjK hm H
   obtain ⟨h3, h4⟩ := zg5 e h1
   exact ⟨h3, fun j hj => h2 j (h4 j hj)⟩
  ·cases e
theorem zbe {sv : SV} {m' : MB} {R2 R' : List SF} (is : List Nat) (hz : zw9 is m R = some R2) (wl : wfE (lt_ k) l = true) (hs : zcK P N k l (zyo is m) R2 o sv m' R') : zcK P N k l m R o sv m' R' :=
 zeB (Nat.ble_eq_true_of_le (jV k)) (fun h X w H => ⟨h, fun _ _ => ⟨rfl, rfl, rfl⟩, zg5 hz H⟩) wl hs
theorem zjL {X : List Nat} {w : World} {h : Hn} (hm : zaB m i = some (zbF T xs e)) (hr : .q i (zdd T xs) ∈ R) (H : Sp X w (zad h [] m) (zaN h R)) : Sp X w (zad h [] ((i, .gone) :: m)) (zaN h (.sl i xs.length (SlF T xs) :: R)) ∧ ∀ j ∈ zab (zad h [] ((i, .gone) :: m)), j ∈ zab (zad h [] m) := by
 have hp := zaG h m [] i _ hm (by simp)
 have H1 : Sp X w (.row (.slice (h.r i).1 xs.length (h.r i).2) e T.sz xs.length (zbL T (itQ T xs (h.q i))) :: zad h [i] m) (zaN h R) := H.numAt hm
 have hf := H1.freeze
 have h1 := zxP (T := T) (its := itQ T xs (h.q i)) (e := e) (n := xs.length) (A := (h.r i).1) (c := (h.r i).2) (hf.facts _ (List.mem_cons_self ..)) zbM.symm (hf.facts _ (List.mem_cons_of_mem _ (zav.2 ⟨_, hr, rfl⟩)))
 rw [zsp] at h1
 refine ⟨hf.refacts fun r hr' => ?_, fun j hj => (zar hp).mem_iff.2 (List.mem_append_right _ hj)⟩
 rcases List.mem_cons.1 hr' with rfl | hr'
 ·exact h1.imp fun w' hw => ⟨fun e => (hw.nil e).1, _, hw⟩
 ·exact hf.facts _ (List.mem_cons_of_mem _ hr')
theorem zvq {n : Nat} {d : α} {c : List Chunk} {g : Nat → List Qd} (hc : ∀ i, T.ch d (Dec.dec (g i)) = c) : zbL T (itQ T (List.replicate n d) g) = (madeCells (ca c) (n * T.sz)).toList := by
 have hlen : zc3 c = T.sz := by rw [← hc 0]; exact T.len _ _
 refine List.ext_getElem? fun j => ?_
 by_cases hj : j < n * T.sz
 ·have hlt : j / T.sz < n := (Nat.div_lt_iff_lt_mul T.pos).2 hj
  have hmod := Nat.mod_lt j T.pos
  have hcl : j % T.sz < (cl c).length := by rw [zaV, hlen]; exact hmod
  have h1 := zhu (T := T) (itQ T (List.replicate n d) g) (j / T.sz) (j % T.sz) (d, Dec.dec (g (j / T.sz))) _ (zo9 (by simp [hlt])) (by rw [hc]; exact jP hcl)
  rw [show j / T.sz * T.sz + j % T.sz = j by rw [Nat.mul_comm]; exact Nat.div_add_mod j T.sz] at h1
  rw [h1]
  have hs : (ca c).size = T.sz := by rw [zcx, hlen]
  have hl2 : (cl c).length = T.sz := by rw [zaV, hlen]
  simp [madeCells, hj, ca, hl2]
  rw [jP hcl]
  rfl
 ·rw [List.getElem?_eq_none (by rw [zc9, zbM, List.length_replicate]; omega), List.getElem?_eq_none (by rw [Array.length_toList, size_madeCells]; omega)]
theorem zxa {d : α} {c : List Chunk} {t by_ : Nat} {x y : Operand} {kx ky : IntKind} {z1 z2 : Int} (hT : AppK P t e T.sz by_) (hz : zdr P e = some (ca c)) (hc : T.ch d (Dec.dec []) = c) (ho : o.op = .makeSlice t x y) (hx : evS l x = some (zaH kx z1)) (hy : evS l y = some (zaH ky z2)) (h1 : z1 = (n : Int)) (h2 : z2 = (n : Int)) (hb : by_ * n ≤ 281474976710656) (hn : n ≤ maxLen) : ze3 P N k l m R o (.a (.s (.p (.hd k n)))) [zbF T (List.replicate n d) e] [] := fun Q h X a w E H Kk hK => by
 subst h1 h2
 have hinfo := hT.info
 cases hi : P.info? e with
 | none => rw [hi] at hinfo; cases hinfo
 | some i =>
  rw [hi] at hinfo
  simp only [Option.map_some, Option.some.injEq, Prod.mk.injEq] at hinfo
  obtain ⟨hz0, hs, hbt⟩ := hinfo
  obtain ⟨i', zv, hi', hzz, hzc⟩ := zc8 hz
  obtain rfl : i = i' := by rw [hi] at hi'; exact Option.some.inj hi'
  obtain ⟨w', hrun, hown, hgr⟩ := run_make_full (P := P) w 0 t e i zv T.sz hT.sl hi hzz hs kx ky n (by rw [hbt]; exact hb) hn (Nat.zero_le _)
  let h1 : Hn := ⟨h.b, fun t => if t = k then (some ⟨w.heap.size, 0, none⟩, n) else h.r t, fun t => if t = k then (fun _ => []) else h.q t⟩
  have er : h1.r k = (some ⟨w.heap.size, 0, none⟩, n) := if_pos rfl
  have eq : h1.q k = fun _ => [] := if_pos rfl
  have e1 : zdk h1 k [zbF T (List.replicate n d) e] = [.row (.slice (some ⟨w.heap.size, 0, none⟩) n n) e T.sz n (madeCells zv.cells (n * T.sz)).toList] := by
   rw [hzc, ← zvq (T := T) (d := d) (g := h1.q k) (fun _ => by rw [eq]; exact hc)]
   simp only [zdk, zbF, RB.den, er, List.length_replicate, List.append_nil]
  have hsv : SV.den h1 (.a (.s (.p (.hd k n)))) = .slice (some ⟨w.heap.size, 0, none⟩) n n := by
   show Value.slice (h1.r k).1 n (h1.r k).2 = _
   rw [er]
  unfold Oper.wp execOp
  simp only [ho, E.ev (zaf hx), E.ev (zaf hy), Sem.run_bind]
  have hx0 : (SV.den h (zaH kx n)) = .int kx n := rfl
  have hy0 : (SV.den h (zaH ky n)) = .int ky n := rfl
  rw [hx0, hy0, hrun]
  simp only [Result.andThen_ok, Sem.run_pure]
  have hf : Frm [] w w' := Frm.of_grown hgr
  have := hK h1 w' (fun t ht => ⟨rfl, if_neg (by simp at ht; omega), if_neg (by simp at ht; omega)⟩) hf (by
   rw [e1]
   exact (Sep.none_ H.xk).own hf hown (by simp [Res.keys, Value.ownBlock]) (by simp [Res.keys, Value.ownBlock]))
  rw [hsv] at this
  exact this
theorem zA9 {cs : List SC} {xop : Operand} {s : Nat} (hm : ziI R m i = some cs) (ho : o.op = .load ty xop) (hx : evS l xop = some (apS i off j s)) (ht : tyK P ty = some (1, false)) (hc : ∀ h, (cl (zay h cs))[off + j * s]? = some (sv.den h)) : zfy P N l m R o sv := fun h X a w E H =>
 zaR E ho (zaf (h := h) hx) ht (zx7 H hm (hc h))
theorem zdU {w : World} {b t c : Nat} {A A' : List Chunk} {v : Value} (hg : w.heap[b]? = some (.cells (ca A) t (0, 0))) (h1 : v.oneCell' = true) (hoff : c < zc3 A) (hA : cl A' = (cl A).set c v) (hs : zcJ P ty = some 1) : (storeVar ty ⟨b, c, none⟩ v).run P w = .ok () (w.setRow b (ca A')) := by
 have hv : v.cells = #[v] := zkE h1
 have h4 := run_storeCells_at P b c t [v] 0 (ca A) w hg (by rw [zcx]; simp; omega) (fun u hu => by rw [List.mem_singleton.1 hu]; exact h1)
 unfold zcJ at hs
 rw [Option.map_eq_some_iff] at hs
 obtain ⟨i, hi, hsz⟩ := hs
 have e : ((ca A).toList.take (c + 0) ++ [v] ++ (ca A).toList.drop (c + 0 + [v].length)).toArray = ca A' := by
  unfold ca
  rw [hA, List.set_eq_take_append_cons_drop, if_pos (by rw [zaV]; exact hoff)]
  simp
 rw [e] at h4
 unfold storeVar
 simp only [sizeOf, typeInfo, Sem.run_bind, hv]
 simp [hi, hsz]
 exact h4
theorem zss {cs cs' : List SC} {t s : Nat} {xop y : Operand} {x : SS} (hm : zaB m i = some (.blk cs t)) (ho : o.op = .store ty xop y) (hx : evS l xop = some (apS i off j s)) (hy : evS l y = some (.a (.s x))) (hok : okS x = true) (hs : zcJ P ty = some 1) (hlt : off + j * s < zeL cs) (hc : ∀ h, cl (zay h cs') = (cl (zay h cs)).set (off + j * s) (x.den h)) : zcK P N k l m R o (zdZ undef) ((i, .blk cs' t) :: m) R := fun Q h X a w E H Kk hK => by
 have hb := zb5 H hm
 have H1 : Sp X w (.blk (h.b i) (ca (zay h cs)) t :: zad h [i] m) (zaN h R) := H.numAt hm
 have hr := zbz ho (E.ev (zaf hx)) (E.ev (zaf hy)) (zdU (P := P) (ty := ty) (A' := zay h cs') hb (znm hok) (by rw [za6]; exact hlt) (hc h) hs)
 unfold Oper.wp
 rw [hr]
 have hf := zbZ (h.b i) (ca (zay h cs')) w
 have ht := H1.turnAt (q' := .blk (h.b i) (ca (zay h cs')) t) 0 rfl hf (zaz hb) (by simp [Res.keys]) (by simp [Res.keys]) rfl
 have hkm : ∀ j, j ∈ zab (.blk (h.b i) (ca (zay h cs)) t :: zad h [i] m) ↔ j ∈ zab (zad h [] m) := fun j => (zar (zaG h m [] i _ hm (by simp))).mem_iff.symm
 refine hK h _ (fun _ _ => ⟨rfl, rfl, rfl⟩) ⟨hf.os, hf.tape, hf.output, hf.size, fun k hk hn => hf.block k hk fun hm' => hn ?_⟩ ht.1 fun j hj => ?_
 ·exact (hkm k).1 (List.mem_append_left _ hm')
 ·rcases ht.2 j hj with h2 | h2
  ·exact .inl ((hkm j).1 h2)
  ·exact .inr h2
theorem ziW {n j : Nat} {f : Nat → Value} {post : List Chunk} {v : Value} (hj : j < n) : cl (.row n (upd f j v) :: post) = (cl (.row n f :: post)).set j v := by
 refine List.ext_getElem? fun t => ?_
 rw [List.getElem?_set]
 simp only [cl, Chunk.cells]
 by_cases ht : t < n
 ·rw [List.getElem?_append_left (by simpa using ht), List.getElem?_append_left (by simpa using ht)]
  by_cases e : j = t
  ·subst e; simp [ht, upd]; omega
  ·simp [ht, upd, e, Ne.symm e]
 ·rw [List.getElem?_append_right (by simp; omega), List.getElem?_append_right (by simp; omega)]
  simp
  omega
theorem zAy {n t : Nat} {f : Nat → Value} (f' : Nat → Value) {post : List SC} {xop y : Operand} {v : Value} (hm : zaB m i = some (.blk (.row n f :: post) t)) (ho : o.op = .store ty xop y) (hx : evS l xop = some (apS i 0 j 1)) (hy : evS l y = some (zix v)) (hok : v.oneCell' = true) (hs : zcJ P ty = some 1) (hj : j < n) (hf : ∀ u, upd f j v u = f' u) : zcK P N k l m R o (zdZ undef) ((i, .blk (.row n f' :: post) t) :: m) R := by
 obtain rfl : upd f j v = f' := funext hf
 exact zss (x := .p (.v v)) hm ho hx hy hok hs (by simp only [zeL, SC.len]; omega) fun h => by
  rw [Nat.zero_add, Nat.mul_one]
  exact ziW hj
end
end
section
open Go.RowKit
def Hn.ext (h : Hn) (g : Nat) (bl : List Nat) (ql : List Qd) : Hn := ⟨fun i => if g ≤ i then ziL bl (i - g) else h.b i, fun i => if g ≤ i then qs ql (i - g) else h.r i, h.q⟩
def zst (h0 : Hn) (i : Nat) : Nat → Qd → (Nat → List Qd) → World → Prop := fun b r q _ => b = h0.b i ∧ r = h0.r i ∧ q = h0.q i
def kbF (h0 : Hn) : List Nat → List SF
 | [] => []
 | i :: kb => .nm i (zst h0 i) :: kbF h0 kb
def kbR (f : List (Nat × Nat)) (h0 : Hn) (R : List SF) : List Nat → List Nat → Prop
 | [], _ => True
 | i :: kb, j :: js => R[j]? = some (.nm (zcv f i) (zst h0 i)) ∧ kbR f h0 R kb js
 | _ :: _, [] => False
theorem Hn.ext_ag (h : Hn) (g : Nat) (bl : List Nat) (ql : List Qd) : AgS (lt_ g) h (h.ext g bl ql) := fun i hi => ⟨if_neg (by have := zb6 hi; omega), if_neg (by have := zb6 hi; omega), rfl⟩
section
variable {P : Program} {T : Tab} {N : Nat} {X : List Nat} {w0 : World}
theorem zxb {S : Nat → Bool} {h0 : Hn} : ∀ {kb : List Nat}, (∀ i ∈ kb, S i = true) → wfR S (kbF h0 kb) = true
 | [], _ => rfl
 | i :: kb, h => zat (h i (List.mem_cons_self ..)) (zxb fun j hj => h j (List.mem_cons_of_mem _ hj))
theorem zsu {h0 : Hn} : ∀ {kb : List Nat} {r : SF}, r ∈ kbF h0 kb → ∃ i ∈ kb, r = .nm i (zst h0 i)
 | [], r, h => by cases h
 | i :: kb, r, h => by
  rcases List.mem_cons.1 h with rfl | h
  ·exact ⟨i, List.mem_cons_self .., rfl⟩
  ·obtain ⟨j, h1, h2⟩ := zsu h
   exact ⟨j, List.mem_cons_of_mem _ h1, h2⟩
theorem zxc {f : List (Nat × Nat)} {h0 : Hn} {R : List SF} : ∀ {kb js : List Nat}, kbR f h0 R kb js → ∀ i ∈ kb, .nm (zcv f i) (zst h0 i) ∈ R
 | [], _, _, i, hi => by cases hi
 | _ :: _, [], h, _, _ => h.elim
 | i' :: kb, j :: js, h, i, hi => by
  rcases List.mem_cons.1 hi with rfl | hi
  ·exact List.mem_of_getElem? h.1
  ·exact zxc h.2 i hi
theorem zxd {g k0 : Nat} {f : FuncId} {fn : Func} {c : Code} {rs : List ResultVar} {svs : List SV} {h0 : Hn} {bl : List Nat} {ql : List Qd} {given : MB} {Rg : List SF} {kb : List Nat} {sv0 : SV} {m1 : MB} {R1 : List SF} (hn : fn.ntmps = N) (hf : P.funcs[f]? = some fn) (hb : fn.body = some c) (hrs : fn.results = rs.toArray) (hlen : Nat.ble rs.length 4 = true) (hT : zbt P T) (hmx : P.follows .mixedOrders = true)
  (hs : Nat.ble svs.length N = true) (hw : (bif Nat.ble g k0 then (bif wfE (lt_ k0) (zhQ 0 svs) then (bif wfM (lt_ g) given then (bif zso g kb then wfR (lt_ k0) Rg else false) else false) else false) else false) = true)
  (hsp : Sp X w0 (zad h0 [] given) (zaN (h0.ext g bl ql) Rg))
  (hv : vC P T N c k0 (zhQ 0 svs) given (kbF h0 kb ++ Rg) (zvi T rs (RetOk X (zab (zad h0 [] given)) w0 fun e w' => ∃ h : Hn, AgS (fun i => zaM i kb) h0 h ∧ e = .returned (sv0.den h) ∧ Sep X (zab (zad h0 [] given)) w0 w' (zad h [] m1) (zaN h R1))) (fun _ _ _ _ _ => False) (zvi T rs (RetOk X (zab (zad h0 [] given)) w0 fun e w' => ∃ h : Hn, AgS (fun i => zaM i kb) h0 h ∧ e = .returned (sv0.den h) ∧ Sep X (zab (zad h0 [] given)) w0 w' (zad h [] m1) (zaN h R1)))) :
  CtG P f (zko (h0.ext g bl ql) svs) X w0 h0 given kb sv0 m1 R1 := by
 have h1 := zaa hw
 have h2 := zaa h1.2
 have h3 := zaa h2.2
 have h4 := zaa h3.2
 have hle : g ≤ k0 := Nat.le_of_ble_eq_true h1.1
 have hag := Hn.ext_ag h0 g bl ql
 have hkb := zg4 h4.1
 have hmo := zcX hle
 refine zDA (k0 := k0) (h := h0.ext g bl ql) (m0 := given) hn hf hb hrs hlen hs (zat h2.1 (zat (zdG hmo h3.1) ?_)) hT hmx ?_ ?_ hv
 ·have key : ∀ (A B : List SF), wfR (lt_ k0) A = true → wfR (lt_ k0) B = true → wfR (lt_ k0) (A ++ B) = true := by
   intro A B hA hB
   induction A with
   | nil => exact hB
   | cons r A ih =>
    have := zaa hA
    exact zat this.1 (ih this.2)
  exact key _ _ (zxb fun i hi => Nat.ble_eq_true_of_le (by have := hkb i hi; omega)) h4.2
 ·rw [zaK hag h3.1]
  have := hsp.sep
  refine this.refacts fun r hr => ?_
  obtain ⟨q, hq, rfl⟩ := zav.1 hr
  rcases List.mem_append.1 hq with hq | hq
  ·obtain ⟨i, hi, rfl⟩ := zsu hq
   have hi2 := hag i (Nat.ble_eq_true_of_le (hkb i hi))
   exact fun w' _ => ⟨hi2.1, hi2.2.1, hi2.2.2⟩
  ·exact this.facts _ (zav.2 ⟨q, hq, rfl⟩)
 ·rw [zaK hag h3.1]
  exact hsp.xap
theorem zdi {G : List Nat} {k : Nat} {h0 : Hn} {kb : List Nat} {sv sv0 : SV} {m m1 : MB} {R R1 : List SF} (f : List (Nat × Nat)) (js bs : List Nat) (hv : sv = sv0.ren (zcv f) ∨ nlV k sv (sv0.ren (zcv f))) (hm : zdH k f m [] m1) (ha : zc1 (zc0 f [] m1) = true) (hR : znr k f R js R1) (hb : kbR f h0 R kb bs) :
  RetOk X G w0 (fun e w' => ∃ h : Hn, AgS (fun i => zaM i kb) h0 h ∧ e = .returned (sv0.den h) ∧ Sep X G w0 w' (zad h [] m1) (zaN h R1)) k sv m R := ⟨fun h w ws wm wr H _ => by
 have hg := Hn.nil_ag h k
 refine ⟨(h.nilFrom k).ren (zcv f), fun i hi => ?_, ?_, H.subM wm wr hm ha hR⟩
 ·have hmem := zxc hb i (zaq.1 hi)
  have hf : zst h0 i (h.b (zcv f i)) (h.r (zcv f i)) (h.q (zcv f i)) w := (H.facts _ (zav.2 ⟨_, hmem, rfl⟩)).now
  have hlt : lt_ k (zcv f i) = true := zb9 wr _ hmem
  have h2 := hg _ hlt
  exact ⟨h2.1.trans hf.1, h2.2.1.trans hf.2.1, h2.2.2.trans hf.2.2⟩
 ·rw [← SV.same hg ws]
  rcases hv with hv | hv
  ·rw [hv, SV.den_ren]
  ·rw [← zns (Hn.nil_r h k) hv, SV.den_ren]⟩
end
section
variable {P : Program} {N k k0 i : Nat} {l : LE} {m m' : MB} {R R' : List SF} {o : Oper} {sv : SV} {K : KS}
theorem za4 (hs : zcK P N k l m R o sv m' R') (h : bif okN k k sv m' R' then ziU N o.dst sv l (fun l' => K k l' m' R') else False) : zdV P N o k l m R K := ⟨sv, k, m', R', hs, h⟩
def zvr (R : List SF) : List Nat → Option (List SF)
 | [] => some []
 | i :: is => match R[i]? with
  | some r => match zvr R is with
   | some R' => some (r :: R')
   | none => none
  | none => none
theorem zk0 {R : List SF} : ∀ {is : List Nat} {R' : List SF}, zvr R is = some R' → ∀ r ∈ R', r ∈ R
 | [], R', e, r, hr => by rw [← Option.some.inj e] at hr; cases hr
 | i :: is, R', e, r, hr => by
  unfold zvr at e
  split at e
  ·rename_i r0 h0
   split at e
   ·rename_i R2 h2
    rw [← Option.some.inj e] at hr
    rcases List.mem_cons.1 hr with rfl | hr
    ·exact List.mem_of_getElem? h0
    ·exact zk0 h2 r hr
   ·cases e
  ·cases e
theorem Sp.pick {X : List Nat} {w : World} {L1 L2 : List Res} {h : Hn} {R R2 : List SF} (H : Sp X w (L1 ++ L2) (zaN h R)) (is : List Nat) (e : zvr R is = some R2) : Sp (X ++ zab L2) w L1 (zaN h R2) := by
 have hg : Sp (X ++ zab L2) w L1 (zaN h R) := Sp.of_sep H.giveL fun t ht hm => by
  rcases List.mem_append.1 hm with h4 | h4
  ·exact H.xap t (by rw [zag]; exact List.mem_append_left _ ht) h4
  ·have := H.apart
   rw [zag] at this
   exact (List.nodup_append.1 this).2.2 t ht t h4 rfl
 exact hg.refacts fun r hr => by
  obtain ⟨q, hq, rfl⟩ := zav.1 hr
  exact hg.facts _ (zav.2 ⟨q, zk0 e q hq, rfl⟩)
theorem zdI {H H' : MB} {Rs R' : List SF} (c : Nat) (hs : zcK P N k l H R o sv H' R') (hr : ∀ r ∈ Rs, r ∈ R') (hw : (bif sv.wf (lt_ (k + c)) then (bif wfM (lt_ (k + c)) H' then wfR (lt_ (k + c)) Rs else false) else false) = true) : zjA P N k l m R H o sv c H' Rs := fun Q h X a w E HS Kk hK => by
 have h1 := zaa hw
 have h2 := zaa h1.2
 have hg : Sp (X ++ zab (zad h [] m)) w (zad h [] H) (zaN h R) := by
  have h3 : Sp X w (zad h [] H ++ zad h [] m) (zaN h R) := HS
  refine Sp.of_sep h3.giveL fun t ht hm => ?_
  rcases List.mem_append.1 hm with h4 | h4
  ·exact h3.xap t (by rw [zag]; exact List.mem_append_left _ ht) h4
  ·have := h3.apart
   rw [zag] at this
   exact (List.nodup_append.1 this).2.2 t ht t h4 rfl
 refine hs Q h _ a w E hg Kk fun hn w' ha F S hm => ?_
 let h' : Hn := ⟨fun i => if i < k + c then hn.b i else h.b i, fun i => if i < k + c then hn.r i else h.r i, fun i => if i < k + c then hn.q i else h.q i⟩
 have hag : AgS (lt_ (k + c)) hn h' := fun i hi => ⟨if_pos (zb6 hi), if_pos (zb6 hi), if_pos (zb6 hi)⟩
 have := hK h' w' (fun i hi => ?_) ?_
 ·rw [SV.same hag h1.1] at this
  exact this
 ·rcases hi with hi | hi
  ·have h5 := ha i (Nat.ble_eq_true_of_le hi)
   exact ⟨(if_pos (by omega)).trans h5.1, (if_pos (by omega)).trans h5.2.1, (if_pos (by omega)).trans h5.2.2⟩
  ·exact ⟨if_neg (by omega), if_neg (by omega), if_neg (by omega)⟩
 ·rw [zaK hag h2.1, zaX hag h2.2]
  exact ⟨F, hg.xlt, S.holds, S.apart, hm, fun r hr' => by
   obtain ⟨q, hq, rfl⟩ := zav.1 hr'
   exact S.facts _ (zav.2 ⟨q, hr q hq, rfl⟩)⟩
theorem za0 (hs : zcK P N k l m R o sv m' R') (h : zbO (k + 1) fun k' => bif okN k k' sv m' R' then ziU N o.dst sv l (fun l' => K k' l' m' R') else False) : zdV P N o k l m R K := ⟨sv, k + 1, m', R', hs, zbc h⟩
theorem zyp (c : Nat) (hs : zcK P N k l m R o sv m' R') (h : zbO (k + c) fun k' => bif okN k k' sv m' R' then ziU N o.dst sv l (fun l' => K k' l' m' R') else False) : zdV P N o k l m R K := ⟨sv, k + c, m', R', hs, zbc h⟩
end
theorem za8 {α : Type} {T : Ty α} {k b : Nat} (hb : Nat.ble k b = true) : zCt k (.sl b 0 (SlF T [])) := fun h w Y hn => by
 show St (fun w => ((h.r b).1 = none → 0 = 0) ∧ SlF T [] (h.r b) w) w Y
 rw [hn b (Nat.le_of_ble_eq_true hb)]
 exact zcn
section
variable {P : Program} {N k i : Nat} {X : List Nat} {w0 : World} {l : LE} {m m' : MB} {R R' : List SF} {o : Oper} {sv : SV} {α : Type} {T : Ty α} [Dec T] {xs : List α} {e : Nat}
theorem zde : ∀ {m : MB} {q : RB}, zaB m i = some q → wfM (lt_ k) m = true → i < k
 | [], _, e, _ => by cases e
 | p :: m, q, e, hw => by
  unfold zaB at e
  cases hb : Nat.beq p.1 i with
  | true => rw [← Nat.eq_of_beq_eq_true hb]; exact zb6 (zaa hw).1
  | false => rw [hb] at e; exact zde e (zaa (zaa hw).2).2
theorem zvs {t : Nat} (hm : zaB m i = some (.blk [.one (.p (.v (.slice none 0 0)))] t)) (wl : wfE (lt_ k) l = true) (wm : wfM (lt_ k) m = true) (wr : wfR (lt_ k) R = true) (hs : zcK P N (k + 1) l ((i, .blk [.one (.p (.hd k 0))] t) :: (k, zbF T [] e) :: m) (.q k (zdd T []) :: R) o sv m' R') : zcK P N k l m R o sv m' R' :=
 zeB (Nat.ble_eq_true_of_le (Nat.le_succ k)) (fun h X w H => by
  have hik : i < k := zde hm wm
  let h2 : Hn := ⟨h.b, fun t => if t = k then (none, 0) else h.r t, h.q⟩
  have er : h2.r k = (none, 0) := if_pos rfl
  have hag : AgS (lt_ k) h h2 := fun j hj => ⟨rfl, if_neg (by have := zb6 hj; omega), rfl⟩
  have e1 : zad h2 [] ((i, .blk [.one (.p (.hd k 0))] t) :: (k, zbF T [] e) :: m) = .blk (h.b i) (ca [.one (.slice none 0 0)]) t :: .row (.slice none 0 0) e T.sz 0 [] :: zad h [i] m := by
   have hki : zaM k [i] = false := by
    cases hq : zaM k [i] with
    | false => rfl
    | true => have := List.mem_singleton.1 (zaq.1 hq); omega
   rw [zan, show zaM i [] = false from rfl, cond_false, zan, hki]
   show _ :: RB.den h2 k (zbF T [] e) ++ zad h2 [k, i] m = _
   rw [zcO h2 m [i] k fun p hp => Nat.ne_of_lt (zb6 (zgw wm p hp)), zaK hag wm]
   simp only [zbF, RB.den, er]
   show Res.blk (h.b i) (ca [.one (.slice (h2.r k).1 0 (h2.r k).2)]) t :: _ = _
   rw [er]
   rfl
  have H1 : Sp X w (.blk (h.b i) (ca [.one (.slice none 0 0)]) t :: zad h [i] m) (zaN h R) := H.numAt hm
  have H2 := (H1.nils (L1 := [.row (.slice none 0 0) e T.sz 0 []]) fun q hq => ⟨_, _, List.mem_singleton.1 hq⟩).perm (List.Perm.swap _ _ _)
  refine ⟨h2, hag, ?_, fun j hj => ?_⟩
  ·rw [e1]
   refine H2.refacts fun r hr => ?_
   obtain ⟨q, hq, rfl⟩ := zav.1 hr
   rcases List.mem_cons.1 hq with rfl | hq
   ·exact zfq
   ·rw [SF.same hag (zb9 wr _ hq)]
    exact H2.facts _ (zav.2 ⟨q, hq, rfl⟩)
  ·rw [e1] at hj
   exact (zar (zaG h m [] i _ hm (by simp))).mem_iff.2 hj) wl hs
theorem znw {G : List Nat} {Rr : Ending → World → Prop} (i : Nat) (hm : zaB m i = some (zbF T xs e)) (hr : .q i (zdd T xs) ∈ R) (hi : lt_ k i = true) (hk : RetOk X G w0 Rr k sv ((i, .gone) :: m) (.sl i xs.length (SlF T xs) :: R)) : RetOk X G w0 Rr k sv m R := ⟨fun h w ws wm wr H hX => by
 obtain ⟨h1, h2⟩ := zjL hm hr (Sp.of_sep H hX)
 exact hk.ok h w ws (zat hi (zat rfl wm)) (zat hi wr) ⟨H.frm, H.xlt, h1.holds, h1.apart, fun j hj => H.mine j (h2 j hj), h1.facts⟩ fun j hj => hX j (h2 j hj)⟩
theorem zk1 (r : SF) (hr : ∀ (h : Hn) (w : World) (Y : List Nat), St (r.den h) w Y) (wl : wfE (lt_ k) l = true) (hs : zcK P N k l m (r :: R) o sv m' R') : zcK P N k l m R o sv m' R' :=
 zeB (Nat.ble_eq_true_of_le (jV k)) (fun h X w H => ⟨h, fun _ _ => ⟨rfl, rfl, rfl⟩, H.know (hr h w _), fun _ h => h⟩) wl hs
theorem zvt {G : List Nat} {Rr : Ending → World → Prop} (r : SF) (hr : ∀ (h : Hn) (w : World) (Y : List Nat), St (r.den h) w Y) (hw : r.wf (lt_ k) = true) (hk : RetOk X G w0 Rr k sv m (r :: R)) : RetOk X G w0 Rr k sv m R :=
 ⟨fun h w ws wm wr H hX => hk.ok h w ws wm (zat hw wr) (H.refacts fun q hq => by
  rcases List.mem_cons.1 hq with rfl | hq
  ·exact hr h w _
  ·exact H.facts q hq) hX⟩
theorem zjM (hT : ∀ x μ w, T.nest x μ w) {i : Nat} (h : Hn) (w : World) (Y : List Nat) : St ((SF.q i (zdd T xs)).den h) w Y := fun w' _ p _ => hT _ _ _
theorem zpa {x : α} {cs : List SC} {t by_ j n0 : Nat} {s y : Operand} (hT0 : ∀ x μ w, T.nest x μ w) (hm : zaB m i = some (zbF T xs e)) (ho : o.op = .call { callee := .builtin .append, args := #[s, y], argTypes := #[t, t] }) (hs : evS l s = some (.a (.s (.p (.hd i n0))))) (hn0 : n0 = xs.length) (hy : evS l y = some (slS j 0 1 1)) (hj : zaB m j = some (.blk cs e)) (hij : zaM j [i] = false) (hq : ∀ h, zay h cs = T.ch x (Dec.dec []))
  (hT : AppK P t e T.sz by_) (hn : xs.length + 1 ≤ 9223372036854775807) (hby : (xs.length + 1) * by_ ≤ 140737488355328) (wl : wfE (lt_ k) l = true) (wm : wfM (lt_ k) m = true) (wr : wfR (lt_ k) R = true) : zcK P N k l m R o (.a (.s (.p (.hd k (n0 + 1))))) ((k, zbF T (xs ++ [x]) e) :: (i, .gone) :: m) R :=
 zkZ (zk1 (.q i (zdd T xs)) (zjM hT0) wl (zhU (μs := fun _ => []) hm ho hs hn0 hy hj hij hq hT hn hby wm (zat (Nat.ble_eq_true_of_le (zde hm wm)) wr) (.head _) (fun _ _ _ => rfl) fun h w Y _ => fun w' _ => hT0 _ _ _)) fun h w Y hY r hr => hY r (.tail _ (.tail _ hr))
theorem zvu {G : List Nat} {Rr : Ending → World → Prop} (i : Nat) (hT0 : ∀ x μ w, T.nest x μ w) (hm : zaB m i = some (zbF T xs e)) (hi : lt_ k i = true) (hk : RetOk X G w0 Rr k sv ((i, .gone) :: m) (.sl i xs.length (SlF T xs) :: .q i (zdd T xs) :: R)) : RetOk X G w0 Rr k sv m R :=
 zvt (.q i (zdd T xs)) (zjM hT0) hi (znw i hm (.head _) hi hk)
end
end
section
open Go.RowKit
theorem zhV {α : Type} {l : List α} {i : Nat} (d : α) (hi : i < l.length) : l[i]? = some (l.getD i d) := by rw [jR, jP hi]; rfl
section
variable {P : Program} {N k i : Nat} {l : LE} {m : MB} {R : List SF} {o : Oper} {sv : SV}
theorem zgz {h : Hn} {X : List Nat} {w : World} {r n0 : Nat} {t : List Nat} (H : Sp X w (zad h [] m) (zaN h R)) (hr : R[r]? = some (.sl i n0 (TxG t))) : St (TxF (h.r i).1 (h.r i).2 t) w (X ++ zab (zad h [] m)) := fun w' hk => by
 have hf : ((h.r i).1 = none → n0 = 0) ∧ TxG t (h.r i) w' := (H.facts _ (zaO.2 ⟨_, List.mem_of_getElem? hr, rfl⟩)) w' hk
 exact hf.2
theorem zpb {t : List Nat} {b j n0 ty : Nat} {xop : Operand} (r : Nat) (hj : t[j]? = some b) (hr : R[r]? = some (.sl i n0 (TxG t))) (ho : o.op = .load ty xop) (hx : evS l xop = some (hpS i j 1 0)) (ht : tyK P ty = some (1, false)) : zfy P N l m R o (.a (.s (.p (.v (bv b))))) := fun h X a w E H => by
 have hf := (zgz H hr).now
 cases hA : (h.r i).1 with
 | none =>
  have := (hf.nil hA).1
  have := (List.getElem?_eq_some_iff.1 hj).1
  omega
 | some ad =>
  have hx' : ev (zcu h l) xop = some (.pointer (some (ad.add (j * 1)))) := by
   rw [zaf (h := h) hx]
   show some (Value.pointer (some ((((h.r i).1.getD ⟨0, 0, none⟩).add (j * 1)).add 0))) = _
   rw [hA, zau]
   rfl
  exact zxQ (S := ze0) (zgz H hr) (fun _ _ _ => trivial) hA ho hx' hj ht w (CanB.Keep.refl _ _) a N E
theorem zyq {A : Option Addr} {c lo hi : Nat} {t : List Nat} {w : World} {Y : List Nat} (h : St (TxF A c t) w Y) (hlo : lo ≤ hi) (hhi : hi ≤ t.length) : ∃ q : Qd, ziF A 1 lo hi c = .slice q.1 (hi - lo) q.2 ∧ St (TxQ ((t.drop lo).take (hi - lo)) q) w Y := by
 have hl : ((t.drop lo).take (hi - lo)).length = hi - lo := by rw [List.length_take, List.length_drop]; omega
 refine ⟨(if c = lo then A else A.map (·.add (lo * 1)), c - lo), rfl, zo3 fun w' hk => ?_⟩
 have h' := h w' hk
 have hcap := h'.cap
 refine ⟨by rw [hl]; show hi - lo ≤ c - lo; omega, by rw [hl]; have := h'.len; omega, fun x hx => h'.byt x (List.mem_of_mem_drop (List.mem_of_mem_take hx)), fun hA => ?_, fun ad hA i x hx => ?_⟩
 ·have hA0 : A = none := by
   simp only at hA
   split at hA
   ·exact hA
   ·cases A with
    | none => rfl
    | some _ => cases hA
  have := h'.nil hA0
  rw [hl]
  show hi - lo = 0 ∧ c - lo = 0
  omega
 ·have hi' := (List.getElem?_eq_some_iff.1 hx).1
  rw [hl] at hi'
  rw [List.getElem?_take_of_lt hi', List.getElem?_drop] at hx
  simp only at hA
  rw [if_neg (by omega)] at hA
  cases A with
  | none => cases hA
  | some ad0 =>
   obtain rfl := Option.some.inj hA
   rw [Nat.mul_one, Addr.add_add]
   exact h'.at_ ad0 rfl _ x hx
theorem zpc {t : List Nat} {lo hi n0 : Nat} (r : Nat) (hr : R[r]? = some (.sl i n0 (TxG t))) (hlo : lo ≤ hi) (hhi : hi ≤ t.length) (hp : ∀ (h : Hn) (w : World), TxF (h.r i).1 (h.r i).2 t w → PK P ze0 w (zcu h l) o (ziF (h.r i).1 1 lo hi (h.r i).2)) : ze3 P N k l m R o (.a (.s (.p (.hd k (hi - lo))))) [.gone] [.sl k (hi - lo) (TxG ((t.drop lo).take (hi - lo)))] := fun Q h X a w E H Kk hK => by
 have hf := zgz H hr
 obtain ⟨q, hq, hs⟩ := zyq hf hlo hhi
 let h1 : Hn := ⟨h.b, fun t => if t = k then q else h.r t, h.q⟩
 have er : h1.r k = q := if_pos rfl
 have hrun := hp h w hf.now w (CanB.Keep.refl _ _) a N E
 unfold Oper.wp
 rw [hrun, hq]
 have hl : ((t.drop lo).take (hi - lo)).length = hi - lo := by rw [List.length_take, List.length_drop]; omega
 have := hK h1 w (fun t ht => ⟨rfl, if_neg (by simp at ht; omega), rfl⟩) (Frm.refl _ _) (by
  show Sep (X ++ zab (zad h [] m)) [] w w (zdk h1 k [.gone]) (zaN h1 [_])
  have e0 : zdk h1 k [RB.gone] = [] := rfl
  rw [e0]
  refine (Sep.none_ H.xk).refacts fun r hr => ?_
  rcases List.mem_singleton.1 hr with rfl
  have hs' : St (fun w => ((h1.r k).1 = none → hi - lo = 0) ∧ TxG ((t.drop lo).take (hi - lo)) (h1.r k) w) w (X ++ zab (zad h [] m)) := by
   rw [er]
   have := hs
   unfold TxQ at this
   rwa [hl] at this
  have ek : (X ++ zab (zad h [] m)) ++ zab ([] : List Res) = X ++ zab (zad h [] m) := by simp [zab]
  rw [ek]
  exact hs')
 have e1 : SV.den h1 (.a (.s (.p (.hd k (hi - lo))))) = .slice q.1 (hi - lo) q.2 := by
  show Value.slice (h1.r k).1 (hi - lo) (h1.r k).2 = _
  rw [er]
 rw [e1] at this
 exact this
theorem zBa {ad : Addr} {cs : List SC} {ty n : Nat} {xop : Operand} (r : Nat) (f : World → Prop) (hr : R[r]? = some (.c f)) (hf : ∀ w, f w → ∀ h, AtC ad (zay h cs) w) (ho : o.op = .load ty xop) (hx : evS l xop = some (zuF ad)) (ht : tyK P ty = some (n, true)) (hn : zeL cs = n) : zfy P N l m R o (.a (.agg cs)) := fun h X a w E H =>
 zbp E ho (zaf (h := h) hx) ht (by rw [za6, hn]) (hf w (H.facts _ (zaO.2 ⟨_, List.mem_of_getElem? hr, rfl⟩)).now h)
end
end
section
open Go.RowKit
structure Nd where
 lv : Int
 pl : Int
 red : Bool
 fr : Int
 tt : Int
 kids : List Int
 up : Int
def zbG : Ty Nd where
 μ := Qd
 dft := (none, 0)
 sz := 7
 pos := by decide
 ch x q := [.one (.int .i64 x.lv), .one (.int .i64 x.pl), .one (.bool x.red), .one (.int .i64 x.fr), .one (.int .i64 x.tt), .one (.slice q.1 x.kids.length q.2), .one (.int .i64 x.up)]
 nest x q := SlQ zaS x.kids q
 len _ _ := rfl
 one _ _ := ⟨rfl, rfl, rfl, rfl, rfl, rfl, rfl, trivial⟩
instance : Dec zbG := ⟨fun l => qs l 0, fun m => [m], fun _ => rfl⟩
section
variable {X : List Nat} {w : World} {h0' : Hn}
def zuJ (ns : List Nd) : MB := [(0, .blk [.one (.p (.hd 1 ns.length))] 110), (1, zbF zbG ns 117)]
def ksI (ks : List Nat) : List Int := ks.map Int.ofNat
theorem znx {ks : List Nat} : (ksI ks).length = ks.length := List.length_map ..
def ze7 (z : Int) : SC := .one (.p (.v (.int .i64 z)))
def zqw (n : Int) (l : List Nd) (k : Nat) : List Nd := match l[k]? with
 | some x => l.set k { x with up := n }
 | none => l
def zcD (n : Int) (ks : List Nat) (l : List Nd) : List Nd := ks.foldl (zqw n) l
theorem zsv {n : Int} {l : List Nd} {k : Nat} : (zqw n l k).length = l.length := by unfold zqw; split <;> simp
theorem ziX {n : Int} {ks : List Nat} : ∀ {l : List Nd}, (zcD n ks l).length = l.length := by
 induction ks with
 | nil => intro l; rfl
 | cons k ks ih => intro l; show (zcD n ks (zqw n l k)).length = _; rw [ih, zsv]
theorem zny {n : Int} {ks : List Nat} {l : List Nd} {i k : Nat} {x : Nd} (hk : ks[i]? = some k) (hx : (zcD n (ks.take i) l)[k]? = some x) : zcD n (ks.take (i + 1)) l = (zcD n (ks.take i) l).set k { x with up := n } := by
 have h1 : ks.take (i + 1) = ks.take i ++ [k] := by rw [List.take_add_one, hk]; rfl
 have h2 : zcD n (ks.take (i + 1)) l = zqw n (zcD n (ks.take i) l) k := by unfold zcD; rw [h1, List.foldl_append]; rfl
 rw [h2]
 generalize zcD n (ks.take i) l = l2 at hx ⊢
 unfold zqw
 rw [hx]
theorem zvv (lv pl : Int) (rd : Bool) (ns : List Nd) (ks : List Nat) (q : Qd) {i0 i1 : Nat} {a b : Nd} (hks : ∀ k ∈ ks, k < ns.length) (h0 : ks[0]? = some i0) (h1 : ks[ks.length - 1]? = some i1) (ha : ns[i0]? = some a) (hb : ns[i1]? = some b) (hkl : ks.length ≤ 3) (hn : ns.length ≤ 1000000) (hsp : Sp X w (zad h0' [] (zuJ ns)) [zdd zbG ns (h0'.q 1), SlQ zaS (ksI ks) q]) :
  CtG Tryz.prog 174 [.agg (ca [.one (.int .i64 lv), .one (.int .i64 pl), .one (.bool rd), .one (.int .i64 0), .one (.int .i64 0), .one (.slice none 0 0), .one (.int .i64 0)]), .slice q.1 (ksI ks).length q.2, .pointer (some ⟨h0'.b 0, 0, none⟩)] X w h0' (zuJ ns) [0] (zaH .i64 ns.length) [(0, .blk [.one (.p (.hd 2 (ns.length + 1)))] 110), (2, zbF zbG (zcD ns.length ks ns ++ [⟨lv, pl, rd, a.fr, b.tt, ksI ks, -1⟩]) 117)] [.q 2 (zdd zbG (zcD ns.length ks ns ++ [⟨lv, pl, rd, a.fr, b.tt, ksI ks, -1⟩]))] := by
 refine zxd (g := 2) (k0 := 3) (bl := []) (ql := [q]) (svs := [.a (.agg [ze7 lv, ze7 pl, .one (.p (.v (.bool rd))), ze7 0, ze7 0, .one (.p (.v (.slice none 0 0))), ze7 0]), .a (.s (.p (.hd 2 (ksI ks).length))), atS 0 0]) (given := zuJ ns) (Rg := [.q 1 (zdd zbG ns), .sl 2 (ksI ks).length (SlF zaS (ksI ks))]) (kb := [0]) Tryz.ntmps174 Tryz.func174 rfl rfl rfl zaw (by kernel_rfl) rfl rfl hsp ?_
 have hl : (ksI ks).length = ks.length := znx
 have hne : 0 < ks.length := (List.getElem?_eq_some_iff.1 h0).1
 have hi0 : i0 < ns.length := (List.getElem?_eq_some_iff.1 ha).1
 have hi1 : i1 < ns.length := (List.getElem?_eq_some_iff.1 hb).1
 have e0 : (ksI ks)[0]? = some (i0 : Int) := by unfold ksI; rw [List.getElem?_map, h0]; rfl
 have e1 : (ksI ks)[ks.length - 1]? = some (i1 : Int) := by unfold ksI; rw [List.getElem?_map, h1]; rfl
 have h0k : 0 < (ksI ks).length := by omega
 conv => whnf
 refine zbd 22 [3] (by kernel_rfl) ?_
 conv => whnf
 refine ⟨0, ⟨rfl, h0k, h0k⟩, ?_⟩
 conv => whnf
 refine zd7 (zbr (T := zaS) (sv := zaH .i64 i0) 2 e0 (fun _ => rfl) rfl rfl rfl (by kernel_rfl) (fun _ => .inr ⟨rfl, rfl, rfl⟩)) ?_
 conv => whnf
 refine ⟨i0, ⟨rfl, hi0, hi0⟩, ?_⟩
 conv => whnf
 refine zd7 (zhT (T := zbG) (sv := zaH .i64 a.fr) (e := 117) rfl ha (fun _ => rfl) rfl rfl (by kernel_rfl) (fun _ => .inr ⟨rfl, rfl, rfl⟩)) ?_
 conv => whnf
 have el : ((Sl.hd 2 (ksI ks).length).len : Int) - 1 = ((ks.length - 1 : Nat) : Int) := by show (((ksI ks).length : Nat) : Int) - 1 = _; omega
 refine zc6 el (by omega) (by omega) ?_
 conv => whnf
 refine ⟨ks.length - 1, ⟨rfl, by omega, by omega⟩, ?_⟩
 conv => whnf
 refine zd7 (zbr (T := zaS) (sv := zaH .i64 i1) 2 e1 (fun _ => rfl) rfl rfl rfl (by kernel_rfl) (fun _ => .inr ⟨rfl, rfl, rfl⟩)) ?_
 conv => whnf
 refine ⟨i1, ⟨rfl, hi1, hi1⟩, ?_⟩
 conv => whnf
 refine zd7 (zhT (T := zbG) (sv := zaH .i64 b.tt) (e := 117) rfl hb (fun _ => rfl) rfl rfl (by kernel_rfl) (fun _ => .inr ⟨rfl, rfl, rfl⟩)) ?_
 conv => whnf
 refine ⟨Nat, fun k l m R i => ⟨k, (32, zaH .i64 i) :: zbV [2, 3, 5, 30, 31] l, (1, zbF zbG (zcD ns.length (ks.take i) ns) 117) :: m, .q 1 (zdd zbG (zcD ns.length (ks.take i) ns)) :: R⟩, fun i => i ≤ ks.length, fun i => ks.length - i, ⟨0, [], [1, 0, 1, 2], Nat.zero_le _, zbW⟩, fun i hi => ?_⟩
 have hsl : (zcD ns.length (ks.take i) ns).length = ns.length := ziX
 conv => whnf
 refine vIf (fun h => ?_) fun h => ?_
 ·have hj : i < ks.length := by
   have h2 : (i : Int) < ((ksI ks).length : Nat) := by simpa [Sl.len] using h
   omega
  have ek : ks[i]? = some ks[i] := jP hj
  obtain ⟨k, hk⟩ : ∃ k, ks[i]? = some k := ⟨_, ek⟩
  have hkn : k < ns.length := hks k (List.mem_of_getElem? hk)
  have eki : (ksI ks)[i]? = some (k : Int) := by unfold ksI; rw [List.getElem?_map, hk]; rfl
  obtain ⟨x, hx⟩ : ∃ x, (zcD ns.length (ks.take i) ns)[k]? = some x := ⟨_, jP (by omega)⟩
  conv => whnf
  refine ⟨i, ⟨rfl, by omega, by omega⟩, ?_⟩
  conv => whnf
  refine zbE (zbr (T := zaS) (sv := zaH .i64 k) 3 eki (fun _ => rfl) rfl rfl rfl (by kernel_rfl) (fun _ => .inr ⟨rfl, rfl, rfl⟩)) rfl rfl ?_
  conv => whnf
  refine ⟨k, ⟨rfl, by omega, by omega⟩, ?_⟩
  conv => whnf
  refine za4 (zyn (T := zbG) (e := 117) { x with up := (ns.length : Int) } zaw rfl hx (List.mem_cons_self ..) (fun _ _ h => h) rfl rfl rfl rfl rfl (fun _ => ⟨rfl, trivial⟩) fun _ _ => rfl) ?_
  rw [← zny hk hx]
  conv => whnf
  refine zd6 (by omega) (by omega) ?_
  conv => whnf
  exact ⟨i + 1, [], [0, 2, 3, 4], ⟨hj, Nat.sub_lt_sub_left hj (Nat.lt_succ_self i)⟩, zbW⟩
 have hi2 : i = ks.length := by
  have h2 : ¬ (i : Int) < ((ksI ks).length : Nat) := by simpa [Sl.len] using h
  omega
 rw [hi2, List.take_length]
 rw [hi2, List.take_length] at hsl
 conv => whnf
 refine za0 (zhU (T := zbG) (e := 117) (x := ⟨lv, pl, rd, a.fr, b.tt, ksI ks, -1⟩) (μs := fun h => [h.r 2]) rfl rfl rfl hsl.symm rfl rfl rfl (fun h => rfl) (by_ := 72) ⟨by kernel_rfl, by kernel_rfl⟩ (by omega) (by omega) rfl rfl (List.mem_cons_self ..) (fun h h' ag => by rw [(ag 2 rfl).2.1]) fun h w Y H => H _ (.tail _ (.tail _ (.tail _ (.head _))))) ?_
 conv => whnf
 have ez : ((Sl.hd 5 (ns.length + 1)).len : Int) - 1 = (ns.length : Int) := by show (((ns.length + 1 : Nat) : Int)) - 1 = _; omega
 refine zc6 ez (show -9223372036854775808 ≤ ((ns.length + 1 : Nat) : Int) - 1 by omega) (show ((ns.length + 1 : Nat) : Int) - 1 ≤ 9223372036854775807 by omega) ?_
 conv => whnf
 exact zdi [(0, 0), (2, 5)] [0] [2] (.inl rfl) ⟨.inl rfl, .inl rfl, trivial⟩ rfl ⟨.inl rfl, trivial⟩ ⟨rfl, trivial⟩
def dNd : Nd := ⟨0, 0, false, 0, 0, [], 0⟩
def zcE (ns : List Nd) (lv pl : Int) (rd : Bool) (ks : List Nat) : List Nd := zcD ns.length ks ns ++ [⟨lv, pl, rd, (ns.getD (ks.getD 0 0) dNd).fr, (ns.getD (ks.getD (ks.length - 1) 0) dNd).tt, ksI ks, -1⟩]
def zbg (two : Bool) (ls : List (List Int)) : Nat → List Int × List Nd → List Int × List Nd
 | 0, s => (s.1.set 0 (s.1.getD 0 0 + 1), s.2 ++ [⟨0, s.1.getD 0 0, false, s.1.getD 0 0, s.1.getD 0 0 + 1, [], -1⟩])
 | l + 1, s =>
  let a := s.1.getD (l + 1) 0
  let s1 := zbg two ls l (s.1.set (l + 1) (a + 1), s.2)
  let s2 := zbg two ls l s1
  if (ls.getD l []).getD a.toNat 0 = 2 then (s2.1, zcE s2.2 (l + 1) a false [s1.2.length - 1, s2.2.length - 1])
  else if two then
   let s3 := zbg two ls l s2
   (s3.1, zcE s3.2 (l + 1) a false [s1.2.length - 1, s2.2.length - 1, s3.2.length - 1])
  else
   let s3 := zbg two ls l (s2.1, zcE s2.2 (l + 1) a true [s1.2.length - 1, s2.2.length - 1])
   (s3.1, zcE s3.2 (l + 1) a false [s2.2.length, s3.2.length - 1])
def okD (two : Bool) (ls : List (List Int)) : Nat → List Int × List Nd → Prop
 | 0, s => ∃ a : Nat, s.1[0]? = some (a : Int) ∧ a ≤ 1000000 ∧ s.2.length ≤ 1000000
 | l + 1, s => ∃ (a : Nat) (r : List Int) (v : Int), s.1[l + 1]? = some (a : Int) ∧ a ≤ 1000000 ∧ ls[l]? = some r ∧ r[a]? = some v ∧
  (let s1 := zbg two ls l (s.1.set (l + 1) ((a : Int) + 1), s.2)
   let s2 := zbg two ls l s1
   okD two ls l (s.1.set (l + 1) ((a : Int) + 1), s.2) ∧ okD two ls l s1 ∧ s2.2.length ≤ 1000000 ∧
   (v ≠ 2 → if two then okD two ls l s2 ∧ (zbg two ls l s2).2.length ≤ 1000000 else okD two ls l (s2.1, zcE s2.2 ((l + 1 : Nat) : Int) a true [s1.2.length - 1, s2.2.length - 1]) ∧ (zbg two ls l (s2.1, zcE s2.2 ((l + 1 : Nat) : Int) a true [s1.2.length - 1, s2.2.length - 1])).2.length ≤ 1000000))
def dnM (nl r : Nat) (nx : List Int) (ns : List Nd) : MB := [(0, .blk [.one (.p (.hd 1 nl))] 24), (1, zbF zaS nx 3), (2, .blk [.one (.p (.hd r ns.length))] 110), (r, zbF zbG ns 117)]
def dnR (nx : List Int) (ns : List Nd) (nids : Nat) (ls : List (List Int)) (kd : Int) : List SF := [.q 3 (zdd zbG ns), .blk 4 [.one (.fn (.func 175) [] [.at_ 0 0, .at_ 2 0, .at_ 4 0, .at_ 5 0, .at_ 6 0, .at_ 7 0])], .blk 5 [.one (.p (.hd 8 nids)), .one (.p (.hd 9 ls.length))], .blk 6 [.one (.fn (.func 174) [] [.at_ 2 0])], .blk 7 [ze7 kd], .sl 9 ls.length (SlF (zfY zaS) ls)]
def dnA (l : Nat) (h : Hn) (bl : List Nat) : List Value := [.int .i64 l, .pointer (some ⟨h.b 0, 0, none⟩), .pointer (some ⟨h.b 2, 0, none⟩), .pointer (some ⟨ziL bl 0, 0, none⟩), .pointer (some ⟨ziL bl 1, 0, none⟩), .pointer (some ⟨ziL bl 2, 0, none⟩), .pointer (some ⟨ziL bl 3, 0, none⟩)]
def zDB (l : Nat) : List SV := [zaH .i64 l, atS 0 0, atS 2 0, atS 4 0, atS 5 0, atS 6 0, atS 7 0]
def zBb (two : Bool) (ls : List (List Int)) (l : Nat) : Prop := ∀ (X : List Nat) (w : World) (h0 : Hn) (bl : List Nat) (ql : List Qd) (nl : Nat) (nx : List Int) (ns : List Nd) (nids : Nat) (kd : Int), nx.length = nl → okD two ls l (nx, ns) → (kd == 1) = two → Sp X w (zad h0 [] (dnM nl 3 nx ns)) (zaN (h0.ext 4 bl ql) (dnR nx ns nids ls kd)) →
 CtG Tryz.prog 175 (dnA l h0 bl) X w h0 (dnM nl 3 nx ns) [0, 1, 2] (zaH .i64 (((zbg two ls l (nx, ns)).2.length - 1 : Nat) : Int)) (dnM nl 4 (zbg two ls l (nx, ns)).1 (zbg two ls l (nx, ns)).2) [.q 4 (zdd zbG (zbg two ls l (nx, ns)).2)]
theorem zsw (two : Bool) (ls : List (List Int)) : zBb two ls 0 := fun X w h0 bl ql nl nx ns nids kd hnl hok hkd hsp => by
 obtain ⟨a, ha, ha2, hn⟩ := hok
 simp only at ha hn
 have hl : 0 < nx.length := (List.getElem?_eq_some_iff.1 ha).1
 refine zxd (g := 4) (k0 := 10) (bl := bl) (ql := ql) (svs := zDB 0) (given := dnM nl 3 nx ns) (Rg := dnR nx ns nids ls kd) (kb := [0, 1, 2]) Tryz.ntmps175 Tryz.func175 rfl rfl rfl zaw (by kernel_rfl) rfl rfl hsp ?_
 conv => whnf
 refine ⟨0, ⟨rfl, hnl ▸ hl, hl⟩, ?_⟩
 conv => whnf
 refine zbE (zhT (T := zaS) (sv := zaH .i64 a) (e := 3) rfl ha (fun _ => rfl) rfl rfl (by kernel_rfl) (fun _ => .inr ⟨rfl, rfl, rfl⟩)) rfl rfl ?_
 conv => whnf
 refine ⟨0, ⟨rfl, hnl ▸ hl, hl⟩, ?_⟩
 conv => whnf
 refine zbE (zhT (T := zaS) (sv := zaH .i64 a) (e := 3) rfl ha (fun _ => rfl) rfl rfl (by kernel_rfl) (fun _ => .inr ⟨rfl, rfl, rfl⟩)) rfl rfl ?_
 conv => whnf
 refine zd6 (by omega) (by omega) ?_
 conv => whnf
 refine ⟨0, ⟨rfl, hnl ▸ hl, hl⟩, ?_⟩
 conv => whnf
 refine za4 (zkY (T := zaS) (e := 3) ((a : Int) + 1) zaw rfl ha rfl rfl rfl rfl rfl (fun _ => ⟨rfl, trivial⟩) fun _ _ => rfl) ?_
 conv => whnf
 refine zd6 (by omega) (by omega) ?_
 conv => whnf
 refine za0 (zhU (T := zbG) (e := 117) (x := ⟨0, a, false, a, (a : Int) + 1, [], -1⟩) (μs := fun _ => [(none, 0)]) rfl rfl rfl rfl rfl rfl rfl (fun h => rfl) (by_ := 72) ⟨by kernel_rfl, by kernel_rfl⟩ (by omega) (by omega) rfl rfl (.tail _ (.tail _ (.tail _ (.head _)))) (fun h h' ag => rfl) fun h w Y H => zcn) ?_
 conv => whnf
 have ez : ((Sl.hd 11 (ns.length + 1)).len : Int) - 1 = (ns.length : Int) := by show (((ns.length + 1 : Nat) : Int)) - 1 = _; omega
 refine zc6 ez (show -9223372036854775808 ≤ ((ns.length + 1 : Nat) : Int) - 1 by omega) (show ((ns.length + 1 : Nat) : Int) - 1 ≤ 9223372036854775807 by omega) ?_
 have e1 : zbg two ls 0 (nx, ns) = (nx.set 0 ((a : Int) + 1), ns ++ [⟨0, a, false, a, (a : Int) + 1, [], -1⟩]) := by
  unfold zbg
  have : nx.getD 0 0 = (a : Int) := by rw [jR, ha]; rfl
  simp only [this]
 have e2 : (ns ++ [(⟨0, a, false, a, (a : Int) + 1, [], -1⟩ : Nd)]).length - 1 = ns.length := by simp
 have e4 : ns.length + 1 = (ns ++ [(⟨0, a, false, a, (a : Int) + 1, [], -1⟩ : Nd)]).length := by simp
 rw [e1, e2]
 conv => whnf
 exact zdi [(0, 0), (1, 1), (2, 2), (4, 11)] [0] [1, 2, 3] (.inl rfl) ⟨.inl rfl, .inl rfl, .inl (by rw [← e4]; rfl), .inl rfl, trivial⟩ rfl ⟨.inl rfl, trivial⟩ ⟨rfl, rfl, rfl, trivial⟩
theorem zbw {ns : List Nd} {lv pl : Int} {rd : Bool} {ks : List Nat} : (zcE ns lv pl rd ks).length = ns.length + 1 := by unfold zcE; simp [ziX]
theorem zeD {two : Bool} {ls : List (List Int)} : ∀ {l : Nat} {s : List Int × List Nd}, (zbg two ls l s).1.length = s.1.length
 | 0, s => by simp [zbg]
 | l + 1, s => by
  unfold zbg
  simp only
  split
  ·simp [zeD (l := l)]
  ·split <;> simp [zeD (l := l)]
theorem zb0 {two : Bool} {ls : List (List Int)} : ∀ {l : Nat} {s : List Int × List Nd}, s.2.length < (zbg two ls l s).2.length
 | 0, s => by simp [zbg]
 | l + 1, s => by
  have h1 := zb0 (two := two) (ls := ls) (l := l) (s := (s.1.set (l + 1) (s.1.getD (l + 1) 0 + 1), s.2))
  have h2 := zb0 (two := two) (ls := ls) (l := l) (s := zbg two ls l (s.1.set (l + 1) (s.1.getD (l + 1) 0 + 1), s.2))
  unfold zbg
  simp only at h1 ⊢
  split
  ·simp only [zbw]; omega
  ·split
   ·have h3 := zb0 (two := two) (ls := ls) (l := l) (s := zbg two ls l (zbg two ls l (s.1.set (l + 1) (s.1.getD (l + 1) 0 + 1), s.2)))
    simp only [zbw]; omega
   ·have h3 := zb0 (two := two) (ls := ls) (l := l) (s := ((zbg two ls l (zbg two ls l (s.1.set (l + 1) (s.1.getD (l + 1) 0 + 1), s.2))).1, zcE (zbg two ls l (zbg two ls l (s.1.set (l + 1) (s.1.getD (l + 1) 0 + 1), s.2))).2 (l + 1) (s.1.getD (l + 1) 0) true [(zbg two ls l (s.1.set (l + 1) (s.1.getD (l + 1) 0 + 1), s.2)).2.length - 1, (zbg two ls l (zbg two ls l (s.1.set (l + 1) (s.1.getD (l + 1) 0 + 1), s.2))).2.length - 1]))
    simp only [zbw] at h3 ⊢
    omega
def ksC (ks : List Nat) : List SC := ks.map fun k : Nat => ze7 (Int.ofNat k)
theorem zsx {h : Hn} : ∀ {ks : List Nat}, zay h (ksC ks) = (ksI ks).map fun z => Chunk.one (.int .i64 z)
 | [] => rfl
 | k :: ks => by
  show Chunk.one (.int .i64 (Int.ofNat k)) :: zay h (ksC ks) = _
  rw [zsx]
  rfl
theorem zsy : ∀ (zs : List Int), cl (zs.map fun z => Chunk.one (.int .i64 z)) = zs.map fun z => Value.int .i64 z
 | [] => rfl
 | z :: zs => by
  show Value.int .i64 z :: cl _ = _
  rw [zsy zs]
  rfl
theorem zBc {b : Nat} {zs : List Int} {w : World} (hz : 0 < zs.length) (hb : zs.length ≤ 9223372036854775807) (H : AtC ⟨b, 0, none⟩ (zs.map fun z => Chunk.one (.int .i64 z)) w) : SlQ zaS zs (some ⟨b, 0, none⟩, zs.length) w := by
 refine ⟨fun e => (by cases e), fun _ => (), jV _, hb, fun e => (by cases e), fun ad hA i x hx => ⟨fun j u hu => ?_, trivial⟩⟩
 obtain rfl := Option.some.inj hA
 have hj : j = 0 ∧ u = .int .i64 x := by
  cases j with
  | zero => simp [zaS, cl, Chunk.cells] at hu; exact ⟨rfl, hu.symm⟩
  | succ j => simp [zaS, cl, Chunk.cells] at hu
 obtain ⟨rfl, rfl⟩ := hj
 have := H i (.int .i64 x) (by rw [zsy, List.getElem?_map, hx]; rfl)
 rw [zau]
 simpa [zaS] using this
theorem zpd (lv pl : Int) (rd : Bool) {ns : List Nd} {ks : List Nat} (hks : ∀ k ∈ ks, k < ns.length) (hne : 0 < ks.length) (hkl : ks.length ≤ 3) (hn : ns.length ≤ 1000000) {X : List Nat} {w : World} {h h0' : Hn} {r j : Nat} (hsp : Sp X w (zad h0' [] (zuJ ns)) (zaN h [.q r (zdd zbG ns), .blk j (ksC ks)])) (hq : h.q r = h0'.q 1) :
  CtG Tryz.prog 174 [.agg (ca [.one (.int .i64 lv), .one (.int .i64 pl), .one (.bool rd), .one (.int .i64 0), .one (.int .i64 0), .one (.slice none 0 0), .one (.int .i64 0)]), .slice (some ⟨h.b j, 0, none⟩) (ksI ks).length (ksI ks).length, .pointer (some ⟨h0'.b 0, 0, none⟩)] X w h0' (zuJ ns) [0] (zaH .i64 ns.length) [(0, .blk [.one (.p (.hd 2 (ns.length + 1)))] 110), (2, zbF zbG (zcE ns lv pl rd ks) 117)] [.q 2 (zdd zbG (zcE ns lv pl rd ks))] := by
 have e0 : ks[0]? = some (ks.getD 0 0) := zhV 0 hne
 have e1 : ks[ks.length - 1]? = some (ks.getD (ks.length - 1) 0) := zhV 0 (by omega)
 refine zvv lv pl rd ns ks (some ⟨h.b j, 0, none⟩, (ksI ks).length) hks e0 e1 (zhV dNd (hks _ (List.mem_of_getElem? e0))) (zhV dNd (hks _ (List.mem_of_getElem? e1))) hkl hn (hsp.refacts fun q' hq' => ?_)
 rcases List.mem_cons.1 hq' with rfl | hq'
 ·rw [← hq]
  exact hsp.facts _ (List.mem_cons_self ..)
 ·rcases List.mem_singleton.1 hq' with rfl
  have h1 : St (AtC ⟨h.b j, 0, none⟩ (zay h (ksC ks))) w (X ++ zab (zad h0' [] (zuJ ns))) := hsp.facts _ (List.mem_cons_of_mem _ (List.mem_cons_self ..))
  rw [zsx] at h1
  exact h1.imp fun w' hw => zBc (by rw [znx]; exact hne) (by rw [znx]; omega) hw
theorem zk2 {two : Bool} {ls : List (List Int)} {l : Nat} (ih : zBb two ls l) {nl : Nat} {nx nx1 : List Int} {ns ns1 : List Nd} {nids : Nat} {kd : Int} (e : zbg two ls l (nx, ns) = (nx1, ns1)) (hnl : nx.length = nl) (hok : okD two ls l (nx, ns)) (hkd : (kd == 1) = two) {X : List Nat} {w : World} {h0 : Hn} {bl : List Nat} {ql : List Qd} (hsp : Sp X w (zad h0 [] (dnM nl 3 nx ns)) (zaN (h0.ext 4 bl ql) (dnR nx ns nids ls kd))) :
  CtG Tryz.prog 175 (dnA l h0 bl) X w h0 (dnM nl 3 nx ns) [0, 1, 2] (zaH .i64 ((ns1.length - 1 : Nat) : Int)) (dnM nl 4 nx1 ns1) [.q 4 (zdd zbG ns1)] := by
 have := ih X w h0 bl ql nl nx ns nids kd hnl hok hkd hsp
 rwa [e] at this
theorem zsz (two : Bool) (ls : List (List Int)) (l : Nat) (hl : l ≤ 1000) (ih : zBb two ls l) : zBb two ls (l + 1) := fun X w h0 bl ql nl nx ns nids kd hnl hok hkd hsp => by
 obtain ⟨a, r, v, ha, ha2, hr, hv, h1, h2, hn, h3⟩ := hok
 simp only at ha
 have hlt : l + 1 < nx.length := (List.getElem?_eq_some_iff.1 ha).1
 simp only at h1 h2 hn h3
 obtain ⟨⟨nx1, ns1⟩, e1⟩ : ∃ s, zbg two ls l (nx.set (l + 1) ((a : Int) + 1), ns) = s := ⟨_, rfl⟩
 have hl1 : nx1.length = nl := by have := zeD (two := two) (ls := ls) (l := l) (s := (nx.set (l + 1) ((a : Int) + 1), ns)); rw [e1] at this; simpa [hnl] using this
 have hg1 : ns.length < ns1.length := by have := zb0 (two := two) (ls := ls) (l := l) (s := (nx.set (l + 1) ((a : Int) + 1), ns)); rw [e1] at this; exact this
 rw [e1] at h2 hn h3
 obtain ⟨⟨nx2, ns2⟩, e2⟩ : ∃ s, zbg two ls l (nx1, ns1) = s := ⟨_, rfl⟩
 have hl2 : nx2.length = nl := by have := zeD (two := two) (ls := ls) (l := l) (s := (nx1, ns1)); rw [e2] at this; simpa [hl1] using this
 have hg2 : ns1.length < ns2.length := by have := zb0 (two := two) (ls := ls) (l := l) (s := (nx1, ns1)); rw [e2] at this; exact this
 rw [e2] at hn h3
 simp only at h2 hn h3
 refine zxd (g := 4) (k0 := 10) (bl := bl) (ql := ql) (svs := zDB (l + 1)) (given := dnM nl 3 nx ns) (Rg := dnR nx ns nids ls kd) (kb := [0, 1, 2]) Tryz.ntmps175 Tryz.func175 rfl rfl rfl zaw (by kernel_rfl) rfl rfl hsp ?_
 conv => whnf
 refine ⟨l + 1, ⟨rfl, hnl ▸ hlt, hlt⟩, ?_⟩
 conv => whnf
 refine zbE (zhT (T := zaS) (sv := zaH .i64 a) (e := 3) rfl ha (fun _ => rfl) rfl rfl (by kernel_rfl) (fun _ => .inr ⟨rfl, rfl, rfl⟩)) rfl rfl ?_
 conv => whnf
 refine ⟨l + 1, ⟨rfl, hnl ▸ hlt, hlt⟩, ?_⟩
 conv => whnf
 refine zbE (zhT (T := zaS) (sv := zaH .i64 a) (e := 3) rfl ha (fun _ => rfl) rfl rfl (by kernel_rfl) (fun _ => .inr ⟨rfl, rfl, rfl⟩)) rfl rfl ?_
 conv => whnf
 refine zd6 (by omega) (by omega) ?_
 conv => whnf
 refine ⟨l + 1, ⟨rfl, hnl ▸ hlt, hlt⟩, ?_⟩
 conv => whnf
 refine za4 (zkY (T := zaS) (e := 3) ((a : Int) + 1) zaw rfl ha rfl rfl rfl rfl rfl (fun _ => ⟨rfl, trivial⟩) fun _ _ => rfl) ?_
 conv => whnf
 refine zbd 7 [0, 1, 2, 3] (by kernel_rfl) ?_
 conv => whnf
 have el : ((l + 1 : Nat) : Int) - 1 = (l : Int) := by omega
 refine zc6 el (by omega) (by omega) ?_
 conv => whnf
 refine zfE rfl (zdI 1 (zaQ [0, 1, 2, 3] 1 rfl rfl rfl (by kernel_rfl) (fs := fun _ => []) (cs := fun h => ziw h [.at_ 0 0, .at_ 2 0, .at_ 4 0, .at_ 5 0, .at_ 6 0, .at_ 7 0]) (fun h => rfl) rfl rfl (given := dnM nl 3 (nx.set (l + 1) ((a : Int) + 1)) ns) ⟨rfl, rfl, rfl, rfl, trivial⟩ rfl rfl rfl rfl rfl rfl fun h X w L2 H => zk2 ih e1 (by rw [List.length_set]; exact hnl) h1 hkd (bl := [h.b 4, h.b 5, h.b 6, h.b 7]) (ql := [(none, 0), (none, 0), (none, 0), (none, 0), h.r 8, h.r 9]) (H.pick [3, 4, 5, 6, 7, 8] rfl)) (fun _ => List.mem_append_left _) rfl) ?_
 conv => whnf
 refine zc6 el (by omega) (by omega) ?_
 conv => whnf
 refine za0 (zaQ [0, 1, 2, 11] 1 rfl rfl rfl (by kernel_rfl) (fs := fun _ => []) (cs := fun h => ziw h [.at_ 0 0, .at_ 2 0, .at_ 4 0, .at_ 5 0, .at_ 6 0, .at_ 7 0]) (fun h => rfl) rfl rfl (given := dnM nl 3 nx1 ns1) ⟨rfl, rfl, rfl, rfl, trivial⟩ rfl rfl rfl rfl rfl rfl fun h X w L2 H => zk2 ih e2 hl1 h2 hkd (bl := [h.b 4, h.b 5, h.b 6, h.b 7]) (ql := [(none, 0), (none, 0), (none, 0), (none, 0), h.r 8, h.r 9]) (H.pick [0, 5, 6, 7, 8, 9] rfl)) ?_
 conv => whnf
 refine zc6 el (by omega) (by omega) ?_
 have hll : l < ls.length := (List.getElem?_eq_some_iff.1 hr).1
 have har : a < r.length := (List.getElem?_eq_some_iff.1 hv).1
 conv => whnf
 refine ⟨l, ⟨rfl, hll, hll⟩, ?_⟩
 conv => whnf
 refine zeT (zw4 (T := zaS) 10 hr rfl rfl rfl (by kernel_rfl)) rfl rfl ?_
 conv => whnf
 refine ⟨a, ⟨rfl, har, har⟩, ?_⟩
 conv => whnf
 refine zbE (zbr (T := zaS) (sv := zaH .i64 v) 0 hv (fun _ => rfl) rfl rfl rfl (by kernel_rfl) (fun _ => .inr ⟨rfl, rfl, rfl⟩)) rfl rfl ?_
 have ea : nx.getD (l + 1) 0 = (a : Int) := by rw [jR, ha]; rfl
 have er : (ls.getD l []).getD (a : Int).toNat 0 = v := by
  have h5 : ls.getD l [] = r := by rw [jR, hr]; rfl
  rw [h5]
  show r.getD a 0 = v
  rw [jR, hv]; rfl
 conv => whnf
 refine vIf (fun h => ?_) fun h => ?_
 ·have hv2 : v = 2 := by simpa using h
  have e9 : zbg two ls (l + 1) (nx, ns) = (nx2, zcE ns2 ((l + 1 : Nat) : Int) a false [ns1.length - 1, ns2.length - 1]) := by
   unfold zbg
   simp only [ea, e1, e2, er, hv2, if_true]
   rfl
  rw [e9]
  conv => whnf
  refine za0 (zbe [14] rfl rfl (zaQ [2, 12] 1 rfl rfl rfl (by kernel_rfl) (fs := fun _ => []) (cs := fun h => ziw h [.at_ 2 0]) (fun h => rfl) rfl rfl (given := zuJ ns2) ⟨rfl, rfl, trivial⟩ rfl rfl rfl rfl rfl rfl fun h X w L2 H => zpd ((l + 1 : Nat) : Int) a false (ks := [ns1.length - 1, ns2.length - 1]) (by simp; omega) (by simp) (by simp) hn (r := 12) (j := 14) (H.pick [2, 0] rfl) rfl)) ?_
  conv => whnf
  exact zdi [(0, 0), (1, 1), (2, 2), (4, 15)] [0] [5, 6, 7] (.inl (by rw [zbw]; rfl)) ⟨.inl rfl, .inl rfl, .inl (by rw [zbw]; rfl), .inl rfl, trivial⟩ rfl ⟨.inl rfl, trivial⟩ ⟨rfl, rfl, rfl, trivial⟩
 have hv2 : v ≠ 2 := by simpa using h
 have h3 := h3 hv2
 conv => whnf
 refine vIf (fun hk => ?_) fun hk => ?_
 ·obtain rfl : two = true := by rw [← hkd]; exact hk
  obtain ⟨h4, hn3⟩ := (if_pos rfl : (if true = true then _ else _) = _) ▸ h3
  obtain ⟨⟨nx3, ns3⟩, e3⟩ : ∃ s, zbg true ls l (nx2, ns2) = s := ⟨_, rfl⟩
  have hg3 : ns2.length < ns3.length := by have := zb0 (two := true) (ls := ls) (l := l) (s := (nx2, ns2)); rw [e3] at this; exact this
  rw [e3] at hn3
  have e9 : zbg true ls (l + 1) (nx, ns) = (nx3, zcE ns3 ((l + 1 : Nat) : Int) a false [ns1.length - 1, ns2.length - 1, ns3.length - 1]) := by
   unfold zbg
   simp only [ea, e1, e2, e3, er, if_neg hv2, if_true]
   rfl
  rw [e9]
  conv => whnf
  refine zbd 9 [0, 1, 2, 12] (by kernel_rfl) ?_
  conv => whnf
  refine zc6 el (by omega) (by omega) ?_
  conv => whnf
  refine zfE rfl (zdI 1 (zaQ [0, 1, 2, 12] 1 rfl rfl rfl (by kernel_rfl) (fs := fun _ => []) (cs := fun h => ziw h [.at_ 0 0, .at_ 2 0, .at_ 4 0, .at_ 5 0, .at_ 6 0, .at_ 7 0]) (fun h => rfl) rfl rfl (given := dnM nl 3 nx2 ns2) ⟨rfl, rfl, rfl, rfl, trivial⟩ rfl rfl rfl rfl rfl rfl fun h X w L2 H => zk2 ih e3 hl2 h4 hkd (bl := [h.b 4, h.b 5, h.b 6, h.b 7]) (ql := [(none, 0), (none, 0), (none, 0), (none, 0), h.r 8, h.r 9]) (H.pick [1, 7, 8, 9, 10, 11] rfl)) (fun _ => List.mem_append_left _) rfl) ?_
  conv => whnf
  refine za0 (zbe [15] rfl rfl (zaQ [2, 14] 1 rfl rfl rfl (by kernel_rfl) (fs := fun _ => []) (cs := fun h => ziw h [.at_ 2 0]) (fun h => rfl) rfl rfl (given := zuJ ns3) ⟨rfl, rfl, trivial⟩ rfl rfl rfl rfl rfl rfl fun h X w L2 H => zpd ((l + 1 : Nat) : Int) a false (ks := [ns1.length - 1, ns2.length - 1, ns3.length - 1]) (by simp; omega) (by simp) (by simp) hn3 (r := 14) (j := 15) (H.pick [1, 0] rfl) rfl)) ?_
  conv => whnf
  exact zdi [(0, 0), (1, 1), (2, 2), (4, 16)] [0] [6, 7, 8] (.inl (by rw [zbw]; rfl)) ⟨.inl rfl, .inl rfl, .inl (by rw [zbw]; rfl), .inl rfl, trivial⟩ rfl ⟨.inl rfl, trivial⟩ ⟨rfl, rfl, rfl, trivial⟩
 obtain rfl : two = false := by rw [← hkd]; exact hk
 obtain ⟨h4, hn3⟩ := (if_neg (by decide) : (if false = true then _ else _) = _) ▸ h3
 obtain ⟨lf, elf⟩ : ∃ lf, zcE ns2 ((l + 1 : Nat) : Int) a true [ns1.length - 1, ns2.length - 1] = lf := ⟨_, rfl⟩
 have hlf : ns2.length + 1 = lf.length := by rw [← elf, zbw]
 rw [elf] at h4 hn3
 obtain ⟨⟨nx3, ns3⟩, e3⟩ : ∃ s, zbg false ls l (nx2, lf) = s := ⟨_, rfl⟩
 have hg3 : lf.length < ns3.length := by have := zb0 (two := false) (ls := ls) (l := l) (s := (nx2, lf)); rw [e3] at this; exact this
 rw [e3] at hn3
 have e9 : zbg false ls (l + 1) (nx, ns) = (nx3, zcE ns3 ((l + 1 : Nat) : Int) a false [ns2.length, ns3.length - 1]) := by
  have elf' : zcE ns2 ((l : Int) + 1) a true [ns1.length - 1, ns2.length - 1] = lf := elf
  unfold zbg
  simp only [ea, e1, e2, er, if_neg hv2, elf, elf', e3, Bool.false_eq_true, if_false]
  rfl
 rw [e9]
 conv => whnf
 refine za0 (zbe [14] rfl rfl (zaQ [2, 12] 1 rfl rfl rfl (by kernel_rfl) (fs := fun _ => []) (cs := fun h => ziw h [.at_ 2 0]) (fun h => rfl) rfl rfl (given := zuJ ns2) ⟨rfl, rfl, trivial⟩ rfl rfl rfl rfl rfl rfl fun h X w L2 H => zpd ((l + 1 : Nat) : Int) a true (ks := [ns1.length - 1, ns2.length - 1]) (by simp; omega) (by simp) (by simp) hn (r := 12) (j := 14) (H.pick [2, 0] rfl) rfl)) ?_
 rw [elf, hlf]
 conv => whnf
 refine zbd 8 [0, 1, 2, 15] (by kernel_rfl) ?_
 conv => whnf
 refine zc6 el (by omega) (by omega) ?_
 conv => whnf
 refine zfE rfl (zdI 1 (zaQ [0, 1, 2, 15] 1 rfl rfl rfl (by kernel_rfl) (fs := fun _ => []) (cs := fun h => ziw h [.at_ 0 0, .at_ 2 0, .at_ 4 0, .at_ 5 0, .at_ 6 0, .at_ 7 0]) (fun h => rfl) rfl rfl (given := dnM nl 3 nx2 lf) ⟨rfl, rfl, rfl, rfl, trivial⟩ rfl rfl rfl rfl rfl rfl fun h X w L2 H => zk2 ih e3 hl2 h4 hkd (bl := [h.b 4, h.b 5, h.b 6, h.b 7]) (ql := [(none, 0), (none, 0), (none, 0), (none, 0), h.r 8, h.r 9]) (H.pick [0, 9, 10, 11, 12, 13] rfl)) (fun _ => List.mem_append_left _) rfl) ?_
 conv => whnf
 refine za0 (zbe [17] rfl rfl (zaQ [2, 16] 1 rfl rfl rfl (by kernel_rfl) (fs := fun _ => []) (cs := fun h => ziw h [.at_ 2 0]) (fun h => rfl) rfl rfl (given := zuJ ns3) ⟨rfl, rfl, trivial⟩ rfl rfl rfl rfl rfl rfl fun h X w L2 H => zpd ((l + 1 : Nat) : Int) a false (ks := [ns2.length, ns3.length - 1]) (by simp; omega) (by simp) (by simp) hn3 (r := 16) (j := 17) (H.pick [1, 0] rfl) rfl)) ?_
 conv => whnf
 exact zdi [(0, 0), (1, 1), (2, 2), (4, 18)] [0] [8, 9, 10] (.inl (by rw [zbw]; rfl)) ⟨.inl rfl, .inl rfl, .inl (by rw [zbw]; rfl), .inl rfl, trivial⟩ rfl ⟨.inl rfl, trivial⟩ ⟨rfl, rfl, rfl, trivial⟩
def zbn (two : Bool) (ls : List (List Int)) (nids : Nat) : List Nd := if 0 < nids then (zbg two ls ls.length (List.replicate (ls.length + 1) 0, [])).2 else []
theorem zsA (two : Bool) (ls : List (List Int)) : ∀ l, l ≤ 1001 → zBb two ls l
 | 0, _ => zsw two ls
 | l + 1, h => zsz two ls l (by omega) (zsA two ls l (by omega))
theorem zpe (hX : ∀ k ∈ X, k < w.heap.size) (two : Bool) (kd : Int) (hkd : (kd == 1) = two) (nids : Nat) (ls : List (List Int)) (qi qL : Qd) (hls : St (SlQ (zfY zaS) ls qL) w X) (hl : ls.length ≤ 1000) (hok : 0 < nids → okD two ls ls.length (List.replicate (ls.length + 1) 0, [])) :
  Ct Tryz.prog 147 [.int .i64 kd, .agg (ca [.one (.slice qi.1 nids qi.2), .one (.slice qL.1 ls.length qL.2)])] X w (.a (.s (.p (.hd 0 (zbn two ls nids).length)))) [.gone] [.sl 0 (zbn two ls nids).length (SlF zbG (zbn two ls nids))] := by
 refine vFn (k0 := 2) (rs := [.cell 4 110]) (svs := [zaH .i64 kd, .a (.agg [.one (.p (.hd 0 nids)), .one (.p (.hd 1 ls.length))])]) (R0 := [.sl 1 ls.length (SlF (zfY zaS) ls)]) (hnQ [qi, qL]) Tryz.ntmps147 Tryz.func147 rfl rfl rfl rfl rfl zaw (by kernel_rfl) hX (fun r hr => by rcases List.mem_singleton.1 hr with rfl; exact hls) ?_
 conv => whnf
 refine zc6 (z' := ((ls.length + 1 : Nat) : Int)) rfl (by show -9223372036854775808 ≤ ((ls.length : Nat) : Int) + 1; omega) (by show ((ls.length : Nat) : Int) + 1 ≤ 9223372036854775807; omega) ?_
 conv => whnf
 have hA : AppK Tryz.prog 24 3 zaS.sz 8 := ⟨by kernel_rfl, by kernel_rfl⟩
 have hz : zdr Tryz.prog 3 = some (ca [.one (.int .i64 0)]) := by kernel_rfl
 refine zcm (zxa (T := zaS) (n := ls.length + 1) (d := 0) hA hz rfl rfl rfl rfl rfl rfl (by omega) (by unfold maxLen; omega)) rfl rfl ?_
 conv => whnf
 refine .inl ?_
 conv => whnf
 refine vIf (fun h => ?_) fun h => ?_
 ·have hpos : 0 < nids := by
   have : (nids : Int) > 0 := by simpa [Sl.len] using h
   omega
  have hd := zsA two ls ls.length (by omega)
  obtain ⟨⟨nx1, ns1⟩, e1⟩ : ∃ s, zbg two ls ls.length (List.replicate (ls.length + 1) 0, []) = s := ⟨_, rfl⟩
  have e2 : zbn two ls nids = ns1 := by unfold zbn; rw [if_pos hpos, e1]
  rw [e2]
  conv => whnf
  refine zyp 2 (zbe [8, 3, 5, 2] rfl rfl (zvs (T := zbG) (e := 117) (i := 4) rfl rfl rfl rfl (zaQ [7, 6, 4, 9] 1 rfl rfl rfl (by kernel_rfl) (fs := fun _ => []) (cs := fun h => ziw h [.at_ 7 0, .at_ 4 0, .at_ 8 0, .at_ 3 0, .at_ 5 0, .at_ 2 0]) (fun h => rfl) rfl rfl (given := dnM (ls.length + 1) 3 (List.replicate (ls.length + 1) 0) []) ⟨rfl, rfl, rfl, rfl, trivial⟩ rfl rfl rfl rfl rfl rfl fun h X w L2 H => zk2 hd e1 (by simp) (hok hpos) hkd (bl := [h.b 8, h.b 3, h.b 5, h.b 2]) (ql := [(none, 0), (none, 0), (none, 0), (none, 0), h.r 0, h.r 1]) (H.pick [0, 4, 3, 2, 1, 5] rfl)))) ?_
  conv => whnf
  refine znw (T := zbG) (e := 117) (xs := ns1) 10 rfl (.head _) rfl ?_
  exact zaY [(0, 10)] [0] (.inl rfl) trivial rfl ⟨.inl rfl, trivial⟩
 have hpos : ¬ 0 < nids := by
  intro h0
  have : ¬ (nids : Int) > 0 := by simpa [Sl.len] using h
  omega
 have e2 : zbn two ls nids = [] := by unfold zbn; rw [if_neg hpos]
 rw [e2]
 conv => whnf
 exact zaY [(0, 9)] [0] (.inr rfl) trivial rfl ⟨.inr (za8 rfl), trivial⟩
def zg6 (kd : Int) (ids : List Int) (ls : List (List Int)) : Bool := (kd == 1 || kd == 2) && zdw ids ls
theorem zxe (hX : ∀ k ∈ X, k < w.heap.size) (kd : Int) (ids : List Int) (ls : List (List Int)) (q p : Qd) (hq : St (SlQ zaS ids q) w X) (hp : St (SlQ (zfY zaS) ls p) w X) (hlen : ∀ l ∈ ls, l.length ≤ 1099511627776) :
  Ct Tryz.prog 145 [.int .i64 kd, .agg (ca [.one (.slice q.1 ids.length q.2), .one (.slice p.1 ls.length p.2)])] X w (zaH .i64 (if zg6 kd ids ls then 0 else 1)) [] [] := by
 refine vFn (k0 := 2) (rs := [.tmp 4]) (svs := [zaH .i64 kd, .a (.agg [.one (.p (.hd 0 ids.length)), .one (.p (.hd 1 ls.length))])]) (R0 := [.sl 0 ids.length (SlF zaS ids), .sl 1 ls.length (SlF (zfY zaS) ls)]) (hnQ [q, p]) Tryz.ntmps145 Tryz.func145 rfl rfl rfl rfl rfl zaw (by kernel_rfl) hX (fun r hr => by rcases List.mem_cons.1 hr with rfl | hr; exact hq; rcases List.mem_singleton.1 hr with rfl; exact hp) ?_
 conv => whnf
 refine vIf (fun h1 => ?_) fun h1 => ?_
 ·conv => whnf
  refine vIf (fun h2 => ?_) fun h2 => ?_
  ·conv => whnf
   refine zaF ?_
   have : zg6 kd ids ls = false := by simp at h1 h2; simp [zg6, h1, h2]
   rw [this]; rfl
  conv => whnf
  refine zak rfl rfl rfl (by kernel_rfl) (fun h X w H => zkX H.xk ids ls _ _ (H.fact 0 rfl) (H.fact 1 rfl) hlen) rfl rfl rfl ?_
  conv => whnf
  refine zaF ?_
  have : zg6 kd ids ls = zdw ids ls := by simp at h2; simp [zg6, h2]
  rw [this]; rfl
 conv => whnf
 refine zak rfl rfl rfl (by kernel_rfl) (fun h X w H => zkX H.xk ids ls _ _ (H.fact 0 rfl) (H.fact 1 rfl) hlen) rfl rfl rfl ?_
 conv => whnf
 refine zaF ?_
 have : zg6 kd ids ls = zdw ids ls := by simp at h1; simp [zg6, h1]
 rw [this]; rfl
def zDT (bl : List Nat) (ql : List Qd) : Hn := ⟨ziL bl, qs ql, fun _ _ => []⟩
theorem zpf : Inj zbG := fun x a b h => by
 simp only [zbG, cl, Chunk.cells, List.cons_append, List.nil_append, List.cons.injEq, Value.slice.injEq, and_true, true_and] at h
 exact Prod.ext h.1 h.2
theorem zvw (hX : ∀ k ∈ X, k < w.heap.size) (x : Nd) (μ : Qd) (b : Nat) (t : Int) (hb : St (AtC ⟨b, 0, none⟩ [.one (.int .i64 t)]) w X) :
  Ct Tryz.prog 149 [.agg (ca (zbG.ch x μ)), .pointer (some ⟨b, 0, none⟩)] X w (zbu (x.lv == 0 && x.pl == t)) [] [] := by
 refine vFn (k0 := 2) (rs := [.tmp 3]) (svs := [.a (.agg [ze7 x.lv, ze7 x.pl, .one (.p (.v (.bool x.red))), ze7 x.fr, ze7 x.tt, .one (.p (.hd 0 x.kids.length)), ze7 x.up]), atS 1 0]) (R0 := [.blk 1 [ze7 t]]) (zDT [0, b] [μ]) Tryz.ntmps149 Tryz.func149 rfl rfl rfl rfl rfl zaw (by kernel_rfl) hX (fun r hr => by rcases List.mem_singleton.1 hr with rfl; exact hb) ?_
 conv => whnf
 refine vIf (fun h1 => ?_) fun h1 => ?_
 ·conv => whnf
  refine vIf (fun h2 => ?_) fun h2 => ?_
  all_goals
   conv => whnf
   refine zaF ?_
   rw [h1, h2]; rfl
 conv => whnf
 refine zaF ?_
 rw [h1]; rfl
theorem zvx (hX : ∀ k ∈ X, k < w.heap.size) (xs : List Nd) (q : Qd) (hq : St (SlQ zbG xs q) w X) {g : FuncId} (cs : List Value) (F : World → Prop) (hF : St F w X) (hg : fnB Tryz.prog g = true) (p : Nd → Bool) (hp : ∀ y ∈ xs, ∀ (X : List Nat) (w : World) (μ : Qd), (∀ k ∈ X, k < w.heap.size) → St F w X → Ct Tryz.prog g (.agg (ca (zbG.ch y μ)) :: cs) X w (zbu (p y)) [] []) :
  Ct Tryz.prog 148 [.slice q.1 xs.length q.2, .func (.func g) #[] cs.toArray] X w (zaH .i64 (zjG p xs)) [] [] := by
 have hbig := SlQ.big hq
 refine vFn (k0 := 1) (rs := [.tmp 4]) (svs := [.a (.s (.p (.hd 0 xs.length))), .a (.s (.p (.v (.func (.func g) #[] cs.toArray))))]) (R0 := [.sl 0 xs.length (SlF zbG xs), .c F]) (hnQ [q]) Tryz.ntmps148 Tryz.func148 rfl rfl rfl rfl rfl zaw (by kernel_rfl) hX (fun r hr => by rcases List.mem_cons.1 hr with rfl | hr; exact hq; rcases List.mem_singleton.1 hr with rfl; exact hF) ?_
 conv => whnf
 refine ⟨Nat, fun k l m R i => ⟨k, (8, zaH .i64 i) :: zbV [0, 1, 7] l, m, R⟩, fun i => i ≤ xs.length ∧ ∀ y ∈ xs.take i, p y = false, fun i => xs.length - i, ⟨0, [], [0, 1], ⟨by omega, by simp⟩, zbW⟩, fun i hφ => ?_⟩
 conv => whnf
 refine vIf (fun h => ?_) fun h => ?_
 ·have hi : i < xs.length := by simpa [Sl.len] using h
  obtain ⟨x, hx⟩ : ∃ x, xs[i]? = some x := ⟨_, jP hi⟩
  have hxi : xs[i] = x := (List.getElem?_eq_some_iff.1 hx).2
  conv => whnf
  refine ⟨i, ⟨rfl, hi, hi⟩, ?_⟩
  conv => whnf
  refine zeT (zf9 zpf (n := 7) (off := 0) (sub := [ze7 x.lv, ze7 x.pl, .one (.p (.v (.bool x.red))), ze7 x.fr, ze7 x.tt, .one (.p (.hd 1 x.kids.length)), ze7 x.up]) (Rs := []) 0 (fun μ => [μ]) 1 hx rfl rfl rfl (by kernel_rfl) (.inl ⟨rfl, rfl⟩) (fun μ h hh => by
   have e : h.r 1 = μ := hh 0 (by omega)
   subst e
   rfl) fun μ h w Y hh hn r hr => by cases hr) rfl rfl ?_
  conv => whnf
  refine zeT (zck (sv := zbu (p x)) (rs := []) (Rs := []) rfl rfl rfl hg rfl (fs := fun _ => []) (cs := fun _ => cs) (fun h => rfl) fun h X w H => hp x (List.mem_of_getElem? hx) _ _ (h.r 1) H.xk (H.fact 1 rfl)) rfl rfl ?_
  conv => whnf
  refine vIf (fun he => ?_) fun he => ?_
  ·conv => whnf
   refine zaF ?_
   rw [zhR hi hφ.2 (by rw [hxi]; exact he)]; rfl
  ·conv => whnf
   refine zd6 (by omega) (by omega) ?_
   conv => whnf
   exact ⟨i + 1, [], [0, 1], ⟨⟨by omega, zfG hi hφ.2 (by rw [hxi]; exact he)⟩, Nat.sub_lt_sub_left hi (Nat.lt_succ_self i)⟩, zbW⟩
 ·have hi : i = xs.length := by
   have : ¬ i < xs.length := by simpa [Sl.len] using h
   omega
  conv => whnf
  refine zaF ?_
  rw [zfF (by rw [← List.take_length (l := xs), ← hi]; exact hφ.2)]; rfl
theorem zyr {α : Type} {p : α → Bool} {xs : List α} : -1 ≤ zjG p xs ∧ zjG p xs < xs.length := by
 unfold zjG
 cases h : xs.any p with
 | false => simp; omega
 | true =>
  obtain ⟨y, hy, hp⟩ := List.any_eq_true.1 h
  have := List.findIdx_lt_length_of_exists ⟨y, hy, hp⟩
  rw [if_pos rfl]
  exact ⟨by omega, by omega⟩
def zuK (ns : List Nd) : Nat → Int → List Int
 | 0, _ => []
 | f + 1, i => if i < 0 then [] else i :: zuK ns f (ns.getD i.toNat dNd).up
def zBd (ns : List Nd) (t : Int) : Int := zjG (fun x : Nd => x.lv == 0 && x.pl == t) ns
def zCv (ns : List Nd) (t : Int) : List Int := zuK ns ns.length (zBd ns t)
def zea (two : Bool) (kd : Int) (ids : List Int) (ls : List (List Int)) (id : Int) : List Int × List Nd × Int :=
 if zg6 kd ids ls then (if ids.any (· == id) then (zCv (zbn two ls ids.length) (zdW ids id), zbn two ls ids.length, 0) else ([], [], 6)) else ([], [], 1)
def zCT (r : List Int × List Nd × Int) : SV := .tup [.s (.p (.hd 0 r.1.length)), .s (.p (.hd 1 r.2.1.length)), .s (.p (.v (.int .i64 r.2.2)))]
def zCU (r : List Int × List Nd × Int) : List SF := [.sl 0 r.1.length (SlF zaS r.1), .sl 1 r.2.1.length (SlF zbG r.2.1)]
theorem zys (hX : ∀ k ∈ X, k < w.heap.size) (two : Bool) (kd : Int) (hkd : (kd == 1) = two) (ids : List Int) (ls : List (List Int)) (id : Int) (q p : Qd) (hq : St (SlQ zaS ids q) w X) (hp : St (SlQ (zfY zaS) ls p) w X) (hlen : ∀ l ∈ ls, l.length ≤ 1099511627776) (hl : ls.length ≤ 1000)
  (hok : zg6 kd ids ls = true → 0 < ids.length → okD two ls ls.length (List.replicate (ls.length + 1) 0, [])) (hn : (zbn two ls ids.length).length ≤ 1000000) (hup : ∀ (j : Nat) (x : Nd), (zbn two ls ids.length)[j]? = some x → x.up < 0 ∨ (j < x.up.toNat ∧ x.up.toNat < (zbn two ls ids.length).length)) :
  Ct Tryz.prog 105 [.int .i64 kd, .agg (ca [.one (.slice q.1 ids.length q.2), .one (.slice p.1 ls.length p.2)]), .int .i64 id] X w (zCT (zea two kd ids ls id)) [.gone, .gone] (zCU (zea two kd ids ls id)) := by
 refine vFn (k0 := 2) (rs := [.tmp 6, .tmp 7, .tmp 8]) (svs := [zaH .i64 kd, .a (.agg [.one (.p (.hd 0 ids.length)), .one (.p (.hd 1 ls.length))]), zaH .i64 id]) (R0 := [.sl 0 ids.length (SlF zaS ids), .sl 1 ls.length (SlF (zfY zaS) ls)]) (hnQ [q, p]) Tryz.ntmps105 Tryz.func105 rfl rfl rfl rfl rfl zaw (by kernel_rfl) hX (fun r hr => by rcases List.mem_cons.1 hr with rfl | hr; exact hq; rcases List.mem_singleton.1 hr with rfl; exact hp) ?_
 conv => whnf
 refine zak rfl rfl rfl (by kernel_rfl) (fun h X w H => zxe H.xk kd ids ls _ _ (H.fact 0 rfl) (H.fact 1 rfl) hlen) rfl rfl rfl ?_
 cases hm : zg6 kd ids ls with
 | false =>
  have e : zea two kd ids ls id = ([], [], 1) := by simp [zea, hm]
  rw [e]
  conv => whnf
  exact zaY [(0, 3), (1, 4)] [0, 0] (.inr ⟨rfl, rfl, rfl, trivial⟩) trivial rfl ⟨.inr (za8 rfl), .inr (za8 rfl), trivial⟩
 | true =>
  conv => whnf
  refine zak rfl rfl rfl (by kernel_rfl) (fun h X w H => zvm H.xk ids (.slice (h.r 1).1 ls.length (h.r 1).2) rfl id _ (H.fact 0 rfl)) rfl rfl rfl ?_
  cases ha : ids.any (· == id) with
  | false =>
   have e : zea two kd ids ls id = ([], [], 6) := by simp [zea, hm, ha]
   rw [e]
   conv => whnf
   exact zaY [(0, 4), (1, 5)] [0, 0] (.inr ⟨rfl, rfl, rfl, trivial⟩) trivial rfl ⟨.inr (za8 rfl), .inr (za8 rfl), trivial⟩
  | true =>
   have e : zea two kd ids ls id = (zCv (zbn two ls ids.length) (zdW ids id), zbn two ls ids.length, 0) := by simp [zea, hm, ha]
   rw [e]
   conv => whnf
   refine zak rfl rfl rfl (by kernel_rfl) (fun h X w H => zpe H.xk two kd hkd ids.length ls (h.r 0) _ (H.fact 1 rfl) hl fun h0 => hok hm h0) rfl rfl rfl ?_
   conv => whnf
   refine za4 (zbe [3] rfl rfl (zaI (zaj (rs := []) (Rs := []) rfl rfl rfl (by kernel_rfl) rfl fun h X w H => zvx H.xk (zbn two ls ids.length) _ (H.fact 1 rfl) [.pointer (some ⟨h.b 3, 0, none⟩)] (AtC ⟨h.b 3, 0, none⟩ [.one (.int .i64 (zdW ids id : Nat))]) (H.fact 0 rfl) (by kernel_rfl) (fun x => x.lv == 0 && x.pl == (zdW ids id : Nat)) fun y _ X w μ hX hF => zvw hX y μ _ _ hF) rfl rfl)) ?_
   conv => whnf
   obtain ⟨ns, hns⟩ : ∃ ns, zbn two ls ids.length = ns := ⟨_, rfl⟩
   obtain ⟨lf, hlf⟩ : ∃ lf, zjG (fun x : Nd => x.lv == 0 && x.pl == (zdW ids id : Nat)) ns = lf := ⟨_, rfl⟩
   have hlb := zyr (p := fun x : Nd => x.lv == 0 && x.pl == (zdW ids id : Nat)) (xs := ns)
   rw [hlf] at hlb
   have hw : zCv ns (zdW ids id) = zuK ns ns.length lf := by unfold zCv zBd; rw [hlf]
   rw [hns, hw, hlf]
   rw [hns] at hn hup
   refine ⟨Int × List Int × Nat × Nat, fun k l m R g => ⟨k + 1, (13, zaH .i64 g.1) :: (6, .a (.s (.p (.hd k g.2.2.2)))) :: zbV [7] l, (k, zbF zaS g.2.1 3) :: m, R⟩, fun g => zuK ns ns.length lf = g.2.1 ++ zuK ns g.2.2.1 g.1 ∧ g.2.2.2 = g.2.1.length ∧ g.2.1.length + g.2.2.1 = ns.length ∧ (0 ≤ g.1 → g.1.toNat < ns.length ∧ ns.length - g.1.toNat ≤ g.2.2.1), fun g => g.2.2.1, ⟨(lf, [], ns.length, 0), [], [0, 1, 2, 3], ⟨rfl, rfl, by simp, fun h => by dsimp only at h ⊢; omega⟩, zbW⟩, fun ⟨i, ds, f, n⟩ ⟨h1, h2, h3, h4⟩ => ?_⟩
   dsimp only at h1 h2 h3 h4
   conv => whnf
   refine vIf (fun h => ?_) fun h => ?_
   ·have hi : 0 ≤ i := by simpa using h
    obtain ⟨h5, h6⟩ := h4 hi
    obtain ⟨x, hx⟩ : ∃ x, ns[i.toNat]? = some x := ⟨_, jP h5⟩
    obtain ⟨f', rfl⟩ : ∃ f', f = f' + 1 := ⟨f - 1, by omega⟩
    have hx2 : ns.getD i.toNat dNd = x := by rw [jR, hx]; rfl
    have h7 : zuK ns (f' + 1) i = i :: zuK ns f' x.up := by rw [zuK, if_neg (by omega), hx2]
    conv => whnf
    refine za0 (zpa (T := zaS) (e := 3) (x := i) (fun _ _ _ => trivial) rfl rfl rfl h2 rfl rfl rfl (fun _ => rfl) (by_ := 8) ⟨by kernel_rfl, by kernel_rfl⟩ (by omega) (by omega) rfl rfl rfl) ?_
    conv => whnf
    refine ⟨i.toNat, ⟨(Int.toNat_of_nonneg hi).symm, h5, h5⟩, ?_⟩
    conv => whnf
    refine zbE (zbr (T := zbG) (sv := zaH .i64 x.up) 1 hx (fun _ => rfl) rfl rfl rfl (by kernel_rfl) (fun _ => .inr ⟨rfl, rfl, rfl⟩)) rfl rfl ?_
    conv => whnf
    exact ⟨(x.up, ds ++ [i], f', n + 1), [(5, 7)], [0, 1, 2, 3], ⟨⟨by rw [h1, h7]; simp, by simp [h2], by simp; omega, fun h => by
     rcases hup _ _ hx with h8 | h8
     ·dsimp only at h; omega
     ·dsimp only at h ⊢; exact ⟨h8.2, by omega⟩⟩, Nat.lt_succ_self f'⟩, zbW⟩
   have hi : i < 0 := by simpa using h
   have h7 : zuK ns f i = [] := by
    cases f with
    | zero => rfl
    | succ f => rw [zuK, if_pos hi]
   rw [h7, List.append_nil] at h1
   rw [h1]
   subst h2
   conv => whnf
   refine zvu (T := zaS) (e := 3) (xs := ds) 5 (fun _ _ _ => trivial) rfl rfl ?_
   exact zaY [(0, 5), (1, 4)] [0, 3] (.inl rfl) trivial rfl ⟨.inl rfl, .inl rfl, trivial⟩
theorem zyt (hX : ∀ k ∈ X, k < w.heap.size) (two : Bool) (kd : Int) (hkd : (kd == 1) = two) (ids : List Int) (ls : List (List Int)) (id : Int) (q p : Qd) (hq : St (SlQ zaS ids q) w X) (hp : St (SlQ (zfY zaS) ls p) w X) (hlen : ∀ l ∈ ls, l.length ≤ 1099511627776) (hl : ls.length ≤ 1000)
  (hok : zg6 kd ids ls = true → 0 < ids.length → okD two ls ls.length (List.replicate (ls.length + 1) 0, [])) (hn : (zbn two ls ids.length).length ≤ 1000000) (hup : ∀ (j : Nat) (x : Nd), (zbn two ls ids.length)[j]? = some x → x.up < 0 ∨ (j < x.up.toNat ∧ x.up.toNat < (zbn two ls ids.length).length)) :
  Ct Tryz.prog 81 [.int .i64 kd, .agg (ca [.one (.slice q.1 ids.length q.2), .one (.slice p.1 ls.length p.2)]), .int .i64 id] X w (.tup [.s (.p (.hd 0 (zea two kd ids ls id).1.length)), .s (.p (.v (.int .i64 (zea two kd ids ls id).2.2)))]) [.gone] [.sl 0 (zea two kd ids ls id).1.length (SlF zaS (zea two kd ids ls id).1)] := by
 refine vFn (k0 := 2) (rs := [.tmp 6, .tmp 7]) (svs := [zaH .i64 kd, .a (.agg [.one (.p (.hd 0 ids.length)), .one (.p (.hd 1 ls.length))]), zaH .i64 id]) (R0 := [.sl 0 ids.length (SlF zaS ids), .sl 1 ls.length (SlF (zfY zaS) ls)]) (hnQ [q, p]) Tryz.ntmps81 Tryz.func81 rfl rfl rfl rfl rfl zaw (by kernel_rfl) hX (fun r hr => by rcases List.mem_cons.1 hr with rfl | hr; exact hq; rcases List.mem_singleton.1 hr with rfl; exact hp) ?_
 conv => whnf
 refine zak rfl rfl rfl (by kernel_rfl) (fun h X w H => zys H.xk two kd hkd ids ls id _ _ (H.fact 0 rfl) (H.fact 1 rfl) hlen hl hok hn hup) rfl rfl rfl ?_
 obtain ⟨⟨wy, ns, er⟩, e⟩ : ∃ r, zea two kd ids ls id = r := ⟨_, rfl⟩
 rw [e]
 conv => whnf
 exact zaY [(0, 3)] [0] (.inl rfl) trivial rfl ⟨.inl rfl, trivial⟩
def zsB (two : Bool) (kd : Int) (ids : List Int) (ls : List (List Int)) : List Nd × Int := if zg6 kd ids ls then (zbn two ls ids.length, 0) else ([], 1)
theorem zvy (hX : ∀ k ∈ X, k < w.heap.size) (two : Bool) (kd : Int) (hkd : (kd == 1) = two) (ids : List Int) (ls : List (List Int)) (q p : Qd) (hq : St (SlQ zaS ids q) w X) (hp : St (SlQ (zfY zaS) ls p) w X) (hlen : ∀ l ∈ ls, l.length ≤ 1099511627776) (hl : ls.length ≤ 1000)
  (hok : zg6 kd ids ls = true → 0 < ids.length → okD two ls ls.length (List.replicate (ls.length + 1) 0, [])) :
  Ct Tryz.prog 112 [.int .i64 kd, .agg (ca [.one (.slice q.1 ids.length q.2), .one (.slice p.1 ls.length p.2)])] X w (.tup [.s (.p (.hd 0 (zsB two kd ids ls).1.length)), .s (.p (.v (.int .i64 (zsB two kd ids ls).2)))]) [.gone] [.sl 0 (zsB two kd ids ls).1.length (SlF zbG (zsB two kd ids ls).1)] := by
 refine vFn (k0 := 2) (rs := [.tmp 4, .tmp 5]) (svs := [zaH .i64 kd, .a (.agg [.one (.p (.hd 0 ids.length)), .one (.p (.hd 1 ls.length))])]) (R0 := [.sl 0 ids.length (SlF zaS ids), .sl 1 ls.length (SlF (zfY zaS) ls)]) (hnQ [q, p]) Tryz.ntmps112 Tryz.func112 rfl rfl rfl rfl rfl zaw (by kernel_rfl) hX (fun r hr => by rcases List.mem_cons.1 hr with rfl | hr; exact hq; rcases List.mem_singleton.1 hr with rfl; exact hp) ?_
 conv => whnf
 refine zak rfl rfl rfl (by kernel_rfl) (fun h X w H => zxe H.xk kd ids ls _ _ (H.fact 0 rfl) (H.fact 1 rfl) hlen) rfl rfl rfl ?_
 cases hm : zg6 kd ids ls with
 | false =>
  have e : zsB two kd ids ls = ([], 1) := by simp [zsB, hm]
  rw [e]
  conv => whnf
  exact zaY [(0, 3)] [0] (.inr ⟨rfl, rfl, trivial⟩) trivial rfl ⟨.inr (za8 rfl), trivial⟩
 | true =>
  have e : zsB two kd ids ls = (zbn two ls ids.length, 0) := by simp [zsB, hm]
  rw [e]
  conv => whnf
  refine zak rfl rfl rfl (by kernel_rfl) (fun h X w H => zpe H.xk two kd hkd ids.length ls (h.r 0) _ (H.fact 1 rfl) hl fun h0 => hok hm h0) rfl rfl rfl ?_
  conv => whnf
  exact zaY [(0, 3)] [0] (.inl rfl) trivial rfl ⟨.inl rfl, trivial⟩
end
end
section
open Go.RowKit
section
variable {X : List Nat} {w : World}
theorem zyu (hX : ∀ k ∈ X, k < w.heap.size) (xs : List (List Nat)) (x : List Nat) (q : Qd) (hq : St (SlQ zeQ xs q) w X) :
  Ct Tryz.prog 152 [.slice q.1 xs.length q.2, .agg (ca [.key x])] X w (zaH .i64 (zjG (fun y => decide (zc4 x = zc4 y)) xs)) [] [] := by
 have hbig := SlQ.big hq
 refine vFn (k0 := 1) (rs := [.tmp 4]) (svs := [.a (.s (.p (.hd 0 xs.length))), .a (.agg [.key x])]) (R0 := [.sl 0 xs.length (SlF zeQ xs)]) (hnQ [q]) Tryz.ntmps152 Tryz.func152 rfl rfl rfl rfl rfl zaw (by kernel_rfl) hX (fun r hr => by rcases List.mem_singleton.1 hr with rfl; exact hq) ?_
 conv => whnf
 refine ⟨Nat, fun k l m R i => ⟨k, (8, zaH .i64 i) :: zbV [0, 3, 7] l, m, R⟩, fun i => i ≤ xs.length ∧ ∀ y ∈ xs.take i, decide (zc4 x = zc4 y) = false, fun i => xs.length - i, ⟨0, [], [0], ⟨by omega, by simp⟩, zbW⟩, fun i hφ => ?_⟩
 conv => whnf
 refine vIf (fun h => ?_) fun h => ?_
 ·have hi : i < xs.length := by simpa [Sl.len] using h
  conv => whnf
  refine zbd 5 [] (by kernel_rfl) ?_
  conv => whnf
  refine ⟨i, ⟨rfl, hi, hi⟩, ?_⟩
  conv => whnf
  refine zd7 (zbr (T := zeQ) (n := 32) (off := 0) (sub := [.key xs[i]]) (sv := .a (.agg [.key xs[i]])) 0 (jP hi) (fun _ => rfl) rfl rfl rfl (by kernel_rfl) (fun _ => .inl ⟨rfl, rfl⟩)) ?_
  conv => whnf
  refine vIf (fun he => ?_) fun he => ?_
  ·conv => whnf
   refine zaF ?_
   rw [zhR hi hφ.2 he]; rfl
  ·conv => whnf
   refine zd6 (by omega) (by omega) ?_
   conv => whnf
   exact ⟨i + 1, [], [0], ⟨⟨by omega, zfG hi hφ.2 he⟩, Nat.sub_lt_sub_left hi (Nat.lt_succ_self i)⟩, zbW⟩
 ·have hi : i = xs.length := by
   have : ¬ i < xs.length := by simpa [Sl.len] using h
   omega
  conv => whnf
  refine zaF ?_
  rw [zfF (by rw [← List.take_length (l := xs), ← hi]; exact hφ.2)]; rfl
theorem zyv (hX : ∀ k ∈ X, k < w.heap.size) (xs : List (List Nat)) (x : List Nat) (q : Qd) (hq : St (SlQ zeQ xs q) w X) : Ct Tryz.prog 113 [.slice q.1 xs.length q.2, .agg (ca [.key x])] X w (zbu (xs.any fun y => decide (zc4 x = zc4 y))) [] [] := by
 refine vFn (k0 := 1) (rs := [.tmp 4]) (svs := [.a (.s (.p (.hd 0 xs.length))), .a (.agg [.key x])]) (R0 := [.sl 0 xs.length (SlF zeQ xs)]) (hnQ [q]) Tryz.ntmps113 Tryz.func113 rfl rfl rfl rfl rfl zaw (by kernel_rfl) hX (fun r hr => by rcases List.mem_singleton.1 hr with rfl; exact hq) ?_
 conv => whnf
 refine zak rfl rfl rfl (by kernel_rfl) (fun h X w H => zyu H.xk xs x _ (H.fact 0 rfl)) rfl rfl rfl ?_
 conv => whnf
 refine vIf (fun he => ?_) fun he => ?_
 all_goals
  conv => whnf
  refine zaF ?_
  rw [← zjH, he]; rfl
structure Tre where
 kd : Int
 ids : List Int
 ls : List (List Int)
 ps : List (List Nat)
def Tre.two (t : Tre) : Bool := t.kd == 1
def Tre.all (t : Tre) : List Nd × Int := zsB t.two t.kd t.ids t.ls
def Tre.ok (t : Tre) : Bool := t.all.2 == 0 && (!((t.all.1.length : Int) == 0) && ((t.all.1.length : Int) == t.ps.length && !(t.ps.any fun y => decide (zc4 [] = zc4 y))))
def Tre.nodes (t : Tre) : List Nd × Int := if t.ok then (t.all.1, 0) else ([], 1)
def Tre.val (t : Tre) (q p r : Qd) : Value := .agg (ca [.one (.int .i64 t.kd), .one (.slice q.1 t.ids.length q.2), .one (.slice p.1 t.ls.length p.2), .one (.slice r.1 t.ps.length r.2)])
structure Tre.fits (t : Tre) : Prop where
 len : ∀ l ∈ t.ls, l.length ≤ 1099511627776
 lv : t.ls.length ≤ 1000
 ok : zg6 t.kd t.ids t.ls = true → 0 < t.ids.length → okD t.two t.ls t.ls.length (List.replicate (t.ls.length + 1) 0, [])
theorem zk3 (hX : ∀ k ∈ X, k < w.heap.size) (t : Tre) (ht : t.fits) (q p r : Qd) (hq : St (SlQ zaS t.ids q) w X) (hp : St (SlQ (zfY zaS) t.ls p) w X) (hr : St (SlQ zeQ t.ps r) w X) :
  Ct Tryz.prog 90 [t.val q p r] X w (.tup [.s (.p (.hd 0 t.nodes.1.length)), .s (.p (.v (.int .i64 t.nodes.2)))]) [.gone] [.sl 0 t.nodes.1.length (SlF zbG t.nodes.1)] := by
 refine vFn (k0 := 3) (rs := [.tmp 2, .tmp 3]) (svs := [.a (.agg [ze7 t.kd, .one (.p (.hd 0 t.ids.length)), .one (.p (.hd 1 t.ls.length)), .one (.p (.hd 2 t.ps.length))])]) (R0 := [.sl 0 t.ids.length (SlF zaS t.ids), .sl 1 t.ls.length (SlF (zfY zaS) t.ls), .sl 2 t.ps.length (SlF zeQ t.ps)]) (hnQ [q, p, r]) Tryz.ntmps90 Tryz.func90 rfl rfl rfl rfl rfl zaw (by kernel_rfl) hX (fun r hr' => by rcases List.mem_cons.1 hr' with rfl | hr'; exact hq; rcases List.mem_cons.1 hr' with rfl | hr'; exact hp; rcases List.mem_singleton.1 hr' with rfl; exact hr) ?_
 conv => whnf
 refine zak rfl rfl rfl (by kernel_rfl) (fun h X w H => zvy H.xk t.two t.kd rfl t.ids t.ls _ _ (H.fact 0 rfl) (H.fact 1 rfl) ht.len ht.lv ht.ok) rfl rfl rfl ?_
 obtain ⟨⟨ns, er⟩, e⟩ : ∃ r, t.all = r := ⟨_, rfl⟩
 have e' : zsB t.two t.kd t.ids t.ls = (ns, er) := e
 rw [e']
 have bad : t.ok = false → t.nodes = ([], 1) := fun h => by simp [Tre.nodes, h]
 have okE : t.ok = (er == 0 && (!((ns.length : Int) == 0) && ((ns.length : Int) == t.ps.length && !(t.ps.any fun y => decide (zc4 [] = zc4 y))))) := by unfold Tre.ok; rw [e]
 conv => whnf
 refine vIf (fun h1 => ?_) fun h1 => ?_
 ·rw [bad (by rw [okE]; simp at h1; simp [h1])]
  conv => whnf
  exact zaY [(0, 5)] [0] (.inr ⟨rfl, rfl, trivial⟩) trivial rfl ⟨.inr (za8 rfl), trivial⟩
 have h1 : er = 0 := by simpa using h1
 conv => whnf
 refine vIf (fun h2 => ?_) fun h2 => ?_
 ·have h2 : ((ns.length : Int) == 0) = true := h2
  rw [bad (by rw [okE, h2]; simp)]
  conv => whnf
  exact zaY [(0, 5)] [0] (.inr ⟨rfl, rfl, trivial⟩) trivial rfl ⟨.inr (za8 rfl), trivial⟩
 have h2 : ((ns.length : Int) == 0) = false := h2
 conv => whnf
 refine vIf (fun h3 => ?_) fun h3 => ?_
 ·have h3 : ((ns.length : Int) != t.ps.length) = true := h3
  rw [bad (by rw [okE]; simp only [bne_iff_ne] at h3; simp [h3])]
  conv => whnf
  exact zaY [(0, 5)] [0] (.inr ⟨rfl, rfl, trivial⟩) trivial rfl ⟨.inr (za8 rfl), trivial⟩
 have h3 : ((ns.length : Int) != t.ps.length) = false := h3
 have h3' : ((ns.length : Int) == t.ps.length) = true := by simpa [bne] using h3
 conv => whnf
 refine zjF rfl rfl rfl (by kernel_rfl) (fun h X w H => zyv H.xk t.ps [] _ (H.fact 3 rfl)) rfl rfl (fun h4 => ?_) fun h4 => ?_
 ·rw [bad (by rw [okE, h4]; simp)]
  conv => whnf
  exact zaY [(0, 5)] [0] (.inr ⟨rfl, rfl, trivial⟩) trivial rfl ⟨.inr (za8 rfl), trivial⟩
 have hgood : t.nodes = (ns, 0) := by
  unfold Tre.nodes
  rw [okE, h1, h2, h3', h4, e]
  rfl
 rw [hgood]
 conv => whnf
 exact zaY [(0, 4)] [0] (.inl rfl) trivial rfl ⟨.inl rfl, trivial⟩
theorem ziY (hX : ∀ k ∈ X, k < w.heap.size) (t : Tre) (ht : t.fits) (q p r : Qd) (hq : St (SlQ zaS t.ids q) w X) (hp : St (SlQ (zfY zaS) t.ls p) w X) (hr : St (SlQ zeQ t.ps r) w X) :
  Ct Tryz.prog 80 [t.val q p r] X w (zaH .i64 t.nodes.2) [] [] := by
 refine vFn (k0 := 3) (rs := [.tmp 2]) (svs := [.a (.agg [ze7 t.kd, .one (.p (.hd 0 t.ids.length)), .one (.p (.hd 1 t.ls.length)), .one (.p (.hd 2 t.ps.length))])]) (R0 := [.sl 0 t.ids.length (SlF zaS t.ids), .sl 1 t.ls.length (SlF (zfY zaS) t.ls), .sl 2 t.ps.length (SlF zeQ t.ps)]) (hnQ [q, p, r]) Tryz.ntmps80 Tryz.func80 rfl rfl rfl rfl rfl zaw (by kernel_rfl) hX (fun r hr' => by rcases List.mem_cons.1 hr' with rfl | hr'; exact hq; rcases List.mem_cons.1 hr' with rfl | hr'; exact hp; rcases List.mem_singleton.1 hr' with rfl; exact hr) ?_
 conv => whnf
 refine zak rfl rfl rfl (by kernel_rfl) (fun h X w H => zk3 H.xk t ht _ _ _ (H.fact 0 rfl) (H.fact 1 rfl) (H.fact 2 rfl)) rfl rfl rfl ?_
 obtain ⟨⟨ns, er⟩, e⟩ : ∃ r, t.nodes = r := ⟨_, rfl⟩
 rw [e]
 conv => whnf
 refine zaF ?_
 rfl
end
end
section
open Go.RowKit
def ByT : Ty Nat where
 μ := Unit
 dft := ()
 sz := 1
 pos := by decide
 ch x _ := [.one (bv x)]
 nest _ _ _ := True
 len _ _ := rfl
 one _ _ := ⟨rfl, trivial⟩
instance : Dec ByT := ⟨fun _ => (), fun _ => [], fun _ => rfl⟩
abbrev ziz (xs : List Nat) (e : Nat) : RB := zbF ByT xs e
theorem zpg (x : Nat) (μ : ByT.μ) (w : World) : ByT.nest x μ w := trivial
theorem zvz {xs : List Nat} {g : Nat → List Qd} : zbL ByT (itQ ByT xs g) = xs.map bv := by
 have h : ∀ its : List (Nat × ByT.μ), zbL ByT its = (its.map Prod.fst).map bv := fun its => by
  unfold zbL
  induction its with
  | nil => rfl
  | cons p its ih => rw [List.flatMap_cons, ih]; rfl
 rw [h, zsp]
section
variable {P : Program} {Tb : Tab} {N k k0 ix : Nat} {l : LE} {m : MB} {R : List SF} {o : Oper} {sv : SV} {K : KS}
variable {xs : List Nat} {i j n0 n e : Nat}
theorem zg7 {h : Hn} {i : Nat} : RB.den h i (ziz xs e) = [.row (.slice (h.r i).1 xs.length (h.r i).2) e 1 xs.length (xs.map bv)] := by
 simp only [zbF, RB.den, zvz]
 rfl
theorem zph {X : List Nat} {w : World} {Rr : List (World → Prop)} {h : Hn} (H : Sp X w (zad h [] m) Rr) (hm : zaB m i = some (ziz xs e)) : Sp X w (.row (.slice (h.r i).1 xs.length (h.r i).2) e 1 xs.length (xs.map bv) :: zad h [i] m) Rr := by
 have := H.perm (zaG h m [] i _ hm (by simp))
 rw [zg7] at this
 exact this
theorem zyw {xs' : List Nat} (hm : zaB m i = some (ziz xs e)) (wm : wfM (lt_ k) m = true) (wr : wfR (lt_ k) R = true)
  (hop : ∀ (Q : Exit → Act → World → Prop) (h : Hn) (X : List Nat) (a : Act) (w : World), Env a N (zcu h l) → Sp X w (zad h [] m) (zaN h R) → ∀ Kk : Act → World → Prop, (∀ A' c' w', Sep X (zab (.row (.slice (h.r i).1 xs.length (h.r i).2) e 1 xs.length (xs.map bv) :: zad h [i] m)) w w' (.row (.slice A' xs'.length c') e 1 xs'.length (xs'.map bv) :: zad h [i] m) (zaN h R) → Kk (a.put o.dst (.slice A' xs'.length c')) w') → o.wp P a w Kk Q) :
  zcK P N k l m R o (.a (.s (.p (.hd k xs'.length)))) ((k, ziz xs' e) :: (i, .gone) :: m) R := fun Q h X a w E H Kk hK => by
 have hik : i < k := zde hm wm
 have hp1 := zaG h m [] i _ hm (by simp)
 have H1 := zph H hm
 refine hop Q h X a w E H Kk fun A' c' w' HS => ?_
 let h1 : Hn := ⟨h.b, fun t => if t = k then (A', c') else h.r t, h.q⟩
 have hag : AgS (lt_ k) h h1 := fun t ht => by
  have := zb6 ht
  exact ⟨rfl, if_neg (by omega), rfl⟩
 have er : h1.r k = (A', c') := if_pos rfl
 have e1 : zad h1 [] ((k, ziz xs' e) :: (i, .gone) :: m) = .row (.slice A' xs'.length c') e 1 xs'.length (xs'.map bv) :: zad h [i] m := by
  rw [zan]
  show RB.den h1 k (ziz xs' e) ++ zad h1 [k] ((i, .gone) :: m) = _
  rw [zeC (by omega) wm, zaK hag wm, zg7, er]
  rfl
 have e2 : SV.den h1 (.a (.s (.p (.hd k xs'.length)))) = .slice A' xs'.length c' := by
  show Value.slice (h1.r k).1 xs'.length (h1.r k).2 = _
  rw [er]
 have hkk : ∀ t, t ∈ zab (zad h [] m) ↔ t ∈ zab (.row (.slice (h.r i).1 xs.length (h.r i).2) e 1 xs.length (xs.map bv) :: zad h [i] m) := fun t => by
  have := (zar hp1).mem_iff (a := t)
  rw [zg7] at this
  exact this
 have hX : ∀ t ∈ zab (.row (.slice A' xs'.length c') e 1 xs'.length (xs'.map bv) :: zad h [i] m), t ∉ X := fun t ht hX => by
  rcases HS.mine t ht with h3 | h3
  ·exact H1.xap t h3 hX
  ·have := H.xlt t hX; omega
 have := hK h1 w' hag ⟨HS.frm.os, HS.frm.tape, HS.frm.output, HS.frm.size, fun t ht hn => HS.frm.block t ht fun hm' => hn ((hkk t).2 hm')⟩ (by
  rw [e1, zaX hag wr]
  exact Sp.of_sep HS hX) fun t ht => by
   rw [e1] at ht
   exact (HS.mine t ht).imp_left (hkk t).2
 rw [e2] at this
 exact this
theorem zsC {t r ny : Nat} {ys : List Nat} {s y : Operand} (hm : zaB m i = some (ziz xs e)) (hr : R[r]? = some (.sl j ny (TxG ys))) (hny : ny = ys.length) (ho : o.op = .call { callee := .builtin .append, args := #[s, y], argTypes := #[t, t] }) (hs : evS l s = some (.a (.s (.p (.hd i xs.length))))) (hy : evS l y = some (.a (.s (.p (.hd j ny)))))
  (hT : AppK P t e 1 1) (hn : xs.length + ys.length ≤ 140737488355328) (wm : wfM (lt_ k) m = true) (wr : wfR (lt_ k) R = true) : zcK P N k l m R o (.a (.s (.p (.hd k (xs ++ ys).length)))) ((k, ziz (xs ++ ys) e) :: (i, .gone) :: m) R :=
 zyw hm wm wr fun Q h X a w E H Kk hK => by
  subst hny
  have hf := (zgz H hr).now
  have H1 := zph H hm
  refine znb (news := ys.map bv) 0 E H1.sep ho (zaf hs) (zaf hy) rfl hT (by omega) (by simp) (fun hA => hf.nil hA) (by have := zhB (m := ys.length) hf; rwa [List.take_length] at this) (fun u hu => by obtain ⟨z, _, rfl⟩ := List.mem_map.1 hu; rfl) (by omega) (by omega) fun A' c' w' _ HS F => ?_
  rw [← jQ, ← List.map_append] at HS
  have := hK A' c' w' HS
  rw [jQ] at this
  exact this
theorem zCV {q : Qd} {w : World} (hl : xs.length ≤ 140737488355328) (hb : ∀ x ∈ xs, x < 256) (h : SlF ByT xs q w) : TxG xs q w := by
 obtain ⟨mm, hm⟩ := h
 refine ⟨hm.cap, hl, hb, hm.nil, fun ad hA i x hx => ?_⟩
 have := (hm.at_ ad hA i x hx).1 0 (bv x) rfl
 rwa [zau, show i * ByT.sz = i from Nat.mul_one i] at this
theorem zsD {X : List Nat} {w : World} {h : Hn} (hm : zaB m i = some (ziz xs e)) (hl : xs.length ≤ 140737488355328) (hb : ∀ x ∈ xs, x < 256) (H : Sp X w (zad h [] m) (zaN h R)) : Sp X w (zad h [] ((i, .gone) :: m)) (zaN h (.sl i xs.length (TxG xs) :: R)) ∧ ∀ j ∈ zab (zad h [] ((i, .gone) :: m)), j ∈ zab (zad h [] m) := by
 obtain ⟨h1, h2⟩ := zjL (R := .q i (zdd ByT xs) :: R) hm (.head _) (H.know (zjM zpg h w _))
 refine ⟨h1.refacts fun r hr => ?_, h2⟩
 rcases List.mem_cons.1 hr with rfl | hr
 ·have h3 := h1.facts _ (List.mem_cons_self ..)
  exact h3.imp fun w' hw => ⟨hw.1, zCV hl hb hw.2⟩
 ·exact h1.facts _ (List.mem_cons_of_mem _ (List.mem_cons_of_mem _ hr))
theorem zhW {m' : MB} {R' : List SF} (i : Nat) (hm : zaB m i = some (ziz xs e)) (hl : xs.length ≤ 140737488355328) (hb : ∀ x ∈ xs, x < 256) (wl : wfE (lt_ k) l = true) (hs : zcK P N k l ((i, .gone) :: m) (.sl i xs.length (TxG xs) :: R) o sv m' R') : zcK P N k l m R o sv m' R' :=
 zeB (Nat.ble_eq_true_of_le (jV k)) (fun h X w H => ⟨h, fun _ _ => ⟨rfl, rfl, rfl⟩, zsD hm hl hb H⟩) wl hs
theorem zsE {m' m2 : MB} {R' R2 : List SF} (hs : zcK P N k l m R o sv m' R') (hc : ∀ (h : Hn) (X : List Nat) (w : World), Sp X w (zad h [] m') (zaN h R') → Sp X w (zad h [] m2) (zaN h R2) ∧ ∀ j ∈ zab (zad h [] m2), j ∈ zab (zad h [] m')) : zcK P N k l m R o sv m2 R2 := fun Q h X a w E H Kk hK =>
 hs Q h X a w E H Kk fun h1 w' a1 a2 a3 a4 => hK h1 w' a1 a2 (hc h1 X w' a3).1 fun j hj => a4 j ((hc h1 X w' a3).2 j hj)
theorem zqx {m' : MB} {R' : List SF} (i : Nat) (hs : zcK P N k l m R o sv m' R') (hm : zaB m' i = some (ziz xs e)) (hl : xs.length ≤ 140737488355328) (hb : ∀ x ∈ xs, x < 256) : zcK P N k l m R o sv ((i, .gone) :: m') (.sl i xs.length (TxG xs) :: R') := zsE hs fun h X w H => zsD hm hl hb H
theorem zxf {t c : Nat} {x y : Operand} {z1 z2 : Int} (n : Nat) (hT : ByteT P t e) (ho : o.op = .makeSlice t x y) (hx : evS l x = some (zaH .i64 z1)) (hy : evS l y = some (zaH .i64 z2)) (h1 : z1 = (n : Int)) (h2 : z2 = (c : Int)) (hnc : n ≤ c) (hc : c ≤ 140737488355328) : ze3 P N k l m R o (.a (.s (.p (.hd k n)))) [ziz (List.replicate n 0) e] [] := fun Q h X a w E H Kk hK => by
 refine zoz E (Sep.none_ H.xk) ho hT (zaf hx) (zaf hy) h1 h2 hnc hc fun b w' HS F => ?_
 let h1 : Hn := ⟨h.b, fun t => if t = k then (some ⟨b, 0, none⟩, c) else h.r t, h.q⟩
 have er : h1.r k = (some ⟨b, 0, none⟩, c) := if_pos rfl
 have := hK h1 w' (fun t ht => ⟨rfl, if_neg (by simp at ht; omega), rfl⟩) F (by
  have e1 : zdk h1 k [ziz (List.replicate n 0) e] = [.row (.slice (some ⟨b, 0, none⟩) n c) e 1 n ((List.range n).map fun _ => bv 0)] := by
   rw [zdk, zg7, er]
   simp [zdk, List.map_const']
  rw [e1]
  exact HS.rowOf hnc hc)
 rw [show SV.den h1 (.a (.s (.p (.hd k n)))) = .slice (some ⟨b, 0, none⟩) n c by show Value.slice (h1.r k).1 n (h1.r k).2 = _; rw [er]] at this
 exact this
theorem zvA {dT sT off dn dc t r : Nat} {cs cs' : List SC} {ys : List Nat} {x y : Operand} (mm : Nat) (hm : zaB m i = some (.blk cs t)) (hr : R[r]? = some (.sl j ys.length (TxG ys))) (ho : o.op = .call { callee := .builtin .copy, args := #[x, y], argTypes := #[dT, sT] }) (hx : evS l x = some (slS i off dn dc)) (hy : evS l y = some (.a (.s (.p (.hd j ys.length))))) (hT : elK P dT = some 1)
  (hmm : mm = min ys.length dn) (hfit : off + mm ≤ zeL cs) (hcl : ∀ h, cl (zay h cs') = (cl (zay h cs)).take off ++ (ys.take mm).map bv ++ (cl (zay h cs)).drop (off + mm)) : zcK P N k l m R o (zaH .i64 (mm : Int)) ((i, .blk cs' t) :: m) R := fun Q h X a w E H Kk hK => by
 have hf := (zgz H hr).now
 have H1 : Sp X w (.blk (h.b i) (ca (zay h cs)) t :: zad h [i] m) (zaN h R) := H.numAt hm
 have hkm : ∀ j, j ∈ zab (.blk (h.b i) (ca (zay h cs)) t :: zad h [i] m) ↔ j ∈ zab (zad h [] m) := fun j => (zar (zaG h m [] i _ hm (by simp))).mem_iff.symm
 refine zoA (news := (ys.take mm).map bv) 0 E H1.sep ho (zaf hx) rfl (zaf hy) hT rfl hmm (by rw [List.length_map, List.length_take]; omega) (fun hA => (hf.nil hA).1) (zhB hf) (fun u hu => by obtain ⟨z, _, rfl⟩ := List.mem_map.1 hu; rfl) (hcl h) (by rw [za6]; exact hfit) rfl fun w' HS F => ?_
 have e1 : zad h [] ((i, .blk cs' t) :: m) = .blk (h.b i) (ca (zay h cs')) t :: zad h [i] m := by rw [zan]; rfl
 have hX : ∀ t' ∈ zab (.blk (h.b i) (ca (zay h cs')) t :: zad h [i] m), t' ∉ X := fun t' ht' hX => H.xap t' ((hkm t').1 ht') hX
 refine hK h w' (fun _ _ => ⟨rfl, rfl, rfl⟩) ⟨F.os, F.tape, F.output, F.size, fun t' ht' hn => F.block t' ht' fun hm' => hn ?_⟩ ?_ fun t' ht' => ?_
 ·exact (hkm t').1 (List.mem_append_left _ hm')
 ·rw [e1]
  exact Sp.of_sep HS hX
 ·rw [e1] at ht'
  exact .inl ((hkm t').1 ht')
theorem zk4 {t : List Nat} {lo hi n0 : Nat} (ys : List Nat) (r : Nat) (hys : ys = (t.drop lo).take (hi - lo)) (hr : R[r]? = some (.sl i n0 (TxG t))) (hlo : lo ≤ hi) (hhi : hi ≤ t.length) (hp : ∀ (h : Hn) (w : World), TxF (h.r i).1 (h.r i).2 t w → PK P ze0 w (zcu h l) o (ziF (h.r i).1 1 lo hi (h.r i).2)) : ze3 P N k l m R o (.a (.s (.p (.hd k ys.length)))) [.gone] [.sl k ys.length (TxG ys)] := by
 have hl : ys.length = hi - lo := by rw [hys, List.length_take, List.length_drop]; omega
 rw [hl, hys]
 exact zpc r hr hlo hhi hp
theorem zyx {b t : Nat} {s y : Operand} (xs' : List Nat) (hxs : xs ++ [b] = xs') (hm : zaB m i = some (ziz xs e)) (ho : o.op = .call { callee := .builtin .append, args := #[s, y], argTypes := #[t, t] }) (hs : evS l s = some (.a (.s (.p (.hd i xs.length))))) (hy : evS l y = some (slS j 0 1 1)) (hj : zaB m j = some (.blk [.one (.p (.v (bv b)))] e)) (hij : zaM j [i] = false) (hT : AppK P t e 1 1) (hn : xs.length + 1 ≤ 140737488355328) (wl : wfE (lt_ k) l = true) (wm : wfM (lt_ k) m = true) (wr : wfR (lt_ k) R = true) : zcK P N k l m R o (.a (.s (.p (.hd k xs'.length)))) ((k, ziz xs' e) :: (i, .gone) :: m) R := by
 subst hxs
 have := zpa (N := N) (T := ByT) (x := b) (by_ := 1) zpg hm ho hs rfl hy hj hij (fun _ => rfl) hT (by omega) (by omega) wl wm wr
 rw [jQ]
 exact this
theorem zBe {b ty : Nat} {xop y : Operand} (xs' : List Nat) (hxs : xs.set j b = xs') (hT : zbt P Tb) (hm : zaB m i = some (ziz xs e)) (hj : j < xs.length) (ho : o.op = .store ty xop y) (hx : evS l xop = some (hpS i j 1 0)) (hy : evS l y = some (zix (bv b))) (hs : szT Tb ty = some (1, false)) : zcK P N k l m R o (zdZ undef) ((i, ziz xs' e) :: m) R := by
 subst hxs
 exact zkY (T := ByT) (new := [.one (.p (.v (bv b)))]) b hT hm (jP hj) ho hx (by rw [hy]; rfl) hs rfl (fun _ => ⟨rfl, trivial⟩) fun _ _ => rfl
theorem zvB {dT sT off dn dc t tj n : Nat} {cs cs' cj : List SC} {ys : List Nat} {x y : Operand} (hm : zaB m i = some (.blk cs t)) (hmj : zaB m j = some (.blk cj tj)) (hcj : ∀ h, cl (zay h cj) = ys.map bv) (ho : o.op = .call { callee := .builtin .copy, args := #[x, y], argTypes := #[dT, sT] }) (hx : evS l x = some (slS i off dn dc)) (hy : evS l y = some (slS j 0 n n)) (hn : n = ys.length) (hT : elK P dT = some 1)
  (hfit : n ≤ dn) (hfit2 : off + n ≤ zeL cs) (hcl : ∀ h, cl (zay h cs') = (cl (zay h cs)).take off ++ ys.map bv ++ (cl (zay h cs)).drop (off + n)) : zcK P N k l m R o (zaH .i64 (n : Int)) ((i, .blk cs' t) :: m) R := fun Q h X a w E H Kk hK => by
 subst hn
 have hat : AtC ⟨h.b j, 0, none⟩ (zay h cj) w := zdS (zb5 H hmj)
 have H1 : Sp X w (.blk (h.b i) (ca (zay h cs)) t :: zad h [i] m) (zaN h R) := H.numAt hm
 have hkm : ∀ j, j ∈ zab (.blk (h.b i) (ca (zay h cs)) t :: zad h [i] m) ↔ j ∈ zab (zad h [] m) := fun j => (zar (zaG h m [] i _ hm (by simp))).mem_iff.symm
 refine zoA (news := ys.map bv) (A := some ⟨h.b j, 0, none⟩) 0 E H1.sep ho (zaf hx) rfl (zaf hy) hT rfl (m := ys.length) (by omega) (by simp) (fun hA => by cases hA) (fun ad hA t u hu => by
  obtain rfl := Option.some.inj hA
  exact hat t u (by rw [hcj]; exact hu)) (fun u hu => by obtain ⟨z, _, rfl⟩ := List.mem_map.1 hu; rfl) (hcl h) (by rw [za6]; exact hfit2) rfl fun w' HS F => ?_
 have e1 : zad h [] ((i, .blk cs' t) :: m) = .blk (h.b i) (ca (zay h cs')) t :: zad h [i] m := by rw [zan]; rfl
 have hX : ∀ t' ∈ zab (.blk (h.b i) (ca (zay h cs')) t :: zad h [i] m), t' ∉ X := fun t' ht' hX => H.xap t' ((hkm t').1 ht') hX
 refine hK h w' (fun _ _ => ⟨rfl, rfl, rfl⟩) ⟨F.os, F.tape, F.output, F.size, fun t' ht' hn => F.block t' ht' fun hm' => hn ?_⟩ ?_ fun t' ht' => ?_
 ·exact (hkm t').1 (List.mem_append_left _ hm')
 ·rw [e1]
  exact Sp.of_sep HS hX
 ·rw [e1] at ht'
  exact .inl ((hkm t').1 ht')
theorem zvC {dT sT off dn dc t tj n : Nat} {kk : List Nat} {cj : List SC} {ys : List Nat} {x y : Operand} (kk' : List Nat) (hkk : kk ++ ys = kk') (hm : zaB m i = some (.blk [.key kk] t)) (hmj : zaB m j = some (.blk cj tj)) (hcj : ∀ h, cl (zay h cj) = ys.map bv) (ho : o.op = .call { callee := .builtin .copy, args := #[x, y], argTypes := #[dT, sT] }) (hx : evS l x = some (slS i off dn dc)) (hy : evS l y = some (slS j 0 n n)) (hn : n = ys.length) (hoff : off = kk.length) (hT : elK P dT = some 1) (hfit : n ≤ dn) (hfit2 : off + n ≤ 32) : zcK P N k l m R o (zaH .i64 (n : Int)) ((i, .blk [.key kk'] t) :: m) R := by
 subst hkk hoff
 exact zvB hm hmj hcj ho hx hy hn hT hfit hfit2 fun h => by
  rw [hn]
  simp only [zay, SC.den, cl, Chunk.cells, List.append_nil]
  exact zu5 (by rw [← hn]; exact hfit2)
theorem zBf {t M lo : Nat} {x y : Operand} {z : Int} (ho : o.op = .slice t x (some y) none none) (ht : arK P t = some (M, 1)) (hx : evS l x = some (atS i 0)) (hy : evS l y = some (zaH .i64 z)) (hz : z = (lo : Int)) (hlo : lo < M) : ∀ (h : Hn) (w : World), PK P ze0 w (zcu h l) o ((slS i lo (M - lo) (M - lo)).den h) := fun h w => by
 have := zu3 (S := ze0) (ws := w) ho ht (zaf (h := h) hx) (zaf hy) hz hlo
 rw [Nat.mul_one, zhF, Nat.zero_add] at this
 exact this
end
end
section
open Go.RowKit
section
variable {P : Program} {Tb : Tab} {N k k0 ix : Nat} {l : LE} {m : MB} {R : List SF} {o : Oper} {sv : SV} {K : KS}
variable {α : Type} {T : Ty α} [D : Dec T] {xs ys : List α} {i j n0 n e : Nat}
theorem zBg : Inj ByT := fun _ _ _ _ => rfl
theorem zCW {xs : List Nat} {q : Qd} {w : World} (h : TxG xs q w) : SlF ByT xs q w := by
 have h : TxF q.1 q.2 xs w := h
 refine ⟨fun _ => (), h.cap, by have := h.len; omega, h.nil, fun ad hA i x hx => ⟨fun j u hu => ?_, trivial⟩⟩
 cases j with
 | zero =>
  have : u = bv x := by simpa [ByT, cl, Chunk.cells] using hu.symm
  rw [this, zau, show i * ByT.sz = i from Nat.mul_one i]
  exact h.at_ ad hA i x hx
 | succ j => simp [ByT, cl, Chunk.cells] at hu
theorem zxg {xs : List Nat} {q : Qd} {w : World} {Y : List Nat} (h : St (TxQ xs q) w Y) : St (SlQ ByT xs q) w Y := h.imp fun w' hw => ⟨hw.1, zCW hw.2⟩
theorem zvD {q : Qd} {t u : TypeId} {x y : Operand} (r : Nat) (hr : R[r]? = some (.h i fun q' _ => q' = q)) (ho : o.op = .binOp .eql t x y u) (hx : evS l x = some (.a (.s (.p (.hd i n))))) (hy : evS l y = some (zix (.slice none 0 0))) (ht : zuC P t = true) : zfy P N l m R o (zbu q.1.isNone) := fun h X a w E H => by
 have hq : h.r i = q := (H.facts _ (zaO.2 ⟨_, List.mem_of_getElem? hr, rfl⟩)).now
 have := zu0 (P := P) (S := ze0) (ws := w) (A := (h.r i).1) (n := n) (c := (h.r i).2) ho (zaf (h := h) hx) (zaf hy) ht w (CanB.Keep.refl _ _) a N E
 rw [hq] at this
 exact this
theorem zvE {t : Nat} (ho : o.op = .buildSlice t 0 #[]) (hu : P.underlying t = some (.slice e)) (hs : zcJ P e = some T.sz) : ze3 P N k l m R o (.a (.s (.p (.hd k 0)))) [zbF T [] e] [] := fun Q h X a w E H Kk hK => by
 refine zm9 (Sep.none_ H.xk) ho hu hs fun b w' HS F => ?_
 let h1 : Hn := ⟨h.b, fun t => if t = k then (some ⟨b, 0, none⟩, 0) else h.r t, h.q⟩
 have er : h1.r k = (some ⟨b, 0, none⟩, 0) := if_pos rfl
 have := hK h1 w' (fun t ht => ⟨rfl, if_neg (by simp at ht; omega), rfl⟩) F (by
  have e1 : zdk h1 k [zbF T [] e] = [.row (.slice (some ⟨b, 0, none⟩) 0 0) e T.sz 0 []] := by
   simp only [zdk, zbF, RB.den, er]
   rfl
  rw [e1]
  exact HS)
 rw [show SV.den h1 (.a (.s (.p (.hd k 0)))) = .slice (some ⟨b, 0, none⟩) 0 0 by show Value.slice (h1.r k).1 0 (h1.r k).2 = _; rw [er]] at this
 exact this
theorem zsF {g g' : Nat → List Qd} {mm : Nat → T.μ} (h1 : ∀ t, t < xs.length → g' t = g t) (h2 : ∀ t, t < ys.length → g' (xs.length + t) = Dec.enc (mm t)) : itQ T (xs ++ ys) g' = itQ T xs g ++ zaC T ys mm := by
 refine List.ext_getElem? fun t => ?_
 unfold itQ
 rw [zb3]
 by_cases ht : t < xs.length
 ·rw [List.getElem?_append_left ht, List.getElem?_append_left (by rw [zbb]; exact ht), zb3, h1 t ht]
 ·rw [List.getElem?_append_right (by omega), List.getElem?_append_right (by rw [zbb]; omega), zbb, zb3]
  by_cases hy : t - xs.length < ys.length
  ·have := h2 (t - xs.length) hy
   rw [show xs.length + (t - xs.length) = t by omega] at this
   rw [this, D.de]
  ·rw [List.getElem?_eq_none (by omega)]
   rfl
theorem zyy {t by_ r : Nat} {s y : Operand} (hI : Inj T) (hm : zaB m i = some (zbF T xs e)) (hrr : R[r]? = some (.sl j ys.length (SlF T ys))) (ho : o.op = .call { callee := .builtin .append, args := #[s, y], argTypes := #[t, t] }) (hs : evS l s = some (.a (.s (.p (.hd i xs.length))))) (hy : evS l y = some (.a (.s (.p (.hd j ys.length)))))
  (hT : AppK P t e T.sz by_) (hn : xs.length + ys.length ≤ 9223372036854775807) (hby : (xs.length + ys.length) * by_ ≤ 140737488355328) (wm : wfM (lt_ k) m = true) (wr : wfR (lt_ k) R = true) (hr : .q i (zdd T xs) ∈ R) : zcK P N k l m R o (.a (.s (.p (.hd k (xs ++ ys).length)))) ((k, zbF T (xs ++ ys) e) :: (i, .gone) :: m) (.q k (zdd T (xs ++ ys)) :: R) := fun Q h X a w E H Kk hK => by
 have hik : i < k := zde hm wm
 have hp1 := zaG h m [] i _ hm (by simp)
 have hSl : St (SlQ T ys (h.r j)) w (X ++ zab (zad h [] m)) := H.facts _ (zaO.2 ⟨_, List.mem_of_getElem? hrr, rfl⟩)
 obtain ⟨mm, hmm⟩ := zqv hI hSl
 have H1 : Sp X w (.row (.slice (h.r i).1 xs.length (h.r i).2) e T.sz (itQ T xs (h.q i)).length (zbL T (itQ T xs (h.q i))) :: zad h [i] m) (LiF T (h.r j).1 (h.r j).2 ys mm :: zaN h R) := by
  rw [zbM]
  exact (H.know hmm).perm hp1
 refine zow (T := T) 0 E H1.sep hmm ho (zaf hs) (zaf hy) rfl hT (by rw [zbM]; exact hn) (by rw [zbM]; exact hby) fun A' c' w' hc HS hF => ?_
 let h1 : Hn := ⟨h.b, fun t => if t = k then (A', c') else h.r t, fun t => if t = k then (fun u => if u < xs.length then h.q i u else Dec.enc (mm (u - xs.length))) else h.q t⟩
 have hag : AgS (lt_ k) h h1 := fun t ht => by
  have := zb6 ht
  exact ⟨rfl, if_neg (by omega), if_neg (by omega)⟩
 have er : h1.r k = (A', c') := if_pos rfl
 have eq : h1.q k = fun u => if u < xs.length then h.q i u else Dec.enc (mm (u - xs.length)) := if_pos rfl
 have eits : itQ T xs (h.q i) ++ zaC T ys mm = itQ T (xs ++ ys) (h1.q k) := by
  rw [zsF (g := h.q i) (mm := mm) (fun t ht => by rw [eq]; exact if_pos ht) fun t ht => by
   rw [eq]
   show (if xs.length + t < xs.length then h.q i (xs.length + t) else Dec.enc (mm (xs.length + t - xs.length))) = _
   rw [if_neg (by omega), Nat.add_sub_cancel_left]]
 have e1 : zad h1 [] ((k, zbF T (xs ++ ys) e) :: (i, .gone) :: m) = .row (.slice A' (itQ T (xs ++ ys) (h1.q k)).length c') e T.sz (itQ T (xs ++ ys) (h1.q k)).length (zbL T (itQ T (xs ++ ys) (h1.q k))) :: zad h [i] m := by
  rw [zan]
  show RB.den h1 k (zbF T (xs ++ ys) e) ++ zad h1 [k] ((i, .gone) :: m) = _
  rw [zeC (by omega) wm, zaK hag wm, zbM]
  simp only [zbF, RB.den, er]
  rfl
 have e2 : (a.put o.dst (.slice A' (itQ T xs (h.q i) ++ zaC T ys mm).length c')) = a.put o.dst (SV.den h1 (.a (.s (.p (.hd k (xs ++ ys).length))))) := by
  show _ = a.put o.dst (.slice (h1.r k).1 (xs ++ ys).length (h1.r k).2)
  rw [er, eits, zbM]
 rw [e2]
 have hkk : ∀ t, t ∈ zab (zad h [] m) ↔ t ∈ zab (.row (.slice (h.r i).1 xs.length (h.r i).2) e T.sz (itQ T xs (h.q i)).length (zbL T (itQ T xs (h.q i))) :: zad h [i] m) := fun t => (zar hp1).mem_iff
 have HS2 : Sep X (zab (zad h [] m)) w w' (zad h1 [] ((k, zbF T (xs ++ ys) e) :: (i, .gone) :: m)) (LiF T (h.r j).1 (h.r j).2 ys mm :: zaN h R) := by
  rw [e1]
  rw [eits] at HS
  exact ⟨⟨HS.frm.os, HS.frm.tape, HS.frm.output, HS.frm.size, fun t ht hn => HS.frm.block t ht fun hm' => hn ((hkk t).2 hm')⟩, HS.xlt, HS.holds, HS.apart, fun t ht => (HS.mine t ht).imp_left (hkk t).2, HS.facts⟩
 have hqR : ∀ r ∈ R, St (r.den h) w' (X ++ zab (zad h1 [] ((k, zbF T (xs ++ ys) e) :: (i, .gone) :: m))) := fun r hr => HS2.facts _ (List.mem_cons_of_mem _ (zav.2 ⟨r, hr, rfl⟩))
 have hX : ∀ t ∈ zab (zad h1 [] ((k, zbF T (xs ++ ys) e) :: (i, .gone) :: m)), t ∉ X := fun t ht hX => by
  rcases HS2.mine t ht with h3 | h3
  ·exact H.xap t h3 hX
  ·have := H.xlt t hX; omega
 refine hK h1 w' hag HS2.frm ?_ (fun t ht => HS2.mine t ht)
 refine (Sp.of_sep HS2 hX).refacts fun r hr' => ?_
 obtain ⟨q, hq', rfl⟩ := zav.1 hr'
 rcases List.mem_cons.1 hq' with rfl | hq'
 ·show St (zdd T (xs ++ ys) (h1.q k)) w' _
  unfold zdd
  rw [← eits]
  exact zox (hqR _ hr) (ziT (HS2.facts _ (List.mem_cons_self ..)))
 ·rw [SF.same hag (zb9 wr _ hq')]
  exact hqR _ hq'
theorem zjN : Inj zax := fun x a b h => by
 simp only [zax, cl, Chunk.cells, List.append_nil, List.cons.injEq, Value.slice.injEq, and_true, true_and] at h
 exact Prod.ext h.1 h.2
theorem zBh {xs : List (List Nat)} {x : List Nat} {n0 ty : Nat} {xop : Operand} (r : Nat) (hj : xs[j]? = some x) (hr : R[r]? = some (.sl i n0 (SlF zax xs))) (ho : o.op = .load ty xop) (hx : evS l xop = some (hpS i j 1 0)) (ht : tyK P ty = some (1, false)) : ze3 P N k l m R o (.a (.s (.p (.hd k x.length)))) [.gone] [.sl k x.length (TxG x)] :=
 zf9 zjN (sub := [.one (.p (.hd k x.length))]) r (fun μ => [μ]) 1 hj hr ho hx ht (.inr ⟨_, rfl, rfl, rfl, rfl⟩) (fun μ h hh => by
  have e : h.r k = μ := hh 0 (by omega)
  show some [Chunk.one (.slice μ.1 x.length μ.2)] = some [Chunk.one (.slice (h.r k).1 x.length (h.r k).2)]
  rw [e]) fun μ h w Y hh hn r hr => by
  have e : h.r k = μ := hh 0 (by omega)
  rcases List.mem_singleton.1 hr with rfl
  show St (fun w => ((h.r k).1 = none → x.length = 0) ∧ TxG x (h.r k) w) w Y
  rw [e]
  exact zo3 hn
end
end
section
open Go.RowKit
instance : Dec zax := ⟨fun l => qs l 0, fun m => [m], fun _ => rfl⟩
def qT (ql : List Qd) : Nat → zax.μ := qs ql
def zdf : List (List Nat) → List Qd → List Chunk
 | x :: xs, q :: ql => .one (.slice q.1 x.length q.2) :: zdf xs ql
 | _, _ => []
theorem zk5 : ∀ {xs : List (List Nat)} {ql : List Qd} {t : Nat} {x : List Nat}, xs.length = ql.length → xs[t]? = some x → (cl (zdf xs ql))[t]? = some (.slice (qs ql t).1 x.length (qs ql t).2)
 | [], _, t, x, _, h => by simp at h
 | y :: xs, [], _, _, hl, _ => by simp at hl
 | y :: xs, q :: ql, 0, x, hl, h => by
  rw [jD] at h
  obtain rfl := Option.some.inj h
  rfl
 | y :: xs, q :: ql, t + 1, x, hl, h => by
  rw [jE] at h
  have := zk5 (ql := ql) (by simpa using hl) h
  simpa [zdf, cl, Chunk.cells, qs] using this
theorem ziZ : ∀ {xs : List (List Nat)} {ql : List Qd}, xs.length = ql.length → cl (zdf xs ql) = zbL zax (zaC zax xs (qT ql))
 | [], ql, _ => by cases ql <;> rfl
 | x :: xs, [], hl => by simp at hl
 | x :: xs, q :: ql, hl => by
  have h := ziZ (xs := xs) (ql := ql) (by simpa using hl)
  have e : zaC zax (x :: xs) (qT (q :: ql)) = (x, q) :: zaC zax xs (qT ql) := by
   simp only [zaC, List.mapIdx_cons]
   rfl
  rw [e, zdf, cl, h]
  rfl
theorem zyz {ad : Addr} {xs : List (List Nat)} {ql : List Qd} {w : World} (hl : xs.length = ql.length) (hb : xs.length ≤ 9223372036854775807) (hat : AtC ad (zdf xs ql) w) (hn : ∀ t x, xs[t]? = some x → TxF (qs ql t).1 (qs ql t).2 x w) : LiF zax (some ad) xs.length xs (qT ql) w :=
 ⟨jV _, hb, fun e => (by cases e), fun ad' e t x hx => by
  obtain rfl := Option.some.inj e
  refine ⟨fun j u hu => ?_, hn t x hx⟩
  cases j with
  | zero =>
   have : u = .slice (qs ql t).1 x.length (qs ql t).2 := by
    have h3 : u = .slice (qT ql t).1 x.length (qT ql t).2 := by simpa [zax, cl, Chunk.cells] using hu.symm
    exact h3
   rw [this, zau, show t * zax.sz = t from Nat.mul_one t]
   exact hat t _ (zk5 hl hx)
  | succ j => simp [zax, cl, Chunk.cells] at hu⟩
theorem zdJ {ad : Addr} {xs : List (List Nat)} {ql : List Qd} {w : World} {Y : List Nat} (hl : xs.length = ql.length) (hb : xs.length ≤ 9223372036854775807) (hat : St (AtC ad (zdf xs ql)) w Y) (hn : ∀ t x, xs[t]? = some x → St (TxF (qs ql t).1 (qs ql t).2 x) w Y) : St (SlQ zax xs (some ad, xs.length)) w Y := fun w' hk =>
 ⟨fun e => (by cases e), qT ql, zyz hl hb (hat w' hk) fun t x hx => hn t x hx w' hk⟩
section
variable {P : Program} {Tb : Tab} {N k k0 ix : Nat} {l : LE} {m : MB} {R : List SF} {o : Oper} {sv : SV} {K : KS} {rs : List RB}
variable {xs ys : List (List Nat)} {i j n0 n e : Nat}
theorem zvF {t by_ r : Nat} {s y : Operand} {cs : List SC} (ql : Hn → List Qd) (hm : zaB m j = some (.blk cs e)) (hcs : ∀ h, zay h cs = zdf xs (ql h)) (hql : ∀ h, xs.length = (ql h).length) (hnest : ∀ (h : Hn) (X : List Nat) (w : World), Sp X w (zad h [] m) (zaN h R) → ∀ t x, xs[t]? = some x → St (TxF (qs (ql h) t).1 (qs (ql h) t).2 x) w (X ++ zab (zad h [] m)))
  (hrr : R[r]? = some (.sl i ys.length (SlF zax ys))) (ho : o.op = .call { callee := .builtin .append, args := #[s, y], argTypes := #[t, t] }) (hs : evS l s = some (slS j 0 n0 n0)) (hn0 : n0 = xs.length) (hy : evS l y = some (.a (.s (.p (.hd i ys.length)))))
  (hT : AppK P t e 1 by_) (hn : xs.length + ys.length ≤ 140737488355328) (hby : (xs.length + ys.length) * by_ ≤ 140737488355328) (wm : wfM (lt_ k) m = true) (wr : wfR (lt_ k) R = true) : zcK P N k l m R o (.a (.s (.p (.hd k (xs ++ ys).length)))) ((k, zbF zax (xs ++ ys) e) :: (j, .gone) :: m) (.q k (zdd zax (xs ++ ys)) :: R) := fun Q h X a w E H Kk hK => by
 subst hn0
 have hjk : j < k := zde hm wm
 have hp1 := zaG h m [] j _ hm (by simp)
 have hSl : St (SlQ zax ys (h.r i)) w (X ++ zab (zad h [] m)) := H.facts _ (zaO.2 ⟨_, List.mem_of_getElem? hrr, rfl⟩)
 obtain ⟨mm, hmm⟩ := zqv zjN hSl
 have hN : St (zf3 zax (zaC zax xs (qT (ql h)))) w (X ++ zab (zad h [] m)) := fun w' hk p hp => by
  obtain ⟨t, ht⟩ := List.mem_iff_getElem?.1 hp
  rw [zb3] at ht
  obtain ⟨x, hx, rfl⟩ := Option.map_eq_some_iff.1 ht
  exact hnest h X w H t x hx w' hk
 have hcl : cl (zay h cs) = zbL zax (zaC zax xs (qT (ql h))) := by rw [hcs, ziZ (hql h)]
 have H1 : Sp X w (.row (.slice (some ⟨h.b j, 0, none⟩) xs.length xs.length) e zax.sz (zaC zax xs (qT (ql h))).length (zbL zax (zaC zax xs (qT (ql h)))) :: zad h [j] m) (LiF zax (h.r i).1 (h.r i).2 ys mm :: zf3 zax (zaC zax xs (qT (ql h))) :: zaN h R) := by
  have h2 := ((H.know hN).know (r := LiF zax (h.r i).1 (h.r i).2 ys mm) hmm).perm hp1
  have h3 : Sp X w (.blk (h.b j) (ca (zay h cs)) e :: zad h [j] m) (LiF zax (h.r i).1 (h.r i).2 ys mm :: zf3 zax (zaC zax xs (qT (ql h))) :: zaN h R) := h2
  have e0 : ca (zay h cs) = ca [.row xs.length fun t => ((zbL zax (zaC zax xs (qT (ql h))))[t]?).getD (.bool false)] := by
   refine zoJ ?_
   rw [hcl]
   refine List.ext_getElem? fun t => ?_
   by_cases ht : t < xs.length
   ·have hlt : t < (zbL zax (zaC zax xs (qT (ql h)))).length := by rw [zc9, zbb]; simpa [zax] using ht
    simp [ht, jP hlt]
   ·rw [List.getElem?_eq_none (by rw [zc9, zbb]; simpa [zax] using ht), List.getElem?_eq_none (by simpa using ht)]
  rw [e0] at h3
  have h4 := Sep.rowOf (n := xs.length) h3.sep (jV _) (by omega)
  have e1 : ((List.range xs.length).map fun t => ((zbL zax (zaC zax xs (qT (ql h))))[t]?).getD (.bool false)) = zbL zax (zaC zax xs (qT (ql h))) := by
   refine List.ext_getElem? fun t => ?_
   by_cases ht : t < xs.length
   ·have hlt : t < (zbL zax (zaC zax xs (qT (ql h)))).length := by rw [zc9, zbb]; simpa [zax] using ht
    simp [ht, jP hlt]
   ·rw [List.getElem?_eq_none (by simpa using ht), List.getElem?_eq_none (by rw [zc9, zbb]; simpa [zax] using ht)]
  rw [e1] at h4
  rw [zbb]
  refine Sp.of_sep h4 fun t ht hX => h3.xap t ?_ hX
  simpa [zab, Res.keys, Value.ownBlock] using ht
 refine zow (T := zax) 0 E H1.sep hmm ho (zaf hs) (zaf hy) rfl hT (by rw [zbb]; omega) (by rw [zbb]; exact hby) fun A' c' w' hc HS hF => ?_
 let h1 : Hn := ⟨h.b, fun t => if t = k then (A', c') else h.r t, fun t => if t = k then (fun u => if u < xs.length then [qs (ql h) u] else ([mm (u - xs.length)] : List Qd)) else h.q t⟩
 have hag : AgS (lt_ k) h h1 := fun t ht => by
  have := zb6 ht
  exact ⟨rfl, if_neg (by omega), if_neg (by omega)⟩
 have er : h1.r k = (A', c') := if_pos rfl
 have eq : h1.q k = fun u => if u < xs.length then [qs (ql h) u] else ([mm (u - xs.length)] : List Qd) := if_pos rfl
 have eits : zaC zax xs (qT (ql h)) ++ zaC zax ys mm = itQ zax (xs ++ ys) (h1.q k) := by
  rw [zsF (g := fun u => [qs (ql h) u]) (mm := mm) (fun t ht => by rw [eq]; exact if_pos ht) fun t ht => by
   rw [eq]
   have h5 : (if xs.length + t < xs.length then [qs (ql h) (xs.length + t)] else ([mm (xs.length + t - xs.length)] : List Qd)) = [mm t] := by
    rw [if_neg (by omega), Nat.add_sub_cancel_left]
    try rfl
   exact h5]
  rfl
 have e1 : zad h1 [] ((k, zbF zax (xs ++ ys) e) :: (j, .gone) :: m) = .row (.slice A' (itQ zax (xs ++ ys) (h1.q k)).length c') e zax.sz (itQ zax (xs ++ ys) (h1.q k)).length (zbL zax (itQ zax (xs ++ ys) (h1.q k))) :: zad h [j] m := by
  rw [zan]
  show RB.den h1 k (zbF zax (xs ++ ys) e) ++ zad h1 [k] ((j, .gone) :: m) = _
  rw [zeC (by omega) wm, zaK hag wm, zbM]
  simp only [zbF, RB.den, er]
  rfl
 have e2 : (a.put o.dst (.slice A' (zaC zax xs (qT (ql h)) ++ zaC zax ys mm).length c')) = a.put o.dst (SV.den h1 (.a (.s (.p (.hd k (xs ++ ys).length))))) := by
  show _ = a.put o.dst (.slice (h1.r k).1 (xs ++ ys).length (h1.r k).2)
  rw [er, eits, zbM]
 rw [e2]
 have hkk : ∀ t, t ∈ zab (zad h [] m) ↔ t ∈ zab (.row (.slice (some ⟨h.b j, 0, none⟩) xs.length xs.length) e zax.sz (zaC zax xs (qT (ql h))).length (zbL zax (zaC zax xs (qT (ql h)))) :: zad h [j] m) := fun t => by
  have := (zar hp1).mem_iff (a := t)
  simpa [zab, RB.den, Res.keys, Value.ownBlock] using this
 have HS2 : Sep X (zab (zad h [] m)) w w' (zad h1 [] ((k, zbF zax (xs ++ ys) e) :: (j, .gone) :: m)) (LiF zax (h.r i).1 (h.r i).2 ys mm :: zf3 zax (zaC zax xs (qT (ql h))) :: zaN h R) := by
  rw [e1]
  rw [eits] at HS
  exact ⟨⟨HS.frm.os, HS.frm.tape, HS.frm.output, HS.frm.size, fun t ht hn => HS.frm.block t ht fun hm' => hn ((hkk t).2 hm')⟩, HS.xlt, HS.holds, HS.apart, fun t ht => (HS.mine t ht).imp_left (hkk t).2, HS.facts⟩
 have hX : ∀ t ∈ zab (zad h1 [] ((k, zbF zax (xs ++ ys) e) :: (j, .gone) :: m)), t ∉ X := fun t ht hX => by
  rcases HS2.mine t ht with h3 | h3
  ·exact H.xap t h3 hX
  ·have := H.xlt t hX; omega
 refine hK h1 w' hag HS2.frm ?_ (fun t ht => HS2.mine t ht)
 refine (Sp.of_sep HS2 hX).refacts fun r hr' => ?_
 obtain ⟨q, hq', rfl⟩ := zav.1 hr'
 rcases List.mem_cons.1 hq' with rfl | hq'
 ·show St (zdd zax (xs ++ ys) (h1.q k)) w' _
  unfold zdd
  rw [← eits]
  exact zox (HS2.facts _ (List.mem_cons_of_mem _ (List.mem_cons_self ..))) (ziT (HS2.facts _ (List.mem_cons_self ..)))
 ·rw [SF.same hag (zb9 wr _ hq')]
  exact HS2.facts _ (List.mem_cons_of_mem _ (List.mem_cons_of_mem _ (zav.2 ⟨_, hq', rfl⟩)))
theorem zk6 {R2 : List SF} (is : List Nat) (hz : zw9 is m R = some R2) (ht : ze3 P N k l (zyo is m) R2 o sv rs []) : ze3 P N k l m R o sv rs [] := fun Q h X a w E H Kk hK =>
 ht Q h X a w E (zg5 hz H).1 Kk fun h1 w' h2 h3 h4 => hK h1 w' h2 h3 ⟨h4.frm, H.xk, h4.holds, h4.apart, h4.mine, fun _ hr => by cases hr⟩
theorem zsG {α : Type} {T : Ty α} [Dec T] {zs : List α} {m' : MB} {R' : List SF} (i : Nat) (hm : zaB m i = some (zbF T zs e)) (hr : .q i (zdd T zs) ∈ R) (wl : wfE (lt_ k) l = true) (hs : zcK P N k l ((i, .gone) :: m) (.sl i zs.length (SlF T zs) :: R) o sv m' R') : zcK P N k l m R o sv m' R' :=
 zeB (Nat.ble_eq_true_of_le (jV k)) (fun h X w H => ⟨h, fun _ _ => ⟨rfl, rfl, rfl⟩, zjL hm hr H⟩) wl hs
theorem zBi {t : Nat} {x y : Operand} {z1 z2 : Int} (n : Nat) (hT : ByteT P t e) (ho : o.op = .makeSlice t x y) (hx : evS l x = some (zaH .i64 z1)) (hy : evS l y = some (zaH .i64 z2)) (h1 : z1 = (n : Int)) (h2 : z2 = (n : Int)) (hn : n ≤ 140737488355328) : ze3 P N k l m R o (slS k 0 n n) [.blk [.row n fun _ => bv 0] e] [] := fun Q h X a w E H Kk hK => by
 refine zoz E (Sep.none_ H.xk) ho hT (zaf hx) (zaf hy) h1 h2 (jV _) hn fun b w' HS F => ?_
 let h1 : Hn := ⟨fun t => if t = k then b else h.b t, h.r, h.q⟩
 have er : h1.b k = b := if_pos rfl
 have := hK h1 w' (fun t ht => ⟨if_neg (by simp at ht; omega), rfl, rfl⟩) F (by
  have e1 : zdk h1 k [.blk [.row n fun _ => bv 0] e] = [.blk b (ca [.row n fun _ => bv 0]) e] := by
   simp only [zdk, RB.den, er]
   rfl
  rw [e1]
  exact HS)
 rw [show SV.den h1 (slS k 0 n n) = .slice (some ⟨b, 0, none⟩) n n by show Value.slice (some ⟨h1.b k, 0, none⟩) n n = _; rw [er]] at this
 exact this
theorem zvG {X G : List Nat} {w0 : World} {Rr : Ending → World → Prop} {t : Nat} {kk : List Nat} {sv' : SV} {m' : MB} (i : Nat) (hm : zaB m i = some (.blk [.key kk] t)) (hk32 : kk.length = 32) (hkb : ∀ x ∈ kk, x < 256) (he : ∀ h : Hn, h.r k = (some ⟨h.b i, 0, none⟩, 32) → sv'.den h = sv.den h ∧ zad h [] m' = zad h [] ((i, .gone) :: m)) (hw : (bif sv'.wf (lt_ (k + 1)) then wfM (lt_ (k + 1)) m' else false) = true)
  (hk : RetOk X G w0 Rr (k + 1) sv' m' (.sl k 32 (TxG kk) :: R)) : RetOk X G w0 Rr k sv m R := ⟨fun h w ws wm wr H hX => by
 have hi : lt_ k i = true := Nat.ble_eq_true_of_le (zde hm wm)
 obtain ⟨h1, h2⟩ := zjK hm (Sp.of_sep H hX)
 let h3 : Hn := ⟨h.b, fun t => if t = k then (some ⟨h.b i, 0, none⟩, 32) else h.r t, h.q⟩
 have er : h3.r k = (some ⟨h3.b i, 0, none⟩, 32) := if_pos rfl
 have hag : AgS (lt_ k) h h3 := fun j hj => ⟨rfl, if_neg (by have := zb6 hj; omega), rfl⟩
 obtain ⟨e1, e2⟩ := he h3 er
 have hw2 := zaa hw
 have wg : wfM (lt_ k) ((i, .gone) :: m) = true := zat hi (zat rfl wm)
 rw [← SV.same hag ws, ← e1]
 have e3 : zad h3 [] m' = zad h [] ((i, .gone) :: m) := by rw [e2, zaK hag wg]
 refine hk.ok h3 w hw2.1 hw2.2 (zat (Nat.ble_eq_true_of_le (jV _)) (zcr (zcX (Nat.le_succ k)) wr)) ?_ fun j hj => hX j (h2 j (by rw [← e3]; exact hj))
 rw [e3]
 refine ⟨H.frm, H.xlt, h1.holds, h1.apart, fun j hj => H.mine j (h2 j hj), fun r hr => ?_⟩
 rcases List.mem_cons.1 hr with rfl | hr
 ·have hb := h1.facts _ (List.mem_cons_self ..)
  have ht : St (TxF (some ⟨h.b i, 0, none⟩) 32 kk) w (X ++ zab (zad h [] ((i, .gone) :: m))) := zhC hb (by rw [show zay h [.key kk] = [.key kk] from rfl, zoC, zhD hk32]) (by omega) (by omega) hkb
  refine ht.imp fun w' hw' => ?_
  show ((h3.r k).1 = none → 32 = 0) ∧ TxG kk (h3.r k) w'
  rw [er]
  exact ⟨fun e => (by cases e), hw'⟩
 ·rw [zaX hag wr] at hr
  exact h1.facts _ (List.mem_cons_of_mem _ hr)⟩
theorem zsH {R2 : List SF} : ∀ {is : List Nat} {m : MB} {R : List SF}, zw9 is m R = some R2 → wfM (lt_ k) m = true → wfR (lt_ k) R = true → wfM (lt_ k) (zyo is m) = true ∧ wfR (lt_ k) R2 = true
 | [], m, R, e, h1, h2 => by obtain rfl := Option.some.inj e; exact ⟨h1, h2⟩
 | i :: is, m, R, e, h1, h2 => by
  unfold zw9 at e
  split at e
  ·rename_i cs t hm
   have hi : lt_ k i = true := Nat.ble_eq_true_of_le (zde hm h1)
   have := zsH (is := is) e (zat hi (zat rfl h1)) (zat (zat hi (zr9 h1 hm).2) h2)
   exact this
  ·cases e
theorem zvH {X G : List Nat} {w0 : World} {Rr : Ending → World → Prop} {R2 : List SF} (is : List Nat) (hz : zw9 is m R = some R2) (hk : RetOk X G w0 Rr k sv (zyo is m) R2) : RetOk X G w0 Rr k sv m R := ⟨fun h w ws wm wr H hX => by
 obtain ⟨h1, h2⟩ := zg5 hz (Sp.of_sep H hX)
 obtain ⟨w1, w2⟩ := zsH hz wm wr
 exact hk.ok h w ws w1 w2 ⟨H.frm, H.xlt, h1.holds, h1.apart, fun j hj => H.mine j (h2 j hj), h1.facts⟩ fun j hj => hX j (h2 j hj)⟩
theorem zsI {t : List Nat} {n : Nat} {x xh xm : Operand} {ty : Nat} {z z2 : Int} (ys : List Nat) (r : Nat) (hys : ys = t.take n) (hr : R[r]? = some (.sl i n0 (TxG t))) (hn : n ≤ t.length) (ho : o.op = .slice ty x none (some xh) (some xm)) (ht : elK P ty = some 1) (hx : evS l x = some (.a (.s (.p (.hd i n0))))) (hh : evS l xh = some (zaH .i64 z)) (hm : evS l xm = some (zaH .i64 z2)) (hz : z = (n : Int)) (hz2 : z2 = (n : Int)) : ze3 P N k l m R o (.a (.s (.p (.hd k n)))) [.gone] [.sl k n (TxG ys)] := fun Q h X a w E H Kk hK => by
 have hf := zgz H hr
 have hcap := hf.now.cap
 let q : Qd := (if n = 0 then (h.r i).1 else (h.r i).1.map (·.add (0 * 1)), n - 0)
 have hq : ziF (h.r i).1 1 0 n n = .slice q.1 (n - 0) q.2 := rfl
 have hh' : ev (zcu h l) xh = some (.int .i64 z) := zaf hh
 have hm' : ev (zcu h l) xm = some (.int .i64 z2) := zaf hm
 have hrun := zrC (P := P) (S := ze0) (ws := w) (A := (h.r i).1) (c := (h.r i).2) (lo := 0) (hi := n) (mx := n) ho ht (zaf (h := h) hx) (fun a N w E => by
  unfold Instr.sliceBounds
  simp [E.ev hh', E.ev hm', zd0 hz (jV n), zd0 hz2 (show n ≤ (h.r i).2 by omega), Sem.run_bind]) w (CanB.Keep.refl _ _) a N E
 let h1 : Hn := ⟨h.b, fun t => if t = k then q else h.r t, h.q⟩
 have er : h1.r k = q := if_pos rfl
 have hl : ys.length = n := by rw [hys, List.length_take]; omega
 unfold Oper.wp
 rw [hrun, hq]
 have := hK h1 w (fun t ht => ⟨rfl, if_neg (by simp at ht; omega), rfl⟩) (Frm.refl _ _) (by
  show Sep (X ++ zab (zad h [] m)) [] w w [] (zaN h1 [_])
  refine (Sep.none_ H.xk).refacts fun r hr => ?_
  rcases List.mem_singleton.1 hr with rfl
  rw [show (X ++ zab (zad h [] m)) ++ zab ([] : List Res) = X ++ zab (zad h [] m) by simp [zab]]
  intro w' hk
  have h' := hf w' hk
  show ((h1.r k).1 = none → n = 0) ∧ TxF (h1.r k).1 (h1.r k).2 ys w'
  rw [er]
  have hA0 : q.1 = none → n = 0 := fun e => by
   by_cases h0 : n = 0
   ·exact h0
   ·have e : (h.r i).1.map (·.add (0 * 1)) = none := by simpa [q, h0] using e
    have := h'.nil (Option.map_eq_none_iff.1 e)
    omega
  refine ⟨hA0, by show ys.length ≤ n - 0; omega, by have := h'.len; omega, fun x hx => h'.byt x (by rw [hys] at hx; exact List.mem_of_mem_take hx), fun e => ⟨by rw [hl]; exact hA0 e, by show n - 0 = 0; rw [hA0 e]⟩, fun ad hA i' x hx => ?_⟩
  have hi' := (List.getElem?_eq_some_iff.1 hx).1
  have h0 : n ≠ 0 := by omega
  rw [hys, List.getElem?_take_of_lt (by omega)] at hx
  cases hAA : (h.r i).1 with
  | none => have := (h'.nil hAA).1; omega
  | some ad0 =>
   have e : q.1 = some (ad0.add (0 * 1)) := by simp [q, h0, hAA]
   rw [e] at hA
   obtain rfl := Option.some.inj hA
   rw [Nat.zero_mul, zau]
   exact h'.at_ ad0 hAA _ x hx)
 rw [show SV.den h1 (.a (.s (.p (.hd k n)))) = .slice q.1 (n - 0) q.2 by show Value.slice (h1.r k).1 n (h1.r k).2 = _; rw [er]; rfl] at this
 exact this
theorem zyA {b : Nat} (hb : Nat.ble k b = true) : zCt k (.sl b 0 (TxG [])) := fun h w Y hn => by
 show St (fun w => ((h.r b).1 = none → 0 = 0) ∧ TxG [] (h.r b) w) w Y
 rw [hn b (Nat.le_of_ble_eq_true hb)]
 exact znt
end
end
end Go.Proofs.YtcmmpiaogfnmoaaGreatDoor
