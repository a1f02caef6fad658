/- Trees' shapes (layer 9 and on), walked by computing. The lists of a tree's nodes. Trees with points: their nodes, their sums. The walks of a number's bytes: wire.Num at one number, and the reference's. wire.Num at one number, behind a text. Walks by computing: in the rounds of a range over a function, and behind it. No program is in sight. A range over a function. No program is in sight. Plain: the numbers modulo the prime of layer 5; the curve x² + y² = 1 + d x² y², where d is no square: its law is whole, and hangs on no order. Plain: the ladder of layer 6 is a multiple of a point of the curv -/
import Derived.Test.YtcmmpiaogfnmoaaGreatDoorStateSecretsF
import Derived.RangeFuncKeeps
import Derived.RangeFuncLeaves
import Derived.ProofKit
import Derived.OpenShut
import Derived.ShutString
import Derived.ChangeOld
import Derived.Lib.LaidU8
import Derived.LaidHandle
import Derived.LaidLaws
import Derived.Handed
import Derived.Deep.DeepLaidRun
set_option linter.unusedSimpArgs false
set_option linter.unusedVariables false
set_option maxRecDepth 200000
set_option maxHeartbeats 6000000
namespace Go.Proofs.YtcmmpiaogfnmoaaGreatDoor
section
open Go.RowKit
def zAq (n : Int) : Bool := decide (n < 2) || decide (n > 3)
def zmt {α : Type} (p : α → Bool) (xs : List α) : Int := if xs.any p then (xs.findIdx p : Int) else -1
section
variable {α : Type} {p : α → Bool} {xs : List α} {i : Nat}
theorem zEP {xs : List Int} (h : ∀ x ∈ xs, 0 ≤ x ∧ x ≤ 3) : 0 ≤ xs.sum ∧ xs.sum ≤ 3 * xs.length := by
 induction xs with
 | nil => simp
 | cons x xs ih =>
  have h1 := h x (List.mem_cons_self ..)
  have h2 := ih fun y hy => h y (List.mem_cons_of_mem _ hy)
  rw [List.sum_cons, List.length_cons]
  omega
theorem zCz {xs : List Int} (h : xs.any zAq = false) : ∀ x ∈ xs, 0 ≤ x ∧ x ≤ 3 := fun x hx => by
 have := List.any_eq_false.1 h x hx
 simp [zAq] at this
 omega
theorem zgI (h : ∀ y ∈ xs, p y = false) : zmt p xs = -1 := by
 unfold zmt
 rw [if_neg]
 intro ha
 obtain ⟨y, hy, hp⟩ := List.any_eq_true.1 ha
 rw [h y hy] at hp
 cases hp
theorem zmu : decide (zmt p xs ≥ 0) = xs.any p := by
 unfold zmt
 cases h : xs.any p <;> simp
theorem zjd (hi : i < xs.length) (h : ∀ y ∈ xs.take i, p y = false) (hp : p xs[i] = true) : zmt p xs = i := by
 unfold zmt
 rw [if_pos (List.any_eq_true.2 ⟨xs[i], List.getElem_mem hi, hp⟩)]
 congr 1
 refine (List.findIdx_eq hi).2 ⟨hp, fun j hj => ?_⟩
 exact h _ (List.mem_take_iff_getElem.2 ⟨j, by omega, rfl⟩)
theorem zgJ (hi : i < xs.length) (h : ∀ y ∈ xs.take i, p y = false) (hp : p xs[i] = false) : ∀ y ∈ xs.take (i + 1), p y = false := fun y hy => by
 rw [List.take_succ_eq_append_getElem hi] at hy
 rcases List.mem_append.1 hy with h1 | h1
 ·exact h y h1
 ·rw [List.mem_singleton.1 h1]; exact hp
end
section
variable {X : List Nat} {w : World}
theorem zEQ (hX : ∀ k ∈ X, k < w.heap.size) (n : Int) : Ct Tryz.prog 192 [.int .i64 n] X w (zbD (zAq n)) [] [] := by
 refine vFn (k0 := 0) (rs := [.tmp 2]) (svs := [zaD .i64 n]) (R0 := []) (hnQ []) Tryz.ntmps192 Tryz.func192 rfl rfl rfl rfl rfl zan (by kernel_rfl) hX (fun _ h => by cases h) ?_
 conv => whnf
 refine vIf (fun h => ?_) fun h => ?_
 ·conv => whnf
  refine zav ?_
  simp [zAq, h]; rfl
 ·conv => whnf
  refine vIf (fun h2 => ?_) fun h2 => ?_
  ·conv => whnf
   refine zav ?_
   simp [zAq, h, h2]; rfl
  ·conv => whnf
   refine zav ?_
   simp [zAq, h, h2]; rfl
theorem zyW (hX : ∀ k ∈ X, k < w.heap.size) (xs : List Int) (x : Int) (q : Qd) (hq : St (SlQ zbb xs q) w X) : Ct Tryz.prog 194 [.slice q.1 xs.length q.2, .int .i64 x] X w (zaD .i64 (zmt (· == x) xs)) [] [] := by
 have hbig := SlQ.big hq
 refine vFn (k0 := 1) (rs := [.tmp 4]) (svs := [.a (.s (.p (.hd 0 xs.length))), zaD .i64 x]) (R0 := [.sl 0 xs.length (SlF zbb xs)]) (hnQ [q]) Tryz.ntmps194 Tryz.func194 rfl rfl rfl rfl rfl zan (by kernel_rfl) hX (fun r hr => by rcases List.mem_singleton.1 hr with rfl; exact hq) ?_
 conv => whnf
 refine ⟨Nat, fun k l m R i => ⟨k, (8, zaD .i64 i) :: za2 [0, 1, 7] l, m, R⟩, fun i => i ≤ xs.length ∧ ∀ y ∈ xs.take i, (y == x) = false, fun i => xs.length - i, ⟨0, [], [0], ⟨by omega, by simp⟩, za3⟩, fun i hφ => ?_⟩
 conv => whnf
 refine vIf (fun h => ?_) fun h => ?_
 ·have hi : i < xs.length := by simpa [Sl.len] using h
  conv => whnf
  refine ⟨i, ⟨rfl, hi, hi⟩, ?_⟩
  conv => whnf
  refine zb4 (zcb (T := zbb) (sv := zaD .i64 xs[i]) 0 (jP hi) (fun _ => rfl) rfl rfl rfl (by kernel_rfl) (fun _ => .inr ⟨rfl, rfl, rfl⟩)) rfl rfl ?_
  conv => whnf
  refine vIf (fun he => ?_) fun he => ?_
  ·conv => whnf
   refine zav ?_
   rw [zjd hi hφ.2 (by simpa using Eq.symm (by simpa using he))]; rfl
  ·conv => whnf
   refine zc2 (by omega) (by omega) ?_
   conv => whnf
   exact ⟨i + 1, [], [0], ⟨⟨by omega, zgJ hi hφ.2 (by simp only [beq_eq_false_iff_ne] at he ⊢; exact Ne.symm he)⟩, Nat.sub_lt_sub_left hi (Nat.lt_succ_self i)⟩, za3⟩
 ·have hi : i = xs.length := by
   have : ¬ i < xs.length := by simpa [Sl.len] using h
   omega
  conv => whnf
  refine zav ?_
  rw [zgI (by rw [← List.take_length (l := xs), ← hi]; exact hφ.2)]; rfl
theorem zpD (hX : ∀ k ∈ X, k < w.heap.size) (xs : List Int) (x : Int) (q : Qd) (hq : St (SlQ zbb xs q) w X) : Ct Tryz.prog 173 [.slice q.1 xs.length q.2, .int .i64 x] X w (zbD (xs.any (· == x))) [] [] := by
 refine vFn (k0 := 1) (rs := [.tmp 4]) (svs := [.a (.s (.p (.hd 0 xs.length))), zaD .i64 x]) (R0 := [.sl 0 xs.length (SlF zbb xs)]) (hnQ [q]) Tryz.ntmps173 Tryz.func173 rfl rfl rfl rfl rfl zan (by kernel_rfl) hX (fun r hr => by rcases List.mem_singleton.1 hr with rfl; exact hq) ?_
 conv => whnf
 refine zae rfl rfl rfl (by kernel_rfl) (fun h X w H => zyW H.xk xs x _ (H.fact 0 rfl)) rfl rfl rfl ?_
 conv => whnf
 refine vIf (fun he => ?_) fun he => ?_
 all_goals
  conv => whnf
  refine zav ?_
  rw [← zmu, he]; rfl
theorem zog (hX : ∀ k ∈ X, k < w.heap.size) (xs : List Int) (q : Qd) (hq : St (SlQ zbb xs q) w X) {g : FuncId} (hg : fnB Tryz.prog g = true) (p : Int → Bool) (hp : ∀ y ∈ xs, ∀ (X : List Nat) (w : World), (∀ k ∈ X, k < w.heap.size) → Ct Tryz.prog g [.int .i64 y] X w (zbD (p y)) [] []) :
  Ct Tryz.prog 197 [.slice q.1 xs.length q.2, .func (.func g) #[] #[]] X w (zaD .i64 (zmt p xs)) [] [] := by
 have hbig := SlQ.big hq
 refine vFn (k0 := 1) (rs := [.tmp 4]) (svs := [.a (.s (.p (.hd 0 xs.length))), .a (.s (.p (.v (.func (.func g) #[] #[]))))]) (R0 := [.sl 0 xs.length (SlF zbb xs)]) (hnQ [q]) Tryz.ntmps197 Tryz.func197 rfl rfl rfl rfl rfl zan (by kernel_rfl) hX (fun r hr => by rcases List.mem_singleton.1 hr with rfl; exact hq) ?_
 conv => whnf
 refine ⟨Nat, fun k l m R i => ⟨k, (8, zaD .i64 i) :: za2 [0, 1, 7] l, m, R⟩, fun i => i ≤ xs.length ∧ ∀ y ∈ xs.take i, p y = false, fun i => xs.length - i, ⟨0, [], [0], ⟨by omega, by simp⟩, za3⟩, fun i hφ => ?_⟩
 conv => whnf
 refine vIf (fun h => ?_) fun h => ?_
 ·have hi : i < xs.length := by simpa [Sl.len] using h
  conv => whnf
  refine ⟨i, ⟨rfl, hi, hi⟩, ?_⟩
  conv => whnf
  refine zb4 (zcb (T := zbb) (sv := zaD .i64 xs[i]) 0 (jP hi) (fun _ => rfl) rfl rfl rfl (by kernel_rfl) (fun _ => .inr ⟨rfl, rfl, rfl⟩)) rfl rfl ?_
  conv => whnf
  refine zkK rfl rfl rfl hg (fun h X w H => hp _ (List.getElem_mem hi) _ _ H.xk) rfl rfl (fun he => ?_) fun he => ?_
  ·conv => whnf
   refine zav ?_
   rw [zjd hi hφ.2 he]; rfl
  ·conv => whnf
   refine zc2 (by omega) (by omega) ?_
   conv => whnf
   exact ⟨i + 1, [], [0], ⟨⟨by omega, zgJ hi hφ.2 he⟩, Nat.sub_lt_sub_left hi (Nat.lt_succ_self i)⟩, za3⟩
 ·have hi : i = xs.length := by
   have : ¬ i < xs.length := by simpa [Sl.len] using h
   omega
  conv => whnf
  refine zav ?_
  rw [zgI (by rw [← List.take_length (l := xs), ← hi]; exact hφ.2)]; rfl
theorem zeJ (hX : ∀ k ∈ X, k < w.heap.size) (xs : List Int) (q : Qd) (hq : St (SlQ zbb xs q) w X) {g : FuncId} (hg : fnB Tryz.prog g = true) (p : Int → Bool) (hp : ∀ y ∈ xs, ∀ (X : List Nat) (w : World), (∀ k ∈ X, k < w.heap.size) → Ct Tryz.prog g [.int .i64 y] X w (zbD (p y)) [] []) :
  Ct Tryz.prog 191 [.slice q.1 xs.length q.2, .func (.func g) #[] #[]] X w (zbD (xs.any p)) [] [] := by
 refine vFn (k0 := 1) (rs := [.tmp 4]) (svs := [.a (.s (.p (.hd 0 xs.length))), .a (.s (.p (.v (.func (.func g) #[] #[]))))]) (R0 := [.sl 0 xs.length (SlF zbb xs)]) (hnQ [q]) Tryz.ntmps191 Tryz.func191 rfl rfl rfl rfl rfl zan (by kernel_rfl) hX (fun r hr => by rcases List.mem_singleton.1 hr with rfl; exact hq) ?_
 conv => whnf
 refine zae rfl rfl rfl (by kernel_rfl) (fun h X w H => zog H.xk xs _ (H.fact 0 rfl) hg p hp) rfl rfl rfl ?_
 conv => whnf
 refine vIf (fun he => ?_) fun he => ?_
 all_goals
  conv => whnf
  refine zav ?_
  rw [← zmu, he]; rfl
theorem zER (hX : ∀ k ∈ X, k < w.heap.size) (xs : List Int) (q : Qd) (hq : St (SlQ zbb xs q) w X) (h3 : ∀ x ∈ xs, 0 ≤ x ∧ x ≤ 3) (hl : xs.length ≤ 1099511627776) : Ct Tryz.prog 193 [.slice q.1 xs.length q.2] X w (zaD .i64 xs.sum) [] [] := by
 refine vFn (k0 := 1) (rs := [.tmp 2]) (svs := [.a (.s (.p (.hd 0 xs.length)))]) (R0 := [.sl 0 xs.length (SlF zbb xs)]) (hnQ [q]) Tryz.ntmps193 Tryz.func193 rfl rfl rfl rfl rfl zan (by kernel_rfl) hX (fun r hr => by rcases List.mem_singleton.1 hr with rfl; exact hq) ?_
 conv => whnf
 refine ⟨Nat, fun k l m R i => ⟨k, (7, zaD .i64 i) :: (2, zaD .i64 (xs.take i).sum) :: za2 [5, 6] l, m, R⟩, fun i => i ≤ xs.length, fun i => xs.length - i, ⟨0, [], [0], by omega, za3⟩, fun i hφ => ?_⟩
 have hs := zEP (fun x hx => h3 x (List.mem_of_mem_take hx)) (xs := xs.take i)
 rw [List.length_take] at hs
 conv => whnf
 refine vIf (fun h => ?_) fun h => ?_
 ·have hi : i < xs.length := by simpa [Sl.len] using h
  have hx := h3 _ (List.getElem_mem hi)
  conv => whnf
  refine ⟨i, ⟨rfl, hi, hi⟩, ?_⟩
  conv => whnf
  refine zb4 (zcb (T := zbb) (sv := zaD .i64 xs[i]) 0 (jP hi) (fun _ => rfl) rfl rfl rfl (by kernel_rfl) (fun _ => .inr ⟨rfl, rfl, rfl⟩)) rfl rfl ?_
  conv => whnf
  refine zbi (z' := (xs.take (i + 1)).sum) (by rw [List.take_succ_eq_append_getElem hi, List.sum_append, List.sum_singleton]) (by omega) (by omega) ?_
  conv => whnf
  refine zc2 (by omega) (by omega) ?_
  conv => whnf
  exact ⟨i + 1, [], [0], ⟨by omega, Nat.sub_lt_sub_left hi (Nat.lt_succ_self i)⟩, za3⟩
 ·have hi : i = xs.length := by
   have : ¬ i < xs.length := by simpa [Sl.len] using h
   omega
  conv => whnf
  refine zav ?_
  rw [hi, List.take_length]; rfl
def zAr (n : Int) : Bool := decide (n < 0) || decide (n > 1048576)
theorem zES (hX : ∀ k ∈ X, k < w.heap.size) (n : Int) : Ct Tryz.prog 190 [.int .i64 n] X w (zbD (zAr n)) [] [] := by
 refine vFn (k0 := 0) (rs := [.tmp 2]) (svs := [zaD .i64 n]) (R0 := []) (hnQ []) Tryz.ntmps190 Tryz.func190 rfl rfl rfl rfl rfl zan (by kernel_rfl) hX (fun _ h => by cases h) ?_
 conv => whnf
 refine vIf (fun h => ?_) fun h => ?_
 ·conv => whnf
  refine zav ?_
  simp [zAr, h]; rfl
 ·conv => whnf
  refine vIf (fun h2 => ?_) fun h2 => ?_
  all_goals
   conv => whnf
   refine zav ?_
   simp [zAr, h, h2]; rfl
def zeK : Nat → List (List Int) → Bool
 | many, [] => decide (many ≤ 1)
 | many, l :: ls => !decide (many < 2) && !l.any zAq && decide (l.sum = many) && zeK l.length ls
def zj3 (ids : List Int) : Bool := (List.range ids.length).all fun i => !(decide (0 < i) && decide (ids.getD (i - 1) 0 ≥ ids.getD i 0))
def zd3 (ids : List Int) (ls : List (List Int)) : Bool := decide (ids.length ≤ 1000) && !ids.any zAr && zj3 ids && zeK ids.length ls
theorem zoh (hX : ∀ k ∈ X, k < w.heap.size) (ids : List Int) (ls : List (List Int)) (q p : Qd) (hq : St (SlQ zbb ids q) w X) (hp : St (SlQ (zgR zbb) ls p) w X) (hlen : ∀ l ∈ ls, l.length ≤ 1099511627776) :
  Ct Tryz.prog 172 [.agg (ca [.one (.slice q.1 ids.length q.2), .one (.slice p.1 ls.length p.2)])] X w (zaD .i64 (if zd3 ids ls then 0 else 1)) [] [] := by
 have hbig := SlQ.big hq
 have hbig2 := SlQ.big hp
 refine vFn (k0 := 2) (rs := [.tmp 2]) (svs := [.a (.agg [.one (.p (.hd 0 ids.length)), .one (.p (.hd 1 ls.length))])]) (R0 := [.sl 0 ids.length (SlF zbb ids), .sl 1 ls.length (SlF (zgR zbb) ls)]) (hnQ [q, p]) Tryz.ntmps172 Tryz.func172 rfl rfl rfl rfl rfl zan (by kernel_rfl) hX (fun r hr => by rcases List.mem_cons.1 hr with rfl | hr; exact hq; rcases List.mem_singleton.1 hr with rfl; exact hp) ?_
 conv => whnf
 refine vIf (fun h1 => ?_) fun h1 => ?_
 ·conv => whnf
  refine zav ?_
  have : ¬ ids.length ≤ 1000 := by simp [Sl.len] at h1; omega
  simp [zd3, this]; rfl
 have h1 : ids.length ≤ 1000 := by simp [Sl.len] at h1; omega
 conv => whnf
 refine zkK rfl rfl rfl (by kernel_rfl) (fun h X w H => zeJ H.xk ids _ (H.fact 0 rfl) (by kernel_rfl) zAr fun y _ X w hX => zES hX y) rfl rfl (fun h2 => ?_) fun h2 => ?_
 ·conv => whnf
  refine zav ?_
  simp [zd3, h2]; rfl
 conv => whnf
 refine ⟨Nat, fun k l m R i => ⟨k, (21, zaD .i64 i) :: za2 [1, 20] l, m, R⟩, fun i => i ≤ ids.length ∧ ∀ j, j < i → (decide (0 < j) && decide (ids.getD (j - 1) 0 ≥ ids.getD j 0)) = false, fun i => ids.length - i, ⟨0, [], [0, 1], ⟨by omega, fun j hj => by omega⟩, za3⟩, fun i hφ => ?_⟩
 conv => whnf
 refine vIf (fun h => ?_) fun h => ?_
 ·have hi : i < ids.length := by simpa [Sl.len] using h
  conv => whnf
  refine zaK 14 [] (by kernel_rfl) ?_
  conv => whnf
  refine vIf (fun h0 => ?_) fun h0 => ?_
  ·have h0 : 0 < i := by simpa using h0
   have e1 : ids.getD (i - 1) 0 = ids[i - 1] := by rw [jR, jP (by omega)]; rfl
   have e2 : ids.getD i 0 = ids[i] := by rw [jR, jP hi]; rfl
   conv => whnf
   refine zc2 (by omega) (by omega) ?_
   conv => whnf
   refine ⟨i - 1, ⟨by omega, by omega, by omega⟩, ?_⟩
   conv => whnf
   refine zcA (zcb (T := zbb) (sv := zaD .i64 ids[i - 1]) 0 (jP (by omega)) (fun _ => rfl) rfl rfl rfl (by kernel_rfl) (fun _ => .inr ⟨rfl, rfl, rfl⟩)) ?_
   conv => whnf
   refine ⟨i, ⟨rfl, hi, hi⟩, ?_⟩
   conv => whnf
   refine zcA (zcb (T := zbb) (sv := zaD .i64 ids[i]) 0 (jP hi) (fun _ => rfl) rfl rfl rfl (by kernel_rfl) (fun _ => .inr ⟨rfl, rfl, rfl⟩)) ?_
   conv => whnf
   refine vIf (fun hc => ?_) fun hc => ?_
   ·conv => whnf
    refine zav ?_
    have : zj3 ids = false := by
     unfold zj3
     rw [List.all_eq_false]
     exact ⟨i, List.mem_range.2 hi, by rw [e1, e2]; simpa [h0] using hc⟩
    simp [zd3, this]; rfl
   ·conv => whnf
    refine zc2 (by omega) (by omega) ?_
    conv => whnf
    refine ⟨i + 1, [], [0, 1], ⟨⟨by omega, fun j hj => ?_⟩, Nat.sub_lt_sub_left hi (Nat.lt_succ_self i)⟩, za3⟩
    by_cases e : j = i
    ·subst e
     rw [e1, e2, hc, Bool.and_false]
    ·exact hφ.2 j (by omega)
  ·have h0 : ¬ 0 < i := by simpa using h0
   conv => whnf
   refine zc2 (by omega) (by omega) ?_
   conv => whnf
   refine ⟨i + 1, [], [0, 1], ⟨⟨by omega, fun j hj => ?_⟩, Nat.sub_lt_sub_left hi (Nat.lt_succ_self i)⟩, za3⟩
   by_cases e : j = i
   ·subst e
    simp [h0]
   ·exact hφ.2 j (by omega)
 have hi : i = ids.length := by
   have : ¬ i < ids.length := by simpa [Sl.len] using h
   omega
 have hrise : zj3 ids = true := by
  unfold zj3
  rw [List.all_eq_true]
  intro j hj
  rw [hφ.2 j (by have := List.mem_range.1 hj; omega)]
  rfl
 conv => whnf
 refine ⟨Nat × Nat, fun k l m R g => ⟨k, (47, zaD .i64 g.1) :: (5, zaD .i64 g.2) :: za2 [45, 46] l, m, R⟩, fun g => g.1 ≤ ls.length ∧ g.2 ≤ 9223372036854775807 ∧ zeK ids.length ls = zeK g.2 (ls.drop g.1), fun g => ls.length - g.1, ⟨(0, ids.length), [], [0, 1], ⟨by simp, by omega, rfl⟩, za3⟩, fun ⟨i, many⟩ ⟨hi1, hmany, hs⟩ => ?_⟩
 conv => whnf
 refine vIf (fun h => ?_) fun h => ?_
 ·have hj : i < ls.length := by simpa [Sl.len] using h
  obtain ⟨x, hx⟩ : ∃ x, ls[i]? = some x := ⟨_, jP hj⟩
  have hl := hlen x (List.mem_of_getElem? hx)
  rw [List.drop_eq_getElem_cons hj, (List.getElem?_eq_some_iff.1 hx).2, zeK] at hs
  have hbad : zeK ids.length ls = false → (if zd3 ids ls then (0 : Int) else 1) = 1 := fun hb => by simp [zd3, hb]
  conv => whnf
  refine ⟨i, ⟨rfl, hj, hj⟩, ?_⟩
  conv => whnf
  refine zfs (zzP (T := zbb) 1 hx rfl rfl rfl (by kernel_rfl)) rfl rfl ?_
  conv => whnf
  refine vIf (fun h3 => ?_) fun h3 => ?_
  ·conv => whnf
   refine zav ?_
   have : decide (many < 2) = true := by simp at h3 ⊢; omega
   rw [hbad (by rw [hs, this]; rfl)]; rfl
  have h3' : decide (many < 2) = false := by simp at h3 ⊢; omega
  conv => whnf
  refine zkK rfl rfl rfl (by kernel_rfl) (fun h X w H => zeJ H.xk x _ (H.fact 0 rfl) (by kernel_rfl) zAq fun y _ X w hX => zEQ hX y) rfl rfl (fun h4 => ?_) fun h4 => ?_
  ·conv => whnf
   refine zav ?_
   rw [hbad (by rw [hs, h4]; simp)]; rfl
  conv => whnf
  refine zae rfl rfl rfl (by kernel_rfl) (fun h X w H => zER H.xk x _ (H.fact 0 rfl) (zCz h4) hl) rfl rfl rfl ?_
  conv => whnf
  refine vIf (fun h5 => ?_) fun h5 => ?_
  ·conv => whnf
   refine zav ?_
   rw [hbad (by
     rw [hs]; have : decide (x.sum = many) = false := by simpa using h5
     rw [this]; simp)]; rfl
  have h5 : decide (x.sum = many) = true := by simpa using h5
  conv => whnf
  refine zc2 (by omega) (by omega) ?_
  conv => whnf
  exact ⟨(i + 1, x.length), [], [1, 2], ⟨⟨hj, by omega, by rw [hs, h3', h4, h5]; rfl⟩, Nat.sub_lt_sub_left hj (Nat.lt_succ_self i)⟩, za3⟩
 ·have hi : i = ls.length := by
   have : ¬ i < ls.length := by simpa [Sl.len] using h
   omega
  rw [hi, List.drop_length, zeK] at hs
  have hok : zd3 ids ls = decide (many ≤ 1) := by simp [zd3, h1, h2, hrise, hs]
  conv => whnf
  refine vIf (fun h3 => ?_) fun h3 => ?_
  all_goals
   conv => whnf
   refine zav ?_
  ·have : decide (many ≤ 1) = false := by simp at h3 ⊢; omega
   rw [hok, this]; rfl
  ·have : decide (many ≤ 1) = true := by simp at h3 ⊢; omega
   rw [hok, this]; rfl
def zep (ids : List Int) (id : Int) : Nat := (ids.filter fun x => decide (x < id)).length
theorem zvT {ids : List Int} {id : Int} {i : Nat} (hi : i < ids.length) : zep (ids.take (i + 1)) id = zep (ids.take i) id + if ids[i] < id then 1 else 0 := by
 unfold zep
 rw [List.take_succ_eq_append_getElem hi, List.filter_append, jQ]
 by_cases h : ids[i] < id <;> simp [List.filter_cons, h]
theorem zCA {ids : List Int} {id : Int} : zep ids id ≤ ids.length := List.length_filter_le _ _
theorem zyX (hX : ∀ k ∈ X, k < w.heap.size) (ids : List Int) (ls : Value) (hls : ls.oneCell' = true) (id : Int) (q : Qd) (hq : St (SlQ zbb ids q) w X) :
  Ct Tryz.prog 146 [.agg (ca [.one (.slice q.1 ids.length q.2), .one ls]), .int .i64 id] X w (.tup [.s (.p (.v (.int .i64 (zep ids id : Nat)))), .s (.p (.v (.bool (ids.any (· == id)))))]) [] [] := by
 have hbig := SlQ.big hq
 refine vFn (k0 := 1) (rs := [.tmp 4, .tmp 5]) (svs := [.a (.agg [.one (.p (.hd 0 ids.length)), .one (.p (.v ls))]), zaD .i64 id]) (R0 := [.sl 0 ids.length (SlF zbb ids)]) (hnQ [q]) Tryz.ntmps146 Tryz.func146 rfl rfl rfl rfl rfl zan (by kernel_rfl) hX (fun r hr => by rcases List.mem_singleton.1 hr with rfl; exact hq) ?_
 conv => whnf
 refine ⟨Nat, fun k l m R i => ⟨k, (11, zaD .i64 i) :: (4, zaD .i64 (zep (ids.take i) id)) :: za2 [1, 2, 9, 10] l, m, R⟩, fun i => i ≤ ids.length, fun i => ids.length - i, ⟨0, [], [0], Nat.zero_le _, za3⟩, fun i hi => ?_⟩
 conv => whnf
 refine vIf (fun h => ?_) fun h => ?_
 ·have hj : i < ids.length := by simpa [Sl.len] using h
  have hs := zvT (id := id) hj
  have hr := zCA (ids := ids.take i) (id := id)
  rw [List.length_take] at hr
  conv => whnf
  refine .inl ?_
  conv => whnf
  refine ⟨i, ⟨rfl, hj, hj⟩, ?_⟩
  conv => whnf
  refine zb4 (zcb (T := zbb) (sv := zaD .i64 ids[i]) 0 (jP hj) (fun _ => rfl) rfl rfl rfl (by kernel_rfl) (fun _ => .inr ⟨rfl, rfl, rfl⟩)) rfl rfl ?_
  conv => whnf
  refine vIf (fun h2 => ?_) fun h2 => ?_
  ·have h2 : ids[i] < id := by simpa using h2
   conv => whnf
   rw [if_pos h2] at hs
   have hm : min i ids.length = i := Nat.min_eq_left hi
   refine zbi (z' := (zep (ids.take (i + 1)) id : Nat)) (by rw [hs]; rfl) (by omega) (by omega) ?_
   conv => whnf
   refine zc2 (by omega) (by omega) ?_
   conv => whnf
   exact ⟨i + 1, [], [0], ⟨hj, Nat.sub_lt_sub_left hj (Nat.lt_succ_self i)⟩, za3⟩
  ·have h2 : ¬ ids[i] < id := by simpa using h2
   rw [if_neg h2] at hs
   rw [show zep (ids.take i) id = zep (ids.take (i + 1)) id from hs.symm]
   conv => whnf
   refine zc2 (by omega) (by omega) ?_
   conv => whnf
   exact ⟨i + 1, [], [0], ⟨hj, Nat.sub_lt_sub_left hj (Nat.lt_succ_self i)⟩, za3⟩
 have hi : i = ids.length := by
   have : ¬ i < ids.length := by simpa [Sl.len] using h
   omega
 rw [hi, List.take_length]
 conv => whnf
 refine zae rfl rfl rfl (by kernel_rfl) (fun h X w H => zpD H.xk ids id _ (H.fact 0 rfl)) rfl rfl rfl ?_
 conv => whnf
 refine zav ?_
 rfl
end
end
section
open Go.RowKit
structure Nd where
 lv : Int
 pl : Int
 red : Bool
 fr : Int
 tt : Int
 kids : List Int
 up : Int
def zbS : Ty Nd where
 μ := Qd
 dft := (none, 0)
 sz := 7
 pos := by decide
 ch x q := [.one (.int .i64 x.lv), .one (.int .i64 x.pl), .one (.bool x.red), .one (.int .i64 x.fr), .one (.int .i64 x.tt), .one (.slice q.1 x.kids.length q.2), .one (.int .i64 x.up)]
 nest x q := SlQ zbb x.kids q
 len _ _ := rfl
 one _ _ := ⟨rfl, rfl, rfl, rfl, rfl, rfl, rfl, trivial⟩
instance : Dec zbS := ⟨fun l => qs l 0, fun m => [m], fun _ => rfl⟩
section
variable {X : List Nat} {w : World} {h0' : Hn}
def zxc (ns : List Nd) : MB := [(0, .blk [.one (.p (.hd 1 ns.length))] 110), (1, zbA zbS ns 117)]
def ksI (ks : List Nat) : List Int := ks.map Int.ofNat
theorem zpE {ks : List Nat} : (ksI ks).length = ks.length := List.length_map ..
def zfU (z : Int) : SC := .one (.p (.v (.int .i64 z)))
def zsS (n : Int) (l : List Nd) (k : Nat) : List Nd := match l[k]? with
 | some x => l.set k { x with up := n }
 | none => l
def zc5 (n : Int) (ks : List Nat) (l : List Nd) : List Nd := ks.foldl (zsS n) l
theorem zvU {n : Int} {l : List Nd} {k : Nat} : (zsS n l k).length = l.length := by unfold zsS; split <;> simp
theorem zj4 {n : Int} {ks : List Nat} : ∀ {l : List Nd}, (zc5 n ks l).length = l.length := by
 induction ks with
 | nil => intro l; rfl
 | cons k ks ih => intro l; show (zc5 n ks (zsS n l k)).length = _; rw [ih, zvU]
theorem zpF {n : Int} {ks : List Nat} {l : List Nd} {i k : Nat} {x : Nd} (hk : ks[i]? = some k) (hx : (zc5 n (ks.take i) l)[k]? = some x) : zc5 n (ks.take (i + 1)) l = (zc5 n (ks.take i) l).set k { x with up := n } := by
 have h1 : ks.take (i + 1) = ks.take i ++ [k] := by rw [List.take_add_one, hk]; rfl
 have h2 : zc5 n (ks.take (i + 1)) l = zsS n (zc5 n (ks.take i) l) k := by unfold zc5; rw [h1, List.foldl_append]; rfl
 rw [h2]
 generalize zc5 n (ks.take i) l = l2 at hx ⊢
 unfold zsS
 rw [hx]
theorem zyY (lv pl : Int) (rd : Bool) (ns : List Nd) (ks : List Nat) (q : Qd) {i0 i1 : Nat} {a b : Nd} (hks : ∀ k ∈ ks, k < ns.length) (h0 : ks[0]? = some i0) (h1 : ks[ks.length - 1]? = some i1) (ha : ns[i0]? = some a) (hb : ns[i1]? = some b) (hkl : ks.length ≤ 3) (hn : ns.length ≤ 1000000) (hsp : Sp X w (zaf h0' [] (zxc ns)) [zc3 zbS ns (h0'.q 1), SlQ zbb (ksI ks) q]) :
  CtG Tryz.prog 174 [.agg (ca [.one (.int .i64 lv), .one (.int .i64 pl), .one (.bool rd), .one (.int .i64 0), .one (.int .i64 0), .one (.slice none 0 0), .one (.int .i64 0)]), .slice q.1 (ksI ks).length q.2, .pointer (some ⟨h0'.b 0, 0, none⟩)] X w h0' (zxc ns) [0] (zaD .i64 ns.length) [(0, .blk [.one (.p (.hd 2 (ns.length + 1)))] 110), (2, zbA zbS (zc5 ns.length ks ns ++ [⟨lv, pl, rd, a.fr, b.tt, ksI ks, -1⟩]) 117)] [.q 2 (zc3 zbS (zc5 ns.length ks ns ++ [⟨lv, pl, rd, a.fr, b.tt, ksI ks, -1⟩]))] := by
 refine zzW (g := 2) (k0 := 3) (bl := []) (ql := [q]) (svs := [.a (.agg [zfU lv, zfU pl, .one (.p (.v (.bool rd))), zfU 0, zfU 0, .one (.p (.v (.slice none 0 0))), zfU 0]), .a (.s (.p (.hd 2 (ksI ks).length))), atS 0 0]) (given := zxc ns) (Rg := [.q 1 (zc3 zbS ns), .sl 2 (ksI ks).length (SlF zbb (ksI ks))]) (kb := [0]) Tryz.ntmps174 Tryz.func174 rfl rfl rfl zan (by kernel_rfl) rfl rfl hsp ?_
 have hl : (ksI ks).length = ks.length := zpE
 have hne : 0 < ks.length := (List.getElem?_eq_some_iff.1 h0).1
 have hi0 : i0 < ns.length := (List.getElem?_eq_some_iff.1 ha).1
 have hi1 : i1 < ns.length := (List.getElem?_eq_some_iff.1 hb).1
 have e0 : (ksI ks)[0]? = some (i0 : Int) := by unfold ksI; rw [List.getElem?_map, h0]; rfl
 have e1 : (ksI ks)[ks.length - 1]? = some (i1 : Int) := by unfold ksI; rw [List.getElem?_map, h1]; rfl
 have h0k : 0 < (ksI ks).length := by omega
 conv => whnf
 refine zaK 22 [3] (by kernel_rfl) ?_
 conv => whnf
 refine ⟨0, ⟨rfl, h0k, h0k⟩, ?_⟩
 conv => whnf
 refine zcA (zcb (T := zbb) (sv := zaD .i64 i0) 2 e0 (fun _ => rfl) rfl rfl rfl (by kernel_rfl) (fun _ => .inr ⟨rfl, rfl, rfl⟩)) ?_
 conv => whnf
 refine ⟨i0, ⟨rfl, hi0, hi0⟩, ?_⟩
 conv => whnf
 refine zcA (ziJ (T := zbS) (sv := zaD .i64 a.fr) (e := 117) rfl ha (fun _ => rfl) rfl rfl (by kernel_rfl) (fun _ => .inr ⟨rfl, rfl, rfl⟩)) ?_
 conv => whnf
 have el : ((Sl.hd 2 (ksI ks).length).len : Int) - 1 = ((ks.length - 1 : Nat) : Int) := by show (((ksI ks).length : Nat) : Int) - 1 = _; omega
 refine zbi el (by omega) (by omega) ?_
 conv => whnf
 refine ⟨ks.length - 1, ⟨rfl, by omega, by omega⟩, ?_⟩
 conv => whnf
 refine zcA (zcb (T := zbb) (sv := zaD .i64 i1) 2 e1 (fun _ => rfl) rfl rfl rfl (by kernel_rfl) (fun _ => .inr ⟨rfl, rfl, rfl⟩)) ?_
 conv => whnf
 refine ⟨i1, ⟨rfl, hi1, hi1⟩, ?_⟩
 conv => whnf
 refine zcA (ziJ (T := zbS) (sv := zaD .i64 b.tt) (e := 117) rfl hb (fun _ => rfl) rfl rfl (by kernel_rfl) (fun _ => .inr ⟨rfl, rfl, rfl⟩)) ?_
 conv => whnf
 refine ⟨Nat, fun k l m R i => ⟨k, (32, zaD .i64 i) :: za2 [2, 3, 5, 30, 31] l, (1, zbA zbS (zc5 ns.length (ks.take i) ns) 117) :: m, .q 1 (zc3 zbS (zc5 ns.length (ks.take i) ns)) :: R⟩, fun i => i ≤ ks.length, fun i => ks.length - i, ⟨0, [], [1, 0, 1, 2], Nat.zero_le _, za3⟩, fun i hi => ?_⟩
 have hsl : (zc5 ns.length (ks.take i) ns).length = ns.length := zj4
 conv => whnf
 refine vIf (fun h => ?_) fun h => ?_
 ·have hj : i < ks.length := by
   have h2 : (i : Int) < ((ksI ks).length : Nat) := by simpa [Sl.len] using h
   omega
  have ek : ks[i]? = some ks[i] := jP hj
  obtain ⟨k, hk⟩ : ∃ k, ks[i]? = some k := ⟨_, ek⟩
  have hkn : k < ns.length := hks k (List.mem_of_getElem? hk)
  have eki : (ksI ks)[i]? = some (k : Int) := by unfold ksI; rw [List.getElem?_map, hk]; rfl
  obtain ⟨x, hx⟩ : ∃ x, (zc5 ns.length (ks.take i) ns)[k]? = some x := ⟨_, jP (by omega)⟩
  conv => whnf
  refine ⟨i, ⟨rfl, by omega, by omega⟩, ?_⟩
  conv => whnf
  refine zb4 (zcb (T := zbb) (sv := zaD .i64 k) 3 eki (fun _ => rfl) rfl rfl rfl (by kernel_rfl) (fun _ => .inr ⟨rfl, rfl, rfl⟩)) rfl rfl ?_
  conv => whnf
  refine ⟨k, ⟨rfl, by omega, by omega⟩, ?_⟩
  conv => whnf
  refine zaH (zBc (T := zbS) (e := 117) { x with up := (ns.length : Int) } zan rfl hx (List.mem_cons_self ..) (fun _ _ h => h) rfl rfl rfl rfl rfl (fun _ => ⟨rfl, trivial⟩) fun _ _ => rfl) ?_
  rw [← zpF hk hx]
  conv => whnf
  refine zc2 (by omega) (by omega) ?_
  conv => whnf
  exact ⟨i + 1, [], [0, 2, 3, 4], ⟨hj, Nat.sub_lt_sub_left hj (Nat.lt_succ_self i)⟩, za3⟩
 have hi2 : i = ks.length := by
  have h2 : ¬ (i : Int) < ((ksI ks).length : Nat) := by simpa [Sl.len] using h
  omega
 rw [hi2, List.take_length]
 rw [hi2, List.take_length] at hsl
 conv => whnf
 refine zaT (zkO (T := zbS) (e := 117) (x := ⟨lv, pl, rd, a.fr, b.tt, ksI ks, -1⟩) (μs := fun h => [h.r 2]) rfl rfl rfl hsl.symm rfl rfl rfl (fun h => rfl) (by_ := 72) ⟨by kernel_rfl, by kernel_rfl⟩ (by omega) (by omega) rfl rfl (List.mem_cons_self ..) (fun h h' ag => by rw [(ag 2 rfl).2.1]) fun h w Y H => H _ (.tail _ (.tail _ (.tail _ (.head _))))) ?_
 conv => whnf
 have ez : ((Sl.hd 5 (ns.length + 1)).len : Int) - 1 = (ns.length : Int) := by show (((ns.length + 1 : Nat) : Int)) - 1 = _; omega
 refine zbi ez (show -9223372036854775808 ≤ ((ns.length + 1 : Nat) : Int) - 1 by omega) (show ((ns.length + 1 : Nat) : Int) - 1 ≤ 9223372036854775807 by omega) ?_
 conv => whnf
 exact zdJ [(0, 0), (2, 5)] [0] [2] (.inl rfl) ⟨.inl rfl, .inl rfl, trivial⟩ rfl ⟨.inl rfl, trivial⟩ ⟨rfl, trivial⟩
def dNd : Nd := ⟨0, 0, false, 0, 0, [], 0⟩
def zc6 (ns : List Nd) (lv pl : Int) (rd : Bool) (ks : List Nat) : List Nd := zc5 ns.length ks ns ++ [⟨lv, pl, rd, (ns.getD (ks.getD 0 0) dNd).fr, (ns.getD (ks.getD (ks.length - 1) 0) dNd).tt, ksI ks, -1⟩]
def zbo (two : Bool) (ls : List (List Int)) : Nat → List Int × List Nd → List Int × List Nd
 | 0, s => (s.1.set 0 (s.1.getD 0 0 + 1), s.2 ++ [⟨0, s.1.getD 0 0, false, s.1.getD 0 0, s.1.getD 0 0 + 1, [], -1⟩])
 | l + 1, s =>
  let a := s.1.getD (l + 1) 0
  let s1 := zbo two ls l (s.1.set (l + 1) (a + 1), s.2)
  let s2 := zbo two ls l s1
  if (ls.getD l []).getD a.toNat 0 = 2 then (s2.1, zc6 s2.2 (l + 1) a false [s1.2.length - 1, s2.2.length - 1])
  else if two then
   let s3 := zbo two ls l s2
   (s3.1, zc6 s3.2 (l + 1) a false [s1.2.length - 1, s2.2.length - 1, s3.2.length - 1])
  else
   let s3 := zbo two ls l (s2.1, zc6 s2.2 (l + 1) a true [s1.2.length - 1, s2.2.length - 1])
   (s3.1, zc6 s3.2 (l + 1) a false [s2.2.length, s3.2.length - 1])
def okD (two : Bool) (ls : List (List Int)) : Nat → List Int × List Nd → Prop
 | 0, s => ∃ a : Nat, s.1[0]? = some (a : Int) ∧ a ≤ 1000000 ∧ s.2.length ≤ 1000000
 | l + 1, s => ∃ (a : Nat) (r : List Int) (v : Int), s.1[l + 1]? = some (a : Int) ∧ a ≤ 1000000 ∧ ls[l]? = some r ∧ r[a]? = some v ∧
  (let s1 := zbo two ls l (s.1.set (l + 1) ((a : Int) + 1), s.2)
   let s2 := zbo two ls l s1
   okD two ls l (s.1.set (l + 1) ((a : Int) + 1), s.2) ∧ okD two ls l s1 ∧ s2.2.length ≤ 1000000 ∧
   (v ≠ 2 → if two then okD two ls l s2 ∧ (zbo two ls l s2).2.length ≤ 1000000 else okD two ls l (s2.1, zc6 s2.2 ((l + 1 : Nat) : Int) a true [s1.2.length - 1, s2.2.length - 1]) ∧ (zbo two ls l (s2.1, zc6 s2.2 ((l + 1 : Nat) : Int) a true [s1.2.length - 1, s2.2.length - 1])).2.length ≤ 1000000))
def dnM (nl r : Nat) (nx : List Int) (ns : List Nd) : MB := [(0, .blk [.one (.p (.hd 1 nl))] 24), (1, zbA zbb nx 3), (2, .blk [.one (.p (.hd r ns.length))] 110), (r, zbA zbS ns 117)]
def dnR (nx : List Int) (ns : List Nd) (nids : Nat) (ls : List (List Int)) (kd : Int) : List SF := [.q 3 (zc3 zbS ns), .blk 4 [.one (.fn (.func 175) [] [.at_ 0 0, .at_ 2 0, .at_ 4 0, .at_ 5 0, .at_ 6 0, .at_ 7 0])], .blk 5 [.one (.p (.hd 8 nids)), .one (.p (.hd 9 ls.length))], .blk 6 [.one (.fn (.func 174) [] [.at_ 2 0])], .blk 7 [zfU kd], .sl 9 ls.length (SlF (zgR zbb) ls)]
def dnA (l : Nat) (h : Hn) (bl : List Nat) : List Value := [.int .i64 l, .pointer (some ⟨h.b 0, 0, none⟩), .pointer (some ⟨h.b 2, 0, none⟩), .pointer (some ⟨zjE bl 0, 0, none⟩), .pointer (some ⟨zjE bl 1, 0, none⟩), .pointer (some ⟨zjE bl 2, 0, none⟩), .pointer (some ⟨zjE bl 3, 0, none⟩)]
def zGP (l : Nat) : List SV := [zaD .i64 l, atS 0 0, atS 2 0, atS 4 0, atS 5 0, atS 6 0, atS 7 0]
def zET (two : Bool) (ls : List (List Int)) (l : Nat) : Prop := ∀ (X : List Nat) (w : World) (h0 : Hn) (bl : List Nat) (ql : List Qd) (nl : Nat) (nx : List Int) (ns : List Nd) (nids : Nat) (kd : Int), nx.length = nl → okD two ls l (nx, ns) → (kd == 1) = two → Sp X w (zaf h0 [] (dnM nl 3 nx ns)) (zaX (h0.ext 4 bl ql) (dnR nx ns nids ls kd)) →
 CtG Tryz.prog 175 (dnA l h0 bl) X w h0 (dnM nl 3 nx ns) [0, 1, 2] (zaD .i64 (((zbo two ls l (nx, ns)).2.length - 1 : Nat) : Int)) (dnM nl 4 (zbo two ls l (nx, ns)).1 (zbo two ls l (nx, ns)).2) [.q 4 (zc3 zbS (zbo two ls l (nx, ns)).2)]
theorem zvV (two : Bool) (ls : List (List Int)) : zET two ls 0 := fun X w h0 bl ql nl nx ns nids kd hnl hok hkd hsp => by
 obtain ⟨a, ha, ha2, hn⟩ := hok
 simp only at ha hn
 have hl : 0 < nx.length := (List.getElem?_eq_some_iff.1 ha).1
 refine zzW (g := 4) (k0 := 10) (bl := bl) (ql := ql) (svs := zGP 0) (given := dnM nl 3 nx ns) (Rg := dnR nx ns nids ls kd) (kb := [0, 1, 2]) Tryz.ntmps175 Tryz.func175 rfl rfl rfl zan (by kernel_rfl) rfl rfl hsp ?_
 conv => whnf
 refine ⟨0, ⟨rfl, hnl ▸ hl, hl⟩, ?_⟩
 conv => whnf
 refine zb4 (ziJ (T := zbb) (sv := zaD .i64 a) (e := 3) rfl ha (fun _ => rfl) rfl rfl (by kernel_rfl) (fun _ => .inr ⟨rfl, rfl, rfl⟩)) rfl rfl ?_
 conv => whnf
 refine ⟨0, ⟨rfl, hnl ▸ hl, hl⟩, ?_⟩
 conv => whnf
 refine zb4 (ziJ (T := zbb) (sv := zaD .i64 a) (e := 3) rfl ha (fun _ => rfl) rfl rfl (by kernel_rfl) (fun _ => .inr ⟨rfl, rfl, rfl⟩)) rfl rfl ?_
 conv => whnf
 refine zc2 (by omega) (by omega) ?_
 conv => whnf
 refine ⟨0, ⟨rfl, hnl ▸ hl, hl⟩, ?_⟩
 conv => whnf
 refine zaH (znp (T := zbb) (e := 3) ((a : Int) + 1) zan rfl ha rfl rfl rfl rfl rfl (fun _ => ⟨rfl, trivial⟩) fun _ _ => rfl) ?_
 conv => whnf
 refine zc2 (by omega) (by omega) ?_
 conv => whnf
 refine zaT (zkO (T := zbS) (e := 117) (x := ⟨0, a, false, a, (a : Int) + 1, [], -1⟩) (μs := fun _ => [(none, 0)]) rfl rfl rfl rfl rfl rfl rfl (fun h => rfl) (by_ := 72) ⟨by kernel_rfl, by kernel_rfl⟩ (by omega) (by omega) rfl rfl (.tail _ (.tail _ (.tail _ (.head _)))) (fun h h' ag => rfl) fun h w Y H => zcr) ?_
 conv => whnf
 have ez : ((Sl.hd 11 (ns.length + 1)).len : Int) - 1 = (ns.length : Int) := by show (((ns.length + 1 : Nat) : Int)) - 1 = _; omega
 refine zbi ez (show -9223372036854775808 ≤ ((ns.length + 1 : Nat) : Int) - 1 by omega) (show ((ns.length + 1 : Nat) : Int) - 1 ≤ 9223372036854775807 by omega) ?_
 have e1 : zbo two ls 0 (nx, ns) = (nx.set 0 ((a : Int) + 1), ns ++ [⟨0, a, false, a, (a : Int) + 1, [], -1⟩]) := by
  unfold zbo
  have : nx.getD 0 0 = (a : Int) := by rw [jR, ha]; rfl
  simp only [this]
 have e2 : (ns ++ [(⟨0, a, false, a, (a : Int) + 1, [], -1⟩ : Nd)]).length - 1 = ns.length := by simp
 have e4 : ns.length + 1 = (ns ++ [(⟨0, a, false, a, (a : Int) + 1, [], -1⟩ : Nd)]).length := by simp
 rw [e1, e2]
 conv => whnf
 exact zdJ [(0, 0), (1, 1), (2, 2), (4, 11)] [0] [1, 2, 3] (.inl rfl) ⟨.inl rfl, .inl rfl, .inl (by rw [← e4]; rfl), .inl rfl, trivial⟩ rfl ⟨.inl rfl, trivial⟩ ⟨rfl, rfl, rfl, trivial⟩
theorem zbC {ns : List Nd} {lv pl : Int} {rd : Bool} {ks : List Nat} : (zc6 ns lv pl rd ks).length = ns.length + 1 := by unfold zc6; simp [zj4]
theorem zfc {two : Bool} {ls : List (List Int)} : ∀ {l : Nat} {s : List Int × List Nd}, (zbo two ls l s).1.length = s.1.length
 | 0, s => by simp [zbo]
 | l + 1, s => by
  unfold zbo
  simp only
  split
  ·simp [zfc (l := l)]
  ·split <;> simp [zfc (l := l)]
theorem zch {two : Bool} {ls : List (List Int)} : ∀ {l : Nat} {s : List Int × List Nd}, s.2.length < (zbo two ls l s).2.length
 | 0, s => by simp [zbo]
 | l + 1, s => by
  have h1 := zch (two := two) (ls := ls) (l := l) (s := (s.1.set (l + 1) (s.1.getD (l + 1) 0 + 1), s.2))
  have h2 := zch (two := two) (ls := ls) (l := l) (s := zbo two ls l (s.1.set (l + 1) (s.1.getD (l + 1) 0 + 1), s.2))
  unfold zbo
  simp only at h1 ⊢
  split
  ·simp only [zbC]; omega
  ·split
   ·have h3 := zch (two := two) (ls := ls) (l := l) (s := zbo two ls l (zbo two ls l (s.1.set (l + 1) (s.1.getD (l + 1) 0 + 1), s.2)))
    simp only [zbC]; omega
   ·have h3 := zch (two := two) (ls := ls) (l := l) (s := ((zbo two ls l (zbo two ls l (s.1.set (l + 1) (s.1.getD (l + 1) 0 + 1), s.2))).1, zc6 (zbo two ls l (zbo two ls l (s.1.set (l + 1) (s.1.getD (l + 1) 0 + 1), s.2))).2 (l + 1) (s.1.getD (l + 1) 0) true [(zbo two ls l (s.1.set (l + 1) (s.1.getD (l + 1) 0 + 1), s.2)).2.length - 1, (zbo two ls l (zbo two ls l (s.1.set (l + 1) (s.1.getD (l + 1) 0 + 1), s.2))).2.length - 1]))
    simp only [zbC] at h3 ⊢
    omega
def ksC (ks : List Nat) : List SC := ks.map fun k : Nat => zfU (Int.ofNat k)
theorem zvW {h : Hn} : ∀ {ks : List Nat}, zaC h (ksC ks) = (ksI ks).map fun z => Chunk.one (.int .i64 z)
 | [] => rfl
 | k :: ks => by
  show Chunk.one (.int .i64 (Int.ofNat k)) :: zaC h (ksC ks) = _
  rw [zvW]
  rfl
theorem zvX : ∀ (zs : List Int), cl (zs.map fun z => Chunk.one (.int .i64 z)) = zs.map fun z => Value.int .i64 z
 | [] => rfl
 | z :: zs => by
  show Value.int .i64 z :: cl _ = _
  rw [zvX zs]
  rfl
theorem zEU {b : Nat} {zs : List Int} {w : World} (hz : 0 < zs.length) (hb : zs.length ≤ 9223372036854775807) (H : AtC ⟨b, 0, none⟩ (zs.map fun z => Chunk.one (.int .i64 z)) w) : SlQ zbb zs (some ⟨b, 0, none⟩, zs.length) w := by
 refine ⟨fun e => (by cases e), fun _ => (), jV _, hb, fun e => (by cases e), fun ad hA i x hx => ⟨fun j u hu => ?_, trivial⟩⟩
 obtain rfl := Option.some.inj hA
 have hj : j = 0 ∧ u = .int .i64 x := by
  cases j with
  | zero => simp [zbb, cl, Chunk.cells] at hu; exact ⟨rfl, hu.symm⟩
  | succ j => simp [zbb, cl, Chunk.cells] at hu
 obtain ⟨rfl, rfl⟩ := hj
 have := H i (.int .i64 x) (by rw [zvX, List.getElem?_map, hx]; rfl)
 rw [zax]
 simpa [zbb] using this
theorem zrI (lv pl : Int) (rd : Bool) {ns : List Nd} {ks : List Nat} (hks : ∀ k ∈ ks, k < ns.length) (hne : 0 < ks.length) (hkl : ks.length ≤ 3) (hn : ns.length ≤ 1000000) {X : List Nat} {w : World} {h h0' : Hn} {r j : Nat} (hsp : Sp X w (zaf h0' [] (zxc ns)) (zaX h [.q r (zc3 zbS ns), .blk j (ksC ks)])) (hq : h.q r = h0'.q 1) :
  CtG Tryz.prog 174 [.agg (ca [.one (.int .i64 lv), .one (.int .i64 pl), .one (.bool rd), .one (.int .i64 0), .one (.int .i64 0), .one (.slice none 0 0), .one (.int .i64 0)]), .slice (some ⟨h.b j, 0, none⟩) (ksI ks).length (ksI ks).length, .pointer (some ⟨h0'.b 0, 0, none⟩)] X w h0' (zxc ns) [0] (zaD .i64 ns.length) [(0, .blk [.one (.p (.hd 2 (ns.length + 1)))] 110), (2, zbA zbS (zc6 ns lv pl rd ks) 117)] [.q 2 (zc3 zbS (zc6 ns lv pl rd ks))] := by
 have e0 : ks[0]? = some (ks.getD 0 0) := zfJ 0 hne
 have e1 : ks[ks.length - 1]? = some (ks.getD (ks.length - 1) 0) := zfJ 0 (by omega)
 refine zyY lv pl rd ns ks (some ⟨h.b j, 0, none⟩, (ksI ks).length) hks e0 e1 (zfJ dNd (hks _ (List.mem_of_getElem? e0))) (zfJ dNd (hks _ (List.mem_of_getElem? e1))) hkl hn (hsp.refacts fun q' hq' => ?_)
 rcases List.mem_cons.1 hq' with rfl | hq'
 ·rw [← hq]
  exact hsp.facts _ (List.mem_cons_self ..)
 ·rcases List.mem_singleton.1 hq' with rfl
  have h1 : St (AtC ⟨h.b j, 0, none⟩ (zaC h (ksC ks))) w (X ++ zac (zaf h0' [] (zxc ns))) := hsp.facts _ (List.mem_cons_of_mem _ (List.mem_cons_self ..))
  rw [zvW] at h1
  exact h1.imp fun w' hw => zEU (by rw [zpE]; exact hne) (by rw [zpE]; omega) hw
theorem zoi {two : Bool} {ls : List (List Int)} {l : Nat} (ih : zET two ls l) {nl : Nat} {nx nx1 : List Int} {ns ns1 : List Nd} {nids : Nat} {kd : Int} (e : zbo two ls l (nx, ns) = (nx1, ns1)) (hnl : nx.length = nl) (hok : okD two ls l (nx, ns)) (hkd : (kd == 1) = two) {X : List Nat} {w : World} {h0 : Hn} {bl : List Nat} {ql : List Qd} (hsp : Sp X w (zaf h0 [] (dnM nl 3 nx ns)) (zaX (h0.ext 4 bl ql) (dnR nx ns nids ls kd))) :
  CtG Tryz.prog 175 (dnA l h0 bl) X w h0 (dnM nl 3 nx ns) [0, 1, 2] (zaD .i64 ((ns1.length - 1 : Nat) : Int)) (dnM nl 4 nx1 ns1) [.q 4 (zc3 zbS ns1)] := by
 have := ih X w h0 bl ql nl nx ns nids kd hnl hok hkd hsp
 rwa [e] at this
theorem zvY (two : Bool) (ls : List (List Int)) (l : Nat) (hl : l ≤ 1000) (ih : zET two ls l) : zET two ls (l + 1) := fun X w h0 bl ql nl nx ns nids kd hnl hok hkd hsp => by
 obtain ⟨a, r, v, ha, ha2, hr, hv, h1, h2, hn, h3⟩ := hok
 simp only at ha
 have hlt : l + 1 < nx.length := (List.getElem?_eq_some_iff.1 ha).1
 simp only at h1 h2 hn h3
 obtain ⟨⟨nx1, ns1⟩, e1⟩ : ∃ s, zbo two ls l (nx.set (l + 1) ((a : Int) + 1), ns) = s := ⟨_, rfl⟩
 have hl1 : nx1.length = nl := by have := zfc (two := two) (ls := ls) (l := l) (s := (nx.set (l + 1) ((a : Int) + 1), ns)); rw [e1] at this; simpa [hnl] using this
 have hg1 : ns.length < ns1.length := by have := zch (two := two) (ls := ls) (l := l) (s := (nx.set (l + 1) ((a : Int) + 1), ns)); rw [e1] at this; exact this
 rw [e1] at h2 hn h3
 obtain ⟨⟨nx2, ns2⟩, e2⟩ : ∃ s, zbo two ls l (nx1, ns1) = s := ⟨_, rfl⟩
 have hl2 : nx2.length = nl := by have := zfc (two := two) (ls := ls) (l := l) (s := (nx1, ns1)); rw [e2] at this; simpa [hl1] using this
 have hg2 : ns1.length < ns2.length := by have := zch (two := two) (ls := ls) (l := l) (s := (nx1, ns1)); rw [e2] at this; exact this
 rw [e2] at hn h3
 simp only at h2 hn h3
 refine zzW (g := 4) (k0 := 10) (bl := bl) (ql := ql) (svs := zGP (l + 1)) (given := dnM nl 3 nx ns) (Rg := dnR nx ns nids ls kd) (kb := [0, 1, 2]) Tryz.ntmps175 Tryz.func175 rfl rfl rfl zan (by kernel_rfl) rfl rfl hsp ?_
 conv => whnf
 refine ⟨l + 1, ⟨rfl, hnl ▸ hlt, hlt⟩, ?_⟩
 conv => whnf
 refine zb4 (ziJ (T := zbb) (sv := zaD .i64 a) (e := 3) rfl ha (fun _ => rfl) rfl rfl (by kernel_rfl) (fun _ => .inr ⟨rfl, rfl, rfl⟩)) rfl rfl ?_
 conv => whnf
 refine ⟨l + 1, ⟨rfl, hnl ▸ hlt, hlt⟩, ?_⟩
 conv => whnf
 refine zb4 (ziJ (T := zbb) (sv := zaD .i64 a) (e := 3) rfl ha (fun _ => rfl) rfl rfl (by kernel_rfl) (fun _ => .inr ⟨rfl, rfl, rfl⟩)) rfl rfl ?_
 conv => whnf
 refine zc2 (by omega) (by omega) ?_
 conv => whnf
 refine ⟨l + 1, ⟨rfl, hnl ▸ hlt, hlt⟩, ?_⟩
 conv => whnf
 refine zaH (znp (T := zbb) (e := 3) ((a : Int) + 1) zan rfl ha rfl rfl rfl rfl rfl (fun _ => ⟨rfl, trivial⟩) fun _ _ => rfl) ?_
 conv => whnf
 refine zaK 7 [0, 1, 2, 3] (by kernel_rfl) ?_
 conv => whnf
 have el : ((l + 1 : Nat) : Int) - 1 = (l : Int) := by omega
 refine zbi el (by omega) (by omega) ?_
 conv => whnf
 refine zeA rfl (zea 1 (za4 [0, 1, 2, 3] 1 rfl rfl rfl (by kernel_rfl) (fs := fun _ => []) (cs := fun h => zhD h [.at_ 0 0, .at_ 2 0, .at_ 4 0, .at_ 5 0, .at_ 6 0, .at_ 7 0]) (fun h => rfl) rfl rfl (given := dnM nl 3 (nx.set (l + 1) ((a : Int) + 1)) ns) ⟨rfl, rfl, rfl, rfl, trivial⟩ rfl rfl rfl rfl rfl rfl fun h X w L2 H => zoi ih e1 (by rw [List.length_set]; exact hnl) h1 hkd (bl := [h.b 4, h.b 5, h.b 6, h.b 7]) (ql := [(none, 0), (none, 0), (none, 0), (none, 0), h.r 8, h.r 9]) (H.pick [3, 4, 5, 6, 7, 8] rfl)) (fun _ => List.mem_append_left _) rfl) ?_
 conv => whnf
 refine zbi el (by omega) (by omega) ?_
 conv => whnf
 refine zaT (za4 [0, 1, 2, 11] 1 rfl rfl rfl (by kernel_rfl) (fs := fun _ => []) (cs := fun h => zhD h [.at_ 0 0, .at_ 2 0, .at_ 4 0, .at_ 5 0, .at_ 6 0, .at_ 7 0]) (fun h => rfl) rfl rfl (given := dnM nl 3 nx1 ns1) ⟨rfl, rfl, rfl, rfl, trivial⟩ rfl rfl rfl rfl rfl rfl fun h X w L2 H => zoi ih e2 hl1 h2 hkd (bl := [h.b 4, h.b 5, h.b 6, h.b 7]) (ql := [(none, 0), (none, 0), (none, 0), (none, 0), h.r 8, h.r 9]) (H.pick [0, 5, 6, 7, 8, 9] rfl)) ?_
 conv => whnf
 refine zbi el (by omega) (by omega) ?_
 have hll : l < ls.length := (List.getElem?_eq_some_iff.1 hr).1
 have har : a < r.length := (List.getElem?_eq_some_iff.1 hv).1
 conv => whnf
 refine ⟨l, ⟨rfl, hll, hll⟩, ?_⟩
 conv => whnf
 refine zfs (zzP (T := zbb) 10 hr rfl rfl rfl (by kernel_rfl)) rfl rfl ?_
 conv => whnf
 refine ⟨a, ⟨rfl, har, har⟩, ?_⟩
 conv => whnf
 refine zb4 (zcb (T := zbb) (sv := zaD .i64 v) 0 hv (fun _ => rfl) rfl rfl rfl (by kernel_rfl) (fun _ => .inr ⟨rfl, rfl, rfl⟩)) rfl rfl ?_
 have ea : nx.getD (l + 1) 0 = (a : Int) := by rw [jR, ha]; rfl
 have er : (ls.getD l []).getD (a : Int).toNat 0 = v := by
  have h5 : ls.getD l [] = r := by rw [jR, hr]; rfl
  rw [h5]
  show r.getD a 0 = v
  rw [jR, hv]; rfl
 conv => whnf
 refine vIf (fun h => ?_) fun h => ?_
 ·have hv2 : v = 2 := by simpa using h
  have e9 : zbo two ls (l + 1) (nx, ns) = (nx2, zc6 ns2 ((l + 1 : Nat) : Int) a false [ns1.length - 1, ns2.length - 1]) := by
   unfold zbo
   simp only [ea, e1, e2, er, hv2, if_true]
   rfl
  rw [e9]
  conv => whnf
  refine zaT (zba [14] rfl rfl (za4 [2, 12] 1 rfl rfl rfl (by kernel_rfl) (fs := fun _ => []) (cs := fun h => zhD h [.at_ 2 0]) (fun h => rfl) rfl rfl (given := zxc ns2) ⟨rfl, rfl, trivial⟩ rfl rfl rfl rfl rfl rfl fun h X w L2 H => zrI ((l + 1 : Nat) : Int) a false (ks := [ns1.length - 1, ns2.length - 1]) (by simp; omega) (by simp) (by simp) hn (r := 12) (j := 14) (H.pick [2, 0] rfl) rfl)) ?_
  conv => whnf
  exact zdJ [(0, 0), (1, 1), (2, 2), (4, 15)] [0] [5, 6, 7] (.inl (by rw [zbC]; rfl)) ⟨.inl rfl, .inl rfl, .inl (by rw [zbC]; rfl), .inl rfl, trivial⟩ rfl ⟨.inl rfl, trivial⟩ ⟨rfl, rfl, rfl, trivial⟩
 have hv2 : v ≠ 2 := by simpa using h
 have h3 := h3 hv2
 conv => whnf
 refine vIf (fun hk => ?_) fun hk => ?_
 ·obtain rfl : two = true := by rw [← hkd]; exact hk
  obtain ⟨h4, hn3⟩ := (if_pos rfl : (if true = true then _ else _) = _) ▸ h3
  obtain ⟨⟨nx3, ns3⟩, e3⟩ : ∃ s, zbo true ls l (nx2, ns2) = s := ⟨_, rfl⟩
  have hg3 : ns2.length < ns3.length := by have := zch (two := true) (ls := ls) (l := l) (s := (nx2, ns2)); rw [e3] at this; exact this
  rw [e3] at hn3
  have e9 : zbo true ls (l + 1) (nx, ns) = (nx3, zc6 ns3 ((l + 1 : Nat) : Int) a false [ns1.length - 1, ns2.length - 1, ns3.length - 1]) := by
   unfold zbo
   simp only [ea, e1, e2, e3, er, if_neg hv2, if_true]
   rfl
  rw [e9]
  conv => whnf
  refine zaK 9 [0, 1, 2, 12] (by kernel_rfl) ?_
  conv => whnf
  refine zbi el (by omega) (by omega) ?_
  conv => whnf
  refine zeA rfl (zea 1 (za4 [0, 1, 2, 12] 1 rfl rfl rfl (by kernel_rfl) (fs := fun _ => []) (cs := fun h => zhD h [.at_ 0 0, .at_ 2 0, .at_ 4 0, .at_ 5 0, .at_ 6 0, .at_ 7 0]) (fun h => rfl) rfl rfl (given := dnM nl 3 nx2 ns2) ⟨rfl, rfl, rfl, rfl, trivial⟩ rfl rfl rfl rfl rfl rfl fun h X w L2 H => zoi ih e3 hl2 h4 hkd (bl := [h.b 4, h.b 5, h.b 6, h.b 7]) (ql := [(none, 0), (none, 0), (none, 0), (none, 0), h.r 8, h.r 9]) (H.pick [1, 7, 8, 9, 10, 11] rfl)) (fun _ => List.mem_append_left _) rfl) ?_
  conv => whnf
  refine zaT (zba [15] rfl rfl (za4 [2, 14] 1 rfl rfl rfl (by kernel_rfl) (fs := fun _ => []) (cs := fun h => zhD h [.at_ 2 0]) (fun h => rfl) rfl rfl (given := zxc ns3) ⟨rfl, rfl, trivial⟩ rfl rfl rfl rfl rfl rfl fun h X w L2 H => zrI ((l + 1 : Nat) : Int) a false (ks := [ns1.length - 1, ns2.length - 1, ns3.length - 1]) (by simp; omega) (by simp) (by simp) hn3 (r := 14) (j := 15) (H.pick [1, 0] rfl) rfl)) ?_
  conv => whnf
  exact zdJ [(0, 0), (1, 1), (2, 2), (4, 16)] [0] [6, 7, 8] (.inl (by rw [zbC]; rfl)) ⟨.inl rfl, .inl rfl, .inl (by rw [zbC]; rfl), .inl rfl, trivial⟩ rfl ⟨.inl rfl, trivial⟩ ⟨rfl, rfl, rfl, trivial⟩
 obtain rfl : two = false := by rw [← hkd]; exact hk
 obtain ⟨h4, hn3⟩ := (if_neg (by decide) : (if false = true then _ else _) = _) ▸ h3
 obtain ⟨lf, elf⟩ : ∃ lf, zc6 ns2 ((l + 1 : Nat) : Int) a true [ns1.length - 1, ns2.length - 1] = lf := ⟨_, rfl⟩
 have hlf : ns2.length + 1 = lf.length := by rw [← elf, zbC]
 rw [elf] at h4 hn3
 obtain ⟨⟨nx3, ns3⟩, e3⟩ : ∃ s, zbo false ls l (nx2, lf) = s := ⟨_, rfl⟩
 have hg3 : lf.length < ns3.length := by have := zch (two := false) (ls := ls) (l := l) (s := (nx2, lf)); rw [e3] at this; exact this
 rw [e3] at hn3
 have e9 : zbo false ls (l + 1) (nx, ns) = (nx3, zc6 ns3 ((l + 1 : Nat) : Int) a false [ns2.length, ns3.length - 1]) := by
  have elf' : zc6 ns2 ((l : Int) + 1) a true [ns1.length - 1, ns2.length - 1] = lf := elf
  unfold zbo
  simp only [ea, e1, e2, er, if_neg hv2, elf, elf', e3, Bool.false_eq_true, if_false]
  rfl
 rw [e9]
 conv => whnf
 refine zaT (zba [14] rfl rfl (za4 [2, 12] 1 rfl rfl rfl (by kernel_rfl) (fs := fun _ => []) (cs := fun h => zhD h [.at_ 2 0]) (fun h => rfl) rfl rfl (given := zxc ns2) ⟨rfl, rfl, trivial⟩ rfl rfl rfl rfl rfl rfl fun h X w L2 H => zrI ((l + 1 : Nat) : Int) a true (ks := [ns1.length - 1, ns2.length - 1]) (by simp; omega) (by simp) (by simp) hn (r := 12) (j := 14) (H.pick [2, 0] rfl) rfl)) ?_
 rw [elf, hlf]
 conv => whnf
 refine zaK 8 [0, 1, 2, 15] (by kernel_rfl) ?_
 conv => whnf
 refine zbi el (by omega) (by omega) ?_
 conv => whnf
 refine zeA rfl (zea 1 (za4 [0, 1, 2, 15] 1 rfl rfl rfl (by kernel_rfl) (fs := fun _ => []) (cs := fun h => zhD h [.at_ 0 0, .at_ 2 0, .at_ 4 0, .at_ 5 0, .at_ 6 0, .at_ 7 0]) (fun h => rfl) rfl rfl (given := dnM nl 3 nx2 lf) ⟨rfl, rfl, rfl, rfl, trivial⟩ rfl rfl rfl rfl rfl rfl fun h X w L2 H => zoi ih e3 hl2 h4 hkd (bl := [h.b 4, h.b 5, h.b 6, h.b 7]) (ql := [(none, 0), (none, 0), (none, 0), (none, 0), h.r 8, h.r 9]) (H.pick [0, 9, 10, 11, 12, 13] rfl)) (fun _ => List.mem_append_left _) rfl) ?_
 conv => whnf
 refine zaT (zba [17] rfl rfl (za4 [2, 16] 1 rfl rfl rfl (by kernel_rfl) (fs := fun _ => []) (cs := fun h => zhD h [.at_ 2 0]) (fun h => rfl) rfl rfl (given := zxc ns3) ⟨rfl, rfl, trivial⟩ rfl rfl rfl rfl rfl rfl fun h X w L2 H => zrI ((l + 1 : Nat) : Int) a false (ks := [ns2.length, ns3.length - 1]) (by simp; omega) (by simp) (by simp) hn3 (r := 16) (j := 17) (H.pick [1, 0] rfl) rfl)) ?_
 conv => whnf
 exact zdJ [(0, 0), (1, 1), (2, 2), (4, 18)] [0] [8, 9, 10] (.inl (by rw [zbC]; rfl)) ⟨.inl rfl, .inl rfl, .inl (by rw [zbC]; rfl), .inl rfl, trivial⟩ rfl ⟨.inl rfl, trivial⟩ ⟨rfl, rfl, rfl, trivial⟩
def zbu (two : Bool) (ls : List (List Int)) (nids : Nat) : List Nd := if 0 < nids then (zbo two ls ls.length (List.replicate (ls.length + 1) 0, [])).2 else []
theorem zvZ (two : Bool) (ls : List (List Int)) : ∀ l, l ≤ 1001 → zET two ls l
 | 0, _ => zvV two ls
 | l + 1, h => zvY two ls l (by omega) (zvZ two ls l (by omega))
theorem zrJ (hX : ∀ k ∈ X, k < w.heap.size) (two : Bool) (kd : Int) (hkd : (kd == 1) = two) (nids : Nat) (ls : List (List Int)) (qi qL : Qd) (hls : St (SlQ (zgR zbb) ls qL) w X) (hl : ls.length ≤ 1000) (hok : 0 < nids → okD two ls ls.length (List.replicate (ls.length + 1) 0, [])) :
  Ct Tryz.prog 147 [.int .i64 kd, .agg (ca [.one (.slice qi.1 nids qi.2), .one (.slice qL.1 ls.length qL.2)])] X w (.a (.s (.p (.hd 0 (zbu two ls nids).length)))) [.gone] [.sl 0 (zbu two ls nids).length (SlF zbS (zbu two ls nids))] := by
 refine vFn (k0 := 2) (rs := [.cell 4 110]) (svs := [zaD .i64 kd, .a (.agg [.one (.p (.hd 0 nids)), .one (.p (.hd 1 ls.length))])]) (R0 := [.sl 1 ls.length (SlF (zgR zbb) ls)]) (hnQ [qi, qL]) Tryz.ntmps147 Tryz.func147 rfl rfl rfl rfl rfl zan (by kernel_rfl) hX (fun r hr => by rcases List.mem_singleton.1 hr with rfl; exact hls) ?_
 conv => whnf
 refine zbi (z' := ((ls.length + 1 : Nat) : Int)) rfl (by show -9223372036854775808 ≤ ((ls.length : Nat) : Int) + 1; omega) (by show ((ls.length : Nat) : Int) + 1 ≤ 9223372036854775807; omega) ?_
 conv => whnf
 have hA : AppK Tryz.prog 24 3 zbb.sz 8 := ⟨by kernel_rfl, by kernel_rfl⟩
 have hz : zdT Tryz.prog 3 = some (ca [.one (.int .i64 0)]) := by kernel_rfl
 refine zbO (zzT (T := zbb) (n := ls.length + 1) (d := 0) hA hz rfl rfl rfl rfl rfl rfl (by omega) (by unfold maxLen; omega)) rfl rfl ?_
 conv => whnf
 refine .inl ?_
 conv => whnf
 refine vIf (fun h => ?_) fun h => ?_
 ·have hpos : 0 < nids := by
   have : (nids : Int) > 0 := by simpa [Sl.len] using h
   omega
  have hd := zvZ two ls ls.length (by omega)
  obtain ⟨⟨nx1, ns1⟩, e1⟩ : ∃ s, zbo two ls ls.length (List.replicate (ls.length + 1) 0, []) = s := ⟨_, rfl⟩
  have e2 : zbu two ls nids = ns1 := by unfold zbu; rw [if_pos hpos, e1]
  rw [e2]
  conv => whnf
  refine zpa 2 (zba [8, 3, 5, 2] rfl rfl (zxR (T := zbS) (e := 117) (i := 4) rfl rfl rfl rfl (za4 [7, 6, 4, 9] 1 rfl rfl rfl (by kernel_rfl) (fs := fun _ => []) (cs := fun h => zhD h [.at_ 7 0, .at_ 4 0, .at_ 8 0, .at_ 3 0, .at_ 5 0, .at_ 2 0]) (fun h => rfl) rfl rfl (given := dnM (ls.length + 1) 3 (List.replicate (ls.length + 1) 0) []) ⟨rfl, rfl, rfl, rfl, trivial⟩ rfl rfl rfl rfl rfl rfl fun h X w L2 H => zoi hd e1 (by simp) (hok hpos) hkd (bl := [h.b 8, h.b 3, h.b 5, h.b 2]) (ql := [(none, 0), (none, 0), (none, 0), (none, 0), h.r 0, h.r 1]) (H.pick [0, 4, 3, 2, 1, 5] rfl)))) ?_
  conv => whnf
  refine zpb (T := zbS) (e := 117) (xs := ns1) 10 rfl (.head _) rfl ?_
  exact zaZ [(0, 10)] [0] (.inl rfl) trivial rfl ⟨.inl rfl, trivial⟩
 have hpos : ¬ 0 < nids := by
  intro h0
  have : ¬ (nids : Int) > 0 := by simpa [Sl.len] using h
  omega
 have e2 : zbu two ls nids = [] := by unfold zbu; rw [if_neg hpos]
 rw [e2]
 conv => whnf
 exact zaZ [(0, 9)] [0] (.inr rfl) trivial rfl ⟨.inr (zbj rfl), trivial⟩
def zh4 (kd : Int) (ids : List Int) (ls : List (List Int)) : Bool := (kd == 1 || kd == 2) && zd3 ids ls
theorem zAs (hX : ∀ k ∈ X, k < w.heap.size) (kd : Int) (ids : List Int) (ls : List (List Int)) (q p : Qd) (hq : St (SlQ zbb ids q) w X) (hp : St (SlQ (zgR zbb) ls p) w X) (hlen : ∀ l ∈ ls, l.length ≤ 1099511627776) :
  Ct Tryz.prog 145 [.int .i64 kd, .agg (ca [.one (.slice q.1 ids.length q.2), .one (.slice p.1 ls.length p.2)])] X w (zaD .i64 (if zh4 kd ids ls then 0 else 1)) [] [] := by
 refine vFn (k0 := 2) (rs := [.tmp 4]) (svs := [zaD .i64 kd, .a (.agg [.one (.p (.hd 0 ids.length)), .one (.p (.hd 1 ls.length))])]) (R0 := [.sl 0 ids.length (SlF zbb ids), .sl 1 ls.length (SlF (zgR zbb) ls)]) (hnQ [q, p]) Tryz.ntmps145 Tryz.func145 rfl rfl rfl rfl rfl zan (by kernel_rfl) hX (fun r hr => by rcases List.mem_cons.1 hr with rfl | hr; exact hq; rcases List.mem_singleton.1 hr with rfl; exact hp) ?_
 conv => whnf
 refine vIf (fun h1 => ?_) fun h1 => ?_
 ·conv => whnf
  refine vIf (fun h2 => ?_) fun h2 => ?_
  ·conv => whnf
   refine zav ?_
   have : zh4 kd ids ls = false := by simp at h1 h2; simp [zh4, h1, h2]
   rw [this]; rfl
  conv => whnf
  refine zae rfl rfl rfl (by kernel_rfl) (fun h X w H => zoh H.xk ids ls _ _ (H.fact 0 rfl) (H.fact 1 rfl) hlen) rfl rfl rfl ?_
  conv => whnf
  refine zav ?_
  have : zh4 kd ids ls = zd3 ids ls := by simp at h2; simp [zh4, h2]
  rw [this]; rfl
 conv => whnf
 refine zae rfl rfl rfl (by kernel_rfl) (fun h X w H => zoh H.xk ids ls _ _ (H.fact 0 rfl) (H.fact 1 rfl) hlen) rfl rfl rfl ?_
 conv => whnf
 refine zav ?_
 have : zh4 kd ids ls = zd3 ids ls := by simp at h1; simp [zh4, h1]
 rw [this]; rfl
def zHo (bl : List Nat) (ql : List Qd) : Hn := ⟨zjE bl, qs ql, fun _ _ => []⟩
theorem zrK : Inj zbS := fun x a b h => by
 simp only [zbS, cl, Chunk.cells, List.cons_append, List.nil_append, List.cons.injEq, Value.slice.injEq, and_true, true_and] at h
 exact Prod.ext h.1 h.2
theorem zyZ (hX : ∀ k ∈ X, k < w.heap.size) (x : Nd) (μ : Qd) (b : Nat) (t : Int) (hb : St (AtC ⟨b, 0, none⟩ [.one (.int .i64 t)]) w X) :
  Ct Tryz.prog 149 [.agg (ca (zbS.ch x μ)), .pointer (some ⟨b, 0, none⟩)] X w (zbD (x.lv == 0 && x.pl == t)) [] [] := by
 refine vFn (k0 := 2) (rs := [.tmp 3]) (svs := [.a (.agg [zfU x.lv, zfU x.pl, .one (.p (.v (.bool x.red))), zfU x.fr, zfU x.tt, .one (.p (.hd 0 x.kids.length)), zfU x.up]), atS 1 0]) (R0 := [.blk 1 [zfU t]]) (zHo [0, b] [μ]) Tryz.ntmps149 Tryz.func149 rfl rfl rfl rfl rfl zan (by kernel_rfl) hX (fun r hr => by rcases List.mem_singleton.1 hr with rfl; exact hb) ?_
 conv => whnf
 refine vIf (fun h1 => ?_) fun h1 => ?_
 ·conv => whnf
  refine vIf (fun h2 => ?_) fun h2 => ?_
  all_goals
   conv => whnf
   refine zav ?_
   rw [h1, h2]; rfl
 conv => whnf
 refine zav ?_
 rw [h1]; rfl
theorem zy0 (hX : ∀ k ∈ X, k < w.heap.size) (xs : List Nd) (q : Qd) (hq : St (SlQ zbS xs q) w X) {g : FuncId} (cs : List Value) (F : World → Prop) (hF : St F w X) (hg : fnB Tryz.prog g = true) (p : Nd → Bool) (hp : ∀ y ∈ xs, ∀ (X : List Nat) (w : World) (μ : Qd), (∀ k ∈ X, k < w.heap.size) → St F w X → Ct Tryz.prog g (.agg (ca (zbS.ch y μ)) :: cs) X w (zbD (p y)) [] []) :
  Ct Tryz.prog 148 [.slice q.1 xs.length q.2, .func (.func g) #[] cs.toArray] X w (zaD .i64 (zmt p xs)) [] [] := by
 have hbig := SlQ.big hq
 refine vFn (k0 := 1) (rs := [.tmp 4]) (svs := [.a (.s (.p (.hd 0 xs.length))), .a (.s (.p (.v (.func (.func g) #[] cs.toArray))))]) (R0 := [.sl 0 xs.length (SlF zbS xs), .c F]) (hnQ [q]) Tryz.ntmps148 Tryz.func148 rfl rfl rfl rfl rfl zan (by kernel_rfl) hX (fun r hr => by rcases List.mem_cons.1 hr with rfl | hr; exact hq; rcases List.mem_singleton.1 hr with rfl; exact hF) ?_
 conv => whnf
 refine ⟨Nat, fun k l m R i => ⟨k, (8, zaD .i64 i) :: za2 [0, 1, 7] l, m, R⟩, fun i => i ≤ xs.length ∧ ∀ y ∈ xs.take i, p y = false, fun i => xs.length - i, ⟨0, [], [0, 1], ⟨by omega, by simp⟩, za3⟩, fun i hφ => ?_⟩
 conv => whnf
 refine vIf (fun h => ?_) fun h => ?_
 ·have hi : i < xs.length := by simpa [Sl.len] using h
  obtain ⟨x, hx⟩ : ∃ x, xs[i]? = some x := ⟨_, jP hi⟩
  have hxi : xs[i] = x := (List.getElem?_eq_some_iff.1 hx).2
  conv => whnf
  refine ⟨i, ⟨rfl, hi, hi⟩, ?_⟩
  conv => whnf
  refine zfs (ziH zrK (n := 7) (off := 0) (sub := [zfU x.lv, zfU x.pl, .one (.p (.v (.bool x.red))), zfU x.fr, zfU x.tt, .one (.p (.hd 1 x.kids.length)), zfU x.up]) (Rs := []) 0 (fun μ => [μ]) 1 hx rfl rfl rfl (by kernel_rfl) (.inl ⟨rfl, rfl⟩) (fun μ h hh => by
   have e : h.r 1 = μ := hh 0 (by omega)
   subst e
   rfl) fun μ h w Y hh hn r hr => by cases hr) rfl rfl ?_
  conv => whnf
  refine zfs (zcG (sv := zbD (p x)) (rs := []) (Rs := []) rfl rfl rfl hg rfl (fs := fun _ => []) (cs := fun _ => cs) (fun h => rfl) fun h X w H => hp x (List.mem_of_getElem? hx) _ _ (h.r 1) H.xk (H.fact 1 rfl)) rfl rfl ?_
  conv => whnf
  refine vIf (fun he => ?_) fun he => ?_
  ·conv => whnf
   refine zav ?_
   rw [zjd hi hφ.2 (by rw [hxi]; exact he)]; rfl
  ·conv => whnf
   refine zc2 (by omega) (by omega) ?_
   conv => whnf
   exact ⟨i + 1, [], [0, 1], ⟨⟨by omega, zgJ hi hφ.2 (by rw [hxi]; exact he)⟩, Nat.sub_lt_sub_left hi (Nat.lt_succ_self i)⟩, za3⟩
 ·have hi : i = xs.length := by
   have : ¬ i < xs.length := by simpa [Sl.len] using h
   omega
  conv => whnf
  refine zav ?_
  rw [zgI (by rw [← List.take_length (l := xs), ← hi]; exact hφ.2)]; rfl
theorem zCB {α : Type} {p : α → Bool} {xs : List α} : -1 ≤ zmt p xs ∧ zmt p xs < xs.length := by
 unfold zmt
 cases h : xs.any p with
 | false => simp; omega
 | true =>
  obtain ⟨y, hy, hp⟩ := List.any_eq_true.1 h
  have := List.findIdx_lt_length_of_exists ⟨y, hy, hp⟩
  rw [if_pos rfl]
  exact ⟨by omega, by omega⟩
def zxd (ns : List Nd) : Nat → Int → List Int
 | 0, _ => []
 | f + 1, i => if i < 0 then [] else i :: zxd ns f (ns.getD i.toNat dNd).up
def zEV (ns : List Nd) (t : Int) : Int := zmt (fun x : Nd => x.lv == 0 && x.pl == t) ns
def zFN (ns : List Nd) (t : Int) : List Int := zxd ns ns.length (zEV ns t)
def zeL (two : Bool) (kd : Int) (ids : List Int) (ls : List (List Int)) (id : Int) : List Int × List Nd × Int :=
 if zh4 kd ids ls then (if ids.any (· == id) then (zFN (zbu two ls ids.length) (zep ids id), zbu two ls ids.length, 0) else ([], [], 6)) else ([], [], 1)
def zGm (r : List Int × List Nd × Int) : SV := .tup [.s (.p (.hd 0 r.1.length)), .s (.p (.hd 1 r.2.1.length)), .s (.p (.v (.int .i64 r.2.2)))]
def zGn (r : List Int × List Nd × Int) : List SF := [.sl 0 r.1.length (SlF zbb r.1), .sl 1 r.2.1.length (SlF zbS r.2.1)]
theorem zCC (hX : ∀ k ∈ X, k < w.heap.size) (two : Bool) (kd : Int) (hkd : (kd == 1) = two) (ids : List Int) (ls : List (List Int)) (id : Int) (q p : Qd) (hq : St (SlQ zbb ids q) w X) (hp : St (SlQ (zgR zbb) ls p) w X) (hlen : ∀ l ∈ ls, l.length ≤ 1099511627776) (hl : ls.length ≤ 1000)
  (hok : zh4 kd ids ls = true → 0 < ids.length → okD two ls ls.length (List.replicate (ls.length + 1) 0, [])) (hn : (zbu two ls ids.length).length ≤ 1000000) (hup : ∀ (j : Nat) (x : Nd), (zbu two ls ids.length)[j]? = some x → x.up < 0 ∨ (j < x.up.toNat ∧ x.up.toNat < (zbu two ls ids.length).length)) :
  Ct Tryz.prog 105 [.int .i64 kd, .agg (ca [.one (.slice q.1 ids.length q.2), .one (.slice p.1 ls.length p.2)]), .int .i64 id] X w (zGm (zeL two kd ids ls id)) [.gone, .gone] (zGn (zeL two kd ids ls id)) := by
 refine vFn (k0 := 2) (rs := [.tmp 6, .tmp 7, .tmp 8]) (svs := [zaD .i64 kd, .a (.agg [.one (.p (.hd 0 ids.length)), .one (.p (.hd 1 ls.length))]), zaD .i64 id]) (R0 := [.sl 0 ids.length (SlF zbb ids), .sl 1 ls.length (SlF (zgR zbb) ls)]) (hnQ [q, p]) Tryz.ntmps105 Tryz.func105 rfl rfl rfl rfl rfl zan (by kernel_rfl) hX (fun r hr => by rcases List.mem_cons.1 hr with rfl | hr; exact hq; rcases List.mem_singleton.1 hr with rfl; exact hp) ?_
 conv => whnf
 refine zae rfl rfl rfl (by kernel_rfl) (fun h X w H => zAs H.xk kd ids ls _ _ (H.fact 0 rfl) (H.fact 1 rfl) hlen) rfl rfl rfl ?_
 cases hm : zh4 kd ids ls with
 | false =>
  have e : zeL two kd ids ls id = ([], [], 1) := by simp [zeL, hm]
  rw [e]
  conv => whnf
  exact zaZ [(0, 3), (1, 4)] [0, 0] (.inr ⟨rfl, rfl, rfl, trivial⟩) trivial rfl ⟨.inr (zbj rfl), .inr (zbj rfl), trivial⟩
 | true =>
  conv => whnf
  refine zae rfl rfl rfl (by kernel_rfl) (fun h X w H => zyX H.xk ids (.slice (h.r 1).1 ls.length (h.r 1).2) rfl id _ (H.fact 0 rfl)) rfl rfl rfl ?_
  cases ha : ids.any (· == id) with
  | false =>
   have e : zeL two kd ids ls id = ([], [], 6) := by simp [zeL, hm, ha]
   rw [e]
   conv => whnf
   exact zaZ [(0, 4), (1, 5)] [0, 0] (.inr ⟨rfl, rfl, rfl, trivial⟩) trivial rfl ⟨.inr (zbj rfl), .inr (zbj rfl), trivial⟩
  | true =>
   have e : zeL two kd ids ls id = (zFN (zbu two ls ids.length) (zep ids id), zbu two ls ids.length, 0) := by simp [zeL, hm, ha]
   rw [e]
   conv => whnf
   refine zae rfl rfl rfl (by kernel_rfl) (fun h X w H => zrJ H.xk two kd hkd ids.length ls (h.r 0) _ (H.fact 1 rfl) hl fun h0 => hok hm h0) rfl rfl rfl ?_
   conv => whnf
   refine zaH (zba [3] rfl rfl (zaE (zab (rs := []) (Rs := []) rfl rfl rfl (by kernel_rfl) rfl fun h X w H => zy0 H.xk (zbu two ls ids.length) _ (H.fact 1 rfl) [.pointer (some ⟨h.b 3, 0, none⟩)] (AtC ⟨h.b 3, 0, none⟩ [.one (.int .i64 (zep ids id : Nat))]) (H.fact 0 rfl) (by kernel_rfl) (fun x => x.lv == 0 && x.pl == (zep ids id : Nat)) fun y _ X w μ hX hF => zyZ hX y μ _ _ hF) rfl rfl)) ?_
   conv => whnf
   obtain ⟨ns, hns⟩ : ∃ ns, zbu two ls ids.length = ns := ⟨_, rfl⟩
   obtain ⟨lf, hlf⟩ : ∃ lf, zmt (fun x : Nd => x.lv == 0 && x.pl == (zep ids id : Nat)) ns = lf := ⟨_, rfl⟩
   have hlb := zCB (p := fun x : Nd => x.lv == 0 && x.pl == (zep ids id : Nat)) (xs := ns)
   rw [hlf] at hlb
   have hw : zFN ns (zep ids id) = zxd ns ns.length lf := by unfold zFN zEV; rw [hlf]
   rw [hns, hw, hlf]
   rw [hns] at hn hup
   refine ⟨Int × List Int × Nat × Nat, fun k l m R g => ⟨k + 1, (13, zaD .i64 g.1) :: (6, .a (.s (.p (.hd k g.2.2.2)))) :: za2 [7] l, (k, zbA zbb g.2.1 3) :: m, R⟩, fun g => zxd ns ns.length lf = g.2.1 ++ zxd ns g.2.2.1 g.1 ∧ g.2.2.2 = g.2.1.length ∧ g.2.1.length + g.2.2.1 = ns.length ∧ (0 ≤ g.1 → g.1.toNat < ns.length ∧ ns.length - g.1.toNat ≤ g.2.2.1), fun g => g.2.2.1, ⟨(lf, [], ns.length, 0), [], [0, 1, 2, 3], ⟨rfl, rfl, by simp, fun h => by dsimp only at h ⊢; omega⟩, za3⟩, fun ⟨i, ds, f, n⟩ ⟨h1, h2, h3, h4⟩ => ?_⟩
   dsimp only at h1 h2 h3 h4
   conv => whnf
   refine vIf (fun h => ?_) fun h => ?_
   ·have hi : 0 ≤ i := by simpa using h
    obtain ⟨h5, h6⟩ := h4 hi
    obtain ⟨x, hx⟩ : ∃ x, ns[i.toNat]? = some x := ⟨_, jP h5⟩
    obtain ⟨f', rfl⟩ : ∃ f', f = f' + 1 := ⟨f - 1, by omega⟩
    have hx2 : ns.getD i.toNat dNd = x := by rw [jR, hx]; rfl
    have h7 : zxd ns (f' + 1) i = i :: zxd ns f' x.up := by rw [zxd, if_neg (by omega), hx2]
    conv => whnf
    refine zaT (zqP (T := zbb) (e := 3) (x := i) (fun _ _ _ => trivial) rfl rfl rfl h2 rfl rfl rfl (fun _ => rfl) (by_ := 8) ⟨by kernel_rfl, by kernel_rfl⟩ (by omega) (by omega) rfl rfl rfl) ?_
    conv => whnf
    refine ⟨i.toNat, ⟨(Int.toNat_of_nonneg hi).symm, h5, h5⟩, ?_⟩
    conv => whnf
    refine zb4 (zcb (T := zbS) (sv := zaD .i64 x.up) 1 hx (fun _ => rfl) rfl rfl rfl (by kernel_rfl) (fun _ => .inr ⟨rfl, rfl, rfl⟩)) rfl rfl ?_
    conv => whnf
    exact ⟨(x.up, ds ++ [i], f', n + 1), [(5, 7)], [0, 1, 2, 3], ⟨⟨by rw [h1, h7]; simp, by simp [h2], by simp; omega, fun h => by
     rcases hup _ _ hx with h8 | h8
     ·dsimp only at h; omega
     ·dsimp only at h ⊢; exact ⟨h8.2, by omega⟩⟩, Nat.lt_succ_self f'⟩, za3⟩
   have hi : i < 0 := by simpa using h
   have h7 : zxd ns f i = [] := by
    cases f with
    | zero => rfl
    | succ f => rw [zxd, if_pos hi]
   rw [h7, List.append_nil] at h1
   rw [h1]
   subst h2
   conv => whnf
   refine zxT (T := zbb) (e := 3) (xs := ds) 5 (fun _ _ _ => trivial) rfl rfl ?_
   exact zaZ [(0, 5), (1, 4)] [0, 3] (.inl rfl) trivial rfl ⟨.inl rfl, .inl rfl, trivial⟩
theorem zCD (hX : ∀ k ∈ X, k < w.heap.size) (two : Bool) (kd : Int) (hkd : (kd == 1) = two) (ids : List Int) (ls : List (List Int)) (id : Int) (q p : Qd) (hq : St (SlQ zbb ids q) w X) (hp : St (SlQ (zgR zbb) ls p) w X) (hlen : ∀ l ∈ ls, l.length ≤ 1099511627776) (hl : ls.length ≤ 1000)
  (hok : zh4 kd ids ls = true → 0 < ids.length → okD two ls ls.length (List.replicate (ls.length + 1) 0, [])) (hn : (zbu two ls ids.length).length ≤ 1000000) (hup : ∀ (j : Nat) (x : Nd), (zbu two ls ids.length)[j]? = some x → x.up < 0 ∨ (j < x.up.toNat ∧ x.up.toNat < (zbu two ls ids.length).length)) :
  Ct Tryz.prog 81 [.int .i64 kd, .agg (ca [.one (.slice q.1 ids.length q.2), .one (.slice p.1 ls.length p.2)]), .int .i64 id] X w (.tup [.s (.p (.hd 0 (zeL two kd ids ls id).1.length)), .s (.p (.v (.int .i64 (zeL two kd ids ls id).2.2)))]) [.gone] [.sl 0 (zeL two kd ids ls id).1.length (SlF zbb (zeL two kd ids ls id).1)] := by
 refine vFn (k0 := 2) (rs := [.tmp 6, .tmp 7]) (svs := [zaD .i64 kd, .a (.agg [.one (.p (.hd 0 ids.length)), .one (.p (.hd 1 ls.length))]), zaD .i64 id]) (R0 := [.sl 0 ids.length (SlF zbb ids), .sl 1 ls.length (SlF (zgR zbb) ls)]) (hnQ [q, p]) Tryz.ntmps81 Tryz.func81 rfl rfl rfl rfl rfl zan (by kernel_rfl) hX (fun r hr => by rcases List.mem_cons.1 hr with rfl | hr; exact hq; rcases List.mem_singleton.1 hr with rfl; exact hp) ?_
 conv => whnf
 refine zae rfl rfl rfl (by kernel_rfl) (fun h X w H => zCC H.xk two kd hkd ids ls id _ _ (H.fact 0 rfl) (H.fact 1 rfl) hlen hl hok hn hup) rfl rfl rfl ?_
 obtain ⟨⟨wy, ns, er⟩, e⟩ : ∃ r, zeL two kd ids ls id = r := ⟨_, rfl⟩
 rw [e]
 conv => whnf
 exact zaZ [(0, 3)] [0] (.inl rfl) trivial rfl ⟨.inl rfl, trivial⟩
def zv0 (two : Bool) (kd : Int) (ids : List Int) (ls : List (List Int)) : List Nd × Int := if zh4 kd ids ls then (zbu two ls ids.length, 0) else ([], 1)
theorem zy1 (hX : ∀ k ∈ X, k < w.heap.size) (two : Bool) (kd : Int) (hkd : (kd == 1) = two) (ids : List Int) (ls : List (List Int)) (q p : Qd) (hq : St (SlQ zbb ids q) w X) (hp : St (SlQ (zgR zbb) ls p) w X) (hlen : ∀ l ∈ ls, l.length ≤ 1099511627776) (hl : ls.length ≤ 1000)
  (hok : zh4 kd ids ls = true → 0 < ids.length → okD two ls ls.length (List.replicate (ls.length + 1) 0, [])) :
  Ct Tryz.prog 112 [.int .i64 kd, .agg (ca [.one (.slice q.1 ids.length q.2), .one (.slice p.1 ls.length p.2)])] X w (.tup [.s (.p (.hd 0 (zv0 two kd ids ls).1.length)), .s (.p (.v (.int .i64 (zv0 two kd ids ls).2)))]) [.gone] [.sl 0 (zv0 two kd ids ls).1.length (SlF zbS (zv0 two kd ids ls).1)] := by
 refine vFn (k0 := 2) (rs := [.tmp 4, .tmp 5]) (svs := [zaD .i64 kd, .a (.agg [.one (.p (.hd 0 ids.length)), .one (.p (.hd 1 ls.length))])]) (R0 := [.sl 0 ids.length (SlF zbb ids), .sl 1 ls.length (SlF (zgR zbb) ls)]) (hnQ [q, p]) Tryz.ntmps112 Tryz.func112 rfl rfl rfl rfl rfl zan (by kernel_rfl) hX (fun r hr => by rcases List.mem_cons.1 hr with rfl | hr; exact hq; rcases List.mem_singleton.1 hr with rfl; exact hp) ?_
 conv => whnf
 refine zae rfl rfl rfl (by kernel_rfl) (fun h X w H => zAs H.xk kd ids ls _ _ (H.fact 0 rfl) (H.fact 1 rfl) hlen) rfl rfl rfl ?_
 cases hm : zh4 kd ids ls with
 | false =>
  have e : zv0 two kd ids ls = ([], 1) := by simp [zv0, hm]
  rw [e]
  conv => whnf
  exact zaZ [(0, 3)] [0] (.inr ⟨rfl, rfl, trivial⟩) trivial rfl ⟨.inr (zbj rfl), trivial⟩
 | true =>
  have e : zv0 two kd ids ls = (zbu two ls ids.length, 0) := by simp [zv0, hm]
  rw [e]
  conv => whnf
  refine zae rfl rfl rfl (by kernel_rfl) (fun h X w H => zrJ H.xk two kd hkd ids.length ls (h.r 0) _ (H.fact 1 rfl) hl fun h0 => hok hm h0) rfl rfl rfl ?_
  conv => whnf
  exact zaZ [(0, 3)] [0] (.inl rfl) trivial rfl ⟨.inl rfl, trivial⟩
end
end
section
open Go.RowKit
section
variable {X : List Nat} {w : World}
theorem zCE (hX : ∀ k ∈ X, k < w.heap.size) (xs : List (List Nat)) (x : List Nat) (q : Qd) (hq : St (SlQ zfn xs q) w X) :
  Ct Tryz.prog 152 [.slice q.1 xs.length q.2, .agg (ca [.key x])] X w (zaD .i64 (zmt (fun y => decide (zdI x = zdI y)) xs)) [] [] := by
 have hbig := SlQ.big hq
 refine vFn (k0 := 1) (rs := [.tmp 4]) (svs := [.a (.s (.p (.hd 0 xs.length))), .a (.agg [.key x])]) (R0 := [.sl 0 xs.length (SlF zfn xs)]) (hnQ [q]) Tryz.ntmps152 Tryz.func152 rfl rfl rfl rfl rfl zan (by kernel_rfl) hX (fun r hr => by rcases List.mem_singleton.1 hr with rfl; exact hq) ?_
 conv => whnf
 refine ⟨Nat, fun k l m R i => ⟨k, (8, zaD .i64 i) :: za2 [0, 3, 7] l, m, R⟩, fun i => i ≤ xs.length ∧ ∀ y ∈ xs.take i, decide (zdI x = zdI y) = false, fun i => xs.length - i, ⟨0, [], [0], ⟨by omega, by simp⟩, za3⟩, fun i hφ => ?_⟩
 conv => whnf
 refine vIf (fun h => ?_) fun h => ?_
 ·have hi : i < xs.length := by simpa [Sl.len] using h
  conv => whnf
  refine zaK 5 [] (by kernel_rfl) ?_
  conv => whnf
  refine ⟨i, ⟨rfl, hi, hi⟩, ?_⟩
  conv => whnf
  refine zcA (zcb (T := zfn) (n := 32) (off := 0) (sub := [.key xs[i]]) (sv := .a (.agg [.key xs[i]])) 0 (jP hi) (fun _ => rfl) rfl rfl rfl (by kernel_rfl) (fun _ => .inl ⟨rfl, rfl⟩)) ?_
  conv => whnf
  refine vIf (fun he => ?_) fun he => ?_
  ·conv => whnf
   refine zav ?_
   rw [zjd hi hφ.2 he]; rfl
  ·conv => whnf
   refine zc2 (by omega) (by omega) ?_
   conv => whnf
   exact ⟨i + 1, [], [0], ⟨⟨by omega, zgJ hi hφ.2 he⟩, Nat.sub_lt_sub_left hi (Nat.lt_succ_self i)⟩, za3⟩
 ·have hi : i = xs.length := by
   have : ¬ i < xs.length := by simpa [Sl.len] using h
   omega
  conv => whnf
  refine zav ?_
  rw [zgI (by rw [← List.take_length (l := xs), ← hi]; exact hφ.2)]; rfl
theorem zCF (hX : ∀ k ∈ X, k < w.heap.size) (xs : List (List Nat)) (x : List Nat) (q : Qd) (hq : St (SlQ zfn xs q) w X) : Ct Tryz.prog 113 [.slice q.1 xs.length q.2, .agg (ca [.key x])] X w (zbD (xs.any fun y => decide (zdI x = zdI y))) [] [] := by
 refine vFn (k0 := 1) (rs := [.tmp 4]) (svs := [.a (.s (.p (.hd 0 xs.length))), .a (.agg [.key x])]) (R0 := [.sl 0 xs.length (SlF zfn xs)]) (hnQ [q]) Tryz.ntmps113 Tryz.func113 rfl rfl rfl rfl rfl zan (by kernel_rfl) hX (fun r hr => by rcases List.mem_singleton.1 hr with rfl; exact hq) ?_
 conv => whnf
 refine zae rfl rfl rfl (by kernel_rfl) (fun h X w H => zCE H.xk xs x _ (H.fact 0 rfl)) rfl rfl rfl ?_
 conv => whnf
 refine vIf (fun he => ?_) fun he => ?_
 all_goals
  conv => whnf
  refine zav ?_
  rw [← zmu, he]; rfl
structure Tre where
 kd : Int
 ids : List Int
 ls : List (List Int)
 ps : List (List Nat)
def Tre.two (t : Tre) : Bool := t.kd == 1
def Tre.all (t : Tre) : List Nd × Int := zv0 t.two t.kd t.ids t.ls
def Tre.ok (t : Tre) : Bool := t.all.2 == 0 && (!((t.all.1.length : Int) == 0) && ((t.all.1.length : Int) == t.ps.length && !(t.ps.any fun y => decide (zdI [] = zdI y))))
def Tre.nodes (t : Tre) : List Nd × Int := if t.ok then (t.all.1, 0) else ([], 1)
def Tre.val (t : Tre) (q p r : Qd) : Value := .agg (ca [.one (.int .i64 t.kd), .one (.slice q.1 t.ids.length q.2), .one (.slice p.1 t.ls.length p.2), .one (.slice r.1 t.ps.length r.2)])
structure Tre.fits (t : Tre) : Prop where
 len : ∀ l ∈ t.ls, l.length ≤ 1099511627776
 lv : t.ls.length ≤ 1000
 ok : zh4 t.kd t.ids t.ls = true → 0 < t.ids.length → okD t.two t.ls t.ls.length (List.replicate (t.ls.length + 1) 0, [])
theorem zoj (hX : ∀ k ∈ X, k < w.heap.size) (t : Tre) (ht : t.fits) (q p r : Qd) (hq : St (SlQ zbb t.ids q) w X) (hp : St (SlQ (zgR zbb) t.ls p) w X) (hr : St (SlQ zfn t.ps r) w X) :
  Ct Tryz.prog 90 [t.val q p r] X w (.tup [.s (.p (.hd 0 t.nodes.1.length)), .s (.p (.v (.int .i64 t.nodes.2)))]) [.gone] [.sl 0 t.nodes.1.length (SlF zbS t.nodes.1)] := by
 refine vFn (k0 := 3) (rs := [.tmp 2, .tmp 3]) (svs := [.a (.agg [zfU t.kd, .one (.p (.hd 0 t.ids.length)), .one (.p (.hd 1 t.ls.length)), .one (.p (.hd 2 t.ps.length))])]) (R0 := [.sl 0 t.ids.length (SlF zbb t.ids), .sl 1 t.ls.length (SlF (zgR zbb) t.ls), .sl 2 t.ps.length (SlF zfn t.ps)]) (hnQ [q, p, r]) Tryz.ntmps90 Tryz.func90 rfl rfl rfl rfl rfl zan (by kernel_rfl) hX (fun r hr' => by rcases List.mem_cons.1 hr' with rfl | hr'; exact hq; rcases List.mem_cons.1 hr' with rfl | hr'; exact hp; rcases List.mem_singleton.1 hr' with rfl; exact hr) ?_
 conv => whnf
 refine zae rfl rfl rfl (by kernel_rfl) (fun h X w H => zy1 H.xk t.two t.kd rfl t.ids t.ls _ _ (H.fact 0 rfl) (H.fact 1 rfl) ht.len ht.lv ht.ok) rfl rfl rfl ?_
 obtain ⟨⟨ns, er⟩, e⟩ : ∃ r, t.all = r := ⟨_, rfl⟩
 have e' : zv0 t.two t.kd t.ids t.ls = (ns, er) := e
 rw [e']
 have bad : t.ok = false → t.nodes = ([], 1) := fun h => by simp [Tre.nodes, h]
 have okE : t.ok = (er == 0 && (!((ns.length : Int) == 0) && ((ns.length : Int) == t.ps.length && !(t.ps.any fun y => decide (zdI [] = zdI y))))) := by unfold Tre.ok; rw [e]
 conv => whnf
 refine vIf (fun h1 => ?_) fun h1 => ?_
 ·rw [bad (by rw [okE]; simp at h1; simp [h1])]
  conv => whnf
  exact zaZ [(0, 5)] [0] (.inr ⟨rfl, rfl, trivial⟩) trivial rfl ⟨.inr (zbj rfl), trivial⟩
 have h1 : er = 0 := by simpa using h1
 conv => whnf
 refine vIf (fun h2 => ?_) fun h2 => ?_
 ·have h2 : ((ns.length : Int) == 0) = true := h2
  rw [bad (by rw [okE, h2]; simp)]
  conv => whnf
  exact zaZ [(0, 5)] [0] (.inr ⟨rfl, rfl, trivial⟩) trivial rfl ⟨.inr (zbj rfl), trivial⟩
 have h2 : ((ns.length : Int) == 0) = false := h2
 conv => whnf
 refine vIf (fun h3 => ?_) fun h3 => ?_
 ·have h3 : ((ns.length : Int) != t.ps.length) = true := h3
  rw [bad (by rw [okE]; simp only [bne_iff_ne] at h3; simp [h3])]
  conv => whnf
  exact zaZ [(0, 5)] [0] (.inr ⟨rfl, rfl, trivial⟩) trivial rfl ⟨.inr (zbj rfl), trivial⟩
 have h3 : ((ns.length : Int) != t.ps.length) = false := h3
 have h3' : ((ns.length : Int) == t.ps.length) = true := by simpa [bne] using h3
 conv => whnf
 refine zkK rfl rfl rfl (by kernel_rfl) (fun h X w H => zCF H.xk t.ps [] _ (H.fact 3 rfl)) rfl rfl (fun h4 => ?_) fun h4 => ?_
 ·rw [bad (by rw [okE, h4]; simp)]
  conv => whnf
  exact zaZ [(0, 5)] [0] (.inr ⟨rfl, rfl, trivial⟩) trivial rfl ⟨.inr (zbj rfl), trivial⟩
 have hgood : t.nodes = (ns, 0) := by
  unfold Tre.nodes
  rw [okE, h1, h2, h3', h4, e]
  rfl
 rw [hgood]
 conv => whnf
 exact zaZ [(0, 4)] [0] (.inl rfl) trivial rfl ⟨.inl rfl, trivial⟩
theorem zj5 (hX : ∀ k ∈ X, k < w.heap.size) (t : Tre) (ht : t.fits) (q p r : Qd) (hq : St (SlQ zbb t.ids q) w X) (hp : St (SlQ (zgR zbb) t.ls p) w X) (hr : St (SlQ zfn t.ps r) w X) :
  Ct Tryz.prog 80 [t.val q p r] X w (zaD .i64 t.nodes.2) [] [] := by
 refine vFn (k0 := 3) (rs := [.tmp 2]) (svs := [.a (.agg [zfU t.kd, .one (.p (.hd 0 t.ids.length)), .one (.p (.hd 1 t.ls.length)), .one (.p (.hd 2 t.ps.length))])]) (R0 := [.sl 0 t.ids.length (SlF zbb t.ids), .sl 1 t.ls.length (SlF (zgR zbb) t.ls), .sl 2 t.ps.length (SlF zfn t.ps)]) (hnQ [q, p, r]) Tryz.ntmps80 Tryz.func80 rfl rfl rfl rfl rfl zan (by kernel_rfl) hX (fun r hr' => by rcases List.mem_cons.1 hr' with rfl | hr'; exact hq; rcases List.mem_cons.1 hr' with rfl | hr'; exact hp; rcases List.mem_singleton.1 hr' with rfl; exact hr) ?_
 conv => whnf
 refine zae rfl rfl rfl (by kernel_rfl) (fun h X w H => zoj H.xk t ht _ _ _ (H.fact 0 rfl) (H.fact 1 rfl) (H.fact 2 rfl)) rfl rfl rfl ?_
 obtain ⟨⟨ns, er⟩, e⟩ : ∃ r, t.nodes = r := ⟨_, rfl⟩
 rw [e]
 conv => whnf
 refine zav ?_
 rfl
end
end
section
open Go.RowKit
attribute [local irreducible] beL beK
theorem zy2 (W n : Nat) (hW : W ≤ 8) (hn : n < 18446744073709551616) (w : World) :
  Calls Tryz.prog 66 #[.int .i64 W, .int .u64 n] w fun e w' => e = .returned (.bool (decide (n < 256 ^ W))) ∧ w = w' := by
 have hx : ((n : Int)) ≤ 18446744073709551615 := by omega
 have c := zu3 (n : Int) (by omega) hx
 rw [Int.toNat_natCast] at c
 have C := Lib.hid c
 clear c hx hn
 go_enter Tryz.func66, Tryz.ntmps66
 go_wp2_with (go_at_call 98; fail)
 refine (C.out _).mono ?_
 rintro e w' ⟨⟨r, rfl, hr⟩, rfl⟩
 have HR := Lib.hid (hr W)
 clear hr
 go_wp2
 go_ret
 refine ⟨?_, rfl⟩
 have e1 : decide ((r : Int) ≤ 8 * (W : Int)) = decide (n < 256 ^ W) := decide_eq_decide.2 ⟨fun h => HR.out.1 (by omega), fun h => by have := HR.out.2 h; omega⟩
 rw [← e1]
 rfl
theorem zy3 (W n : Nat) (hW : W ≤ 8) (hn : n < 18446744073709551616) (g : Nat) (w : World) (hc : w.cell? ⟨g, 0, none⟩ = some (.int .i64 W)) :
  Calls Tryz.prog 65 #[.int .u64 n, .pointer (some ⟨g, 0, none⟩)] w fun e w' => e = .returned (.bool (!decide (n < 256 ^ W))) ∧ w = w' := by
 have HN := Lib.hid hn
 clear hn
 go_enter Tryz.func65, Tryz.ntmps65
 go_wp2_with (go_at_call 66; fail)
 refine (zy2 W n hW HN.out _).mono ?_
 rintro e w' ⟨rfl, rfl⟩
 go_wp2
 go_ret
 exact ⟨rfl, rfl⟩
theorem zy4 (W n : Nat) (hW : W ≤ 8) (hn : n < 18446744073709551616) (g h : Nat) (w : World) (hc : w.cell? ⟨g, 0, none⟩ = some (.int .i64 W)) (hx : w.cell? ⟨h, 0, none⟩ = some (.int .u64 n)) :
  Calls Tryz.prog 97 #[.slice (some ⟨h, 0, none⟩) 1 1, .func (.func 65) #[] #[.pointer (some ⟨g, 0, none⟩)]] w fun e w' => e = .returned (.int .i64 (if n < 256 ^ W then -1 else 0)) ∧ w = w' := by
 have HN := Lib.hid hn
 clear hn
 go_enter Tryz.func97, Tryz.ntmps97
 go_wp2
 go_loopg [8] 1 (fun k i wr => (k = 1 ∧ i = .int .i64 0 ∨ k = 0 ∧ i = .int .i64 1 ∧ n < 256 ^ W) ∧ w = wr)
 case atStart => exact ⟨.inl ⟨rfl, rfl⟩, rfl⟩
 case round =>
  obtain ⟨hr, rfl⟩ := hrel
  rcases hr with ⟨rfl, rfl⟩ | ⟨rfl, rfl, hlt⟩
  ·go_wp2_with (go_at_call 65; fail)
   refine (zy3 W n hW HN.out g _ hc).mono ?_
   rintro e w' ⟨rfl, rfl⟩
   by_cases hf : n < 256 ^ W
   ·rw [decide_eq_true hf]
    have HF := Lib.hid hf
    clear hf
    go_wp2
    go_roundg 0
    case measure => omega
    case rel => exact ⟨.inr ⟨rfl, rfl, HF.out⟩, rfl⟩
   ·rw [decide_eq_false hf]
    have HF := Lib.hid hf
    clear hf
    go_wp2
    go_ret
    refine ⟨?_, rfl⟩
    first | rfl | (rw [if_neg HF.out]; rfl)
  ·have HF := Lib.hid hlt
   clear hlt
   go_wp2
   go_ret
   refine ⟨?_, rfl⟩
   first | rfl | (rw [if_pos HF.out]; rfl)
theorem zpG (W n : Nat) (hW : W ≤ 8) (hn : n < 18446744073709551616) (g h : Nat) (w : World) (hc : w.cell? ⟨g, 0, none⟩ = some (.int .i64 W)) (hx : w.cell? ⟨h, 0, none⟩ = some (.int .u64 n)) :
  Calls Tryz.prog 64 #[.slice (some ⟨h, 0, none⟩) 1 1, .func (.func 65) #[] #[.pointer (some ⟨g, 0, none⟩)]] w fun e w' => e = .returned (.bool (!decide (n < 256 ^ W))) ∧ w = w' := by
 have c := Lib.hid (zy4 W n hW hn g h w hc hx)
 by_cases hf : n < 256 ^ W
 ·rw [decide_eq_true hf]
  rw [if_pos hf] at c
  clear hf hn
  go_enter Tryz.func64, Tryz.ntmps64
  go_wp2_with (go_at_call 97; fail)
  refine c.out.mono ?_
  rintro e w' ⟨rfl, rfl⟩
  go_wp2
  go_ret
  exact ⟨rfl, rfl⟩
 ·rw [decide_eq_false hf]
  rw [if_neg hf] at c
  clear hf hn
  go_enter Tryz.func64, Tryz.ntmps64
  go_wp2_with (go_at_call 97; fail)
  refine c.out.mono ?_
  rintro e w' ⟨rfl, rfl⟩
  go_wp2
  go_ret
  exact ⟨rfl, rfl⟩
end
section
open Go.RowKit
attribute [local irreducible] beL beK
theorem zCG (A : Option Addr) (n0 c : Nat) (l0 : List Nat) (hl0 : n0 ≤ 100000000000) (W n : Nat) (h1 : 1 ≤ W) (h8 : W ≤ 8) (hn : n < 18446744073709551616) (hf : n < 256 ^ W) (h : Nat) (w : World) (hh : h < w.heap.size) (hx : w.cell? ⟨h, 0, none⟩ = some (.int .u64 n)) (ht : Txt w w.heap.size A n0 c l0) :
  Calls Tryz.prog 40 #[.slice A n0 c, .int .i64 W, .slice (some ⟨h, 0, none⟩) 1 1] w (fun e w' => ∃ v, e = .returned (.tuple #[v, .int .i64 0]) ∧ Own w' w.heap.size 5 v (l0 ++ beL W n) ∧ Below w.heap.size w w') := by
 have HN := Lib.hid hn
 have HF := Lib.hid hf
 clear hn hf
 go_enter Tryz.func40, Tryz.ntmps40
 have hb : Below w.heap.size w (w.alloc (.cells #[.int .i64 W] 3)) := (Below.refl _ _).alloc (jV _) _
 have c0 := zu0 w (.int .i64 (W : Int)) 3
 have cx := zd1 hb hh hx
 have ht2 := ((ht.below hb).more (B' := (w.alloc (.cells #[.int .i64 W] 3)).heap.size) hb.size)
 have hln := ht.len
 go_wp2_with (go_at_call 64; fail)
 refine (zpG W n h8 HN.out w.heap.size h _ c0 cx).mono ?_
 rintro e w1 ⟨rfl, hw1⟩
 subst hw1
 rw [decide_eq_true HF.out]
 go_wp2_with (go_at_call 67; fail)
 refine (zu1 A n0 c l0 _ ht2 (by omega)).mono ?_
 rintro e w2 ⟨v2, rfl, hown, b2⟩
 rw [World.size_alloc] at hown
 have hs := b2.size
 rw [World.size_alloc] at hs b2
 have hB := hb.trans (b2.mono (by omega))
 replace c0 := zd1 b2 (by omega) c0
 replace cx := zd1 b2 (by omega) cx
 clear b2 hb
 go_wp2
 go_loopg [8, 26] 1 (fun k v i wr => (k = 1 ∧ i = .int .i64 0 ∧ Own wr (w.heap.size + 1) 5 v l0 ∨ k = 0 ∧ i = .int .i64 1 ∧ Own wr (w.heap.size + 1) 5 v (l0 ++ beL W n)) ∧ wr.cell? ⟨w.heap.size, 0, none⟩ = some (.int .i64 W) ∧ wr.cell? ⟨h, 0, none⟩ = some (.int .u64 n) ∧ w.heap.size + 1 ≤ wr.heap.size ∧ Below w.heap.size w wr)
 case atStart => exact ⟨.inl ⟨rfl, rfl, hown⟩, c0, cx, hs, hB⟩
 case round =>
  clear c0 cx hs hB hown
  obtain ⟨hr, c0, cx, hs, hB⟩ := hrel
  rcases hr with ⟨rfl, rfl, ho⟩ | ⟨rfl, rfl, ho⟩
  ·have HO := Lib.hid ho
   clear ho
   go_wp2_with (go_at_call 68; fail)
   refine (zu2 _ l0 (w.heap.size + 1) W n h8 HN.out (by omega) _ HO.out hs).mono ?_
   rintro e w3 ⟨⟨v3, rfl, ho3⟩, b3⟩
   have HO3 := Lib.hid ho3
   replace c0 := zd1 b3 (by omega) c0
   replace cx := zd1 b3 (by omega) cx
   have hs3 := jU hs b3.size
   have hB3 := hB.trans (b3.mono (by omega))
   clear b3 hB hs HO ho3
   go_wp2
   go_roundg 0
   case measure => omega
   case rel => exact ⟨.inr ⟨rfl, rfl, HO3.out⟩, c0, cx, hs3, hB3⟩
  ·have HO := Lib.hid ho
   clear ho
   go_wp2
   go_ret2
   exact ⟨_, rfl, HO.out.mono (by omega), hB⟩
end
section
open Go.RowKit
def nd (o : Oper) : Bool := match o.op with | .defer _ => false | _ => true
theorem zGo {o : Oper} (h : nd o = true) : ∀ c, o.op ≠ .defer c := fun c e => by unfold nd at h; rw [e] at h; cases h
theorem zv1 {r : Option Nat} {ρ : Operand → Value} {o : Oper} (h : nd o = true) : Oper.semAt r ρ o = execOp ρ o := by
 cases r with
 | none => rfl
 | some l => exact Oper.semAt_some l _ _ (zGo h)
abbrev dfr (ds : List Deferred) (a : Act) : Act := { a with defers := ds }
section
variable {P : Program} {r : Option Nat} {n : Nat} {ds : List Deferred}
abbrev zbG (r : Option Nat) : Fence := { Fence.wide with round := r }
theorem zje (a : Act) (d : Option Tmp) (v : Value) : (dfr ds a).put d v = dfr ds (a.put d v) := by cases d <;> rfl
theorem zrL (a : Act) (x : Operand) : (dfr ds a).eval x = a.eval x := by cases x <;> rfl
theorem zGp {o : Oper} {a : Act} {w : World} {K K' : Act → World → Prop} {Q Q' : Exit → Act → World → Prop} (hd : nd o = true) (h : o.wp P a w K Q) (hK : ∀ a w, K a w → a.defers = [] ∧ K' (dfr ds a) w) (hQ : ∀ e a w, Q e a w → Q' e (dfr ds a) w) : o.wpIn (zbG r) n P (dfr ds a) w K' Q' := by
 refine ⟨fun _ _ => trivial, ?_⟩
 rw [zv1 hd, show (dfr ds a).eval = a.eval from funext (zrL a)]
 unfold Oper.wp at h
 have hL : LetsOut Q → LetsOut Q' := fun ⟨a, w, hq⟩ => ⟨_, w, hQ _ _ _ hq⟩
 revert h
 generalize (execOp a.eval o).run P w = res
 intro h
 have hdep : (zbG r).depth.isSome = true → 1 ≤ n := fun e => by cases e
 cases res with
 | ok x w' =>
  cases x with
  | value v => show K' _ _; rw [zje]; exact (hK _ _ h).2
  | skip => show K' _ _; rw [zje]; exact (hK _ _ h).2
  | enter f args =>
   refine ⟨hdep, trivial, fun cs hr => ?_⟩
   obtain ⟨e, w2, fr, hR, hs, hx⟩ := (callsIn_wide (n := n - 1)).2 h |>.2 cs (room_wide _)
   refine ⟨e, w2, fr, ?_, hs, hx⟩
   cases e with
   | returned v => show K' _ _; rw [zje]; exact (hK _ _ hR).2
   | panicked c => exact hQ _ _ _ hR
   | outgrown => exact hL hR
  | row row args =>
   refine ⟨hdep, fun c cs hr => ?_⟩
   obtain ⟨v, w2, hR, hs⟩ := h c cs
   refine ⟨v, w2, ?_, stepsIn_wide.2 hs⟩
   show K' _ _
   rw [zje]
   exact (hK _ _ hR).2
  | defer d =>
   have h1 := (hK _ _ h).1
   have : ({ a with defers := d :: a.defers }.put o.dst undef).defers = d :: a.defers := by cases o.dst <;> rfl
   rw [this] at h1
   cases h1
  | round l f tmps assign body => exact h.elim
  | recover => exact h.elim
  | spawn d => exact h.elim
  | _ => exact h.elim
 | halt x w' =>
  cases x with
  | panic v => exact hQ _ _ _ h
  | _ => exact h.elim
variable {T : Tab} {N : Nat} {X G : List Nat} {w0 : World} {Q : Exit → Act → World → Prop}
theorem zh5 (hT : zbz P T) {K : KS} {ops : Array Oper} {os2 : List Oper} : ∀ {os : List Oper} {k : Nat} {l : LE} {m : MB} {R : List SF} {h : Hn} {a : Act} {w : World}, os.all nd = true → ztc P T N ops os k l m R K → VSt N X G w0 k l m R h a w → (∀ k' l' m' R' h' a' w', K k' l' m' R' → VSt N X G w0 k' l' m' R' h' a' w' → wpListIn (zbG r) n P ops Q os2 (dfr ds a') w') → wpListIn (zbG r) n P ops Q (os ++ os2) (dfr ds a) w
 | [], k, l, m, R, h, a, w, _, hv, H, hK => hK k l m R h a w hv H
 | o :: os, k, l, m, R, h, a, w, hnd, hv, H, hK => by
  have hnd2 : nd o = true ∧ os.all nd = true := by simpa using hnd
  unfold ztc at hv
  split at hv
  ·rename_i b hg
   have hw := zdj H.env (zm9 (h := h) hg)
   show wpListIn (zbG r) n P ops Q (o :: (os ++ os2)) (dfr ds a) w
   unfold wpListIn
   cases b with
   | true =>
    simp only [cond_true] at hv
    rw [if_pos hw]
    exact zGp (K := fun a' w' => ∃ k' l' m' R' h', ztc P T N ops os k' l' m' R' K ∧ VSt N X G w0 k' l' m' R' h' a' w') (Q := fun _ _ _ => False) hnd2.1 (zna hT hv H fun k' l' m' R' h' a' w' hk HV => ⟨_, _, _, _, _, hk, HV⟩) (fun a' w' ⟨k', l', m', R', h', h1, h2⟩ => ⟨h2.env.defers, zh5 hT hnd2.2 h1 h2 hK⟩) fun _ _ _ hq => hq.elim
   | false =>
    simp only [cond_false] at hv
    rw [if_neg (by rw [hw]; decide)]
    obtain ⟨l', h1, h2⟩ := H.put (sv := zeu undef) rfl hv
    refine ⟨fun _ _ => trivial, ?_⟩
    rw [zje]
    exact zh5 hT hnd2.2 h1 h2 hK
  ·exact hv.elim
theorem zCH (hT : zbz P T) {K : KS} {ops : Array Oper} {os : List Oper} {k : Nat} {l : LE} {m : MB} {R : List SF} {h : Hn} {a : Act} {w : World} (hn : os.all nd = true) (hv : ztc P T N ops os k l m R K) (H : VSt N X G w0 k l m R h a w) (hK : ∀ k' l' m' R' h' a' w', K k' l' m' R' → VSt N X G w0 k' l' m' R' h' a' w' → Q .normal (dfr ds a') w') : wpListIn (zbG r) n P ops Q os (dfr ds a) w := by
 have := zh5 (r := r) (n := n) (ds := ds) (os2 := []) hT hn hv H hK
 rwa [List.append_nil] at this
def zoF : Code → Bool
 | .skip => true
 | .region _ ops dr => bif dr then false else ops.toList.all nd
 | .seq x y => bif zoF x then zoF y else false
 | .cond _ x y => bif zoF x then zoF y else false
 | .block _ c => zoF c
 | .exit _ => true
 | .ret => true
 | _ => false
theorem zmv (hT : zbz P T) : ∀ (c : Code) {k : Nat} {l : LE} {m : MB} {R : List SF} {Kn : KS} {Kx : Nat → KS} {Kr : KS} {Q : Exit → Act → World → Prop} {h : Hn} {a : Act} {w : World}, zoF c = true → vC P T N c k l m R Kn Kx Kr → VSt N X G w0 k l m R h a w →
  (∀ k l m R h a w, Kn k l m R → VSt N X G w0 k l m R h a w → Q .normal (dfr ds a) w) → (∀ j k l m R h a w, Kx j k l m R → VSt N X G w0 k l m R h a w → Q (.exit j) (dfr ds a) w) → (∀ k l m R h a w, Kr k l m R → VSt N X G w0 k l m R h a w → Q .ret (dfr ds a) w) → c.wpIn (zbG r) n P Q (dfr ds a) w
 | .skip, k, l, m, R, Kn, Kx, Kr, Q, h, a, w, _, hv, H, hn, hx, hr => wpIn_skip (hn _ _ _ _ _ _ _ hv H)
 | .region id ops dr, k, l, m, R, Kn, Kx, Kr, Q, h, a, w, hs, hv, H, hn, hx, hr => by
  unfold vC at hv
  unfold zoF at hs
  obtain ⟨lo⟩ := ops
  cases dr with
  | true => cases hs
  | false => exact wpIn_region_lit (zCH hT hs hv H hn)
 | .seq x y, k, l, m, R, Kn, Kx, Kr, Q, h, a, w, hs, hv, H, hn, hx, hr => by
  unfold zoF at hs
  have hs2 := zaa hs
  have direct : vC P T N x k l m R (fun k l m R => vC P T N y k l m R Kn Kx Kr) Kx Kr → (Code.seq x y).wpIn (zbG r) n P Q (dfr ds a) w := fun hv =>
   wpIn_seq (zmv hT x hs2.1 hv H (fun k l m R h a w hk HV => zmv hT y hs2.2 hk HV hn hx hr) (fun j k l m R h a w hk HV => hx j k l m R h a w hk HV) fun k l m R h a w hk HV => hr k l m R h a w hk HV)
  unfold vC at hv
  cases hb : Nat.ble 2 (nrm x) with
  | false => rw [hb] at hv; exact direct hv
  | true =>
   rw [hb] at hv
   rcases hv with hv | ⟨γ, I, φ, hv, hg⟩
   ·exact direct hv
   ·exact wpIn_seq (zmv hT x hs2.1 hv H (fun k' l' m' R' h' a' w' hk HV => by
     obtain ⟨g, l2, h2, h3, _, h5, h4⟩ := HV.gen hk hg
     exact zmv hT y hs2.2 h5 h4 hn hx hr) (fun j k l m R h a w hk HV => hx j k l m R h a w hk HV) fun k l m R h a w hk HV => hr k l m R h a w hk HV)
 | .cond c x y, k, l, m, R, Kn, Kx, Kr, Q, h, a, w, hs, hv, H, hn, hx, hr => by
  unfold zoF at hs
  have hs2 := zaa hs
  unfold vC at hv
  split at hv
  ·rename_i b hb
   have hc := H.env.ev (zag (h := h) (zex hb))
   rw [← zrL (ds := ds)] at hc
   cases b with
   | true => exact wpIn_cond_true hc (zmv hT x hs2.1 hv H hn hx hr)
   | false => exact wpIn_cond_false hc (zmv hT y hs2.2 hv H hn hx hr)
  ·exact hv.elim
 | .block id c, k, l, m, R, Kn, Kx, Kr, Q, h, a, w, hs, hv, H, hn, hx, hr => wpIn_block (zmv hT c hs hv H (fun k l m R h a w hk HV => hn k l m R h a w hk HV) (fun j k l m R h a w hk HV => by
   show if j = id then _ else _
   by_cases e : j = id
   ·subst e
    rw [if_pos rfl]
    rw [Nat.beq_refl] at hk
    exact hn k l m R h a w hk HV
   ·rw [if_neg e]
    have hb : Nat.beq j id = false := by cases hb : Nat.beq j id with | false => rfl | true => exact absurd (Nat.eq_of_beq_eq_true hb) e
    rw [hb] at hk
    exact hx j k l m R h a w hk HV) fun k l m R h a w hk HV => hr k l m R h a w hk HV)
 | .exit id, k, l, m, R, Kn, Kx, Kr, Q, h, a, w, _, hv, H, hn, hx, hr => wpIn_exit (hx _ _ _ _ _ _ _ _ hv H)
 | .ret, k, l, m, R, Kn, Kx, Kr, Q, h, a, w, _, hv, H, hn, hx, hr => wpIn_ret (hr _ _ _ _ _ _ _ hv H)
 | .loop _, _, _, _, _, _, _, _, _, _, _, _, hs, _, _, _, _, _ => by cases hs
 | .rangeFunc _ _ _ _, _, _, _, _, _, _, _, _, _, _, _, hs, _, _, _, _, _ => by cases hs
 | .scope _, _, _, _, _, _, _, _, _, _, _, _, hs, _, _, _, _, _ => by cases hs
 | .label _, _, _, _, _, _, _, _, _, _, _, _, hs, _, _, _, _, _ => by cases hs
 | .goto _, _, _, _, _, _, _, _, _, _, _, _, hs, _, _, _, _, _ => by cases hs
 | .refuse _, _, _, _, _, _, _, _, _, _, _, _, hs, _, _, _, _, _ => by cases hs
theorem VSt.anew {k : Nat} {l : LE} {m : MB} {R R' : List SF} {h : Hn} {a : Act} {w : World} {L : Nat} {o : Obj} (H : VSt N [] G w0 k l m R h a w) (hL : L ∉ zac (zaf h [] m)) (hR : ∀ r ∈ zaX h R', ∀ w, r w) (hw : wfR (lt_ k) R' = true) : VSt N [] (zac (zaf h [] m)) (w.putObj L o) k l m R' h a (w.putObj L o) := by
 refine ⟨H.env, ⟨fun _ hk => (by cases hk), fun q hq => ?_, H.sp.apart, fun _ _ hk => (by cases hk), fun r hr w' _ => hR r hr w'⟩, Frm.refl _ _, fun j hj => .inl hj, H.wl, H.wm, hw⟩
 exact zbv (H.sp.holds q hq) fun j hj => World.putObj_heap_other fun e => hL (by first | (rw [e]; exact zbL.2 ⟨q, hq, hj⟩) | (rw [← e]; exact zbL.2 ⟨q, hq, hj⟩))
theorem zhe {a : Act} (h : a.defers = []) : dfr [] a = a := by cases a; subst h; rfl
theorem zfy (hT : zbz P T) (c : Code) {k : Nat} {l : LE} {m : MB} {R : List SF} {Kn : KS} {Kx : Nat → KS} {Kr : KS} {Q : Exit → Act → World → Prop} {h : Hn} {a : Act} {w : World} (hs : zoF c = true) (hv : vC P T N c k l m R Kn Kx Kr) (H : VSt N X G w0 k l m R h a w)
  (hn : ∀ k l m R h a w, Kn k l m R → VSt N X G w0 k l m R h a w → Q .normal a w) (hx : ∀ j k l m R h a w, Kx j k l m R → VSt N X G w0 k l m R h a w → Q (.exit j) a w) (hr : ∀ k l m R h a w, Kr k l m R → VSt N X G w0 k l m R h a w → Q .ret a w) : c.wpIn (zbG r) n P Q a w := by
 have := zmv (r := r) (n := n) (ds := []) (Q := Q) hT c hs hv H (fun k l m R h a w hk HV => by rw [zhe HV.env.defers]; exact hn _ _ _ _ _ _ _ hk HV) (fun j k l m R h a w hk HV => by rw [zhe HV.env.defers]; exact hx _ _ _ _ _ _ _ _ hk HV) fun k l m R h a w hk HV => by rw [zhe HV.env.defers]; exact hr _ _ _ _ _ _ _ hk HV
 rwa [zhe H.env.defers] at this
theorem zy5 (hT : zbz P T) {K : KS} {ops : Array Oper} {os os2 : List Oper} {k : Nat} {l : LE} {m : MB} {R : List SF} {h : Hn} {a : Act} {w : World} (hn : os.all nd = true) (hv : ztc P T N ops os k l m R K) (H : VSt N X G w0 k l m R h a w) (hK : ∀ k' l' m' R' h' a' w', K k' l' m' R' → VSt N X G w0 k' l' m' R' h' a' w' → wpListIn (zbG r) n P ops Q os2 a' w') : wpListIn (zbG r) n P ops Q (os ++ os2) a w := by
 have := zh5 (r := r) (n := n) (ds := []) (Q := Q) (os2 := os2) hT hn hv H fun k l m R h a w hk HV => by rw [zhe HV.env.defers]; exact hK _ _ _ _ _ _ _ hk HV
 rwa [zhe H.env.defers] at this
theorem zpH {f : FuncId} {fn : Func} {c : Code} {args : Array Value} {w : World} {R : Ending → World → Prop} {m : Nat} (hn : fn.ntmps = N) (hf : P.funcs[f]? = some fn) (hb : fn.body = some c) (hs : Nat.ble args.size N = true) (h : ∀ a, Env a N (zkj 0 args.toList) → c.wpIn (zbG none) m P (bodyPost P fn R) a w) : CallsIn (zbG none) m P f args w R :=
 callsIn_of_wp hf hb trivial (by subst hn; exact h _ (Env.start _ hs rfl))
theorem zok {f : FuncId} {fn : Func} {c : Code} {args : Array Value} {w : World} {R : Ending → World → Prop} {m : Nat} (hn : fn.ntmps = N) (hf : P.funcs[f]? = some fn) (hb : fn.body = some c) (hs : Nat.ble args.size N = true) (h : ∀ a, Env a N (zkj 0 args.toList) → c.wpIn (zbG none) m P (bodyPostM (zbG none) m P fn R) a w) : CallsIn (zbG none) m P f args w R :=
 callsIn_of_wp_marks hf hb trivial (by subst hn; exact h _ (Env.start _ hs rfl))
theorem zpI (i : Nat) (hT : zbz P T) {K : KS} {ops : Array Oper} {os : List Oper} {k : Nat} {l : LE} {m : MB} {R : List SF} {h : Hn} {a : Act} {w : World} (H : VSt N X G w0 k l m R h a w) (hn : (os.take i).all nd = true) (hv : ztc P T N ops (os.take i) k l m R K) (hK : ∀ k' l' m' R' h' a' w', K k' l' m' R' → VSt N X G w0 k' l' m' R' h' a' w' → wpListIn (zbG r) n P ops Q (os.drop i) a' w') : wpListIn (zbG r) n P ops Q os a w := by
 have := zy5 hT hn hv H hK
 rwa [List.take_append_drop] at this
abbrev noX : Nat → KS := fun _ _ _ _ _ => False
theorem zEW (hT : zbz P T) (A B C D : Code) {Rg Tl : Code} {k : Nat} {l : LE} {m : MB} {R : List SF} {Kn Kr : KS} {h : Hn} {a : Act} {w : World} (hA : zoF A = true) (hB : zoF B = true) (hC : zoF C = true) (hD : zoF D = true)
  (hv : vC P T N A k l m R (fun k l m R => vC P T N B k l m R (fun k l m R => vC P T N C k l m R (fun k l m R => vC P T N D k l m R Kn noX Kr) noX Kr) noX Kr) noX Kr) (H : VSt N X G w0 k l m R h a w)
  (hn : ∀ k l m R h a w, Kn k l m R → VSt N X G w0 k l m R h a w → Rg.wpIn (zbG r) n P (Exit.then (Tl.wpIn (zbG r) n P Q) Q) a w) (hr : ∀ k l m R h a w, Kr k l m R → VSt N X G w0 k l m R h a w → Q .ret a w) : (A.seq (B.seq (C.seq ((D.seq Rg).seq Tl)))).wpIn (zbG r) n P Q a w :=
 wpIn_seq (zfy hT A hA hv H (fun _ _ _ _ _ _ _ hv H => wpIn_seq (zfy hT B hB hv H (fun _ _ _ _ _ _ _ hv H => wpIn_seq (zfy hT C hC hv H (fun _ _ _ _ _ _ _ hv H => wpIn_seq (wpIn_seq (zfy hT D hD hv H hn (fun _ _ _ _ _ _ _ _ hk _ => hk.elim) hr))) (fun _ _ _ _ _ _ _ _ hk _ => hk.elim) hr)) (fun _ _ _ _ _ _ _ _ hk _ => hk.elim) hr)) (fun _ _ _ _ _ _ _ _ hk _ => hk.elim) hr)
end
end
section
open Go.RowKit
structure Kept (n : Nat) (A B : World) : Prop where
 os : B.os = A.os
 tape : B.tape = A.tape
 output : B.output = A.output
 size : A.heap.size ≤ B.heap.size
 block : ∀ k, k < n → B.heap[k]? = A.heap[k]?
theorem Kept.refl (n : Nat) (A : World) : Kept n A A := ⟨rfl, rfl, rfl, jV _, fun _ _ => rfl⟩
theorem Kept.trans {n : Nat} {A B C : World} (h : Kept n A B) (k : Kept n B C) : Kept n A C := ⟨k.os.trans h.os, k.tape.trans h.tape, k.output.trans h.output, jU h.size k.size, fun i hi => (k.block i hi).trans (h.block i hi)⟩
theorem Kept.mono {n m : Nat} {A B : World} (h : Kept n A B) (hm : m ≤ n) : Kept m A B := ⟨h.os, h.tape, h.output, h.size, fun i hi => h.block i (jT hi hm)⟩
theorem Kept.put {n l : Nat} {A : World} {o : Obj} (hl : n ≤ l) : Kept n A (A.putObj l o) := ⟨rfl, rfl, rfl, by simp [World.putObj], fun i hi => World.putObj_heap_other (by omega)⟩
theorem Kept.alloc {n : Nat} {A : World} {o : Obj} (hn : n ≤ A.heap.size) : Kept n A (A.alloc o) := ⟨rfl, rfl, rfl, by rw [World.size_alloc]; omega, fun i hi => by
 show (A.heap.push o)[i]? = _
 rw [Array.getElem?_push_lt (by omega)]
 exact (Array.getElem?_eq_getElem (by omega)).symm⟩
def zAt (I : World → Prop) (Ix : Code → World → Prop) (D l : Nat) (A : World) : Exit → Act → World → Prop
 | .normal, _, B => I B ∧ B.heap[l]? = A.heap[l]? ∧ B.heap[D]? = A.heap[D]?
 | .ret, _, B => Ix .ret B ∧ B.heap[l]? = A.heap[l]? ∧ B.heap[D]? = A.heap[D]?
 | _, _, _ => False
abbrev zhf (a : Act) (D : Nat) : Act := { a with defers := { target := .collected D, args := #[] } :: a.defers }
theorem zv2 {P : Program} {n : Nat} {g : Operand} {ps : Array Tmp} {assign body : Code} {Q : Exit → Act → World → Prop} {a : Act} {w : World} {gf : Nat} {lb : Array Value}
  (hg : a.eval g = .func (.func gf) #[] lb) (eg : ∀ args w, (callFunc gf args).run P w = .ok (.enter gf args) w)
  {N : Nat} {encs : Nat → Array Value} (hps : ∀ i, (encs i).size = ps.size) (I : Nat → World → Prop) (Ix : Code → World → Prop)
  (hI : ∀ i A B, Kept w.heap.size A B → I i A → I i B) (hIx : ∀ c A B, Kept w.heap.size A B → Ix c A → Ix c B) (h0 : I 0 w)
  (hseq : ∀ (l : Nat) (J : Nat → World → Prop) (Jx : World → Prop) (W : World), (∀ i A, J i A → I i A) → (∀ i A B, Kept A.heap.size A B → J i A → J i B) → (∀ A B, Kept A.heap.size A B → Jx A → Jx B) →
   (∀ i A, i < N → J i A → YieldAt (zbG none) (n - 1 - 1) P l (encs i) A fun e B => (e = .returned (.bool true) ∧ J (i + 1) B) ∨ (e = .returned (.bool false) ∧ Jx B)) → J 0 W →
   CallsIn (zbG none) (n - 1) P gf (#[.func (.yield l) #[] #[]] ++ lb) W fun e B => (∃ v, e = .returned v) ∧ (J N B ∨ Jx B))
  (hround : ∀ (i : Nat) (A : World), i < N → I i A → w.heap.size + 2 ≤ A.heap.size →
   assign.wpIn (zbG (some (w.heap.size + 1))) (n - 1 - 1) P (Exit.then (fun a1 A1 => (A1.heap[w.heap.size + 1]? = A.heap[w.heap.size + 1]? ∧ A1.heap[w.heap.size]? = A.heap[w.heap.size]?) ∧
    ∀ o, body.wpIn (zbG (some (w.heap.size + 1))) (n - 1 - 1) P (zAt (I (i + 1)) Ix w.heap.size (w.heap.size + 1) (A1.putObj (w.heap.size + 1) o)) a1 (A1.putObj (w.heap.size + 1) o)) (fun _ _ _ => False))
    { tmps := (ps.zip (encs i)).foldl (fun t (p, v) => t.setIfInBounds p v) a.tmps, defers := [] } A)
  (hdone : ∀ W, I N W → W.heap[w.heap.size]? = some (.deferred (some [])) → w.heap.size < W.heap.size → Q .normal (zhf a w.heap.size) W)
  (hstop : ∀ c W, Ix c W → W.heap[w.heap.size]? = some (.deferred (some [])) → c.wpIn (zbG none) n P Q (zhf a w.heap.size) W) :
  (Code.rangeFunc g ps assign body).wpIn (zbG none) n P Q a w := by
 refine wpIn_rangeFunc ?_
 intro fn hfn
 obtain ⟨rec, hrec⟩ : ∃ rec : LoopState → Option Code → Loop, rec = fun st pe => { state := st, pending := pe, fn, tmps := a.tmps, params := ps, assign, body, defers := w.heap.size } := ⟨_, rfl⟩
 obtain ⟨W1, hW1⟩ : ∃ W1, (w.alloc (.deferred (some []))).alloc (.loop (rec .ready none)) = W1 := ⟨_, rfl⟩
 have hL1 : W1.heap[w.heap.size + 1]? = some (.loop (rec .ready none)) := by
  rw [← hW1]; have := World.alloc_heap_new (w.alloc (.deferred (some []))) (.loop (rec .ready none)); rwa [World.size_alloc] at this
 have hK1 : W1.heap[w.heap.size]? = some (.deferred (some [])) := by
  rw [← hW1]; exact (Below.heap_alloc _ _ _ (by simp)).trans (World.alloc_heap_new w _)
 have hk1 : Kept w.heap.size w W1 := by
  rw [← hW1]; exact (Kept.alloc (jV _)).trans (Kept.alloc (by simp))
 have hI1 : I 0 W1 := hI _ _ _ hk1 h0
 refine ⟨w.heap.size + 1, [{ target := .collected w.heap.size, args := #[] }], W1, { target := .fn (.func gf) lb, args := #[.func (.yield (w.heap.size + 1)) #[] #[]] }, W1, gf,
  #[.func (.yield (w.heap.size + 1)) #[] #[]] ++ lb, W1, ?_, ?_, ?_, ?_, fun e => (by cases e), ?_⟩
 ·rw [← hW1, hrec]; exact run_enterLoop_outer _ _ _ _ _
 ·simp only [resolve, hg]
  simp [go_sem]
 ·intro f' hf'; trivial
 ·simp [invoke, go_sem, eg]
 ·refine (hseq (w.heap.size + 1)
   (fun i W => I i W ∧ W.heap[w.heap.size + 1]? = some (.loop (rec .ready none)) ∧ W.heap[w.heap.size]? = some (.deferred (some [])) ∧ w.heap.size + 2 ≤ W.heap.size)
   (fun W => ∃ c, Ix c W ∧ W.heap[w.heap.size + 1]? = some (.loop (rec .done (some c))) ∧ W.heap[w.heap.size]? = some (.deferred (some [])) ∧ w.heap.size + 2 ≤ W.heap.size)
   W1 (fun i A h => h.1) (fun i A B hk ⟨h1, h2, h3, h4⟩ => ⟨hI _ _ _ (hk.mono (by omega)) h1, (hk.block _ (by omega)).trans h2, (hk.block _ (by omega)).trans h3, jU h4 hk.size⟩)
   (fun A B hk ⟨c, h1, h2, h3, h4⟩ => ⟨c, hIx _ _ _ (hk.mono (by omega)) h1, (hk.block _ (by omega)).trans h2, (hk.block _ (by omega)).trans h3, jU h4 hk.size⟩)
   ?_ ⟨hI1, hL1, hK1, by rw [← hW1]; simp⟩).mono ?_
  ·rintro i W hiN ⟨hi, hl, hk, hsz⟩
   have hy := run_yield (P := P) (args := encs i) hl (by rw [hrec]; exact hps i)
   rw [hrec] at hy
   refine ⟨fn, _, assign, body, hy, roundIn_of_wpIn hfn (wpIn_mono (hround i W hiN hi hsz) ?_)⟩
   rintro e a1 A1 hq
   cases e with
   | normal =>
    obtain ⟨⟨hl1, hk1⟩, hb⟩ := hq
    have hlA := hl1.trans hl
    have hlt : w.heap.size + 1 < A1.heap.size := (Array.getElem?_eq_some_iff.1 hlA).1
    refine ⟨_, run_beginRound hlA (by rw [hrec]), ?_⟩
    have hl2 : (A1.putObj (w.heap.size + 1) (.loop { rec .ready none with state := .busy })).heap[w.heap.size + 1]? = some (.loop { rec .ready none with state := .busy }) := World.putObj_heap_same hlt
    have hk2 : (A1.putObj (w.heap.size + 1) (.loop { rec .ready none with state := .busy })).heap[w.heap.size]? = some (.deferred (some [])) := (World.putObj_heap_other (by omega)).trans (hk1.trans hk)
    refine wpIn_mono (hb _) ?_
    rintro e a3 W3 hp
    have fin : ∀ (jump : Option Code), W3.heap[w.heap.size + 1]? = some (.loop { rec .ready none with state := .busy }) → W3.heap[w.heap.size]? = some (.deferred (some [])) →
      (Instr.endRound (w.heap.size + 1) jump).run P W3 = .ok (.bool jump.isNone) (W3.putObj (w.heap.size + 1) (.loop (rec (if jump.isNone then .ready else .done) jump))) ∧
      (W3.putObj (w.heap.size + 1) (.loop (rec (if jump.isNone then .ready else .done) jump))).heap[w.heap.size + 1]? = some (.loop (rec (if jump.isNone then .ready else .done) jump)) ∧
      (W3.putObj (w.heap.size + 1) (.loop (rec (if jump.isNone then .ready else .done) jump))).heap[w.heap.size]? = some (.deferred (some [])) ∧ w.heap.size + 2 ≤ (W3.putObj (w.heap.size + 1) (.loop (rec (if jump.isNone then .ready else .done) jump))).heap.size := fun jump hl3 hk3 => by
     have := run_endRound (P := P) jump hl3
     have hlt3 := (Array.getElem?_eq_some_iff.1 hl3).1
     rw [hrec] at this ⊢
     exact ⟨this, World.putObj_heap_same hlt3, (World.putObj_heap_other (by omega)).trans hk3, by simp [World.putObj]; omega⟩
    cases e with
    | normal =>
     obtain ⟨hi3, hl3, hk3⟩ := hp
     obtain ⟨hr, h4, h5, h6⟩ := fin none (hl3.trans hl2) (hk3.trans hk2)
     exact ⟨_, _, hr, .inl ⟨rfl, hI _ _ _ (Kept.put (by omega)) hi3, h4, h5, h6⟩⟩
    | ret =>
     obtain ⟨hi3, hl3, hk3⟩ := hp
     obtain ⟨hr, h4, h5, h6⟩ := fin (some .ret) (hl3.trans hl2) (hk3.trans hk2)
     exact ⟨_, _, hr, .inr ⟨rfl, .ret, hIx _ _ _ (Kept.put (by omega)) hi3, h4, h5, h6⟩⟩
    | exit id => exact hp.elim
    | goto t => exact hp.elim
    | panic ch => exact hp.elim
    | outgrown => exact hp.elim
   | exit id => exact hq.elim
   | goto t => exact hq.elim
   | ret => exact hq.elim
   | panic ch => exact hq.elim
   | outgrown => exact hq.elim
  ·rintro e W2 ⟨⟨v, rfl⟩, (⟨hi, hl, hk, hs⟩ | ⟨c, hi, hl, hk, hs⟩)⟩
   ·exact ⟨none, _, by have := run_endLoop (P := P) hl (by rw [hrec]; simp); rw [hrec] at this; exact this, hdone _ (hI _ _ _ (Kept.put (by omega)) hi) ((World.putObj_heap_other (by omega)).trans hk) (by simp [World.putObj]; omega)⟩
   ·exact ⟨some c, _, by have := run_endLoop (P := P) hl (by rw [hrec]; simp); rw [hrec] at this; exact this, hstop c _ (hIx _ _ _ (Kept.put (by omega)) hi) ((World.putObj_heap_other (by omega)).trans hk)⟩
theorem zy6 {P : Program} {n lo : Nat} {o : Oper} {a : Act} {w : World} {K : Act → World → Prop} {Q : Exit → Act → World → Prop} {x : Operand} {xs : Array Operand} {ts : Array TypeId} {args : Array Value} {fn : Nat} {tmps : Array Value} {cA cB : Code} {R : Ending → World → Prop}
  (ho : o.op = .call { callee := .value x, args := xs, argTypes := ts }) (hx : a.eval x = .func (.yield lo) #[] #[]) (ha : xs.map a.eval = args) (hr : (Instr.yield lo args).run P w = .ok (.round lo fn tmps cA cB) w)
  (hR : RoundIn (zbG none) (n - 1) P lo fn tmps cA cB w R) (hK : ∀ e w', R e w' → ∃ v, e = .returned v ∧ K (a.put o.dst v) w') : o.wpIn (zbG none) n P a w K Q := by
 refine ⟨fun _ _ => trivial, ?_⟩
 have : (Oper.semAt (zbG none).round a.eval o).run P w = .ok (.round lo fn tmps cA cB) w := by
  show (execOp a.eval o).run P w = _
  unfold execOp
  rw [ho]
  simp only [resolve, Sem.run_bind, hx, ha, Deferred.ofValue, Sem.run_pure, Result.andThen_ok, invoke, Array.empty_append]
  exact hr
 rw [this]
 refine ⟨fun e => (by cases e), hR.mono fun e w' h => ?_⟩
 obtain ⟨v, rfl, hk⟩ := hK e w' h
 exact hk
theorem zAu {S : Nat → Bool} : ∀ {R1 : List SF}, (∀ x ∈ R1, x.wf S = true) → wfR S R1 = true
 | [], _ => rfl
 | x :: R1, h => zau (h x (List.mem_cons_self ..)) (zAu fun y hy => h y (List.mem_cons_of_mem _ hy))
theorem Frm.putL {G : List Nat} {A : World} {L : Nat} {o : Obj} : Frm (L :: G) A (A.putObj L o) := ⟨rfl, rfl, rfl, by simp [World.putObj], fun k hk hn => World.putObj_heap_other fun e => hn (by first | (rw [e]; exact List.mem_cons_self ..) | (rw [← e]; exact List.mem_cons_self ..))⟩
theorem Frm.wide {G G' : List Nat} {A B : World} (h : Frm G A B) (hG : ∀ k ∈ G, k ∈ G') : Frm G' A B := ⟨h.os, h.tape, h.output, h.size, fun k hk hn => h.block k hk fun hm => hn (hG k hm)⟩
theorem zy7 {P : Program} {T : Tab} {N : Nat} {r : Option Nat} {n : Nat} {As Bd : Code} {G : List Nat} {k : Nat} {l : LE} {m : MB} {R : List SF} {h : Hn} {a : Act} {A : World} {Kn Kr : KS} {I : World → Prop} {Ix : Code → World → Prop} {L D : Nat} (R1 : List SF) (hT : zbz P T) (hsA : zoF As = true) (hsB : zoF Bd = true) (hL : L ∉ G) (hLw : L < A.heap.size) (hD : D ∉ G) (hDL : D < L) (H : VSt N [] G A k l m R h a A)
  (hv : vC P T N As k l m R (fun k' l' m' R' => (∀ x ∈ R1, x ∈ R') ∧ vC P T N Bd k' l' m' R1 Kn noX Kr) noX (fun _ _ _ _ => False)) (hR1 : ∀ (h : Hn) (r : World → Prop), r ∈ zaX h R1 → ∀ w w', r w → r w')
  (hn : ∀ k l m R h B, Kn k l m R → Sp [] B (zaf h [] m) (zaX h R) → Frm (L :: G) A B → I B) (hr : ∀ k l m R h B, Kr k l m R → Sp [] B (zaf h [] m) (zaX h R) → Frm (L :: G) A B → Ix .ret B) :
  As.wpIn (zbG r) n P (Exit.then (fun a1 A1 => (A1.heap[L]? = A.heap[L]? ∧ A1.heap[D]? = A.heap[D]?) ∧ ∀ o, Bd.wpIn (zbG r) n P (zAt I Ix D L (A1.putObj L o)) a1 (A1.putObj L o)) (fun _ _ _ => False)) a A := by
 refine zfy hT As hsA hv H (fun k' l' m' R' h' a' A1 ⟨hsub, hb⟩ H1 => ⟨⟨H1.frm.block L hLw hL, H1.frm.block D (by omega) hD⟩, fun o => ?_⟩) (fun _ _ _ _ _ _ _ _ hk _ => hk.elim) fun _ _ _ _ _ _ _ hk _ => hk.elim
 have hk1 : ∀ j, j < A.heap.size → j ∉ G → j ∉ zac (zaf h' [] m') := fun j hj hg hm => (H1.mine j hm).elim hg (by omega)
 have hA2 : (A1.putObj L o).heap.size = A1.heap.size := by simp [World.putObj]
 have hs1 := H1.frm.size
 have fr : ∀ B, Frm (zac (zaf h' [] m')) (A1.putObj L o) B → Frm (L :: G) A B := fun B hB =>
  (((H1.frm.wide (fun k hk => List.mem_cons_of_mem _ hk)).trans (Frm.putL (G := [])) (fun k hk => by rcases List.mem_singleton.1 hk with rfl; exact .inl (List.mem_cons_self ..))).trans hB fun k hk => (H1.mine k hk).imp (List.mem_cons_of_mem _) id)
 have HV := H1.anew (o := o) (R' := R1) (hk1 L hLw hL) (fun q hq w => by
  obtain ⟨x, hx, rfl⟩ := zaQ.1 hq
  exact hR1 h' _ hq _ _ (H1.sp.facts _ (zaQ.2 ⟨x, hsub x hx, rfl⟩)).now) (zAu fun x hx => zbX H1.wr _ (hsub x hx))
 exact zfy hT Bd hsB hb HV (fun k l m R h a B hk H2 => ⟨hn _ _ _ _ _ _ hk H2.sp (fr B H2.frm), H2.frm.block L (by omega) (hk1 L hLw hL), H2.frm.block D (by omega) (hk1 D (by omega) hD)⟩) (fun _ _ _ _ _ _ _ _ hk _ => hk.elim) fun k l m R h a B hk H2 => ⟨hr _ _ _ _ _ _ hk H2.sp (fr B H2.frm), H2.frm.block L (by omega) (hk1 L hLw hL), H2.frm.block D (by omega) (hk1 D (by omega) hD)⟩
end
section
theorem zy8 (v w e : Nat) : zcO (v * w) e = zcO v e * zcO w e := Nat.mul_pow v w e
instance pN_nz : NeZero pN := ⟨by unfold pN; decide +kernel⟩
abbrev K := Fin pN
def toK (a : Nat) : K := ⟨a % pN, Nat.mod_lt _ zcP⟩
theorem zv3 (a : K) : toK a.val = a := Fin.ext (Nat.mod_eq_of_lt a.isLt)
theorem zfV (a : Nat) : (toK a).val = a % pN := rfl
theorem zom {a b : Nat} : toK a = toK b ↔ a % pN = b % pN := ⟨fun h => congrArg Fin.val h, fun h => Fin.ext h⟩
theorem zpJ (a b : Nat) : toK (a + b) = toK a + toK b := Fin.ext (Nat.add_mod a b pN)
theorem zmw (a b : Nat) : toK (a * b) = toK a * toK b := Fin.ext (Nat.mul_mod a b pN)
theorem zpK (a : Nat) : toK (a % pN) = toK a := Fin.ext (Nat.mod_mod a pN)
theorem zgK : toK 0 = 0 := Fin.ext (by rw [zfV, Nat.zero_mod]; rfl)
theorem zjf : toK 1 = 1 := Fin.ext (by rw [zfV]; rfl)
theorem zv4 (a b : Nat) : toK (fA a b) = toK a + toK b := by unfold fA; rw [zpK, zpJ]
theorem zrM (a b : Nat) : toK (fM a b) = toK a * toK b := by unfold fM; rw [zpK, zmw]
theorem zht (a b : Nat) (h : b < pN) : toK (fS a b) = toK a - toK b := by
 unfold fS
 rw [zpK, zpJ]
 have e : toK (pN - b) + toK b = 0 := by rw [← zpJ, Nat.sub_add_cancel (Nat.le_of_lt h)]; exact Fin.ext (by rw [zfV, Nat.mod_self]; rfl)
 grind
theorem zcQ {a b : K} (h : a * b = 0) : a = 0 ∨ b = 0 := by
 have h1 : a.val * b.val % pN = 0 := congrArg Fin.val h
 have hp : IsP pN := zap.1
 rcases zn3 hp (Nat.dvd_of_mod_eq_zero h1) with h2 | h2
 ·exact .inl (Fin.ext (by have := Nat.eq_zero_of_dvd_of_lt h2 a.isLt; rw [this]; rfl))
 ·exact .inr (Fin.ext (by have := Nat.eq_zero_of_dvd_of_lt h2 b.isLt; rw [this]; rfl))
theorem zoG {a b : K} (ha : a ≠ 0) (hb : b ≠ 0) : a * b ≠ 0 := fun h => (zcQ h).elim ha hb
theorem zEX (n f b e : Nat) (h : e < 2 ^ f) : pw n f b e = zcO b e % n := zyG n f b e h
attribute [local irreducible] zcO
def iv (a : K) : K := toK (zcO a.val 57896044618658097711785492504343953926634992332820282019728792003956564819947)
theorem zbh {a : K} (h : a ≠ 0) : a * iv a = 1 := by
 have h1 : a.val % pN ≠ 0 := fun e => h (Fin.ext (by rw [Nat.mod_eq_of_lt a.isLt] at e; rw [e]; rfl))
 have h2 := zom.2 (zB9 a.val h1)
 rw [zmw, zv3, zjf] at h2
 exact h2
theorem zCI : iv 0 = 0 := by
 have h := zn5 57896044618658097711785492504343953926634992332820282019728792003956564819947 pN 0 (by omega) (Nat.zero_mod _)
 have h2 : iv 0 = toK (zcO 0 57896044618658097711785492504343953926634992332820282019728792003956564819947) := rfl
 rw [h2, ← zgK]
 exact zom.2 (h.trans (Nat.zero_mod _).symm)
theorem zGq {a : K} (h : a ≠ 0) : iv a ≠ 0 := fun e => by
 have h1 := zbh h
 rw [e] at h1
 have : (0 : K) = 1 := by grind
 exact absurd (congrArg Fin.val this) (by decide +kernel)
theorem zhu : (1 : K) ≠ 0 := fun h => absurd (congrArg Fin.val h) (by decide +kernel)
theorem zhv : (2 : K) ≠ 0 := fun h => absurd (congrArg Fin.val h) (by decide +kernel)
theorem zCJ {a b : K} (h : a * b = 1) : iv a = b := by
 have ha : a ≠ 0 := fun e => zhu (by rw [← h, e]; grind)
 have := zbh ha
 grind
theorem zv5 {a b c : K} (h : c ≠ 0) (e : a * c = b * c) : a = b := by
 have := zbh h
 have e2 : a * c * iv c = b * c * iv c := by rw [e]
 grind
def pk (a : K) (n : Nat) : K := toK (zcO a.val n)
theorem zEY (a : K) : pk a 1 = a := by unfold pk; rw [zmk, zv3]
theorem zrN (a : K) (m n : Nat) : pk a m * pk a n = pk a (m + n) := by unfold pk; rw [← zmw, zh1]
theorem zEZ (a b : K) (n : Nat) : pk (a * b) n = pk a n * pk b n := by
 unfold pk
 rw [← zmw, ← zy8]
 exact zom.2 (zyJ _ _ _ _ (by rw [show (a * b).val = a.val * b.val % pN from rfl, Nat.mod_mod]))
theorem zCK {a : K} (h : a ≠ 0) : pk a 57896044618658097711785492504343953926634992332820282019728792003956564819948 = 1 := by
 have h1 : a.val % pN ≠ 0 := fun e => h (Fin.ext (by rw [Nat.mod_eq_of_lt a.isLt] at e; rw [e]; rfl))
 have h2 := zn6 a.val h1
 unfold pk
 rw [← zjf]
 exact zom.2 (h2.trans (Nat.mod_eq_of_lt zh2).symm)
theorem zh6 {a : K} (h : a * a = 1) : a = 1 ∨ a = -1 := by
 have : (a - 1) * (a + 1) = 0 := by grind
 rcases zcQ this with h1 | h1
 ·exact .inl (by grind)
 ·exact .inr (by grind)
def hf (a : K) : K := pk a 28948022309329048855892746252171976963317496166410141009864396001978282409974
theorem zrO {a : K} (h : a ≠ 0) : hf a = 1 ∨ hf a = -1 := zh6 (by
 unfold hf
 rw [zrN]
 exact zCK h)
theorem zv6 (a b : K) : hf (a * b) = hf a * hf b := zEZ a b _
theorem zGr {a : K} (h : a ≠ 0) : hf (a * a) = 1 := by
 rw [zv6]
 rcases zrO h with h1 | h1 <;> rw [h1] <;> grind
theorem zrP : (-1 : K) ≠ 1 := fun h => absurd (congrArg Fin.val h) (by decide +kernel)
theorem zv7 {a : K} (h : hf a = 1) : ∃ r : K, r * r = a := by
 have h1 : pk a 14474011154664524427946373126085988481658748083205070504932198000989141204987 * pk a 14474011154664524427946373126085988481658748083205070504932198000989141204987 = 1 := by rw [zrN]; exact h
 have h2 : pk a 7237005577332262213973186563042994240829374041602535252466099000494570602494 * pk a 7237005577332262213973186563042994240829374041602535252466099000494570602494 = pk a 14474011154664524427946373126085988481658748083205070504932198000989141204987 * a := by
  rw [zrN]
  have := zrN a 14474011154664524427946373126085988481658748083205070504932198000989141204987 1
  rw [zEY] at this
  rw [this]
 rcases zh6 h1 with h3 | h3
 ·exact ⟨_, by rw [h2, h3]; grind⟩
 ·have hi : toK 19681161376707505956807079304988542015446066515923890162744021073123829784752 * toK 19681161376707505956807079304988542015446066515923890162744021073123829784752 = (-1 : K) := by decide +kernel
  generalize toK 19681161376707505956807079304988542015446066515923890162744021073123829784752 = i at hi
  generalize pk a 7237005577332262213973186563042994240829374041602535252466099000494570602494 = r at h2
  exact ⟨i * r, by rw [show i * r * (i * r) = i * i * (r * r) by grind, hi, h2, h3]; grind⟩
theorem zE0 (v : Nat) (k : Nat) (h : pw pN 256 (v % pN) 28948022309329048855892746252171976963317496166410141009864396001978282409974 = k) : hf (toK v) = toK k := by
 unfold hf pk
 rw [zfV]
 have h1 := zEX pN 256 (v % pN) 28948022309329048855892746252171976963317496166410141009864396001978282409974 (by decide +kernel)
 refine zom.2 ?_
 rw [← h1, h]
 rw [← h, h1, Nat.mod_mod]
def cA : K := toK 486662
theorem zmx : hf (cA - 2) = -1 := by
 have h := zE0 486660 57896044618658097711785492504343953926634992332820282019728792003956564819948 (by decide +kernel)
 have e1 : cA - 2 = toK 486660 := by decide +kernel
 have e2 : (-1 : K) = toK 57896044618658097711785492504343953926634992332820282019728792003956564819948 := by decide +kernel
 rw [e1, h, e2]
def cS : K := toK 48802004052532134862652268456126542835229456083994414501085850622543968879637
theorem zE1 : cS * cS = cA + 2 := by decide +kernel
theorem zmy : cA + 2 ≠ 0 := fun h => absurd (congrArg Fin.val h) (by decide +kernel)
theorem zmz : cA - 2 ≠ 0 := fun h => absurd (congrArg Fin.val h) (by decide +kernel)
theorem zrQ {a r : K} (h : r * r = a) (ha : a ≠ 0) : hf a = 1 := by
 rw [← h]
 exact zGr fun e => ha (by rw [← h, e]; grind)
theorem zv8 : hf (cA + 2) = 1 := zrQ zE1 zmy
theorem zCL (s : K) : s * s ≠ (cA - 2) * (cA + 2) := fun h => by
 have h1 := zrQ h (zoG zmz zmy)
 rw [zv6, zmx, zv8] at h1
 exact zrP (by grind)
theorem zHp (x1 y1 x2 y2 x3 y3 d i : K) (hd : d * i = 1) (h1 : x1 * x1 + y1 * y1 = 1 + d * (x1 * x1) * (y1 * y1)) (h2 : x2 * x2 + y2 * y2 = 1 + d * (x2 * x2) * (y2 * y2)) (h3 : x3 * x3 + y3 * y3 = 1 + d * (x3 * x3) * (y3 * y3)) :
  ((x1 * y2 + y1 * x2) * (1 - d * (x1 * x2) * (y1 * y2)) * y3 + (y1 * y2 - x1 * x2) * (1 + d * (x1 * x2) * (y1 * y2)) * x3) * ((1 + d * (x2 * x3) * (y2 * y3)) * (1 - d * (x2 * x3) * (y2 * y3)) + d * (x2 * y3 + y2 * x3) * (y2 * y3 - x2 * x3) * (x1 * y1)) =
  (x1 * (y2 * y3 - x2 * x3) * (1 + d * (x2 * x3) * (y2 * y3)) + y1 * (x2 * y3 + y2 * x3) * (1 - d * (x2 * x3) * (y2 * y3))) * ((1 + d * (x1 * x2) * (y1 * y2)) * (1 - d * (x1 * x2) * (y1 * y2)) + d * (x1 * y2 + y1 * x2) * (y1 * y2 - x1 * x2) * (x3 * y3)) := by grind
theorem zHq (x1 y1 x2 y2 x3 y3 d i : K) (hd : d * i = 1) (h1 : x1 * x1 + y1 * y1 = 1 + d * (x1 * x1) * (y1 * y1)) (h2 : x2 * x2 + y2 * y2 = 1 + d * (x2 * x2) * (y2 * y2)) (h3 : x3 * x3 + y3 * y3 = 1 + d * (x3 * x3) * (y3 * y3)) :
  ((y1 * y2 - x1 * x2) * (1 + d * (x1 * x2) * (y1 * y2)) * y3 - (x1 * y2 + y1 * x2) * (1 - d * (x1 * x2) * (y1 * y2)) * x3) * ((1 + d * (x2 * x3) * (y2 * y3)) * (1 - d * (x2 * x3) * (y2 * y3)) - d * (x2 * y3 + y2 * x3) * (y2 * y3 - x2 * x3) * (x1 * y1)) =
  (y1 * (y2 * y3 - x2 * x3) * (1 + d * (x2 * x3) * (y2 * y3)) - x1 * (x2 * y3 + y2 * x3) * (1 - d * (x2 * x3) * (y2 * y3))) * ((1 + d * (x1 * x2) * (y1 * y2)) * (1 - d * (x1 * x2) * (y1 * y2)) - d * (x1 * y2 + y1 * x2) * (y1 * y2 - x1 * x2) * (x3 * y3)) := by grind
theorem fr1 {a e y c b x B E : K} (p : b * B = 1) (q : e * E = 1) : (a * e * y + c * b * x) * B * E = a * B * y + c * E * x := by
 rw [show (a * e * y + c * b * x) * B * E = a * B * y * (e * E) + c * E * x * (b * B) by grind, p, q]; grind
theorem zHr {a e y c b x B E : K} (p : b * B = 1) (q : e * E = 1) : (c * b * y - a * e * x) * B * E = c * E * y - a * B * x := by
 rw [show (c * b * y - a * e * x) * B * E = c * E * y * (b * B) - a * B * x * (e * E) by grind, p, q]; grind
theorem fr2 {d a c x y b e B E : K} (p : b * B = 1) (q : e * E = 1) : (b * e + d * a * c * (x * y)) * B * E = 1 + d * (a * B * x) * (c * E * y) := by
 rw [show (b * e + d * a * c * (x * y)) * B * E = b * B * (e * E) + d * (a * B * x) * (c * E * y) by grind, p, q]; grind
theorem zGQ {d a c x y b e B E : K} (p : b * B = 1) (q : e * E = 1) : (b * e - d * a * c * (x * y)) * B * E = 1 - d * (a * B * x) * (c * E * y) := by
 rw [show (b * e - d * a * c * (x * y)) * B * E = b * B * (e * E) - d * (a * B * x) * (c * E * y) by grind, p, q]; grind
theorem fr3 {d a c x y b e B E : K} (p : b * B = 1) (q : e * E = 1) : (b * e + d * a * c * (x * y)) * B * E = 1 + d * (x * (a * B)) * (y * (c * E)) := by
 rw [fr2 p q]; grind
theorem zHs {d a c x y b e B E : K} (p : b * B = 1) (q : e * E = 1) : (b * e - d * a * c * (x * y)) * B * E = 1 - d * (x * (a * B)) * (y * (c * E)) := by
 rw [zGQ p q]; grind
theorem fr4 {x c b y a e B E : K} (p : b * B = 1) (q : e * E = 1) : (x * c * b + y * a * e) * B * E = x * (c * E) + y * (a * B) := by
 rw [show (x * c * b + y * a * e) * B * E = x * (c * E) * (b * B) + y * (a * B) * (e * E) by grind, p, q]; grind
theorem zHt {x c b y a e B E : K} (p : b * B = 1) (q : e * E = 1) : (y * c * b - x * a * e) * B * E = y * (c * E) - x * (a * B) := by
 rw [show (y * c * b - x * a * e) * B * E = y * (c * E) * (b * B) - x * (a * B) * (e * E) by grind, p, q]; grind
theorem fr6 {u v B E B' E' w z : K} (h : u * v = w * z) : u * B * E * (v * B' * E') = w * B' * E' * (z * B * E) := by
 rw [show u * B * E * (v * B' * E') = u * v * (B * E * B' * E') by grind, h]; grind
theorem zeM : (1 : K) - 0 = 1 := by decide +kernel
theorem fr5 {u v m m' M M' : K} (h : u * m' = v * m) (q : m * M = 1) (q' : m' * M' = 1) : u * M = v * M' := by
 have h1 : u * M = u * m' * M * M' := by rw [show u * m' * M * M' = u * M * (m' * M') by grind, q']; grind
 have h2 : v * M' = v * m * M * M' := by rw [show v * m * M * M' = v * M' * (m * M) by grind, q]; grind
 rw [h1, h2, h]
structure Ed where
 x : K
 y : K
def On (d : K) (P : Ed) : Prop := P.x * P.x + P.y * P.y = 1 + d * (P.x * P.x) * (P.y * P.y)
def zoH (d : K) : Prop := ∀ s : K, s * s ≠ d
def tE (d : K) (P Q : Ed) : K := d * (P.x * Q.x) * (P.y * Q.y)
def zbT (d : K) (P Q : Ed) : Ed := ⟨(P.x * Q.y + P.y * Q.x) * iv (1 + tE d P Q), (P.y * Q.y - P.x * Q.x) * iv (1 - tE d P Q)⟩
def zoI (P : Ed) : Ed := ⟨-P.x, P.y⟩
def zfZ : Ed := ⟨0, 1⟩
theorem zGR {d : K} (hd : zoH d) {P Q : Ed} (hP : On d P) (hQ : On d Q) : tE d P Q * tE d P Q ≠ 1 := by
 obtain ⟨x1, y1⟩ := P
 obtain ⟨x2, y2⟩ := Q
 unfold On tE at *
 dsimp only at *
 intro ht
 generalize hT : d * (x1 * x2) * (y1 * y2) = t at ht
 have hxy : x1 * y1 ≠ 0 := fun e => zhu (by rw [← ht, ← hT]; grind)
 have k1 : (x1 + t * y1) * (x1 + t * y1) = d * ((x1 * y1) * (x2 + y2)) * ((x1 * y1) * (x2 + y2)) := by grind
 have k2 : (x1 - t * y1) * (x1 - t * y1) = d * ((x1 * y1) * (x2 - y2)) * ((x1 * y1) * (x2 - y2)) := by grind
 have key : ∀ a b : K, a * a = d * b * b → b = 0 := by
  intro a b h
  refine Classical.byContradiction fun hb => ?_
  have hi := zbh hb
  refine hd (a * iv b) ?_
  grind
 have z1 := key _ _ k1
 have z2 := key _ _ k2
 have z3 : x2 + y2 = 0 := (zcQ z1).resolve_left hxy
 have z4 : x2 - y2 = 0 := (zcQ z2).resolve_left hxy
 have z5 : x2 = 0 := by
  have : 2 * x2 = 0 := by grind
  exact (zcQ this).resolve_left zhv
 exact zhu (by rw [← ht, ← hT, z5]; grind)
theorem zee {d : K} (hd : zoH d) {P Q : Ed} (hP : On d P) (hQ : On d Q) : 1 + tE d P Q ≠ 0 := fun e => zGR hd hP hQ (by grind)
theorem zca {d : K} (hd : zoH d) {P Q : Ed} (hP : On d P) (hQ : On d Q) : 1 - tE d P Q ≠ 0 := fun e => zGR hd hP hQ (by grind)
theorem zE2 (d : K) : On d zfZ := by unfold On zfZ; dsimp only; grind
theorem zrR {d : K} {P : Ed} (h : On d P) : On d (zoI P) := by unfold On zoI at *; dsimp only; grind
theorem zon {d : K} (hd : zoH d) {P Q : Ed} (hP : On d P) (hQ : On d Q) : On d (zbT d P Q) := by
 have p1 := zbh (zee hd hP hQ)
 have p2 := zbh (zca hd hP hQ)
 have p1' := zee hd hP hQ
 have p2' := zca hd hP hQ
 unfold On zbT tE at *
 dsimp only
 generalize iv (1 + d * (P.x * Q.x) * (P.y * Q.y)) = B at *
 generalize iv (1 - d * (P.x * Q.x) * (P.y * Q.y)) = E at *
 generalize P.x = x1 at *
 generalize P.y = y1 at *
 generalize Q.x = x2 at *
 generalize Q.y = y2 at *
 have key : ((x1 * y2 + y1 * x2) * (x1 * y2 + y1 * x2)) * ((1 - d * (x1 * x2) * (y1 * y2)) * (1 - d * (x1 * x2) * (y1 * y2))) + ((y1 * y2 - x1 * x2) * (y1 * y2 - x1 * x2)) * ((1 + d * (x1 * x2) * (y1 * y2)) * (1 + d * (x1 * x2) * (y1 * y2))) = ((1 - d * (x1 * x2) * (y1 * y2)) * (1 - d * (x1 * x2) * (y1 * y2))) * ((1 + d * (x1 * x2) * (y1 * y2)) * (1 + d * (x1 * x2) * (y1 * y2))) + d * ((x1 * y2 + y1 * x2) * (x1 * y2 + y1 * x2)) * ((y1 * y2 - x1 * x2) * (y1 * y2 - x1 * x2)) := by grind
 generalize 1 + d * (x1 * x2) * (y1 * y2) = b at *
 generalize 1 - d * (x1 * x2) * (y1 * y2) = e at *
 generalize x1 * y2 + y1 * x2 = a at *
 generalize y1 * y2 - x1 * x2 = c at *
 clear hP hQ
 refine zv5 (zoG (zoG p1' p1') (zoG p2' p2')) ?_
 grind
theorem zv9 {d : K} (P Q : Ed) : zbT d P Q = zbT d Q P := by
 unfold zbT tE
 congr 1
 ·congr 1
  ·grind
  ·congr 1
   grind
 ·congr 1
  ·grind
  ·congr 1
   grind
theorem zrS {d : K} (P : Ed) : zbT d P zfZ = P := by
 have h1 : iv (1 : K) = 1 := zCJ (by grind)
 unfold zbT tE zfZ
 dsimp only
 have z : d * (P.x * 0) * (P.y * 1) = 0 := by grind
 have z1 : ∀ t : K, t = 0 → 1 + t = 1 := fun t h => by rw [h]; exact Fin.add_zero 1
 have z2 : ∀ t : K, t = 0 → 1 - t = 1 := fun t h => by rw [h]; exact zeM
 rw [z1 _ z, z2 _ z, h1, show (P.x * 1 + P.y * 0) * 1 = P.x by grind, show (P.y * 1 - P.x * 0) * 1 = P.y by grind]
theorem zE3 {d : K} (hd : zoH d) {P : Ed} (h : On d P) : zbT d P (zoI P) = zfZ := by
 have p1 := zbh (zee hd h (zrR h))
 have p2 := zbh (zca hd h (zrR h))
 unfold zbT zfZ
 unfold tE zoI On at *
 dsimp only at *
 generalize iv _ = B at *
 generalize iv _ = E at *
 congr 1
 ·grind
 ·grind
theorem zrT {d : K} (hd : zoH d) {P Q R : Ed} (hP : On d P) (hQ : On d Q) (hR : On d R) (d0 : d ≠ 0) : zbT d (zbT d P Q) R = zbT d P (zbT d Q R) := by
 have i0 := zbh d0
 have p1 := zbh (zee hd hP hQ)
 have p2 := zbh (zca hd hP hQ)
 have p3 := zbh (zee hd hQ hR)
 have p4 := zbh (zca hd hQ hR)
 have q1 := zbh (zee hd (zon hd hP hQ) hR)
 have q2 := zbh (zca hd (zon hd hP hQ) hR)
 have q3 := zbh (zee hd hP (zon hd hQ hR))
 have q4 := zbh (zca hd hP (zon hd hQ hR))
 rw [show zbT d (zbT d P Q) R = ⟨((zbT d P Q).x * R.y + (zbT d P Q).y * R.x) * iv (1 + tE d (zbT d P Q) R), ((zbT d P Q).y * R.y - (zbT d P Q).x * R.x) * iv (1 - tE d (zbT d P Q) R)⟩ from rfl, show zbT d P (zbT d Q R) = ⟨(P.x * (zbT d Q R).y + P.y * (zbT d Q R).x) * iv (1 + tE d P (zbT d Q R)), (P.y * (zbT d Q R).y - P.x * (zbT d Q R).x) * iv (1 - tE d P (zbT d Q R))⟩ from rfl]
 unfold On at hP hQ hR
 generalize iv (1 + tE d (zbT d P Q) R) = M at *
 generalize iv (1 - tE d (zbT d P Q) R) = N at *
 generalize iv (1 + tE d P (zbT d Q R)) = M' at *
 generalize iv (1 - tE d P (zbT d Q R)) = N' at *
 unfold zbT at *
 dsimp only at *
 unfold tE at *
 dsimp only at *
 generalize P.x = x1 at *
 generalize P.y = y1 at *
 generalize Q.x = x2 at *
 generalize Q.y = y2 at *
 generalize R.x = x3 at *
 generalize R.y = y3 at *
 generalize iv (1 + d * (x1 * x2) * (y1 * y2)) = B at *
 generalize iv (1 - d * (x1 * x2) * (y1 * y2)) = E at *
 generalize iv (1 + d * (x2 * x3) * (y2 * y3)) = B' at *
 generalize iv (1 - d * (x2 * x3) * (y2 * y3)) = E' at *
 generalize iv d = i at *
 have kx := zHp x1 y1 x2 y2 x3 y3 d i i0 hP hQ hR
 have ky := zHq x1 y1 x2 y2 x3 y3 d i i0 hP hQ hR
 clear hP hQ hR i0
 generalize 1 + d * (x1 * x2) * (y1 * y2) = b at *
 generalize 1 - d * (x1 * x2) * (y1 * y2) = e at *
 generalize 1 + d * (x2 * x3) * (y2 * y3) = b' at *
 generalize 1 - d * (x2 * x3) * (y2 * y3) = e' at *
 generalize x1 * y2 + y1 * x2 = a at *
 generalize y1 * y2 - x1 * x2 = c at *
 generalize x2 * y3 + y2 * x3 = a' at *
 generalize y2 * y3 - x2 * x3 = c' at *
 refine (congr (congrArg Ed.mk ?_) ?_)
 ·have g1 := fr6 (B := B) (E := E) (B' := B') (E' := E') kx
  rw [fr1 p1 p2, fr3 p3 p4, fr4 p3 p4, fr2 p1 p2] at g1
  exact fr5 g1 q1 q3
 ·have g1 := fr6 (B := B) (E := E) (B' := B') (E' := E') ky
  rw [zHr p1 p2, zHs p3 p4, zHt p3 p4, zGQ p1 p2] at g1
  exact fr5 g1 q2 q4
end
section
attribute [local irreducible] zcO
def zc7 (d : K) (P : Ed) : Nat → Ed
 | 0 => zfZ
 | n + 1 => zbT d (zc7 d P n) P
theorem zeN {d : K} (hd : zoH d) {P : Ed} (h : On d P) : ∀ n, On d (zc7 d P n)
 | 0 => zE2 d
 | n + 1 => zon hd (zeN hd h n) h
theorem zjg {d : K} (P : Ed) : zbT d zfZ P = P := by rw [zv9, zrS]
theorem zfd {d : K} (hd : zoH d) (d0 : d ≠ 0) {P : Ed} (h : On d P) (m : Nat) : ∀ n, zc7 d P (m + n) = zbT d (zc7 d P m) (zc7 d P n)
 | 0 => (zrS _).symm
 | n + 1 => by
  rw [← Nat.add_assoc, show zc7 d P (m + n + 1) = zbT d (zc7 d P (m + n)) P from rfl, zfd hd d0 h m n, show zc7 d P (n + 1) = zbT d (zc7 d P n) P from rfl]
  exact zrT hd (zeN hd h m) (zeN hd h n) h d0
theorem zh7 {d : K} (hd : zoH d) (d0 : d ≠ 0) {P : Ed} (h : On d P) (m : Nat) : ∀ n, zc7 d (zc7 d P m) n = zc7 d P (m * n)
 | 0 => rfl
 | n + 1 => by
  rw [show zc7 d (zc7 d P m) (n + 1) = zbT d (zc7 d (zc7 d P m) n) (zc7 d P m) from rfl, zh7 hd d0 h m n, Nat.mul_succ, zfd hd d0 h]
theorem zy9 {d : K} (hd : zoH d) (d0 : d ≠ 0) {P : Ed} (h : On d P) (n : Nat) : zbT d (zc7 d P (n + 1)) (zoI (zc7 d P n)) = P := by
 rw [show zc7 d P (n + 1) = zbT d (zc7 d P n) P from rfl, zv9 (zc7 d P n) P, zrT hd h (zeN hd h n) (zrR (zeN hd h n)) d0, zE3 hd (zeN hd h n), zrS]
theorem zpL {d : K} : ∀ n, zc7 d zfZ n = zfZ
 | 0 => rfl
 | n + 1 => by rw [show zc7 d zfZ (n + 1) = zbT d (zc7 d zfZ n) zfZ from rfl, zpL n, zrS]
def zhL : Ed := ⟨0, -1⟩
theorem zoo {d : K} : zbT d zhL zhL = zfZ := by
 have h1 : iv (1 : K) = 1 := zCJ (by grind)
 unfold zbT tE zhL zfZ
 dsimp only
 have z : d * (0 * 0) * (-1 * -1) = (0 : K) := by grind
 have z1 : (1 : K) + 0 = 1 := Fin.add_zero 1
 rw [z, z1, zeM, h1]
 congr 1 <;> decide +kernel
theorem zrV {d : K} : ∀ n, zc7 d zhL n = zfZ ∨ zc7 d zhL n = zhL
 | 0 => .inl rfl
 | n + 1 => by
  rw [show zc7 d zhL (n + 1) = zbT d (zc7 d zhL n) zhL from rfl]
  rcases zrV (d := d) n with h | h
  ·rw [h, zjg]; exact .inr rfl
  ·rw [h, zoo]; exact .inl rfl
def cB : K := toK 121665
theorem zE4 : cA = 4 * cB + 2 := by decide +kernel
structure Cv (d e : K) : Prop where
 free : zoH d
 nz : d ≠ 0
 way : e = 1 ∧ d * (cB + 1) = cB ∨ e = -1 ∧ d * cB = cB + 1
def Rep (e X Z : K) (P : Ed) : Prop := X * (1 - P.y) = e * Z * (1 + P.y) ∧ ¬(X = 0 ∧ Z = 0)
theorem zGs : (2 : K) * iv 2 = 1 := zbh zhv
theorem zpM {e X Z : K} {P : Ed} (he : e * e = 1) (h : Rep e X Z P) : ∃ l : K, l ≠ 0 ∧ X = e * l * (1 + P.y) ∧ Z = l * (1 - P.y) := by
 obtain ⟨h1, h2⟩ := h
 have h3 := zGs
 generalize iv (2 : K) = t at h3
 have a1 : X = e * ((e * X + Z) * t) * (1 + P.y) := by
  generalize P.y = y at *
  grind
 have a2 : Z = (e * X + Z) * t * (1 - P.y) := by
  generalize P.y = y at *
  grind
 refine ⟨_, fun e0 => h2 ?_, a1, a2⟩
 rw [e0] at a1 a2
 exact ⟨by rw [a1]; grind, by rw [a2]; grind⟩
theorem ee {d e : K} (h : Cv d e) : e * e = 1 := by rcases h.way with ⟨h1, _⟩ | ⟨h1, _⟩ <;> rw [h1] <;> decide +kernel
theorem zza {d y x c : K} (hd : d * (c + 1) = c) (h : x * x + y * y = 1 + d * (x * x) * (y * y)) : (1 - x * x) * (1 + c * (1 - y * y)) = y * y := by grind
theorem zzb {d y x c : K} (hd : d * c = c + 1) (h : x * x + y * y = 1 + d * (x * x) * (y * y)) : (1 - x * x) * (c - (c + 1) * (y * y)) = -(y * y) := by grind
theorem zGt {d : K} {P : Ed} (hd : zoH d) (h : On d P) : ∃ q : K, q ≠ 0 ∧ q * (1 - (zbT d P P).y) = 2 - 2 * (P.y * P.y) ∧ q * (1 + (zbT d P P).y) = 2 - 2 * (P.x * P.x) := by
 have p2 := zbh (zca hd h h)
 have p2' := zca hd h h
 refine ⟨_, p2', ?_, ?_⟩
 ·unfold zbT
  unfold tE On at *
  dsimp only at *
  generalize iv _ = E at *
  generalize P.x = x at *
  generalize P.y = y at *
  rw [show (1 - d * (x * x) * (y * y)) * (1 - (y * y - x * x) * E) = (1 - d * (x * x) * (y * y)) - (y * y - x * x) * ((1 - d * (x * x) * (y * y)) * E) by clear h p2 p2'; grind, p2]
  clear p2 p2'
  grind
 ·unfold zbT
  unfold tE On at *
  dsimp only at *
  generalize iv _ = E at *
  generalize P.x = x at *
  generalize P.y = y at *
  rw [show (1 - d * (x * x) * (y * y)) * (1 + (y * y - x * x) * E) = (1 - d * (x * x) * (y * y)) + (y * y - x * x) * ((1 - d * (x * x) * (y * y)) * E) by clear h p2 p2'; grind, p2]
  clear p2 p2'
  grind
theorem zcx {a b c : K} (h : c ≠ 0) (e : c * a = c * b) : a = b := zv5 h (by rw [show a * c = c * a by grind, e]; grind)
theorem zj6 : (16 : K) ≠ 0 := fun h => absurd (congrArg Fin.val h) (by decide +kernel)
theorem zGu : cB ≠ 0 := fun h => absurd (congrArg Fin.val h) (by decide +kernel)
theorem zE5 : cB + 1 ≠ 0 := fun h => absurd (congrArg Fin.val h) (by decide +kernel)
theorem zCM {d e X Z : K} {P : Ed} (hc : Cv d e) (hP : On d P) (h : Rep e X Z P) :
  Rep e (((X + Z) * (X + Z)) * ((X - Z) * (X - Z))) (((X + Z) * (X + Z) - (X - Z) * (X - Z)) * ((X + Z) * (X + Z) + cB * ((X + Z) * (X + Z) - (X - Z) * (X - Z)))) (zbT d P P) := by
 obtain ⟨l, hl, e1, e2⟩ := zpM (ee hc) h
 obtain ⟨q, hq, k1, k2⟩ := zGt hc.free hP
 clear h
 unfold Rep
 have c0 := zGu
 have c1 := zE5
 have w := hc.way
 generalize cB = c at *
 generalize (zbT d P P).y = Y at *
 unfold On at hP
 generalize P.x = x at *
 generalize P.y = y at *
 have l4 : 16 * (l * l * l * l) ≠ 0 := zoG zj6 (zoG (zoG (zoG hl hl) hl) hl)
 subst e1 e2
 rcases w with ⟨he, hd⟩ | ⟨he, hd⟩
 ·subst he
  have k3 := zza hd hP
  have g1 : (1 * l * (1 + y) + l * (1 - y)) * (1 * l * (1 + y) + l * (1 - y)) = 4 * (l * l) := by clear k1 k2 k3 hP hd; grind
  have g2 : (1 * l * (1 + y) - l * (1 - y)) * (1 * l * (1 + y) - l * (1 - y)) = 4 * (l * l) * (y * y) := by clear k1 k2 k3 hP hd; grind
  rw [g1, g2]
  clear g1 g2
  have g3 : 4 * (l * l) * (4 * (l * l) * (y * y)) = 16 * (l * l * l * l) * (y * y) := by clear k1 k2 k3 hP hd; grind
  have g4 : (4 * (l * l) - 4 * (l * l) * (y * y)) * (4 * (l * l) + c * (4 * (l * l) - 4 * (l * l) * (y * y))) = 16 * (l * l * l * l) * ((1 - y * y) * (1 + c * (1 - y * y))) := by clear k1 k2 k3 hP hd; grind
  rw [g3, g4]
  clear g3 g4
  generalize 16 * (l * l * l * l) = m at *
  refine ⟨zcx hq ?_, fun ⟨z1, z2⟩ => ?_⟩
  ·rw [show q * (m * (y * y) * (1 - Y)) = m * (y * y) * (q * (1 - Y)) by clear k1 k2 k3 hP hd; grind, show q * (1 * (m * ((1 - y * y) * (1 + c * (1 - y * y)))) * (1 + Y)) = m * ((1 - y * y) * (1 + c * (1 - y * y))) * (q * (1 + Y)) by clear k1 k2 k3 hP hd; grind, k1, k2, show m * ((1 - y * y) * (1 + c * (1 - y * y))) * (2 - 2 * (x * x)) = m * (2 - 2 * (y * y)) * ((1 - x * x) * (1 + c * (1 - y * y))) by clear k1 k2 k3 hP hd; grind, k3]
   clear k1 k2 k3 hP hd
   grind
  ·have z3 := (zcQ z1).resolve_left l4
   have z4 := (zcQ z2).resolve_left l4
   rw [z3] at z4
   exact c1 (by clear k1 k2 k3 hP hd; grind)
 ·subst he
  have k3 := zzb hd hP
  have g1 : (-1 * l * (1 + y) + l * (1 - y)) * (-1 * l * (1 + y) + l * (1 - y)) = 4 * (l * l) * (y * y) := by clear k1 k2 k3 hP hd; grind
  have g2 : (-1 * l * (1 + y) - l * (1 - y)) * (-1 * l * (1 + y) - l * (1 - y)) = 4 * (l * l) := by clear k1 k2 k3 hP hd; grind
  rw [g1, g2]
  clear g1 g2
  have g3 : 4 * (l * l) * (y * y) * (4 * (l * l)) = 16 * (l * l * l * l) * (y * y) := by clear k1 k2 k3 hP hd; grind
  have g4 : (4 * (l * l) * (y * y) - 4 * (l * l)) * (4 * (l * l) * (y * y) + c * (4 * (l * l) * (y * y) - 4 * (l * l))) = 16 * (l * l * l * l) * ((1 - y * y) * (c - (c + 1) * (y * y))) := by clear k1 k2 k3 hP hd; grind
  rw [g3, g4]
  clear g3 g4
  generalize 16 * (l * l * l * l) = m at *
  refine ⟨zcx hq ?_, fun ⟨z1, z2⟩ => ?_⟩
  ·rw [show q * (m * (y * y) * (1 - Y)) = m * (y * y) * (q * (1 - Y)) by clear k1 k2 k3 hP hd; grind, show q * (-1 * (m * ((1 - y * y) * (c - (c + 1) * (y * y)))) * (1 + Y)) = -(m * ((1 - y * y) * (c - (c + 1) * (y * y))) * (q * (1 + Y))) by clear k1 k2 k3 hP hd; grind, k1, k2, show m * ((1 - y * y) * (c - (c + 1) * (y * y))) * (2 - 2 * (x * x)) = m * (2 - 2 * (y * y)) * ((1 - x * x) * (c - (c + 1) * (y * y))) by clear k1 k2 k3 hP hd; grind, k3]
   clear k1 k2 k3 hP hd
   grind
  ·have z3 := (zcQ z1).resolve_left l4
   have z4 := (zcQ z2).resolve_left l4
   rw [z3] at z4
   exact c0 (by clear k1 k2 k3 hP hd; grind)
theorem zGv {d : K} {P Q : Ed} (hd : zoH d) (hP : On d P) (hQ : On d Q) : (P.y + Q.y) * (P.y + Q.y) * ((1 - (zbT d P Q).y) * (1 - (zbT d P (zoI Q)).y)) = (P.y - Q.y) * (P.y - Q.y) * ((1 + (zbT d P Q).y) * (1 + (zbT d P (zoI Q)).y)) := by
 have p1 := zbh (zee hd hP hQ)
 have p2 := zbh (zca hd hP hQ)
 have p3 := zbh (zca hd hP (zrR hQ))
 have p1' := zee hd hP hQ
 have p2' := zca hd hP hQ
 unfold zbT
 unfold tE zoI On at *
 dsimp only at *
 have t1 : 1 - d * (P.x * -Q.x) * (P.y * Q.y) = 1 + d * (P.x * Q.x) * (P.y * Q.y) := by clear p1 p2 p3 hP hQ p1' p2'; grind
 rw [t1] at p3 ⊢
 clear p3 t1
 generalize iv (1 + d * (P.x * Q.x) * (P.y * Q.y)) = B at *
 generalize iv (1 - d * (P.x * Q.x) * (P.y * Q.y)) = E at *
 generalize P.x = x1 at *
 generalize P.y = y1 at *
 generalize Q.x = x2 at *
 generalize Q.y = y2 at *
 have key : (y1 + y2) * (y1 + y2) * ((1 - d * (x1 * x2) * (y1 * y2) - (y1 * y2 - x1 * x2)) * (1 + d * (x1 * x2) * (y1 * y2) - (y1 * y2 + x1 * x2))) = (y1 - y2) * (y1 - y2) * ((1 - d * (x1 * x2) * (y1 * y2) + (y1 * y2 - x1 * x2)) * (1 + d * (x1 * x2) * (y1 * y2) + (y1 * y2 + x1 * x2))) := by clear p1 p2 p1' p2'; grind
 generalize 1 + d * (x1 * x2) * (y1 * y2) = b at *
 generalize 1 - d * (x1 * x2) * (y1 * y2) = q at *
 clear hP hQ
 rw [show y1 * y2 - x1 * -x2 = y1 * y2 + x1 * x2 by clear p1 p2 key p1' p2'; grind]
 generalize y1 * y2 - x1 * x2 = s at *
 generalize y1 * y2 + x1 * x2 = r at *
 have m1 : q * (1 - s * E) = q - s := by clear p1 key p1' p2'; grind
 have m2 : q * (1 + s * E) = q + s := by clear p1 key p1' p2'; grind
 have m3 : b * (1 - r * B) = b - r := by clear p2 key p1' p2'; grind
 have m4 : b * (1 + r * B) = b + r := by clear p2 key p1' p2'; grind
 clear p1 p2
 generalize 1 - s * E = u1 at *
 generalize 1 + s * E = u2 at *
 generalize 1 - r * B = u3 at *
 generalize 1 + r * B = u4 at *
 refine zcx (zoG p2' p1') ?_
 rw [show q * b * ((y1 + y2) * (y1 + y2) * (u1 * u3)) = (y1 + y2) * (y1 + y2) * ((q * u1) * (b * u3)) by clear key m1 m2 m3 m4 p1' p2'; grind, show q * b * ((y1 - y2) * (y1 - y2) * (u2 * u4)) = (y1 - y2) * (y1 - y2) * ((q * u2) * (b * u4)) by clear key m1 m2 m3 m4 p1' p2'; grind, m1, m2, m3, m4]
 exact key
theorem zrX {d x1 y1 : K} (h : x1 * x1 + y1 * y1 = 1 + d * (x1 * x1) * (y1 * y1)) (hy : y1 = 0) : x1 * x1 = 1 := by
 have h1 : x1 * x1 = (x1 * x1 + y1 * y1) - y1 * y1 := by clear h hy; grind
 rw [h1, h, hy]
 clear h h1
 have h2 : ∀ t : K, 1 + t * (0 * 0) - 0 * 0 = 1 := fun t => by
  have z : t * (0 * 0) = 0 := by grind
  rw [z]
  decide +kernel
 exact h2 _
theorem zzc {d : K} {P Q : Ed} (hP : On d P) (hQ : On d Q) (h1 : P.y = 0) (h2 : Q.y = 0) : (zbT d P (zoI Q)).y * (zbT d P (zoI Q)).y = 1 := by
 have e1 := zrX hP h1
 have e2 := zrX hQ h2
 have i1 : iv (1 : K) = 1 := zCJ (by grind)
 unfold zbT tE zoI
 dsimp only
 rw [h1, h2, show d * (P.x * -Q.x) * (0 * 0) = 0 by clear e1 e2 hP hQ h1 h2; grind, zeM, i1]
 generalize P.x = x1 at *
 generalize Q.x = x2 at *
 rw [show (0 * 0 - x1 * -x2) * 1 * ((0 * 0 - x1 * -x2) * 1) = (x1 * x1) * (x2 * x2) by clear e1 e2 hP hQ h1 h2; grind, e1, e2]
 decide +kernel
theorem zCN {d e X1 Z1 X2 Z2 u : K} {P Q : Ed} (hc : Cv d e) (hP : On d P) (hQ : On d Q) (h1 : Rep e X1 Z1 P) (h2 : Rep e X2 Z2 Q)
  (hu : u * (1 - (zbT d P (zoI Q)).y) = e * (1 + (zbT d P (zoI Q)).y)) (hu0 : u ≠ 0) :
  Rep e (((X2 - Z2) * (X1 + Z1) + (X2 + Z2) * (X1 - Z1)) * ((X2 - Z2) * (X1 + Z1) + (X2 + Z2) * (X1 - Z1))) (u * (((X2 - Z2) * (X1 + Z1) - (X2 + Z2) * (X1 - Z1)) * ((X2 - Z2) * (X1 + Z1) - (X2 + Z2) * (X1 - Z1)))) (zbT d P Q) := by
 obtain ⟨l, hl, a1, a2⟩ := zpM (ee hc) h1
 obtain ⟨m, hm, b1, b2⟩ := zpM (ee hc) h2
 have k := zGv hc.free hP hQ
 have dn := zzc hP hQ
 have he := ee hc
 clear h1 h2
 unfold Rep
 have w : e = 1 ∨ e = -1 := zh6 he
 generalize (zbT d P Q).y = S at *
 generalize (zbT d P (zoI Q)).y = D at *
 clear hP hQ hc
 generalize P.y = y1 at *
 generalize Q.y = y2 at *
 have n0 : 16 * (l * l) * (m * m) ≠ 0 := zoG (zoG zj6 (zoG hl hl)) (zoG hm hm)
 have v0 : 1 - D ≠ 0 := fun z => zhv (by
  have z2 : e * (1 + D) = 0 := by rw [← hu, z]; clear dn k hu; grind
  have z3 : 1 + D = e * (e * (1 + D)) := by rw [show e * (e * (1 + D)) = e * e * (1 + D) by clear dn k hu z z2 he; grind, he]; clear dn k hu z z2 he; grind
  rw [z2] at z3
  clear dn k hu z2 he
  grind)
 have g : ((X2 - Z2) * (X1 + Z1) + (X2 + Z2) * (X1 - Z1)) * ((X2 - Z2) * (X1 + Z1) + (X2 + Z2) * (X1 - Z1)) = 16 * (l * l) * (m * m) * ((y1 + y2) * (y1 + y2)) ∧ ((X2 - Z2) * (X1 + Z1) - (X2 + Z2) * (X1 - Z1)) * ((X2 - Z2) * (X1 + Z1) - (X2 + Z2) * (X1 - Z1)) = 16 * (l * l) * (m * m) * ((y1 - y2) * (y1 - y2)) := by
  clear dn k hu v0 n0 hu0 he
  subst a1 a2 b1 b2
  rcases w with w | w <;> subst w <;> constructor <;> grind
 rw [g.1, g.2]
 clear g a1 a2 b1 b2
 generalize 16 * (l * l) * (m * m) = n at *
 refine ⟨zcx v0 ?_, fun ⟨z1, z2⟩ => ?_⟩
 ·rw [show (1 - D) * (n * ((y1 + y2) * (y1 + y2)) * (1 - S)) = n * ((y1 + y2) * (y1 + y2) * ((1 - S) * (1 - D))) by clear dn k hu v0 n0 hu0 he; grind, k, show (1 - D) * (e * (u * (n * ((y1 - y2) * (y1 - y2)))) * (1 + S)) = e * (u * (1 - D)) * (n * ((y1 - y2) * (y1 - y2)) * (1 + S)) by clear dn k hu v0 n0 hu0 he; grind, hu, show e * (e * (1 + D)) * (n * ((y1 - y2) * (y1 - y2)) * (1 + S)) = e * e * ((1 + D) * (n * ((y1 - y2) * (y1 - y2)) * (1 + S))) by clear dn k hu v0 n0 hu0 he; grind, he]
  clear dn k hu v0 n0 hu0 he
  grind
 ·have s1 : y1 + y2 = 0 := by
   have := (zcQ z1).resolve_left n0
   rcases zcQ this with h | h <;> exact h
  have s2 : y1 - y2 = 0 := by
   have := (zcQ ((zcQ z2).resolve_left hu0)).resolve_left n0
   rcases zcQ this with h | h <;> exact h
  have s3 : y1 = 0 := by
   have : 2 * y1 = 0 := by clear dn k hu z1 z2 he w; grind
   exact (zcQ this).resolve_left zhv
  have s4 : y2 = 0 := by
   have : 2 * y2 = 0 := by clear dn k hu z1 z2 he w; grind
   exact (zcQ this).resolve_left zhv
  rcases zh6 (dn s3 s4) with h | h
  ·exact v0 (by rw [h]; decide +kernel)
  ·rw [h] at hu
   have : u * 2 = 0 := by
    have e1 : u * 2 = u * (1 - -1) := by clear hu k dn he; grind
    rw [e1, hu]
    clear hu k dn he
    grind
   exact (zcQ this).elim hu0 zhv
def zsT (e : K) (q : Pt) (P : Ed) : Prop := Rep e (toK q.x) (toK q.z) P
theorem zrY {d e : K} {q : Pt} {P : Ed} (hc : Cv d e) (hP : On d P) (hq : zfY q) (h : zsT e q P) : zsT e (zoE q) (zbT d P P) := by
 unfold zsT at *
 have := zCM hc hP h
 unfold zoE zyK
 dsimp only
 simp only [zrM, zv4, zht _ _ hq.2, zht _ _ (zdf _ _)]
 exact this
theorem zzd {d e : K} {q s : Pt} {u : Nat} {P Q : Ed} (hc : Cv d e) (hP : On d P) (hQ : On d Q) (hq : zfY q) (hs : zfY s) (h1 : zsT e q P) (h2 : zsT e s Q)
  (hu : toK u * (1 - (zbT d P (zoI Q)).y) = e * (1 + (zbT d P (zoI Q)).y)) (hu0 : toK u ≠ 0) : zsT e (zmm u q s) (zbT d P Q) := by
 unfold zsT at *
 have := zCN hc hP hQ h1 h2 hu hu0
 unfold zmm zpv zpw
 dsimp only
 simp only [zrM, zv4, zht _ _ hq.2, zht _ _ hs.2, zht _ _ (zdf _ _)]
 exact this
theorem zwa {e : K} {q s : Pt} {u : Nat} {P : Ed} (hq : zfY q) (hs : zfY s) (h : zsT e (zmm u q s) P) : zsT e (zmm u s q) P := by
 unfold zsT zmm zpv zpw at *
 dsimp only at *
 simp only [zrM, zv4, zht _ _ hq.2, zht _ _ hs.2, zht _ _ (zdf _ _)] at *
 generalize toK q.x = a at *
 generalize toK q.z = b at *
 generalize toK s.x = c at *
 generalize toK s.z = f at *
 rw [show ((a - b) * (c + f) + (a + b) * (c - f)) * ((a - b) * (c + f) + (a + b) * (c - f)) = ((c - f) * (a + b) + (c + f) * (a - b)) * ((c - f) * (a + b) + (c + f) * (a - b)) by clear h; grind, show ((a - b) * (c + f) - (a + b) * (c - f)) * ((a - b) * (c + f) - (a + b) * (c - f)) = ((c - f) * (a + b) - (c + f) * (a - b)) * ((c - f) * (a + b) - (c + f) * (a - b)) by clear h; grind]
 exact h
def zf0 (k : Nat → Nat) : Nat → Nat
 | 0 => 0
 | n + 1 => 2 * zf0 k n + zeo k n
theorem zpN {d e : K} {P : Ed} {u : Nat} (hc : Cv d e) (hP : On d P) (hu : u < pN) (hu0 : toK u ≠ 0) (hq : toK u * (1 - P.y) = e * (1 + P.y)) (k : Nat → Nat) :
  ∀ n, zsT e (zdP u k n).1 (zc7 d P (zf0 k n)) ∧ zsT e (zdP u k n).2 (zc7 d P (zf0 k n + 1))
 | 0 => by
  refine ⟨⟨?_, ?_⟩, ⟨?_, ?_⟩⟩
  ·show toK 1 * (1 - 1) = e * toK 0 * (1 + 1)
   rw [zgK, show (1 : K) - 1 = 0 by decide +kernel, Fin.mul_zero, Fin.mul_zero, Fin.zero_mul]
  ·rintro ⟨h, _⟩
   exact zhu (zjf.symm.trans h)
  ·rw [show zc7 d P (zf0 k 0 + 1) = zbT d zfZ P from rfl, zjg]
   show toK u * (1 - P.y) = e * toK 1 * (1 + P.y)
   rw [hq, zjf]
   clear hq
   generalize P.y = y
   grind
  ·rintro ⟨_, h⟩
   exact zhu (zjf.symm.trans h)
 | n + 1 => by
  have ih := zpN hc hP hu hu0 hq k n
  have ok := zn8 u hu k n
  have o1 := zeN hc.free hP (zf0 k n)
  have o2 := zeN hc.free hP (zf0 k n + 1)
  have hD := zy9 hc.free hc.nz hP (zf0 k n)
  have hs : zsT e (zmm u (zdP u k n).2 (zdP u k n).1) (zc7 d P (2 * zf0 k n + 1)) := by
   have := zzd (u := u) hc o2 o1 ok.2 ok.1 ih.2 ih.1 (by rw [hD]; exact hq) hu0
   rwa [← zfd hc.free hc.nz hP, show zf0 k n + 1 + zf0 k n = 2 * zf0 k n + 1 by omega] at this
  rw [show zdP u k (n + 1) = zgG u (zeo k n) (zdP u k n).1 (zdP u k n).2 from rfl, show zf0 k (n + 1) = 2 * zf0 k n + zeo k n from rfl]
  unfold zgG
  rcases zhb k n with hb | hb
  ·rw [hb, if_neg (by omega), Nat.add_zero]
   refine ⟨?_, zwa ok.2 ok.1 hs⟩
   have := zrY hc o1 ok.1 ih.1
   rwa [← zfd hc.free hc.nz hP, show zf0 k n + zf0 k n = 2 * zf0 k n by omega] at this
  ·rw [hb, if_pos rfl]
   refine ⟨hs, ?_⟩
   have := zrY hc o2 ok.2 ih.2
   rwa [← zfd hc.free hc.nz hP, show zf0 k n + 1 + (zf0 k n + 1) = 2 * zf0 k n + 1 + 1 by omega] at this
def zxe (e Y : K) : K := if Y = 1 then 0 else e * (1 + Y) * iv (1 - Y)
theorem zrZ {Y : K} (h : Y ≠ 1) : 1 - Y ≠ 0 := fun e => h (by grind)
theorem zCO {d e X Z : K} {P : Ed} (hc : Cv d e) (h : Rep e X Z P) : X * iv Z = zxe e P.y := by
 obtain ⟨h1, h2⟩ := h
 have he := ee hc
 unfold zxe
 generalize P.y = Y at *
 by_cases hY : Y = 1
 ·rw [if_pos hY]
  have hZ : Z = 0 := by
   have : e * (Z * 2) = 0 := by
    have e1 : e * (Z * 2) = e * Z * (1 + 1) := by clear h1 he; grind
    rw [e1]
    rw [hY] at h1
    rw [← h1]
    clear h1 he
    grind
   have e0 : e ≠ 0 := fun z => by rw [z] at he; exact zhu (by rw [← he]; decide +kernel)
   exact (zcQ ((zcQ this).resolve_left e0)).resolve_right zhv
  rw [hZ, zCI]
  clear h1 he
  grind
 ·rw [if_neg hY]
  have hv := zbh (zrZ hY)
  have hZ : Z ≠ 0 := fun z => h2 ⟨by
   rw [z] at h1
   have : X * (1 - Y) = 0 := by rw [h1]; clear h1 he hv; grind
   exact (zcQ this).resolve_right (zrZ hY), z⟩
  have hz := zbh hZ
  generalize iv Z = z' at *
  generalize iv (1 - Y) = w at *
  have e1 : X * z' = X * (1 - Y) * w * z' := by rw [show X * (1 - Y) * w * z' = X * z' * ((1 - Y) * w) by clear h1 he hv hz; grind, hv]; clear h1 he hv hz; grind
  rw [e1, h1, show e * Z * (1 + Y) * w * z' = e * (1 + Y) * w * (Z * z') by clear h1 he hv hz e1; grind, hz]
  clear h1 he hv hz e1
  grind
def zpO (k : Nat → Nat) : Nat := zf0 (zbf k) 255
theorem zr0 {d e : K} {P : Ed} {u : Nat} (hc : Cv d e) (hP : On d P) (hu : u < pN) (hu0 : toK u ≠ 0) (hq : toK u * (1 - P.y) = e * (1 + P.y)) (k : Nat → Nat) :
  toK (zdx k u) = zxe e (zc7 d P (zpO k)).y := by
 have h := (zpN hc hP hu hu0 hq (zbf k) 255).1
 have ok := (zn8 u hu (zbf k) 255).1
 show toK (zdx k u) = zxe e (zc7 d P (zf0 (zbf k) 255)).y
 rw [← zCO hc h]
 unfold zdx
 rw [zrM]
 unfold iv
 rw [zfV, Nat.mod_eq_of_lt ok.2]
theorem zCP {d x y : K} (hf : zoH d) (h : x * x + y * y = 1 + d * (x * x) * (y * y)) (hy : y * y = 1) : x = 0 := by
 have h1 : (x * x) * (1 - d) = 0 := by
  rw [hy] at h
  clear hy
  grind
 have h2 : 1 - d ≠ 0 := fun z => hf 1 (by clear h hy h1; grind)
 have := (zcQ h1).resolve_right h2
 rcases zcQ this with h | h <;> exact h
theorem zwb {d e : K} {P : Ed} (hc : Cv d e) (hP : On d P) (h : zxe e P.y = 0) : P = zfZ ∨ P = zhL := by
 have he := ee hc
 obtain ⟨x, y⟩ := P
 unfold On at hP
 unfold zxe at h
 dsimp only at h hP
 by_cases hY : y = 1
 ·subst hY
  have := zCP hc.free hP (by decide +kernel)
  subst this
  exact .inl rfl
 ·rw [if_neg hY] at h
  have e0 : e ≠ 0 := fun z => by rw [z] at he; exact zhu (by rw [← he]; decide +kernel)
  have h1 := (zcQ ((zcQ h).resolve_right (zGq (zrZ hY)))).resolve_left e0
  have h2 : y = -1 := by clear h hP he; grind
  subst h2
  have := zCP hc.free hP (by decide +kernel)
  subst this
  exact .inr rfl
theorem zE6 {e : K} {P : Ed} (h : P = zfZ ∨ P = zhL) : zxe e P.y = 0 := by
 rcases h with h | h <;> subst h
 ·exact if_pos rfl
 ·have : zhL.y ≠ 1 := zrP
  unfold zxe
  rw [if_neg this]
  show e * (1 + -1) * _ = 0
  generalize iv _ = w
  have : (1 + -1 : K) = 0 := by decide +kernel
  rw [this]
  grind
theorem zze {d e : K} {P : Ed} {u : Nat} (hc : Cv d e) (hP : On d P) (hu : u < pN) (hu0 : toK u ≠ 0) (hq : toK u * (1 - P.y) = e * (1 + P.y)) (a b : Nat → Nat) :
  toK (zdx a (zdx b u)) = zxe e (zc7 d P (zpO b * zpO a)).y := by
 have h := zr0 hc hP hu hu0 hq b
 have hlt : zdx b u < pN := zdf _ _
 have oB := zeN hc.free hP (zpO b)
 rw [← zh7 hc.free hc.nz hP]
 by_cases h0 : toK (zdx b u) = 0
 ·have hz : zdx b u = 0 := by
   have := congrArg Fin.val h0
   rw [zfV, Nat.mod_eq_of_lt hlt] at this
   exact this
  rw [hz, zod, zgK]
  have hn := zwb hc oB (h.symm.trans h0)
  refine (zE6 ?_).symm
  rcases hn with hn | hn <;> rw [hn]
  ·exact .inl (zpL _)
  ·exact zrV _
 ·refine zr0 hc oB hlt h0 ?_ a
  rw [h] at h0 ⊢
  generalize (zc7 d P (zpO b)).y = Y at *
  unfold zxe at *
  by_cases hY : Y = 1
  ·rw [if_pos hY] at h0
   exact absurd rfl h0
  ·rw [if_neg hY] at h0 ⊢
   have hv := zbh (zrZ hY)
   generalize iv (1 - Y) = w at *
   rw [show e * (1 + Y) * w * (1 - Y) = e * (1 + Y) * ((1 - Y) * w) by clear h hv h0 hq; grind, hv]
   clear h hv h0 hq
   grind
theorem zzf {d : K} (h : d * (cA + 2) = cA - 2) : zoH d := fun s hs => zCL (s * (cA + 2)) (by
 rw [show s * (cA + 2) * (s * (cA + 2)) = s * s * (cA + 2) * (cA + 2) by clear h; grind, hs, h])
theorem zzg {d : K} (h : d * (cA - 2) = cA + 2) : zoH d := fun s hs => zCL (s * (cA - 2)) (by
 rw [show s * (cA - 2) * (s * (cA - 2)) = s * s * (cA - 2) * (cA - 2) by clear h; grind, hs, h]
 clear h
 generalize cA = c
 grind)
def zDE : K := (cA - 2) * iv (cA + 2)
def zDF : K := (cA + 2) * iv (cA - 2)
theorem zmA : zDE * (cA + 2) = cA - 2 := by
 unfold zDE
 have h := zbh zmy
 rw [show (cA - 2) * iv (cA + 2) * (cA + 2) = (cA - 2) * ((cA + 2) * iv (cA + 2)) by clear h; grind, h]
 clear h
 grind
theorem zmB : zDF * (cA - 2) = cA + 2 := by
 unfold zDF
 have h := zbh zmz
 rw [show (cA + 2) * iv (cA - 2) * (cA - 2) = (cA + 2) * ((cA - 2) * iv (cA - 2)) by clear h; grind, h]
 clear h
 grind
theorem zwc : (4 : K) ≠ 0 := fun h => absurd (congrArg Fin.val h) (by decide +kernel)
theorem zE7 : Cv zDE 1 where
 free := zzf zmA
 nz := fun h => zmz (by rw [← zmA, h, Fin.zero_mul])
 way := .inl ⟨rfl, by
  have h := zmA
  rw [zE4] at h
  generalize zDE = d at *
  generalize cB = c at *
  refine zcx zwc ?_
  grind⟩
theorem zE8 : Cv zDF (-1) where
 free := zzg zmB
 nz := fun h => zmy (by rw [← zmB, h, Fin.zero_mul])
 way := .inr ⟨rfl, by
  have h := zmB
  rw [zE4] at h
  generalize zDF = d at *
  generalize cB = c at *
  refine zcx zwc ?_
  grind⟩
theorem zCQ (u : K) : u * u + cA * u + 1 ≠ 0 := fun h => zCL (2 * u + cA) (by
 generalize cA = c at *
 grind)
theorem zzh {u : K} (h0 : u ≠ 0) : ∃ d e : K, ∃ P : Ed, Cv d e ∧ On d P ∧ u * (1 - P.y) = e * (1 + P.y) := by
 have hq := zCQ u
 have hQ := zbh hq
 have w0 : u * (u * u + cA * u + 1) ≠ 0 := zoG h0 hq
 rcases zrO w0 with hw | hw
 ·obtain ⟨r, hr⟩ := zv7 hw
  have hu : u + 1 ≠ 0 := fun z => by
   have hz : u = -1 := by clear hw hQ hr; grind
   have e1 : u * (u * u + cA * u + 1) = cA - 2 := by rw [hz]; clear hw hQ hr hz z; generalize cA = c; grind
   rw [e1, zmx] at hw
   exact zrP hw
  have hU := zbh hu
  have hs := zE1
  have hd := zmA
  refine ⟨zDE, 1, ⟨cS * r * iv (u * u + cA * u + 1), (u - 1) * iv (u + 1)⟩, zE7, ?_, ?_⟩
  ·unfold On
   dsimp only
   generalize iv (u + 1) = V at *
   generalize cS = s at *
   generalize zDE = d at *
   have hx : s * r * iv (u * u + cA * u + 1) * (s * r * iv (u * u + cA * u + 1)) = (cA + 2) * u * iv (u * u + cA * u + 1) := by
    generalize iv (u * u + cA * u + 1) = W at *
    rw [show s * r * W * (s * r * W) = s * s * (r * r) * W * W by clear hw hQ hU hs hr hd; grind, hs, hr, show (cA + 2) * (u * (u * u + cA * u + 1)) * W * W = (cA + 2) * u * W * ((u * u + cA * u + 1) * W) by clear hw hQ hU hs hr hd; generalize cA = c; grind, hQ]
    clear hw hQ hU hs hr hd
    grind
   rw [hx]
   have hW : u * u + cA * u + 1 ≠ 0 := hq
   generalize iv (u * u + cA * u + 1) = W at *
   clear hw hr hs hx w0
   generalize cA = c at *
   refine zcx hW (zcx (zoG hu hu) ?_)
   have m1 : (u + 1) * ((u - 1) * V) = u - 1 := by rw [show (u + 1) * ((u - 1) * V) = (u - 1) * ((u + 1) * V) by clear hQ hU hd; grind, hU]; clear hQ hU hd; grind
   generalize (u - 1) * V = y at *
   clear hU
   have m2 : (u + 1) * (u + 1) * (y * y) = (u - 1) * (u - 1) := by rw [← m1]; clear hQ hd; grind
   rw [show (u + 1) * (u + 1) * ((u * u + c * u + 1) * ((c + 2) * u * W + y * y)) = (u + 1) * (u + 1) * ((c + 2) * u * ((u * u + c * u + 1) * W)) + (u * u + c * u + 1) * ((u + 1) * (u + 1) * (y * y)) by clear hQ hd m1 m2; grind, show (u + 1) * (u + 1) * ((u * u + c * u + 1) * (1 + d * ((c + 2) * u * W) * (y * y))) = (u + 1) * (u + 1) * (u * u + c * u + 1) + d * (c + 2) * (u * ((u * u + c * u + 1) * W)) * ((u + 1) * (u + 1) * (y * y)) by clear hQ hd m1 m2; grind, hQ, m2, hd]
   clear hQ hd m1 m2
   grind
  ·dsimp only
   generalize iv (u + 1) = V at *
   clear hw hQ hr hs hd
   have e1 : 1 - (u - 1) * V = 2 * V := by
    refine zcx hu ?_
    grind
   have e2 : 1 + (u - 1) * V = 2 * u * V := by
    refine zcx hu ?_
    grind
   rw [e1, e2]
   clear e1 e2 hU
   grind
 ·have h1 : hf ((cA - 2) * (u * (u * u + cA * u + 1))) = 1 := by rw [zv6, zmx, hw]; decide +kernel
  obtain ⟨r, hr⟩ := zv7 h1
  have hu : u - 1 ≠ 0 := fun z => by
   have hz : u = 1 := by clear hw hQ hr h1; grind
   have e1 : u * (u * u + cA * u + 1) = cA + 2 := by rw [hz]; clear hw hQ hr hz z h1; generalize cA = c; grind
   rw [e1, zv8] at hw
   exact zrP hw.symm
  have hU := zbh hu
  have hd := zmB
  refine ⟨zDF, -1, ⟨r * iv (u * u + cA * u + 1), (u + 1) * iv (u - 1)⟩, zE8, ?_, ?_⟩
  ·unfold On
   dsimp only
   generalize iv (u - 1) = V at *
   generalize zDF = d at *
   have hx : r * iv (u * u + cA * u + 1) * (r * iv (u * u + cA * u + 1)) = (cA - 2) * u * iv (u * u + cA * u + 1) := by
    generalize iv (u * u + cA * u + 1) = W at *
    rw [show r * W * (r * W) = (r * r) * W * W by clear hw hQ hU hr hd h1; grind, hr, show (cA - 2) * (u * (u * u + cA * u + 1)) * W * W = (cA - 2) * u * W * ((u * u + cA * u + 1) * W) by clear hw hQ hU hr hd h1; generalize cA = c; grind, hQ]
    clear hw hQ hU hr hd h1
    grind
   rw [hx]
   have hW : u * u + cA * u + 1 ≠ 0 := hq
   generalize iv (u * u + cA * u + 1) = W at *
   clear hw hr hx w0 h1
   generalize cA = c at *
   refine zcx hW (zcx (zoG hu hu) ?_)
   have m1 : (u - 1) * ((u + 1) * V) = u + 1 := by rw [show (u - 1) * ((u + 1) * V) = (u + 1) * ((u - 1) * V) by clear hQ hU hd; grind, hU]; clear hQ hU hd; grind
   generalize (u + 1) * V = y at *
   clear hU
   have m2 : (u - 1) * (u - 1) * (y * y) = (u + 1) * (u + 1) := by rw [← m1]; clear hQ hd; grind
   rw [show (u - 1) * (u - 1) * ((u * u + c * u + 1) * ((c - 2) * u * W + y * y)) = (u - 1) * (u - 1) * ((c - 2) * u * ((u * u + c * u + 1) * W)) + (u * u + c * u + 1) * ((u - 1) * (u - 1) * (y * y)) by clear hQ hd m1 m2; grind, show (u - 1) * (u - 1) * ((u * u + c * u + 1) * (1 + d * ((c - 2) * u * W) * (y * y))) = (u - 1) * (u - 1) * (u * u + c * u + 1) + d * (c - 2) * (u * ((u * u + c * u + 1) * W)) * ((u - 1) * (u - 1) * (y * y)) by clear hQ hd m1 m2; grind, hQ, m2, hd]
   clear hQ hd m1 m2
   grind
  ·dsimp only
   generalize iv (u - 1) = V at *
   clear hw hQ hr hd h1
   have e1 : 1 - (u + 1) * V = -2 * V := by
    refine zcx hu ?_
    grind
   have e2 : 1 + (u + 1) * V = 2 * u * V := by
    refine zcx hu ?_
    grind
   rw [e1, e2]
   clear e1 e2 hU
   grind
end
section
theorem oq2 : IsP 2 := zbk (by decide +kernel)
theorem oq3 : IsP 3 := zbk (by decide +kernel)
theorem oq5 : IsP 5 := zbk (by decide +kernel)
theorem oq7 : IsP 7 := zbk (by decide +kernel)
theorem zE9 : IsP 11 := zbk (by decide +kernel)
theorem zGw : IsP 13 := zbk (by decide +kernel)
theorem zGx : IsP 17 := zbk (by decide +kernel)
theorem zHu : IsP 19 := zbk (by decide +kernel)
theorem zGS : IsP 23 := zbk (by decide +kernel)
theorem zGT : IsP 41 := zbk (by decide +kernel)
theorem zGU : IsP 43 := zbk (by decide +kernel)
theorem zHv : IsP 47 := zbk (by decide +kernel)
theorem zHw : IsP 67 := zbk (by decide +kernel)
theorem zGV : IsP 73 := zbk (by decide +kernel)
theorem zHx : IsP 79 := zbk (by decide +kernel)
theorem zGy : IsP 113 := zbk (by decide +kernel)
theorem zGz : IsP 269 := zbk (by decide +kernel)
theorem zGA : IsP 307 := zbk (by decide +kernel)
theorem zFa : IsL 1361 := za9 1361 3 [2, 2, 2, 2, 5, 17] (by decide +kernel) (all_cons oq2 (all_cons oq2 (all_cons oq2 (all_cons oq2 (all_cons oq5 (all_cons zGx zaq))))))
theorem zFb : IsL 1723 := za9 1723 3 [2, 3, 7, 41] (by decide +kernel) (all_cons oq2 (all_cons oq3 (all_cons oq7 (all_cons zGT zaq))))
theorem zFc : IsL 2551 := za9 2551 6 [2, 3, 5, 5, 17] (by decide +kernel) (all_cons oq2 (all_cons oq3 (all_cons oq5 (all_cons oq5 (all_cons zGx zaq)))))
theorem zFd : IsL 2851 := za9 2851 2 [2, 3, 5, 5, 19] (by decide +kernel) (all_cons oq2 (all_cons oq3 (all_cons oq5 (all_cons oq5 (all_cons zHu zaq)))))
theorem zFe : IsL 2939 := za9 2939 2 [2, 13, 113] (by decide +kernel) (all_cons oq2 (all_cons zGw (all_cons zGy zaq)))
theorem zFf : IsL 3797 := za9 3797 2 [2, 2, 13, 73] (by decide +kernel) (all_cons oq2 (all_cons oq2 (all_cons zGw (all_cons zGV zaq))))
theorem zFg : IsL 5879 := za9 5879 11 [2, 2939] (by decide +kernel) (all_cons oq2 (all_cons zFe.1 zaq))
theorem zCR : IsL 17231 := za9 17231 13 [2, 5, 1723] (by decide +kernel) (all_cons oq2 (all_cons oq5 (all_cons zFb.1 zaq)))
theorem zCS : IsL 22111 := za9 22111 6 [2, 3, 5, 11, 67] (by decide +kernel) (all_cons oq2 (all_cons oq3 (all_cons oq5 (all_cons zE9 (all_cons zHw zaq)))))
theorem zCT : IsL 30703 := za9 30703 3 [2, 3, 7, 17, 43] (by decide +kernel) (all_cons oq2 (all_cons oq3 (all_cons oq7 (all_cons zGx (all_cons zGU zaq)))))
theorem zCU : IsL 34123 := za9 34123 2 [2, 3, 11, 11, 47] (by decide +kernel) (all_cons oq2 (all_cons oq3 (all_cons zE9 (all_cons zE9 (all_cons zHv zaq)))))
theorem zCV : IsL 41081 := za9 41081 3 [2, 2, 2, 5, 13, 79] (by decide +kernel) (all_cons oq2 (all_cons oq2 (all_cons oq2 (all_cons oq5 (all_cons zGw (all_cons zHx zaq))))))
theorem zCW : IsL 82163 := za9 82163 2 [2, 41081] (by decide +kernel) (all_cons oq2 (all_cons zCV.1 zaq))
theorem zzi : IsL 132667 := za9 132667 5 [2, 3, 22111] (by decide +kernel) (all_cons oq2 (all_cons oq3 (all_cons zCS.1 zaq)))
theorem zzj : IsL 137849 := za9 137849 3 [2, 2, 2, 17231] (by decide +kernel) (all_cons oq2 (all_cons oq2 (all_cons oq2 (all_cons zCR.1 zaq))))
theorem zzk : IsL 409477 := za9 409477 2 [2, 2, 3, 34123] (by decide +kernel) (all_cons oq2 (all_cons oq2 (all_cons oq3 (all_cons zCU.1 zaq))))
theorem zzm : IsL 531581 := za9 531581 2 [2, 2, 5, 7, 3797] (by decide +kernel) (all_cons oq2 (all_cons oq2 (all_cons oq5 (all_cons oq7 (all_cons zFf.1 zaq)))))
theorem zwd : IsL 1224481 := za9 1224481 13 [2, 2, 2, 2, 2, 3, 5, 2551] (by decide +kernel) (all_cons oq2 (all_cons oq2 (all_cons oq2 (all_cons oq2 (all_cons oq2 (all_cons oq3 (all_cons oq5 (all_cons zFc.1 zaq))))))))
theorem zsU : IsL 14741173 := za9 14741173 2 [2, 2, 3, 3, 409477] (by decide +kernel) (all_cons oq2 (all_cons oq2 (all_cons oq3 (all_cons oq3 (all_cons zzk.1 zaq)))))
theorem zsV : IsL 58964693 := za9 58964693 2 [2, 2, 14741173] (by decide +kernel) (all_cons oq2 (all_cons oq2 (all_cons zsU.1 zaq)))
theorem zpP : IsL 292386187 := za9 292386187 2 [2, 3, 3, 3, 3, 307, 5879] (by decide +kernel) (all_cons oq2 (all_cons oq3 (all_cons oq3 (all_cons oq3 (all_cons oq3 (all_cons zGA (all_cons zFg.1 zaq)))))))
theorem zjH : IsL 213441916511 := za9 213441916511 13 [2, 5, 73, 292386187] (by decide +kernel) (all_cons oq2 (all_cons oq5 (all_cons zGV (all_cons zpP.1 zaq))))
theorem zgL : IsL 1257559732178653 := za9 1257559732178653 2 [2, 2, 3, 7, 23, 531581, 1224481] (by decide +kernel) (all_cons oq2 (all_cons oq2 (all_cons oq3 (all_cons oq7 (all_cons zGS (all_cons zzm.1 (all_cons zwd.1 zaq)))))))
theorem zeO : IsL 4434155615661930479 := za9 4434155615661930479 17 [2, 41, 43, 1257559732178653] (by decide +kernel) (all_cons oq2 (all_cons zGT (all_cons zGU (all_cons zgL.1 zaq))))
theorem zd4 : IsL 3044861653679985063343 := za9 3044861653679985063343 5 [2, 3, 11, 30703, 82163, 132667, 137849] (by decide +kernel) (all_cons oq2 (all_cons oq3 (all_cons zE9 (all_cons zCT.1 (all_cons zCW.1 (all_cons zzi.1 (all_cons zzj.1 zaq)))))))
theorem zc0 : IsL 172054593956031949258510691 := za9 172054593956031949258510691 2 [2, 5, 1361, 2851, 4434155615661930479] (by decide +kernel) (all_cons oq2 (all_cons oq5 (all_cons zFa.1 (all_cons zFd.1 (all_cons zeO.1 zaq)))))
theorem zce : IsL 198211423230930754013084525763697 := za9 198211423230930754013084525763697 5 [2, 2, 2, 2, 3, 23, 58964693, 3044861653679985063343] (by decide +kernel) (all_cons oq2 (all_cons oq2 (all_cons oq2 (all_cons oq2 (all_cons oq3 (all_cons zGS (all_cons zsV.1 (all_cons zd4.1 zaq))))))))
theorem zby : IsL 19757330305831588566944191468367130476339 := za9 19757330305831588566944191468367130476339 2 [2, 269, 213441916511, 172054593956031949258510691] (by decide +kernel) (all_cons oq2 (all_cons zGz (all_cons zjH.1 (all_cons zc0.1 zaq))))
theorem zbt : IsL 276602624281642239937218680557139826668747 := za9 276602624281642239937218680557139826668747 2 [2, 7, 19757330305831588566944191468367130476339] (by decide +kernel) (all_cons oq2 (all_cons oq7 (all_cons zby.1 zaq)))
theorem zak : IsL 7237005577332262213973186563042994240857116359379907606001950938285454250989 := za9 7237005577332262213973186563042994240857116359379907606001950938285454250989 2 [2, 2, 3, 11, 198211423230930754013084525763697, 276602624281642239937218680557139826668747] (by decide +kernel) (all_cons oq2 (all_cons oq2 (all_cons oq3 (all_cons zE9 (all_cons zce.1 (all_cons zbt.1 zaq))))))
def zop : Nat := 7237005577332262213973186563042994240857116359379907606001950938285454250989
def zFh (i : Nat) : Nat := zop / 256 ^ i % 256
theorem zzn : zf0 zFh 255 = zop := by decide +kernel
theorem zGB : (zdP 9 zFh 255).1.z = 0 := by decide +kernel
section
variable {d e : K} {P : Ed}
theorem zzo (hc : Cv d e) (hP : On d P) (hy : P.y = 1) : P = zfZ := by
 obtain ⟨x, y⟩ := P
 dsimp only at hy
 subst hy
 have := zCP hc.free hP (show (1 : K) * 1 = 1 by decide +kernel)
 subst this
 rfl
theorem zmC : 9 < pN := by unfold pN; decide +kernel
theorem zpQ : toK 9 ≠ 0 := fun h => by
 have h1 := congrArg Fin.val h
 rw [zfV, Nat.mod_eq_of_lt zmC] at h1
 exact absurd h1 (by decide)
theorem zCX (hc : Cv d e) (hP : On d P) (hq : toK 9 * (1 - P.y) = e * (1 + P.y)) : zc7 d P zop = zfZ := by
 have h := (zpN hc hP zmC zpQ hq zFh 255).1
 rw [zzn] at h
 obtain ⟨h1, h2⟩ := h
 rw [zGB, zgK] at h1 h2
 have hX : toK (zdP 9 zFh 255).1.x ≠ 0 := fun hx => h2 ⟨hx, rfl⟩
 have hon := zeN hc.free hP zop
 refine zzo hc hon ?_
 generalize (zc7 d P zop).y = Y at *
 generalize toK (zdP 9 zFh 255).1.x = Z at *
 have h3 : Z * (1 - Y) = 0 := by clear h2 hX hq; grind
 have h4 := (zcQ h3).resolve_left hX
 clear h1 h2 h3 hX hq hon
 grind
theorem zHy (hc : Cv d e) (hq : toK 9 * (1 - P.y) = e * (1 + P.y)) : P ≠ zfZ := fun h => by
 subst h
 have he := ee hc
 have e0 : e ≠ 0 := fun z => by rw [z] at he; exact zhu (by rw [← he]; decide +kernel)
 have h1 : e * 2 = 0 := by
  have : zfZ.y = 1 := rfl
  rw [this] at hq
  clear he e0
  grind
 exact zhv ((zcQ h1).resolve_left e0)
theorem mul_one (P : Ed) : zc7 d P 1 = P := zjg P
theorem zCY (hc : Cv d e) (hP : On d P) : ∀ m n : Nat, zc7 d P m = zfZ → zc7 d P n = zfZ → zc7 d P (Nat.gcd m n) = zfZ := fun m => by
 induction m using Nat.strongRecOn with
 | ind m ih =>
  intro n hm hn
  by_cases h0 : m = 0
  ·subst h0; rw [Nat.gcd_zero_left]; exact hn
  ·rw [Nat.gcd_rec]
   refine ih (n % m) (Nat.mod_lt _ (Nat.pos_of_ne_zero h0)) m ?_ hm
   have h1 : zc7 d P (m * (n / m) + n % m) = zfZ := by rw [Nat.div_add_mod]; exact hn
   rw [zfd hc.free hc.nz hP, ← zh7 hc.free hc.nz hP, hm, zpL, zjg] at h1
   exact h1
theorem zCZ (hc : Cv d e) (hP : On d P) (hq : toK 9 * (1 - P.y) = e * (1 + P.y)) {n : Nat} (h : zc7 d P n = zfZ) : zop ∣ n := by
 have h1 := zCY hc hP zop n (zCX hc hP hq) h
 rcases zak.1.2 (Nat.gcd zop n) (Nat.gcd_dvd_left ..) with h2 | h2
 ·rw [h2, mul_one] at h1
  exact absurd h1 (zHy hc hq)
 ·have h3 := Nat.gcd_dvd_right zop n
  rw [h2] at h3
  exact h3
end
theorem zwe (k : Nat → Nat) : ∀ n, zf0 k n < 2 ^ n
 | 0 => by show 0 < 1; decide
 | n + 1 => by
  have h1 := zwe k n
  have h2 := zhb k n
  rw [zf0, Nat.pow_succ]
  omega
theorem zr1 (k : Nat → Nat) (h : zf0 k 1 = 1) : ∀ n, 0 < zf0 k (n + 1)
 | 0 => by rw [h]; decide
 | n + 1 => by
  have h1 := zr1 k h n
  rw [zf0]
  omega
theorem zwf (k : Nat → Nat) : zf0 (zbf k) 1 = 1 := by
 show 2 * 0 + zeo (zbf k) 0 = 1
 unfold zeo
 rw [show (254 - 0) / 8 = 31 from rfl, show (254 - 0) % 8 = 6 from rfl]
 show _ + zbf k 31 / 64 % 2 = 1
 have : zbf k 31 = k 31 % 64 + 64 := by unfold zbf; rw [if_neg (by decide), if_pos rfl]
 omega
theorem zsW (k : Nat → Nat) : zpO k = 8 * zf0 (zbf k) 252 := by
 have h0 : zbf k 0 = k 0 / 8 * 8 := by unfold zbf; rw [if_pos rfl]
 have b : ∀ j, j < 3 → zeo (zbf k) (252 + j) = 0 := fun j hj => by
  unfold zeo
  rw [show (254 - (252 + j)) / 8 = 0 by omega, h0]
  rcases (by omega : j = 0 ∨ j = 1 ∨ j = 2) with h | h | h <;> subst h
  ·show k 0 / 8 * 8 / 4 % 2 = 0; omega
  ·show k 0 / 8 * 8 / 2 % 2 = 0; omega
  ·show k 0 / 8 * 8 / 1 % 2 = 0; omega
 have b0 := b 0 (by decide)
 have b1 := b 1 (by decide)
 have b2 := b 2 (by decide)
 show 2 * (2 * (2 * zf0 (zbf k) 252 + zeo (zbf k) 252) + zeo (zbf k) 253) + zeo (zbf k) 254 = _
 rw [show zeo (zbf k) 252 = 0 from b0, show zeo (zbf k) 253 = 0 from b1, show zeo (zbf k) 254 = 0 from b2]
 omega
theorem zr2 (k : Nat → Nat) : ¬ zop ∣ zpO k := fun h => by
 rw [zsW] at h
 have h1 := zwe (zbf k) 252
 have h2 := zr1 (zbf k) (zwf k) 251
 have h3 : (2 : Nat) ^ 252 < zop := by unfold zop; decide +kernel
 have h4 : (8 : Nat) < zop := by unfold zop; decide +kernel
 rcases zn3 zak.1 h with h5 | h5
 ·have := Nat.le_of_dvd (by decide) h5
  exact absurd h4 (by unfold zop; omega)
 ·have := Nat.le_of_dvd h2 h5
  exact absurd (jT (Nat.lt_trans h1 h3) this) (Nat.lt_irrefl _)
theorem zC0 : ¬ zop ∣ 2 := fun h => absurd (Nat.le_of_dvd (by decide) h) (by unfold zop; omega)
theorem zoq (a b : Nat → Nat) : zdx a (zdx b 9) ≠ 0 := fun h0 => by
 obtain ⟨d, e, P, hc, hP, hq⟩ := zzh zpQ
 have h1 := zze hc hP zmC zpQ hq a b
 rw [h0, zgK] at h1
 have hon := zeN hc.free hP (zpO b * zpO a)
 have h2 : zc7 d (zc7 d P (zpO b * zpO a)) 2 = zfZ := by
  show zbT d (zc7 d (zc7 d P (zpO b * zpO a)) 1) (zc7 d P (zpO b * zpO a)) = zfZ
  rw [mul_one]
  rcases zwb hc hon h1.symm with h3 | h3 <;> rw [h3]
  ·exact zjg _
  ·exact zoo
 rw [zh7 hc.free hc.nz hP] at h2
 have hp := zak.1
 rcases zn3 hp (zCZ hc hP hq h2) with h4 | h4
 ·rcases zn3 hp h4 with h5 | h5
  ·exact zr2 _ h5
  ·exact zr2 _ h5
 ·exact zC0 h4
theorem zC1 (b : Nat → Nat) : zdx b 9 ≠ 0 := fun h0 => zoq b b (by rw [h0, zod])
end
section
open Go.ChangeShapes Go.WideShapes Go.ChangeAt Go.RowKit
section
variable {H : Type} {enc : TypeId × Value → H} {P : Program} {w : World} {base : Nat} {spare : Nat → Bool} {held : Bool} {t e : TypeId} {v : Value} {d : DataW H} {p : List MemPlace} {r : Reach}
theorem zor {n : Nat} (ht : P.underlying t = some (.array n e)) (h : Value.okWide P w r base t v) : ∃ cs, v = .agg cs ∧ cs.size = P.cellsOf t := by
 simp only [Value.okWide, ht] at h
 obtain ⟨cs, h1, h2, _⟩ := h
 exact ⟨cs, h1, h2⟩
end
theorem zFi {n : Int} (h : (Lit.int .u8 n).wf = true) : 0 ≤ n ∧ n < 256 := by
 simp [Lit.wf, IntKind.min, IntKind.max, IntKind.signed, IntKind.bits] at h
 omega
end
section
open Go.ChangeShapes Go.WideShapes Go.ChangeAt Go.RowKit
def zzp {H : Type} (P : Program) (t : TypeId) (d : DataW H) : Prop := ∀ n ∈ d.weights P t, n ≤ reachBytes
theorem zzq {H : Type} {P : Program} {ts : List TypeId} {ds : List (DataW H)} (hz : (DataW.weightsEach P ts ds).all (· ≤ reachBytes) = true) {j : Nat} {t : TypeId} {d : DataW H} (ht : ts[j]? = some t) (hd : ds[j]? = some d) : zzp P t d := fun n hn => by
 have := List.all_eq_true.1 hz n (DataW.weights_mem_each ht hd n hn)
 simpa using this
def Opn (P : Program) (t : TypeId) (φ : List Value → World → Prop) : Prop :=
 ∀ (H : Type) (enc : TypeId × Value → H) (w : World) (base : Nat) (spare : Nat → Bool) (held : Bool) (fuel : Nat) (x : DataW H × List MemPlace) (cs : List Value), DataW.trod enc P w base spare held fuel t cs = some x → zzp P t x.1 → φ cs w
theorem Opn.imp {P : Program} {t : TypeId} {φ ψ : List Value → World → Prop} (o : Opn P t φ) (h : ∀ cs w, φ cs w → ψ cs w) : Opn P t ψ := fun H enc w base spare held fuel x cs h1 h2 => h cs w (o H enc w base spare held fuel x cs h1 h2)
section
variable {P : Program} {t e : TypeId}
theorem zC2 (ht : P.underlying t = some (.array 32 e)) (he : P.underlying e = some (.int .u8)) (hce : P.cellsOf e = 1) (hct : P.cellsOf t = 32) : Opn P t fun cs w => ∃ l : List Nat, l.length = 32 ∧ (∀ x ∈ l, x < 256) ∧ cs = cl [.key l] := fun H enc w base spare held fuel x cs h hl => by
 obtain ⟨xs, m, _, _, hcl, hxl, hall⟩ := DataW.trod_array ht h
 have key : ∀ i : Fin 32, ∃ z : Nat, cs[i.1]? = some (bv z) ∧ z < 256 := fun i => by
  have h1 := hall i.1 i.2
  rw [hce, Nat.mul_one, jP (by omega)] at h1
  obtain ⟨n, h2, _, hw⟩ := DataW.trod_int he h1
  have hb := zFi hw
  refine ⟨n.toNat, ?_, by omega⟩
  have : ((cs.drop i.1).take 1)[0]? = some (.int .u8 n) := by rw [h2]; rfl
  rw [List.getElem?_take_of_lt (by omega), List.getElem?_drop] at this
  rw [Nat.add_zero] at this
  rw [this]
  unfold bv
  rw [Int.toNat_of_nonneg hb.1]
 obtain ⟨f, hf⟩ := Classical.axiomOfChoice key
 refine ⟨List.ofFn f, by simp, fun y hy => ?_, ?_⟩
 ·obtain ⟨i, rfl⟩ := List.mem_ofFn.1 hy
  exact (hf i).2
 ·show cs = zgQ (List.ofFn f) ++ []
  rw [List.append_nil]
  unfold zgQ
  apply List.ext_getElem?
  intro i
  by_cases hi : i < 32
  ·rw [(hf ⟨i, hi⟩).1, List.getElem?_map, List.getElem?_range hi]
   show _ = some (bv ((List.ofFn f).getD i 0))
   rw [jR, List.getElem?_ofFn, dif_pos hi]
   rfl
  ·rw [List.getElem?_eq_none (by omega), List.getElem?_eq_none (by simp; omega)]
theorem zC3 {φ : List Value → World → Prop} (o : Opn P t φ) {H : Type} {enc : TypeId × Value → H} {w : World} {base : Nat} {spare : Nat → Bool} {held : Bool} {v : Value} {d : DataW H} {p : List MemPlace} (h : DataW.Trod enc P w base spare held t v d p) (hl : zzp P t d) : φ v.cells.toList w := by
 obtain ⟨fuel, hf⟩ := h
 exact o H enc w base spare held fuel _ _ hf hl
theorem zFj {cs : Array Value} {X : List Chunk} (e : (Value.agg cs).cells.toList = cl X) : cs = ca X := by
 have e' : cs.toList = cl X := e
 exact Array.ext' (by rw [e']; rfl)
end
end
section
open Go.ChangeShapes Go.WideShapes Go.ChangeAt Go.RowKit
theorem zGC : Opn Tryz.prog 23 fun cs w => ∃ l : List Nat, l.length = 32 ∧ (∀ x ∈ l, x < 256) ∧ cs = cl [.key l] := zC2 Tryz.underlying23 Tryz.underlying5 (by kernel_rfl) (by kernel_rfl)
def zsX : List Int := [1116352408, 1899447441, 3049323471, 3921009573, 961987163, 1508970993, 2453635748, 2870763221, 3624381080, 310598401, 607225278, 1426881987, 1925078388, 2162078206, 2614888103, 3248222580, 3835390401, 4022224774, 264347078, 604807628, 770255983, 1249150122, 1555081692, 1996064986, 2554220882, 2821834349, 2952996808, 3210313671, 3336571891, 3584528711, 113926993, 338241895, 666307205, 773529912, 1294757372, 1396182291, 1695183700, 1986661051, 2177026350, 2456956037, 2730485921, 2820302411, 3259730800, 3345764771, 3516065817, 3600352804, 4094571909, 275423344, 430227734, 506948616, 659060556, 883997877, 958139571, 1322822218, 1537002063, 1747873779, 1955562222, 2024104815, 2227730452, 2361852424, 2428436474, 2756734187, 3204031479, 3329325298]
def zGD (i : Nat) : Nat := (zsX.getD i 0).toNat
theorem zj7 : cl [.row 64 fun i => u32 (zGD i)] = zsX.map fun z => Value.int .u32 z := by kernel_rfl
theorem zC4 {LL : List (String × DataW Unit)} (hm : ("coterie/sha.adds", Rows.laid_coterie_sha_adds) ∈ LL) {W : World} (h : laidMet Tryz.prog LL W) : St (AtC ⟨2, 0, none⟩ [.row 64 fun i => u32 (zGD i)]) W [] := by
 obtain ⟨g, t, cs, fuel, p, hg, hty, hvar, hd⟩ := Lib.laidMet.reads h (n := "coterie/sha.adds") (d := Rows.laid_coterie_sha_adds) hm
 obtain rfl := Option.some.inj ((show Tryz.prog.globalNamed "coterie/sha.adds" = some 2 by kernel_rfl).symm.trans hg)
 obtain rfl := Option.some.inj ((show (Tryz.prog.globals[2 ]?).map (·.type) = some 199 by kernel_rfl).symm.trans hty)
 have hcs := Lib.cells_of_tab (zs := zsX) (k := .u32) Tryz.underlying199 Tryz.underlying147 (by kernel_rfl) (by kernel_rfl) hd
 rw [← zj7] at hcs
 intro w' hk j u hu
 rw [← hcs] at hu
 have h1 := World.var?_cell hg hvar j
 have h2 : cs[j]? = some u := by rw [← Array.getElem?_toList]; exact hu
 rw [h2] at h1
 rw [zbU, Nat.zero_add, ← h1]
 exact World.cell?_of_block (hk _ (World.block_lt_of_cell? _ _ h1) (by simp))
theorem zC5 {LL : List (String × DataW Unit)} (hm : ("coterie/coterieref02.k", Rows.laid_coterie_coterieref02_k) ∈ LL) {W : World} (h : laidMet Tryz.prog LL W) : St (AtC ⟨0, 0, none⟩ [.row 64 fun i => u32 (zGD i)]) W [] := by
 obtain ⟨g, t, cs, fuel, p, hg, hty, hvar, hd⟩ := Lib.laidMet.reads h (n := "coterie/coterieref02.k") (d := Rows.laid_coterie_coterieref02_k) hm
 obtain rfl := Option.some.inj ((show Tryz.prog.globalNamed "coterie/coterieref02.k" = some 0 by kernel_rfl).symm.trans hg)
 obtain rfl := Option.some.inj ((show (Tryz.prog.globals[0 ]?).map (·.type) = some 199 by kernel_rfl).symm.trans hty)
 have hcs := Lib.cells_of_tab (zs := zsX) (k := .u32) Tryz.underlying199 Tryz.underlying147 (by kernel_rfl) (by kernel_rfl) hd
 rw [← zj7] at hcs
 intro w' hk j u hu
 rw [← hcs] at hu
 have h1 := World.var?_cell hg hvar j
 have h2 : cs[j]? = some u := by rw [← Array.getElem?_toList]; exact hu
 rw [h2] at h1
 rw [zbU, Nat.zero_add, ← h1]
 exact World.cell?_of_block (hk _ (World.block_lt_of_cell? _ _ h1) (by simp))
def zHz : ByteArray := { data := #[98, 121, 116, 101, 115, 46, 66, 117, 102, 102, 101, 114, 58, 32, 116, 111, 111, 32, 108, 97, 114, 103, 101] }
noncomputable def zHA : Nat := (World.holding Tryz.prog default ⟨#[], #[], []⟩).heap.size
noncomputable def zFk (os : Os) : World :=
 let w0 := World.holding Tryz.prog os ⟨#[.cells #[.string zHz] 252 ], #[], []⟩
 { w0 with heap := ((w0.heap.modify 1 fun
   | .cells _ t frozen => .cells #[.iface 236 (.pointer (some ⟨zHA, 0, none⟩))] t frozen
   | o => o).modify 2 fun
   | .cells _ t frozen => .cells (zsX.map fun z => Value.int .u32 z).toArray t frozen
   | o => o).modify 0 fun
   | .cells _ t frozen => .cells (zsX.map fun z => Value.int .u32 z).toArray t frozen
   | o => o }
end
end Go.Proofs.YtcmmpiaogfnmoaaGreatDoor
