/- A region that draws its order, with several new blocks: they lie apart. No program is in sight. The walks of layer 6: the reckoner's methods, of numbers that may be. The walk of layer 6: two points change places, or do not. The walk of layer 6: a step of the ladder, of numbers that may be. Plain: the prime of layer 5, and its powers; no program is in sight. Plain law of layer 5: what a number is divided by is it, to the power of the prime less 2. The ladder's numbers (plain): sums, differences, products by the prime; twice a point, two points together; what the program's steps stand for. Plain -/
import Derived.Test.YtfolbgiekbimpaaGreatDoorKemUnboxesD
import Derived.Laws.BitsAllLaws
set_option linter.unusedSimpArgs false
set_option linter.unusedVariables false
set_option maxRecDepth 200000
set_option maxHeartbeats 6000000
namespace Go.Proofs.YtfolbgiekbimpaaGreatDoor
section
open Go.RowKit
def zc8 (o : Oper) : Bool := match o.op with | .alloc _ => true | _ => false
def zpN (v : Value) (w : World) : Prop := ∃ B, v = .pointer (some ⟨B, 0, none⟩) ∧ B < w.heap.size
theorem zpN.below {v : Value} {w w' : World} (h : zpN v w) (hb : Below w.heap.size w w') : zpN v w' := by
 obtain ⟨B, rfl, hB⟩ := h
 exact ⟨B, rfl, jT hB hb.size⟩
def zjs (w : World) : Addr := ⟨w.heap.size, 0, none⟩
def zfX (P : Program) (ops : Array Oper) (Q : Exit → Act → World → Prop) (o : Oper) (r : zfF) (a : Act) (w : World) : Prop :=
 match o.op with
 | .alloc _ => Region.wanted o (yielded ops a.tmps) = true ∧ (∃ b, (execOp a.eval o).run P w = .ok (.value (.pointer (some (zjs w)))) (w.alloc b) ∧ r (.pointer (some (zjs w))) (w.alloc b))
 | _ => zbX P ops Q o r a w
def zec (P : Program) (ops : Array Oper) (Q : Exit → Act → World → Prop) (n : Nat) (hd : List Oper) (a : Act) (w0 : World) (R : List zfF) : List (Oper × zfF × List Nat) → Prop
 | [] => True
 | (o, r, js) :: l => (zfO n fun xs => ∀ w', Below w0.heap.size w0 w' → zcD R xs w' js (zfX P ops Q o r (zbQ hd a xs) w')) ∧ zec P ops Q n hd a w0 R l
def zbp (xs : List Value) (i j : Nat) : Prop := match xs[i]?, xs[j]? with | some x, some y => x ≠ y | _, _ => True
def zdD (xs : List Value) : List (Nat × Nat) → Prop → Prop
 | [], p => p
 | d :: ds, p => zbp xs d.1 d.2 → zdD xs ds p
theorem zjt {xs : List Value} {p : Prop} : ∀ (ds : List (Nat × Nat)), zdD xs ds p → (∀ d ∈ ds, zbp xs d.1 d.2) → p
 | [], h, _ => h
 | d :: ds, h, hd => zjt ds (h (hd d (by simp))) (fun k hk => hd k (by simp [hk]))
def zs2 (l : List Oper) (n : Nat) (D : List (Nat × Nat)) : Bool :=
 D.all fun d => decide (d.1 < d.2) && decide (d.2 < n) && (match l[d.1]? with | some o => zc8 o | none => false) && (match l[d.2]? with | some o => zc8 o | none => false)
section
variable {P : Program} {Q : Exit → Act → World → Prop} {l : List Oper} {n : Nat} {a : Act} {w0 : World}
theorem zhY {R : List zfF} {hd : List Oper} : ∀ (items : List (Oper × zfF × List Nat)), zec P l.toArray Q n hd a w0 R items → ∀ (i : Nat) (o : Oper) (r : zfF) (js : List Nat), items[i]? = some (o, r, js) →
  zfO n fun xs => ∀ w', Below w0.heap.size w0 w' → zcD R xs w' js (zfX P l.toArray Q o r (zbQ hd a xs) w')
 | [], _, _, _, _, _, h => by simp at h
 | (o', r', js') :: items, h, 0, o, r, js, hi => by
  simp only [jD, Option.some.injEq, Prod.mk.injEq] at hi
  obtain ⟨rfl, rfl, rfl⟩ := hi
  exact h.1
 | (o', r', js') :: items, h, i + 1, o, r, js, hi => zhY items h.2 i o r js (by simpa using hi)
theorem zq7 {o : Oper} (h : zc8 o = true) : ∃ ty, o.op = .alloc ty := by
 unfold zc8 at h
 split at h
 ·rename_i ty he
  exact ⟨ty, he⟩
 ·cases h
structure ApInv (l : List Oper) (n : Nat) (listed : Array Bool) (xs : List Value) (w : World) : Prop where
 inh : ∀ k o, k < n → l[k]? = some o → zc8 o = true → listed.getD k true = true → ∀ x, xs[k]? = some x → zpN x w
 ap : ∀ i j o o', i < n → j < n → l[i]? = some o → l[j]? = some o' → zc8 o = true → zc8 o' = true → listed.getD i true = true → listed.getD j true = true → i ≠ j → zbp xs i j
theorem zAe {D : List (Nat × Nat)} {listed : Array Bool} {xs : List Value} {w : World} (hD : zs2 l n D = true) (h : ApInv l n listed xs w) (hl : ∀ i, i < n → listed.getD i true = true) : ∀ d ∈ D, zbp xs d.1 d.2 := by
 intro d hd
 unfold zs2 at hD
 rw [List.all_eq_true] at hD
 have h1 := hD d hd
 simp only [Bool.and_eq_true, jS] at h1
 obtain ⟨⟨⟨h2, h3⟩, h4⟩, h5⟩ := h1
 split at h4
 ·rename_i o ho
  split at h5
  ·rename_i o' ho'
   exact h.ap d.1 d.2 o o' (by omega) h3 ho ho' h4 h5 (hl _ (by omega)) (hl _ h3) (by omega)
  ·cases h5
 ·cases h4
theorem zku {xs : List Value} {i j : Nat} (h : zbp xs i j) : zbp xs j i := by
 unfold zbp at *
 split
 ·rename_i x y hx hy
  rw [hx, hy] at h
  exact Ne.symm h
 ·trivial
theorem zAf {listed : Array Bool} {xs : List Value} {w w2 : World} {j : Nat} {oj : Oper} {v : Value} (h : ApInv l n listed xs w) (hoj : l[j]? = some oj) (hx : xs.length = n) (hj : j < n) (hjl : listed.getD j true = false) (hb : Below w.heap.size w w2)
  (hal : zc8 oj = true → v = .pointer (some (zjs w)) ∧ w.heap.size < w2.heap.size) : ApInv l n (listed.setIfInBounds j true) (xs.set j v) w2 := by
 have key : ∀ k o', k < n → l[k]? = some o' → zc8 o' = true → listed.getD k true = true → k ≠ j → zc8 oj = true → zbp (xs.set j v) k j := by
  intro k o' hk ho' ha' hl hkj ha
  obtain ⟨rfl, _⟩ := hal ha
  unfold zbp
  rw [List.getElem?_set_ne (Ne.symm hkj), List.getElem?_set_self (by omega)]
  split
  ·rename_i x y hx1 hy1
   injection hy1 with hy1
   subst hy1
   obtain ⟨B, rfl, hB⟩ := h.inh k o' hk ho' ha' hl _ hx1
   intro e
   injection e with e
   injection e with e
   unfold zjs at e
   injection e with e
   omega
  ·trivial
 refine ⟨fun k o hk ho ha hl x hxk => ?_, fun i k o o' hi hk ho ho' ha ha' hli hlk hne => ?_⟩
 ·by_cases hkj : k = j
  ·subst hkj
   obtain rfl : o = oj := by rw [hoj] at ho; exact (Option.some.inj ho).symm
   obtain ⟨rfl, h2⟩ := hal ha
   rw [List.getElem?_set_self (by omega)] at hxk
   obtain rfl := Option.some.inj hxk
   exact ⟨_, rfl, h2⟩
  ·rw [List.getElem?_set_ne (Ne.symm hkj)] at hxk
   rw [getD_set_ne true (Ne.symm hkj)] at hl
   exact (h.inh k o hk ho ha hl x hxk).below hb
 ·by_cases hij : i = j
  ·subst hij
   obtain rfl : o = oj := by rw [hoj] at ho; exact (Option.some.inj ho).symm
   rw [getD_set_ne true hne] at hlk
   exact zku (key k o' hk ho' ha' hlk (Ne.symm hne) ha)
  ·by_cases hkj : k = j
   ·subst hkj
    obtain rfl : o' = oj := by rw [hoj] at ho'; exact (Option.some.inj ho').symm
    rw [getD_set_ne true (Ne.symm hij)] at hli
    exact key i o hi ho ha hli hij ha'
   ·rw [getD_set_ne true (Ne.symm hij)] at hli
    rw [getD_set_ne true (Ne.symm hkj)] at hlk
    have := h.ap i k o o' hi hk ho ho' ha ha' hli hlk hne
    unfold zbp at this ⊢
    rw [List.getElem?_set_ne (Ne.symm hij), List.getElem?_set_ne (Ne.symm hkj)]
    exact this
theorem zex {id : Nat} {w : World} (n : Nat) (R : List zfF) (ps : List (List Nat)) (D : List (Nat × Nat)) (hm : P.follows .mixedOrders = true) (hB : zqK l n ps = true) (hD : zs2 l n D = true) (hR : R.length = n) (hst : ∀ r ∈ R, zhy r)
  (hop : zec P l.toArray Q n (l.take n) a w.drew R ((l.take n).zip (R.zip ps)))
  (hend : zfO n fun xs => ∀ w', Below w.heap.size w.drew w' → zcD R xs w' (List.range n) (zdD xs D (wpList P l.toArray Q (l.drop n) (zbQ (l.take n) a xs) w'))) : (Code.region id l.toArray true).wp P Q a w := by
 simp only [zqK, Bool.and_eq_true, jS] at hB
 obtain ⟨⟨⟨⟨⟨⟨⟨hsel, hn⟩, hp⟩, hs⟩, hc⟩, hd⟩, hps⟩, hseq⟩ := hB
 have hn' : n < l.toArray.size := by simpa using hn
 have inv0 : HeadInv .any l.toArray n (Array.replicate l.toArray.size false) :=
  ⟨by simp, fun j oj _ hl => (by rw [getD_replicate_false] at hl; cases hl), fun t _ ht => getD_in (by simpa using ht) (getD_replicate_false _ _)⟩
 have main : ∀ (f : Nat) (listed : Array Bool) (xs : List Value) (w' : World), HeadInv .any l.toArray n listed → zhx n listed = f → xs.length = n → Below w.heap.size w.drew w' →
   (∀ j, j < n → listed.getD j true = true → zbA R xs w' j) → ApInv l n listed xs w' →
   zcc P .any l.toArray Q (fun _ => True) n (fun listed' a' w' => Region.seqB .any l.toArray (l.toArray.size - n) n listed' = true ∧ wpList P l.toArray Q (l.drop n) a' w') f listed (zbQ (l.take n) a xs) w' := by
  intro f
  induction f with
  | zero =>
   intro listed xs w' inv hr hx hb hf hap
   refine ⟨?_, zjt D (zfh _ (zgA n _ hend xs hx w' hb) (fun j hj => hf j (List.mem_range.1 hj) (zdo n listed hr j (List.mem_range.1 hj)))) (zAe hD hap (zdo n listed hr))⟩
   have e : listed = (List.replicate n true ++ List.replicate (l.length - n) false).toArray := by
    apply Array.ext_getElem?
    intro i
    have hsz := inv.size
    simp only [List.size_toArray] at hsz
    by_cases hi : i < n
    ·have h1 := zdo n listed hr i hi
     have h2 : i < listed.size := by omega
     simp [h2] at h1
     simp [List.getElem?_append, hi, h2, h1]
    ·by_cases hi2 : i < l.length
     ·have h1 := inv.tail i (by omega) (by simpa using hi2)
      have h2 : i < listed.size := by omega
      simp [h2] at h1
      simp only [jL, List.getElem?_append, List.length_replicate, hi, if_false, List.getElem?_replicate]
      rw [if_pos (by omega), Array.getElem?_eq_getElem h2, h1]
     ·rw [Array.getElem?_eq_none (by omega)]
      simp only [jL, List.getElem?_append, List.length_replicate, hi, if_false, List.getElem?_replicate]
      rw [if_neg (by omega)]
   rw [e]
   simpa using hseq
  | succ f ih =>
   intro listed xs w' inv hr hx hb hf hap
   obtain ⟨i, hi, hil, hmin⟩ := zkZ n listed hr
   refine ⟨?_, fun j hj => ?_⟩
   ·intro h0
    obtain ⟨o, ho, he, _⟩ := zdG l ps 0 hps i ps[i] (by simp)
    have : i ∈ Region.ready .any l.toArray listed := mem_ready.2 ⟨hil, o, by simpa using ho, fun e hee hbe => by
     have h1 := he e hee hbe
     have h2 := hmin e.on (by omega)
     have h3 : e.on < listed.size := by rw [inv.size]; simp; omega
     simp [h3] at h2 ⊢
     exact h2⟩
    rw [h0] at this
    cases this
   ·have hjn : j < n := by
     rcases Nat.lt_or_ge j n with h | h
     ·exact h
     ·exact absurd hj (tail_waits hs hc hn' inv _ i rfl hi hil j h)
    refine ⟨hjn, ?_⟩
    obtain ⟨hjl, oj, hoj, hall⟩ := mem_ready.1 hj
    have hoj' : l[j]? = some oj := by simpa using hoj
    have hjp : j < ps.length := by omega
    have hjR : j < R.length := by omega
    have hit : ((l.take n).zip (R.zip ps))[j]? = some (oj, R[j], ps[j]) := by
     rw [List.getElem?_zip_eq_some]
     refine ⟨by rw [List.getElem?_take, if_pos hjn]; exact hoj', ?_⟩
     rw [List.getElem?_zip_eq_some]
     exact ⟨by simp [hjR], by simp [hjp]⟩
    obtain ⟨oj', hoj2, _, hpj⟩ := zdG l ps 0 hps j ps[j] (by simp [hjp])
    obtain rfl : oj' = oj := by
     rw [Nat.zero_add, hoj'] at hoj2
     exact (Option.some.inj hoj2).symm
    have hfree := zfh _ (zgA n _ (zhY _ hop j oj' R[j] ps[j] hit) xs hx w' hb) (fun k hk => by
     obtain ⟨e, hee, hbe, hek⟩ := hpj k hk
     have h1 := hall e hee hbe
     rw [hek] at h1
     by_cases hkn : k < n
     ·refine hf k hkn ?_
      by_cases h2 : k < listed.size
      ·simp [h2] at h1 ⊢; exact h1
      ·simp [Array.getElem?_eq_none (Nat.le_of_not_lt h2)] at h1
     ·unfold zbA
      rw [List.getElem?_eq_none (l := R) (by omega)]
      trivial)
    have go : ∀ (v : Value) (w2 : World), Below w'.heap.size w' w2 → R[j] v w2 → (zc8 oj' = true → v = .pointer (some (zjs w')) ∧ w'.heap.size < w2.heap.size) →
      zcc P .any l.toArray Q (fun _ => True) n (fun listed' a' w' => Region.seqB .any l.toArray (l.toArray.size - n) n listed' = true ∧ wpList P l.toArray Q (l.drop n) a' w') f (listed.setIfInBounds j true) ((zbQ (l.take n) a xs).put oj'.dst v) w2 := by
     intro v w2 hb2 hv hal
     rw [zit (l.take n) j oj' a xs v hd (by rw [List.getElem?_take, if_pos hjn]; exact hoj') (by omega)]
     refine ih _ _ _ (inv.set hj hjn) ?_ (by simpa using hx) (hb.trans (hb2.mono hb.size)) (fun k hk hkl => ?_) (zAf hap hoj' hx hjn hjl hb2 hal)
     ·have := zkY n listed j hjn hjl
      omega
     ·by_cases hkj : k = j
      ·subst hkj
       unfold zbA
       simp only [jP hjR, List.getElem?_set_self (show k < xs.length by omega)]
       exact hv
      ·have h1 := hf k hk (by rwa [getD_set_ne true (Ne.symm hkj)] at hkl)
       unfold zbA at h1 ⊢
       rw [List.getElem?_set_ne (Ne.symm hkj)]
       have hkR : k < R.length := by omega
       have hkx : k < xs.length := by omega
       simp only [jP hkR, jP hkx] at h1 ⊢
       exact hst _ (List.getElem_mem hkR) _ _ _ hb2 h1
    unfold wpOp
    simp only [hoj]
    by_cases hA : zc8 oj' = true
    ·obtain ⟨ty, hop2⟩ := zq7 hA
     unfold zfX at hfree
     rw [hop2] at hfree
     obtain ⟨hw, b, hrun, hr2⟩ := hfree
     rw [if_pos hw]
     refine .inl ?_
     unfold Oper.wp
     rw [hrun]
     exact ⟨trivial, go _ _ ((Below.refl _ _).alloc (jV _) _) hr2 (fun _ => ⟨rfl, by simp⟩)⟩
    ·have hfree : zbX P l.toArray Q oj' R[j] (zbQ (l.take n) a xs) w' := by
      unfold zfX at hfree
      unfold zc8 at hA
      split at hfree
      ·rename_i ty he
       rw [he] at hA
       exact absurd rfl hA
      ·exact hfree
     unfold zbX at hfree
     split
     ·rename_i hw
      rw [if_pos hw] at hfree
      refine .inl (Oper.wp_mono (fun a' w2 h => ?_) hfree)
      obtain ⟨hb2, v, rfl, hv⟩ := h
      exact ⟨trivial, go v w2 hb2 hv (fun h => absurd h hA)⟩
     ·rename_i hw
      rw [if_neg hw] at hfree
      exact ⟨trivial, go undef w' (Below.refl _ _) hfree (fun h => absurd h hA)⟩
 obtain ⟨xs0, hx0, hf0⟩ := zis (l.take n) a
 have H := main n (Array.replicate l.toArray.size false) xs0 w.drew inv0 (by
  unfold zhx
  rw [List.filter_eq_self.2 (fun i hi => ?_)]
  ·simp
  ·have := List.mem_range.1 hi
   have : i < l.length := by omega
   simp [this]) (by simp at hx0; omega) (Below.refl _ _) (fun j hj hl => by
  have : j < l.length := by omega
  simp [this] at hl) ⟨fun k o hk ho ha hl => by
  have : k < l.length := by omega
  simp [this] at hl, fun i j o o' hi hj ho ho' ha ha' hl => by
  have : i < l.length := by omega
  simp [this] at hl⟩
 rw [hf0] at H
 refine wp_region_any hm ?_
 have hdl : (l.drop n).length = l.toArray.size - n := by simp
 have := zbE (g := l.toArray.size - n) (fun listed a' w' hL => by
  have := wpAny_of_seq (md := .any) (Q' := Q) (l.drop n) n listed a' w' (fun j => by simp [List.getElem?_drop]) (by rw [hdl]; exact hL.1) hL.2
  rwa [hdl] at this) _ _ _ _ H
 rw [show n + (l.toArray.size - n) = l.toArray.size by omega] at this
 exact this
variable {ops : Array Oper} {o : Oper} {r : zfF} {w : World}
theorem zdJ {ty m : Nat} {k : IntKind} (hg : Region.wanted o (yielded ops a.tmps) = true) (ho : o.op = .alloc ty) (hz : zcy P ty k m)
  (h : r (.pointer (some ⟨w.heap.size, 0, none⟩)) (w.alloc (.cells (arr k m fun _ => 0) ty))) : zfX P ops Q o r a w := by
 unfold zfX
 rw [ho]
 exact ⟨hg, _, zdd ho hz, h⟩
theorem za1 (h : zbX P ops Q o r a w) (ho : zc8 o = false) : zfX P ops Q o r a w := by
 unfold zfX
 unfold zc8 at ho
 split
 ·rename_i ty he
  rw [he] at ho
  cases ho
 ·exact h
end
end
section
open Go.RowKit
attribute [local irreducible] zea zbj zbG zdq zcR sqN zij zik zci zbV zbY zeH ofN
theorem zns {w : World} {B t : Nat} {k : IntKind} {n : Nat} {f : Nat → Int} (h : w.heap[B]? = some (.cells (arr k n f) t (0, 0))) (i : Nat) (hi : i < n) : w.setCell ⟨B, i, none⟩ (.int k (f i)) = w := by
 unfold World.setCell
 have e : w.heap.modify B (fun | .cells c elem frozen => .cells (if ((none : Option Nat)).isSome then c else c.setIfInBounds i (.int k (f i))) elem frozen | o => o) = w.heap := by
  apply Array.ext_getElem?
  intro j
  rw [Array.getElem?_modify]
  by_cases hj : B = j
  ·subst hj
   rw [if_pos rfl, h]
   simp only [Option.map_some, Option.isSome_none, Bool.false_eq_true, if_false]
   rw [zrH]
   congr 2
   refine zcd fun j hj => ?_
   unfold upd
   split
   ·rename_i e; rw [e]
   ·rfl
  ·rw [if_neg hj]
 cases w
 simp only [World.mk.injEq, and_true]
 exact e
theorem zeI (R : Nat) (F : Nat → Nat) (w : World) (hr : w.heap[R]? = some (.cells (arr .i64 1 fun _ => 0) 66 (0, 0))) :
  Calls Tryz.prog 50 #[.pointer (some ⟨R, 0, none⟩), .agg (arr .u64 5 fun i => ((F i : Nat) : Int)), .int .i64 0] w fun e w' => e = .returned (.agg (arr .u64 5 fun i => ((F i : Nat) : Int))) ∧ Below w.heap.size w w' := by
 have hlt := jM hr
 go_enter Tryz.func50, Tryz.ntmps50
 obtain ⟨h0, h1, hsz, hb⟩ := zcb w (.cells (arr .u64 5 fun i => ((F i : Nat) : Int)) 69) (.cells (arr .u64 5 fun _ => 0) 69)
 replace hr := zaa hb hlt hr
 go_upto_region 1 with (refine zae rfl rfl zga ?_)
 generalize (w.alloc (.cells (arr .u64 5 fun i => ((F i : Nat) : Int)) 69)).alloc (.cells (arr .u64 5 fun _ => 0) 69) = wa at *
 (try simp only [Act.put, jA, jB, jC])
 simp only [World.size_alloc]
 have cr := zaj hr 0 (by omega)
 have fr := zaH hr 0
 have es := zns hr 0 (by omega)
 clear hsz
 go_wp2_with (first | (refine zab rfl rfl rfl zbc h0 ?_) | (refine zac rfl rfl rfl rfl zbc h1 ?_))
 exact bodyPost_ret (zaw rfl rfl zbc (zan h1)) rfl ⟨rfl, zam hb (by omega) _⟩
theorem ziz (R : Nat) (F G : Nat → Nat) (hF : okF F 5) (hG : okF G 5) (w : World) (hr : w.heap[R]? = some (.cells (arr .i64 1 fun _ => 0) 66 (0, 0))) :
  Calls Tryz.prog 44 #[.pointer (some ⟨R, 0, none⟩), .agg (arr .u64 5 fun i => ((F i : Nat) : Int)), .agg (arr .u64 5 fun i => ((G i : Nat) : Int))] w fun e w' => e = .returned (.agg (arr .u64 5 fun i => ((zij F G i : Nat) : Int))) ∧ Below w.heap.size w w' := by
 have hlt := jM hr
 go_enter Tryz.func44, Tryz.ntmps44
 obtain ⟨h0, h1, h2, hsz, hb⟩ := zdb w (.cells (arr .u64 5 fun i => ((F i : Nat) : Int)) 69) (.cells (arr .u64 5 fun i => ((G i : Nat) : Int)) 69) (.cells (arr .u64 5 fun _ => 0) 69)
 replace hr := zaa hb hlt hr
 go_upto_region 1 with (refine zae rfl rfl zga ?_)
 generalize (((w).alloc (.cells (arr .u64 5 fun i => ((F i : Nat) : Int)) 69)).alloc (.cells (arr .u64 5 fun i => ((G i : Nat) : Int)) 69)).alloc (.cells (arr .u64 5 fun _ => 0) 69) = wa at *
 (try simp only [Act.put, jA, jB, jC])
 simp only [World.size_alloc]
 have okF' := Lib.hid hF
 have okG' := Lib.hid hG
 clear hF hG hsz
 go_wp2_with (first | (refine zab rfl rfl rfl zbc h0 ?_) | (refine zab rfl rfl rfl zbc h1 ?_) | (go_at_call 68; fail))
 refine (zyt F G okF'.out okG'.out _).mono ?_
 rintro e w4 ⟨rfl, b4⟩
 replace hr := zaa b4 (jM hr) hr
 replace h2 := zaa b4 (jM h2) h2
 replace hb := hb.trans (b4.mono hb.size)
 clear b4
 go_wp2_with (first | (go_at_call 50; fail))
 refine (zeI R _ _ hr).mono ?_
 rintro e w5 ⟨rfl, b5⟩
 replace h2 := zaa b5 (jM h2) h2
 replace hb := hb.trans (b5.mono hb.size)
 clear b5
 go_wp2_with (first | (refine zac rfl rfl rfl rfl zbc h2 ?_))
 exact bodyPost_ret (zaw rfl rfl zbc (zan h2)) rfl ⟨rfl, zam hb (by omega) _⟩
theorem ziA (R : Nat) (F G : Nat → Nat) (hF : okF F 5) (hG : okF G 5) (w : World) (hr : w.heap[R]? = some (.cells (arr .i64 1 fun _ => 0) 66 (0, 0))) :
  Calls Tryz.prog 45 #[.pointer (some ⟨R, 0, none⟩), .agg (arr .u64 5 fun i => ((F i : Nat) : Int)), .agg (arr .u64 5 fun i => ((G i : Nat) : Int))] w fun e w' => e = .returned (.agg (arr .u64 5 fun i => ((zik F G i : Nat) : Int))) ∧ Below w.heap.size w w' := by
 have hlt := jM hr
 go_enter Tryz.func45, Tryz.ntmps45
 obtain ⟨h0, h1, h2, hsz, hb⟩ := zdb w (.cells (arr .u64 5 fun i => ((F i : Nat) : Int)) 69) (.cells (arr .u64 5 fun i => ((G i : Nat) : Int)) 69) (.cells (arr .u64 5 fun _ => 0) 69)
 replace hr := zaa hb hlt hr
 go_upto_region 1 with (refine zae rfl rfl zga ?_)
 generalize (((w).alloc (.cells (arr .u64 5 fun i => ((F i : Nat) : Int)) 69)).alloc (.cells (arr .u64 5 fun i => ((G i : Nat) : Int)) 69)).alloc (.cells (arr .u64 5 fun _ => 0) 69) = wa at *
 (try simp only [Act.put, jA, jB, jC])
 simp only [World.size_alloc]
 have okF' := Lib.hid hF
 have okG' := Lib.hid hG
 clear hF hG hsz
 go_wp2_with (first | (refine zab rfl rfl rfl zbc h0 ?_) | (refine zab rfl rfl rfl zbc h1 ?_) | (go_at_call 69; fail))
 refine (zyv F G okF'.out okG'.out _).mono ?_
 rintro e w4 ⟨rfl, b4⟩
 replace hr := zaa b4 (jM hr) hr
 replace h2 := zaa b4 (jM h2) h2
 replace hb := hb.trans (b4.mono hb.size)
 clear b4
 go_wp2_with (first | (go_at_call 50; fail))
 refine (zeI R _ _ hr).mono ?_
 rintro e w5 ⟨rfl, b5⟩
 replace h2 := zaa b5 (jM h2) h2
 replace hb := hb.trans (b5.mono hb.size)
 clear b5
 go_wp2_with (first | (refine zac rfl rfl rfl rfl zbc h2 ?_))
 exact bodyPost_ret (zaw rfl rfl zbc (zan h2)) rfl ⟨rfl, zam hb (by omega) _⟩
theorem zeJ (R : Nat) (F G : Nat → Nat) (hF : okF F 5) (hG : okF G 5) (w : World) (hr : w.heap[R]? = some (.cells (arr .i64 1 fun _ => 0) 66 (0, 0))) :
  Calls Tryz.prog 46 #[.pointer (some ⟨R, 0, none⟩), .agg (arr .u64 5 fun i => ((F i : Nat) : Int)), .agg (arr .u64 5 fun i => ((G i : Nat) : Int))] w fun e w' => e = .returned (.agg (arr .u64 5 fun i => ((zbG F G i : Nat) : Int))) ∧ Below w.heap.size w w' := by
 have hlt := jM hr
 go_enter Tryz.func46, Tryz.ntmps46
 obtain ⟨h0, h1, h2, hsz, hb⟩ := zdb w (.cells (arr .u64 5 fun i => ((F i : Nat) : Int)) 69) (.cells (arr .u64 5 fun i => ((G i : Nat) : Int)) 69) (.cells (arr .u64 5 fun _ => 0) 69)
 replace hr := zaa hb hlt hr
 go_upto_region 1 with (refine zae rfl rfl zga ?_)
 generalize (((w).alloc (.cells (arr .u64 5 fun i => ((F i : Nat) : Int)) 69)).alloc (.cells (arr .u64 5 fun i => ((G i : Nat) : Int)) 69)).alloc (.cells (arr .u64 5 fun _ => 0) 69) = wa at *
 (try simp only [Act.put, jA, jB, jC])
 simp only [World.size_alloc]
 have okF' := Lib.hid hF
 have okG' := Lib.hid hG
 clear hF hG hsz
 go_wp2_with (first | (refine zab rfl rfl rfl zbc h0 ?_) | (refine zab rfl rfl rfl zbc h1 ?_) | (go_at_call 70; fail))
 refine (zyu F G okF'.out okG'.out _).mono ?_
 rintro e w4 ⟨rfl, b4⟩
 replace hr := zaa b4 (jM hr) hr
 replace h2 := zaa b4 (jM h2) h2
 replace hb := hb.trans (b4.mono hb.size)
 clear b4
 go_wp2_with (first | (go_at_call 50; fail))
 refine (zeI R _ _ hr).mono ?_
 rintro e w5 ⟨rfl, b5⟩
 replace h2 := zaa b5 (jM h2) h2
 replace hb := hb.trans (b5.mono hb.size)
 clear b5
 go_wp2_with (first | (refine zac rfl rfl rfl rfl zbc h2 ?_))
 exact bodyPost_ret (zaw rfl rfl zbc (zan h2)) rfl ⟨rfl, zam hb (by omega) _⟩
theorem zfp (R : Nat) (F : Nat → Nat) (hF : okF F 5) (w : World) (hr : w.heap[R]? = some (.cells (arr .i64 1 fun _ => 0) 66 (0, 0))) :
  Calls Tryz.prog 47 #[.pointer (some ⟨R, 0, none⟩), .agg (arr .u64 5 fun i => ((F i : Nat) : Int))] w fun e w' => e = .returned (.agg (arr .u64 5 fun i => ((sqN F 1 i : Nat) : Int))) ∧ Below w.heap.size w w' := by
 have hlt := jM hr
 go_enter Tryz.func47, Tryz.ntmps47
 obtain ⟨h0, h1, hsz, hb⟩ := zcb w (.cells (arr .u64 5 fun i => ((F i : Nat) : Int)) 69) (.cells (arr .u64 5 fun _ => 0) 69)
 replace hr := zaa hb hlt hr
 go_upto_region 1 with (refine zae rfl rfl zga ?_)
 generalize ((w).alloc (.cells (arr .u64 5 fun i => ((F i : Nat) : Int)) 69)).alloc (.cells (arr .u64 5 fun _ => 0) 69) = wa at *
 (try simp only [Act.put, jA, jB, jC])
 simp only [World.size_alloc]
 have okF' := Lib.hid hF
 clear hF hsz
 go_wp2_with (first | (refine zab rfl rfl rfl zbc h0 ?_) | (go_at_call 71; fail))
 refine (zq5 F okF'.out 1 (by omega) _).mono ?_
 rintro e w4 ⟨rfl, b4⟩
 replace hr := zaa b4 (jM hr) hr
 replace h1 := zaa b4 (jM h1) h1
 replace hb := hb.trans (b4.mono hb.size)
 clear b4
 go_wp2_with (first | (go_at_call 50; fail))
 refine (zeI R _ _ hr).mono ?_
 rintro e w5 ⟨rfl, b5⟩
 replace h1 := zaa b5 (jM h1) h1
 replace hb := hb.trans (b5.mono hb.size)
 clear b5
 go_wp2_with (first | (refine zac rfl rfl rfl rfl zbc h1 ?_))
 exact bodyPost_ret (zaw rfl rfl zbc (zan h1)) rfl ⟨rfl, zam hb (by omega) _⟩
end
section
open Go.RowKit
structure Bar (P Q : Nat) (w w' : World) : Prop where
 os : w'.os = w.os
 tape : w'.tape = w.tape
 output : w'.output = w.output
 size : w.heap.size ≤ w'.heap.size
 block : ∀ k, k < w.heap.size → k ≠ P → k ≠ Q → w'.heap[k]? = w.heap[k]?
section
variable {P Q B : Nat} {w w' w'' : World}
theorem Bar.refl (P Q : Nat) (w : World) : Bar P Q w w := ⟨rfl, rfl, rfl, jV _, fun _ _ _ _ => rfl⟩
theorem Bar.trans (h : Bar P Q w w') (k : Bar P Q w' w'') : Bar P Q w w'' :=
 ⟨k.os.trans h.os, k.tape.trans h.tape, k.output.trans h.output, jU h.size k.size, fun i hi h1 h2 => (k.block i (jT hi h.size) h1 h2).trans (h.block i hi h1 h2)⟩
theorem Bar.of_below (h : Below w.heap.size w w') : Bar P Q w w' := ⟨h.os, h.tape, h.output, h.size, fun i hi _ _ => h.block i hi⟩
theorem Bar.drew (h : Bar P Q w w') : Bar P Q w w'.drew := ⟨h.os, h.tape, h.output, h.size, h.block⟩
theorem Bar.row (h : Bar P Q w w') {g : Nat} (hg : g = P ∨ g = Q ∨ w.heap.size ≤ g) (cs : Array Value) : Bar P Q w (w'.setRow g cs) := by
 refine ⟨h.os, h.tape, h.output, ?_, fun i hi h1 h2 => ?_⟩
 ·have : (w'.setRow g cs).heap.size = w'.heap.size := by unfold World.setRow; simp
  rw [this]
  exact h.size
 ·rw [setRow_other _ _ _ _ (by omega)]
  exact h.block i hi h1 h2
theorem Bar.set (h : Bar P Q w w') {g i : Nat} (hg : g = P ∨ g = Q ∨ w.heap.size ≤ g) (v : Value) : Bar P Q w (w'.setCell ⟨g, i, none⟩ v) := by
 refine ⟨h.os, h.tape, h.output, ?_, fun k hk h1 h2 => ?_⟩
 ·have : (w'.setCell ⟨g, i, none⟩ v).heap.size = w'.heap.size := by unfold World.setCell; simp
  rw [this]
  exact h.size
 ·rw [Below.heap_setCell _ _ _ _ (by show k ≠ g; omega)]
  exact h.block k hk h1 h2
theorem Bar.keep {k : Nat} {o : Obj} (h : Bar P Q w w') (hk : w.heap[k]? = some o) (h1 : k ≠ P) (h2 : k ≠ Q) : w'.heap[k]? = some o := (h.block k (jM hk) h1 h2).trans hk
theorem Bar.below {w0 : World} (h : Bar P Q w w') (hb : Below B w0 w) (h1 : B ≤ P) (h2 : B ≤ Q) (hB : B ≤ w.heap.size) : Below B w0 w' :=
 ⟨h.os.trans hb.os, h.tape.trans hb.tape, h.output.trans hb.output, jU hb.size h.size, fun i hi => (h.block i (by omega) (by omega) (by omega)).trans (hb.block i hi)⟩
theorem Bar.drewl (h : Bar P Q w w') : Bar P Q w.drew w' := ⟨h.os, h.tape, h.output, h.size, h.block⟩
end
def zpO (b : Nat) (F G : Nat → Nat) (i : Nat) : Nat := if b = 1 then G i else F i
def zs3 (b m : Nat) (F G : Nat → Nat) (i : Nat) : Nat := if i % 5 < m then zpO b F G i else F i
theorem zcS (b m : Nat) (F G : Nat → Nat) (i : Nat) (h : m ≤ i % 5) : zs3 b m F G i = F i := by unfold zs3; rw [if_neg (by omega)]
theorem znt (b m : Nat) (F G : Nat → Nat) (i : Nat) : zs3 b (m + 1) F G i = if i % 5 = m then zpO b F G i else zs3 b m F G i := by
 unfold zs3
 by_cases h : i % 5 = m
 ·rw [if_pos h, if_pos (by omega)]
 ·rw [if_neg h]
  by_cases h2 : i % 5 < m
  ·rw [if_pos h2, if_pos (by omega)]
  ·rw [if_neg h2, if_neg (by omega)]
theorem zge (w : World) {a b : Addr} {v : Value} (h : a.block ≠ b.block) : (w.setCell a v).cell? b = w.cell? b := World.cell?_of_block (Below.heap_setCell _ _ _ _ (Ne.symm h))
theorem zAg (x y : Nat) (hx : x < 18446744073709551616) (hy : y < 18446744073709551616) : bits .xor .u64 (x : Int) (bits .and .u64 0 (bits .xor .u64 (x : Int) (y : Int))) = (x : Int) := by
 rw [u64_xor_nat x y hx hy, show (0 : Int) = ((0 : Nat) : Int) from rfl, u64_and_nat 0 _ (by omega) (Nat.xor_lt_two_pow (n := 64) hx hy), Nat.zero_and, u64_xor_nat x 0 hx (by omega), Nat.xor_zero]
theorem zw2 (x y : Nat) (hx : x < 18446744073709551616) (hy : y < 18446744073709551616) : bits .xor .u64 (y : Int) (bits .and .u64 0 (bits .xor .u64 (x : Int) (y : Int))) = (y : Int) := by
 rw [u64_xor_nat x y hx hy, show (0 : Int) = ((0 : Nat) : Int) from rfl, u64_and_nat 0 _ (by omega) (Nat.xor_lt_two_pow (n := 64) hx hy), Nat.zero_and, u64_xor_nat y 0 hy (by omega), Nat.xor_zero]
theorem znu (x : Nat) (h : x < 18446744073709551616) : 18446744073709551615 &&& x = x := by
 rw [show (18446744073709551615 : Nat) = 2 ^ 64 - 1 from rfl, Nat.and_comm, Nat.and_two_pow_sub_one_eq_mod, Nat.mod_eq_of_lt h]
theorem zCj (x y : Nat) (hx : x < 18446744073709551616) (hy : y < 18446744073709551616) : bits .xor .u64 (x : Int) (bits .and .u64 (IntKind.u64.wrap (-1)) (bits .xor .u64 (x : Int) (y : Int))) = (y : Int) := by
 rw [show IntKind.u64.wrap (-1) = 18446744073709551615 from by decide]
 have hl : x ^^^ y < 18446744073709551616 := Nat.xor_lt_two_pow (n := 64) hx hy
 rw [u64_xor_nat x y hx hy, show (18446744073709551615 : Int) = ((18446744073709551615 : Nat) : Int) from rfl, u64_and_nat _ _ (by omega) hl, znu _ hl, u64_xor_nat x _ hx hl, ← Nat.xor_assoc, Nat.xor_self, Nat.zero_xor]
theorem zAh (x y : Nat) (hx : x < 18446744073709551616) (hy : y < 18446744073709551616) : bits .xor .u64 (y : Int) (bits .and .u64 (IntKind.u64.wrap (-1)) (bits .xor .u64 (x : Int) (y : Int))) = (x : Int) := by
 rw [show IntKind.u64.wrap (-1) = 18446744073709551615 from by decide]
 have hl : x ^^^ y < 18446744073709551616 := Nat.xor_lt_two_pow (n := 64) hx hy
 rw [u64_xor_nat x y hx hy, show (18446744073709551615 : Int) = ((18446744073709551615 : Nat) : Int) from rfl, u64_and_nat _ _ (by omega) hl, znu _ hl, u64_xor_nat y _ hy hl, Nat.xor_comm x y, ← Nat.xor_assoc, Nat.xor_self, Nat.zero_xor]
theorem zpP : zhR Tryz.prog 72 0 := ⟨_, _, 4, Tryz.underlying72, rfl, by kernel_rfl⟩
theorem zpQ : zhR Tryz.prog 72 1 := ⟨_, _, 4, Tryz.underlying72, rfl, by kernel_rfl⟩
theorem zhF : zeT Tryz.prog 72 10 := ⟨_, Tryz.underlying72, rfl, by kernel_rfl⟩
theorem ziB (b : Nat) (hb01 : b = 0 ∨ b = 1) (P Q : Nat) (hne : P ≠ Q) (F G : Nat → Nat) (hF : ∀ i, i < 10 → F i < 18446744073709551616) (hG : ∀ i, i < 10 → G i < 18446744073709551616) (w : World)
  (hP : w.heap[P]? = some (.cells (arr .u64 10 fun i => ((F i : Nat) : Int)) 72 (0, 0))) (hQ : w.heap[Q]? = some (.cells (arr .u64 10 fun i => ((G i : Nat) : Int)) 72 (0, 0))) :
  Calls Tryz.prog 48 #[.int .u64 b, .pointer (some ⟨P, 0, none⟩), .pointer (some ⟨Q, 0, none⟩)] w fun e w' => e = .returned (.tuple #[]) ∧ Bar P Q w w' ∧
   w'.heap[P]? = some (.cells (arr .u64 10 fun i => ((zpO b F G i : Nat) : Int)) 72 (0, 0)) ∧ w'.heap[Q]? = some (.cells (arr .u64 10 fun i => ((zpO b G F i : Nat) : Int)) 72 (0, 0)) := by
 have HF := Lib.hid hF
 have HG := Lib.hid hG
 have HN := Lib.hid hne
 clear hF hG hne
 rcases hb01 with rfl | rfl
 ·go_enter Tryz.func48, Tryz.ntmps48
  go_wp2
  go_loopg [12] 5 (fun n i wr => ∃ m : Nat, m + n = 5 ∧ i = .int .i64 m ∧ wr.heap[P]? = some (.cells (arr .u64 10 fun i => ((zs3 0 m F G i : Nat) : Int)) 72 (0, 0)) ∧
   wr.heap[Q]? = some (.cells (arr .u64 10 fun i => ((zs3 0 m G F i : Nat) : Int)) 72 (0, 0)) ∧ Bar P Q w wr)
  case atStart => exact ⟨0, rfl, rfl, zaf hP (fun i _ => by rw [zcS _ _ _ _ _ (by omega)]), zaf hQ (fun i _ => by rw [zcS _ _ _ _ _ (by omega)]), Bar.refl _ _ _⟩
  case round =>
   clear hP hQ
   obtain ⟨m, hm, rfl, hP, hQ, hB⟩ := hrel
   have hm' := Lib.hid hm
   clear hm
   by_cases hlt : m < 5
   ·have n1 : m % 5 = m := Nat.mod_eq_of_lt hlt
    have n2 : (5 + m) % 5 = m := by omega
    obtain ⟨x1, hx1⟩ : ∃ x, F m = x := ⟨_, rfl⟩
    obtain ⟨z1, hz1⟩ : ∃ x, F (5 + m) = x := ⟨_, rfl⟩
    obtain ⟨x2, hx2⟩ : ∃ x, G m = x := ⟨_, rfl⟩
    obtain ⟨z2, hz2⟩ : ∃ x, G (5 + m) = x := ⟨_, rfl⟩
    have lx1 : x1 < 18446744073709551616 := hx1 ▸ HF.out m (by omega)
    have lz1 : z1 < 18446744073709551616 := hz1 ▸ HF.out (5 + m) (by omega)
    have lx2 : x2 < 18446744073709551616 := hx2 ▸ HG.out m (by omega)
    have lz2 : z2 < 18446744073709551616 := hz2 ▸ HG.out (5 + m) (by omega)
    have p1 : wr.cell? ⟨P, m, none⟩ = some (.int .u64 (x1 : Int)) := by rw [zaj hP m (by omega), zcS _ _ _ _ _ (by omega), hx1]
    have p2 : wr.cell? ⟨P, 5 + m, none⟩ = some (.int .u64 (z1 : Int)) := by rw [zaj hP (5 + m) (by omega), zcS _ _ _ _ _ (by omega), hz1]
    have q1 : wr.cell? ⟨Q, m, none⟩ = some (.int .u64 (x2 : Int)) := by rw [zaj hQ m (by omega), zcS _ _ _ _ _ (by omega), hx2]
    have q2 : wr.cell? ⟨Q, 5 + m, none⟩ = some (.int .u64 (z2 : Int)) := by rw [zaj hQ (5 + m) (by omega), zcS _ _ _ _ _ (by omega), hz2]
    have fp := zaH hP
    have lP : P < wr.drew.heap.size := jM hP
    have lQ : Q < wr.drew.heap.size := jM hQ
    have fq := zaH hQ
    clear n1 n2
    go_upto_region 4 with (fail)
    (try simp only [Act.put, jA, jB, jC])
    refine wp_region_can wr.heap.size 31 [(0, false), (1, false), (2, false), (3, false), (4, false), (5, false), (6, false), (7, false), (8, false), (9, false), (10, false), (11, false), (12, false), (13, false), (14, false), (15, false), (16, false), (17, false), (18, false), (19, false), (20, false), (21, false), (22, false), (23, false), (24, false), (25, false), (26, false), (27, false), (28, false), (29, false), (30, false)] (by kernel_rfl) (by kernel_rfl) ?_
    (simp only [canOps, jD, jE, jF, jG])
    iterate 31 (first | (refine zaA rfl rfl (fun _ _ _ _ h => h) ?_; (simp only [Act.put, Act.eval, jN, jL, jD, jE, jO, jA, jB, jC])) | (refine zas rfl rfl (fun _ _ _ _ h => h) ?_; (simp only [Act.put, Act.eval, jN, jL, jD, jE, jO, jA, jB, jC])) | (refine zao rfl rfl rfl (fun _ _ _ _ h => h) ?_; (simp only [Act.put, jA, jB, jC])) | (refine za3 rfl rfl (fun _ _ _ _ h => h) (by first | exact .bin rfl rfl rfl | exact .indexAddr rfl | exact .un rfl | exact .extract rfl | exact .index rfl | exact .field rfl | exact .slice rfl | exact .fieldT rfl zpP | exact .fieldT rfl zpQ | exact .load rfl rfl lP hP | exact .load rfl rfl lQ hQ) (fun K hK => ?_); go_simp; (try (simp only [↓IntWalk.iteOmega]; go_simp)); (try go_bits); refine hK _ ?_; clear hK K))
    refine wpCan_nil ?_
    have ex1 := zAg x1 x2 lx1 lx2
    have ex2 := zw2 x1 x2 lx1 lx2
    have ez1 := zAg z1 z2 lz1 lz2
    have ez2 := zw2 z1 z2 lz1 lz2
    have EX1 := Lib.hid ex1
    have EX2 := Lib.hid ex2
    have EZ1 := Lib.hid ez1
    have EZ2 := Lib.hid ez2
    clear ex1 ex2 ez1 ez2
    go_upto_region 5 with (fail)
    (try simp only [Act.put, jA, jB, jC])
    have c1 : ∀ v, (wr.setCell ⟨P, m, none⟩ v).cell? ⟨Q, m, none⟩ = some (.int .u64 (x2 : Int)) := fun v => by rw [zge wr (by exact HN.out)]; exact q1
    have f1 : ∀ v, (wr.setCell ⟨P, m, none⟩ v).frozen? ⟨Q, m, none⟩ = false := fun v => frozen_of_row _ _ _ _ _ (zar hQ _ _ (Ne.symm HN.out))
    go_region
    clear c1 f1 p1 q1
    simp only [EX1.out, EX2.out]
    have hP5 := zar (C := Q) (zaL hP m (x1 : Int)) m (.int .u64 (x2 : Int)) HN.out
    have hQ5 := zaL (zar (C := P) hQ m (.int .u64 (x1 : Int)) (Ne.symm HN.out)) m (x2 : Int)
    have hB5 := ((hB.set (.inl rfl) (i := m) (.int .u64 (x1 : Int))).set (.inr (.inl rfl)) (i := m) (.int .u64 (x2 : Int))).drew.drew
    clear p2 q2 fp fq lP lQ hP hQ hB
    generalize ((wr.setCell ⟨P, m, none⟩ (.int .u64 (x1 : Int))).setCell ⟨Q, m, none⟩ (.int .u64 (x2 : Int))) = ws at *
    have p2 : ws.cell? ⟨P, 5 + m, none⟩ = some (.int .u64 (z1 : Int)) := by rw [zaj hP5 (5 + m) (by omega)]; unfold upd; rw [if_neg (by omega)]; dsimp only; rw [zcS _ _ _ _ _ (by omega), hz1]
    have q2 : ws.cell? ⟨Q, 5 + m, none⟩ = some (.int .u64 (z2 : Int)) := by rw [zaj hQ5 (5 + m) (by omega)]; unfold upd; rw [if_neg (by omega)]; dsimp only; rw [zcS _ _ _ _ _ (by omega), hz2]
    have fp := zaH hP5
    have fq := zaH hQ5
    go_upto_region 6 with (fail)
    (try simp only [Act.put, jA, jB, jC])
    have c1 : ∀ v, (ws.setCell ⟨P, 5 + m, none⟩ v).cell? ⟨Q, 5 + m, none⟩ = some (.int .u64 (z2 : Int)) := fun v => by rw [zge ws (by exact HN.out)]; exact q2
    have f1 : ∀ v, (ws.setCell ⟨P, 5 + m, none⟩ v).frozen? ⟨Q, 5 + m, none⟩ = false := fun v => frozen_of_row _ _ _ _ _ (zar hQ5 _ _ (Ne.symm HN.out))
    go_region
    clear c1 f1 p2 q2
    simp only [EZ1.out, EZ2.out]
    go_wp2
    go_roundg (gk - 1)
    case measure => have := hm'.out; omega
    case rel =>
     have hm'' := hm'.out
     refine ⟨m + 1, by omega, by go_num, zaf (zar (C := Q) (zaL hP5 (5 + m) (z1 : Int)) (5 + m) _ HN.out) (fun i hi => ?_), zaf (zaL (zar (C := P) hQ5 (5 + m) _ (Ne.symm HN.out)) (5 + m) (z2 : Int)) (fun i hi => ?_), ((hB5.set (.inl rfl) _).set (.inr (.inl rfl)) _).drew⟩
     all_goals
      rw [znt]
      unfold upd
      dsimp only
      by_cases e1 : i = 5 + m
      ·rw [if_pos e1, if_pos (by omega), e1]
       unfold zpO
       simp only [if_true, if_false, Nat.zero_ne_one, hz1, hz2]
      ·rw [if_neg e1]
       by_cases e2 : i = m
       ·rw [if_pos e2, if_pos (by omega), e2]
        unfold zpO
        simp only [if_true, if_false, Nat.zero_ne_one, hx1, hx2]
       ·rw [if_neg e2, if_neg (by omega)]
   ·obtain rfl : m = 5 := by have := hm'.out; omega
    go_wp2
    refine bodyPost_end (results_none rfl _ _ _) rfl ?_
    refine ⟨rfl, hB, zaf hP (fun i hi => ?_), zaf hQ (fun i hi => ?_)⟩
    all_goals
     unfold zs3
     rw [if_pos (by omega)]
 ·go_enter Tryz.func48, Tryz.ntmps48
  go_wp2
  go_loopg [12] 5 (fun n i wr => ∃ m : Nat, m + n = 5 ∧ i = .int .i64 m ∧ wr.heap[P]? = some (.cells (arr .u64 10 fun i => ((zs3 1 m F G i : Nat) : Int)) 72 (0, 0)) ∧
   wr.heap[Q]? = some (.cells (arr .u64 10 fun i => ((zs3 1 m G F i : Nat) : Int)) 72 (0, 0)) ∧ Bar P Q w wr)
  case atStart => exact ⟨0, rfl, rfl, zaf hP (fun i _ => by rw [zcS _ _ _ _ _ (by omega)]), zaf hQ (fun i _ => by rw [zcS _ _ _ _ _ (by omega)]), Bar.refl _ _ _⟩
  case round =>
   clear hP hQ
   obtain ⟨m, hm, rfl, hP, hQ, hB⟩ := hrel
   have hm' := Lib.hid hm
   clear hm
   by_cases hlt : m < 5
   ·have n1 : m % 5 = m := Nat.mod_eq_of_lt hlt
    have n2 : (5 + m) % 5 = m := by omega
    obtain ⟨x1, hx1⟩ : ∃ x, F m = x := ⟨_, rfl⟩
    obtain ⟨z1, hz1⟩ : ∃ x, F (5 + m) = x := ⟨_, rfl⟩
    obtain ⟨x2, hx2⟩ : ∃ x, G m = x := ⟨_, rfl⟩
    obtain ⟨z2, hz2⟩ : ∃ x, G (5 + m) = x := ⟨_, rfl⟩
    have lx1 : x1 < 18446744073709551616 := hx1 ▸ HF.out m (by omega)
    have lz1 : z1 < 18446744073709551616 := hz1 ▸ HF.out (5 + m) (by omega)
    have lx2 : x2 < 18446744073709551616 := hx2 ▸ HG.out m (by omega)
    have lz2 : z2 < 18446744073709551616 := hz2 ▸ HG.out (5 + m) (by omega)
    have p1 : wr.cell? ⟨P, m, none⟩ = some (.int .u64 (x1 : Int)) := by rw [zaj hP m (by omega), zcS _ _ _ _ _ (by omega), hx1]
    have p2 : wr.cell? ⟨P, 5 + m, none⟩ = some (.int .u64 (z1 : Int)) := by rw [zaj hP (5 + m) (by omega), zcS _ _ _ _ _ (by omega), hz1]
    have q1 : wr.cell? ⟨Q, m, none⟩ = some (.int .u64 (x2 : Int)) := by rw [zaj hQ m (by omega), zcS _ _ _ _ _ (by omega), hx2]
    have q2 : wr.cell? ⟨Q, 5 + m, none⟩ = some (.int .u64 (z2 : Int)) := by rw [zaj hQ (5 + m) (by omega), zcS _ _ _ _ _ (by omega), hz2]
    have fp := zaH hP
    have lP : P < wr.drew.heap.size := jM hP
    have lQ : Q < wr.drew.heap.size := jM hQ
    have fq := zaH hQ
    clear n1 n2
    go_upto_region 4 with (fail)
    (try simp only [Act.put, jA, jB, jC])
    refine wp_region_can wr.heap.size 31 [(0, false), (1, false), (2, false), (3, false), (4, false), (5, false), (6, false), (7, false), (8, false), (9, false), (10, false), (11, false), (12, false), (13, false), (14, false), (15, false), (16, false), (17, false), (18, false), (19, false), (20, false), (21, false), (22, false), (23, false), (24, false), (25, false), (26, false), (27, false), (28, false), (29, false), (30, false)] (by kernel_rfl) (by kernel_rfl) ?_
    (simp only [canOps, jD, jE, jF, jG])
    iterate 31 (first | (refine zaA rfl rfl (fun _ _ _ _ h => h) ?_; (simp only [Act.put, Act.eval, jN, jL, jD, jE, jO, jA, jB, jC])) | (refine zas rfl rfl (fun _ _ _ _ h => h) ?_; (simp only [Act.put, Act.eval, jN, jL, jD, jE, jO, jA, jB, jC])) | (refine zao rfl rfl rfl (fun _ _ _ _ h => h) ?_; (simp only [Act.put, jA, jB, jC])) | (refine za3 rfl rfl (fun _ _ _ _ h => h) (by first | exact .bin rfl rfl rfl | exact .indexAddr rfl | exact .un rfl | exact .extract rfl | exact .index rfl | exact .field rfl | exact .slice rfl | exact .fieldT rfl zpP | exact .fieldT rfl zpQ | exact .load rfl rfl lP hP | exact .load rfl rfl lQ hQ) (fun K hK => ?_); go_simp; (try (simp only [↓IntWalk.iteOmega]; go_simp)); (try go_bits); refine hK _ ?_; clear hK K))
    refine wpCan_nil ?_
    have ex1 := zCj x1 x2 lx1 lx2
    have ex2 := zAh x1 x2 lx1 lx2
    have ez1 := zCj z1 z2 lz1 lz2
    have ez2 := zAh z1 z2 lz1 lz2
    have EX1 := Lib.hid ex1
    have EX2 := Lib.hid ex2
    have EZ1 := Lib.hid ez1
    have EZ2 := Lib.hid ez2
    clear ex1 ex2 ez1 ez2
    go_upto_region 5 with (fail)
    (try simp only [Act.put, jA, jB, jC])
    have c1 : ∀ v, (wr.setCell ⟨P, m, none⟩ v).cell? ⟨Q, m, none⟩ = some (.int .u64 (x2 : Int)) := fun v => by rw [zge wr (by exact HN.out)]; exact q1
    have f1 : ∀ v, (wr.setCell ⟨P, m, none⟩ v).frozen? ⟨Q, m, none⟩ = false := fun v => frozen_of_row _ _ _ _ _ (zar hQ _ _ (Ne.symm HN.out))
    go_region
    clear c1 f1 p1 q1
    simp only [EX1.out, EX2.out]
    have hP5 := zar (C := Q) (zaL hP m (x2 : Int)) m (.int .u64 (x1 : Int)) HN.out
    have hQ5 := zaL (zar (C := P) hQ m (.int .u64 (x2 : Int)) (Ne.symm HN.out)) m (x1 : Int)
    have hB5 := ((hB.set (.inl rfl) (i := m) (.int .u64 (x2 : Int))).set (.inr (.inl rfl)) (i := m) (.int .u64 (x1 : Int))).drew.drew
    clear p2 q2 fp fq lP lQ hP hQ hB
    generalize ((wr.setCell ⟨P, m, none⟩ (.int .u64 (x2 : Int))).setCell ⟨Q, m, none⟩ (.int .u64 (x1 : Int))) = ws at *
    have p2 : ws.cell? ⟨P, 5 + m, none⟩ = some (.int .u64 (z1 : Int)) := by rw [zaj hP5 (5 + m) (by omega)]; unfold upd; rw [if_neg (by omega)]; dsimp only; rw [zcS _ _ _ _ _ (by omega), hz1]
    have q2 : ws.cell? ⟨Q, 5 + m, none⟩ = some (.int .u64 (z2 : Int)) := by rw [zaj hQ5 (5 + m) (by omega)]; unfold upd; rw [if_neg (by omega)]; dsimp only; rw [zcS _ _ _ _ _ (by omega), hz2]
    have fp := zaH hP5
    have fq := zaH hQ5
    go_upto_region 6 with (fail)
    (try simp only [Act.put, jA, jB, jC])
    have c1 : ∀ v, (ws.setCell ⟨P, 5 + m, none⟩ v).cell? ⟨Q, 5 + m, none⟩ = some (.int .u64 (z2 : Int)) := fun v => by rw [zge ws (by exact HN.out)]; exact q2
    have f1 : ∀ v, (ws.setCell ⟨P, 5 + m, none⟩ v).frozen? ⟨Q, 5 + m, none⟩ = false := fun v => frozen_of_row _ _ _ _ _ (zar hQ5 _ _ (Ne.symm HN.out))
    go_region
    clear c1 f1 p2 q2
    simp only [EZ1.out, EZ2.out]
    go_wp2
    go_roundg (gk - 1)
    case measure => have := hm'.out; omega
    case rel =>
     have hm'' := hm'.out
     refine ⟨m + 1, by omega, by go_num, zaf (zar (C := Q) (zaL hP5 (5 + m) (z2 : Int)) (5 + m) _ HN.out) (fun i hi => ?_), zaf (zaL (zar (C := P) hQ5 (5 + m) _ (Ne.symm HN.out)) (5 + m) (z1 : Int)) (fun i hi => ?_), ((hB5.set (.inl rfl) _).set (.inr (.inl rfl)) _).drew⟩
     all_goals
      rw [znt]
      unfold upd
      dsimp only
      by_cases e1 : i = 5 + m
      ·rw [if_pos e1, if_pos (by omega), e1]
       unfold zpO
       simp only [if_true, if_false, Nat.zero_ne_one, hz1, hz2]
      ·rw [if_neg e1]
       by_cases e2 : i = m
       ·rw [if_pos e2, if_pos (by omega), e2]
        unfold zpO
        simp only [if_true, if_false, Nat.zero_ne_one, hx1, hx2]
       ·rw [if_neg e2, if_neg (by omega)]
   ·obtain rfl : m = 5 := by have := hm'.out; omega
    go_wp2
    refine bodyPost_end (results_none rfl _ _ _) rfl ?_
    refine ⟨rfl, hB, zaf hP (fun i hi => ?_), zaf hQ (fun i hi => ?_)⟩
    all_goals
     unfold zs3
     rw [if_pos (by omega)]
end
section
open Go.RowKit
attribute [local irreducible] zea zbj zbG zdq zcR sqN zij zik zci zbV zbY zeH ofN
section
variable {P : Program} {Q : Exit → Act → World → Prop} {a : Act} {ops : Array Oper} {o : Oper} {r : zfF} {w : World}
theorem za0 {ty : TypeId} {x : Operand} {n M t g off : Nat} {k : IntKind} {f : Nat → Int} {fr : Nat × Nat} (f' : Nat → Int) (hg : Region.wanted o (yielded ops a.tmps) = true) (ho : o.op = .load ty x) (hx : a.eval x = .pointer (some ⟨g, off, none⟩)) (hT : zeT P ty n)
  (hc : w.heap[g]? = some (.cells (arr k M f) t fr)) (hle : off + n ≤ M) (hf : ∀ i, i < n → f (off + i) = f' i) (h : r (.agg (arr k n f')) w) : zbX P ops Q o r a w :=
 zpp hg (by rw [zce ho hx (zck hT hc hle), show (zh7 n fun i => Value.int k (f (off + i))) = arr k n f' from zcd hf]) h
end
theorem zai {w : World} {A B : Nat} {c c' : Array Value} {t t' : TypeId} {fr fr' : Nat × Nat} (h : w.heap[A]? = some (.cells c t fr)) (h' : w.heap[B]? = some (.cells c' t' fr')) (hne : t ≠ t') : A ≠ B := fun e => by
 subst e
 rw [h] at h'
 injection h' with h'
 injection h' with _ h' _
 exact hne h'
theorem zkv (F G : Nat → Nat) (i : Nat) (hi : i < 5) : ((zbW F G (0 + i) : Nat) : Int) = ((F i : Nat) : Int) := by unfold zbW; rw [if_pos (by omega), Nat.zero_add]
theorem zkw (F G : Nat → Nat) (i : Nat) (hi : i < 5) : ((zbW F G (5 + i) : Nat) : Int) = ((G i : Nat) : Int) := by unfold zbW; rw [if_neg (by omega), Nat.add_sub_cancel_left]
theorem zgF (F G : Nat → Nat) : Tryz.prog.built 72 [(0, .agg (arr .u64 5 fun i => ((F i : Nat) : Int))), (1, .agg (arr .u64 5 fun i => ((G i : Nat) : Int)))] = some (arr .u64 10 fun i => ((zbW F G i : Nat) : Int)) := by kernel_rfl
structure Lad (w : World) (RV R LO HI FI : Nat) (L H U : Nat → Nat) : Prop where
 rv : w.heap[RV]? = some (.cells #[.pointer (some ⟨R, 0, none⟩)] 64 (0, 0))
 r : w.heap[R]? = some (.cells (arr .i64 1 fun _ => 0) 66 (0, 0))
 lo : w.heap[LO]? = some (.cells (arr .u64 10 fun i => ((L i : Nat) : Int)) 72 (0, 0))
 hi : w.heap[HI]? = some (.cells (arr .u64 10 fun i => ((H i : Nat) : Int)) 72 (0, 0))
 fi : w.heap[FI]? = some (.cells (arr .u64 5 fun i => ((U i : Nat) : Int)) 69 (0, 0))
def sA (X Z : Nat → Nat) := zij X Z
def sB (X Z : Nat → Nat) := zik X Z
def sDA (X Z X' Z' : Nat → Nat) := zbG (zik X' Z') (sA X Z)
def sCB (X Z X' Z' : Nat → Nat) := zbG (zij X' Z') (sB X Z)
def sHX (X Z X' Z' : Nat → Nat) := sqN (zij (sDA X Z X' Z') (sCB X Z X' Z')) 1
def sHZ (X Z X' Z' U : Nat → Nat) := zbG U (sqN (zik (sDA X Z X' Z') (sCB X Z X' Z')) 1)
def sAA (X Z : Nat → Nat) := sqN (sA X Z) 1
def sBB (X Z : Nat → Nat) := sqN (sB X Z) 1
def sE (X Z : Nat → Nat) := zik (sAA X Z) (sBB X Z)
def sLX (X Z : Nat → Nat) := zbG (sAA X Z) (sBB X Z)
def sLZ (X Z : Nat → Nat) := zbG (sE X Z) (zij (sAA X Z) (zbG (zci 121665) (sE X Z)))
section
variable {X Z X' Z' U : Nat → Nat}
theorem zA9 (h : okF X 5) (h' : okF Z 5) : okF (sA X Z) 5 := zks h h'
theorem zBa (h : okF X 5) (h' : okF Z 5) : okF (sB X Z) 5 := zjp h
theorem zs4 (h1 : okF X 5) (h2 : okF Z 5) (h3 : okF X' 5) (h4 : okF Z' 5) : okF (sDA X Z X' Z') 5 := zev _ _ (zjp h3) (zA9 h1 h2)
theorem zyw (h1 : okF X 5) (h2 : okF Z 5) (h3 : okF X' 5) (h4 : okF Z' 5) : okF (sCB X Z X' Z') 5 := zev _ _ (zks h3 h4) (zBa h1 h2)
theorem zs5 (h : okF X 5) (h' : okF Z 5) : okF (sAA X Z) 5 := zjn _ (zA9 h h') 1
theorem zAi (h : okF X 5) (h' : okF Z 5) : okF (sBB X Z) 5 := zjn _ (zBa h h') 1
theorem zBb (h : okF X 5) (h' : okF Z 5) : okF (sE X Z) 5 := zjp (zs5 h h')
theorem zju : okF (zci 121665) 5 := zw1 (by omega)
end
theorem zpR (RV R LO HI FI : Nat) (X Z X' Z' U : Nat → Nat) (oX : okF X 5) (oZ : okF Z 5) (oX' : okF X' 5) (oZ' : okF Z' 5) (oU : okF U 5) (hne : LO ≠ HI) (w : World) (L : Lad w RV R LO HI FI (zbW X Z) (zbW X' Z') U) :
  Calls Tryz.prog 43 #[.pointer (some ⟨RV, 0, none⟩), .pointer (some ⟨LO, 0, none⟩), .pointer (some ⟨HI, 0, none⟩), .pointer (some ⟨FI, 0, none⟩)] w fun e w' => e = .returned (.tuple #[]) ∧ Bar LO HI w w' ∧
   Lad w' RV R LO HI FI (zbW (sLX X Z) (sLZ X Z)) (zbW (sHX X Z X' Z') (sHZ X Z X' Z' U)) U := by
 obtain ⟨hrv, hr, hlo, hhi, hfi⟩ := L
 have OX := Lib.hid oX
 have OZ := Lib.hid oZ
 have OX' := Lib.hid oX'
 have OZ' := Lib.hid oZ'
 have OU := Lib.hid oU
 have n1 := Lib.hid (zai hrv hlo (by decide))
 have n2 := Lib.hid (zai hrv hhi (by decide))
 have n3 := Lib.hid (zai hr hlo (by decide))
 have n4 := Lib.hid (zai hr hhi (by decide))
 have n5 := Lib.hid (zai hfi hlo (by decide))
 have n6 := Lib.hid (zai hfi hhi (by decide))
 have N7 := Lib.hid hne
 clear oX oZ oX' oZ' oU hne
 go_enter Tryz.func43, Tryz.ntmps43
 go_upto_region 0 with (fail)
 (try simp only [Act.put, jA, jB, jC])
 refine zpb (fun x => x.heap[RV]? = some (.cells #[.pointer (some ⟨R, 0, none⟩)] 64 (0, 0)) ∧ x.heap[R]? = some (.cells (arr .i64 1 fun _ => 0) 66 (0, 0)) ∧ x.heap[LO]? = some (.cells (arr .u64 10 fun i => ((zbW X Z i : Nat) : Int)) 72 (0, 0)) ∧ x.heap[HI]? = some (.cells (arr .u64 10 fun i => ((zbW X' Z' i : Nat) : Int)) 72 (0, 0)) ∧ x.heap[FI]? = some (.cells (arr .u64 5 fun i => ((U i : Nat) : Int)) 69 (0, 0)) ∧ Bar LO HI w x) ⟨hrv, hr, hlo, hhi, hfi, Bar.refl _ _ _⟩ ?_
 clear hrv hr hlo hhi hfi
 rintro wq ⟨hrv, hr, hlo, hhi, hfi, hb⟩
 have lw := hb.size
 refine zex 14 [Is (.pointer (some ⟨R, 0, none⟩)), Is (.pointer (some ⟨LO, 0, none⟩)), Is (.agg (arr .u64 5 fun i => ((X i : Nat) : Int))), Is (.pointer (some ⟨LO, 5, none⟩)), Is (.agg (arr .u64 5 fun i => ((Z i : Nat) : Int))), Is (.agg (arr .u64 5 fun i => (((sA X Z) i : Nat) : Int))), Is (.pointer (some ⟨R, 0, none⟩)), Is (.pointer (some ⟨LO, 0, none⟩)), Is (.agg (arr .u64 5 fun i => ((X i : Nat) : Int))), Is (.pointer (some ⟨LO, 5, none⟩)), Is (.agg (arr .u64 5 fun i => ((Z i : Nat) : Int))), Is (.agg (arr .u64 5 fun i => (((sB X Z) i : Nat) : Int))), zi1 wq.heap.size (.cells (arr .u64 5 fun _ => 0) 69), zi1 wq.heap.size (.cells (arr .u64 5 fun _ => 0) 69)] [[], [], [1], [], [3], [0, 2, 4], [], [], [7], [], [9], [6, 8, 10], [], []] [(12, 13)] (by kernel_rfl) (by kernel_rfl) (by kernel_rfl) rfl (zaG (zaF _) (zaG (zaF _) (zaG (zaF _) (zaG (zaF _) (zaG (zaF _) (zaG (zaF _) (zaG (zaF _) (zaG (zaF _) (zaG (zaF _) (zaG (zaF _) (zaG (zaF _) (zaG (zaF _) (zaG (zcX _ _) (zaG (zcX _ _) zi0)))))))))))))) ?_ ?_
 ·(simp only [jH, jI, jF, jG, List.zip_cons_cons, List.zip_nil_left, List.zip_nil_right, zec, zfO, zcD, zdD, zbp, zbA, zbQ, jD, jE, List.range_succ, List.range_zero, List.nil_append, List.cons_append, Act.put, jA, jB, jC])
  refine ⟨?_, ?_, ?_, ?_, ?_, ?_, ?_, ?_, ?_, ?_, ?_, ?_, ?_, ?_, trivial⟩
  ·intro x0 x1 x2 x3 x4 x5 x6 x7 x8 x9 x10 x11 x12 x13 w' hb' 
   have cr := cell_of_row _ _ 0 _ _ _ (zaa hb' (jM (w := wq) hrv) hrv)
   refine za1 (zaS rfl (fun K hK => ?_)) rfl
   go_simp
   exact hK _ _ (Below.refl _ _) rfl
  ·intro x0 x1 x2 x3 x4 x5 x6 x7 x8 x9 x10 x11 x12 x13 w' hb' 
   refine za1 (zaS rfl (fun K hK => ?_)) rfl
   go_simp
   exact hK _ _ (Below.refl _ _) rfl
  ·intro x0 x1 x2 x3 x4 x5 x6 x7 x8 x9 x10 x11 x12 x13 w' hb' e0
   unfold Is at e0
   subst e0
   exact za1 (za0 (fun i => ((X i : Nat) : Int)) rfl rfl rfl zbc (zaa hb' (jM (w := wq) hlo) hlo) (by omega) (fun i hi => zkv _ _ i hi) rfl) rfl
  ·intro x0 x1 x2 x3 x4 x5 x6 x7 x8 x9 x10 x11 x12 x13 w' hb' 
   refine za1 (zaS rfl (fun K hK => ?_)) rfl
   go_simp
   exact hK _ _ (Below.refl _ _) rfl
  ·intro x0 x1 x2 x3 x4 x5 x6 x7 x8 x9 x10 x11 x12 x13 w' hb' e0
   unfold Is at e0
   subst e0
   exact za1 (za0 (fun i => ((Z i : Nat) : Int)) rfl rfl rfl zbc (zaa hb' (jM (w := wq) hlo) hlo) (by omega) (fun i hi => zkw _ _ i hi) rfl) rfl
  ·intro x0 x1 x2 x3 x4 x5 x6 x7 x8 x9 x10 x11 x12 x13 w' hb' e0 e1 e2
   unfold Is at e0 e1 e2
   subst e0 e1 e2
   refine za1 (zaS rfl (fun K hK => ?_)) rfl
   go_simp
   refine (ziz R X Z OX.out OZ.out _ (zaa hb' (jM (w := wq) hr) hr)).mono ?_
   rintro e w4 ⟨rfl, b4⟩
   exact hK _ _ b4 (by unfold Is sA; rfl)
  ·intro x0 x1 x2 x3 x4 x5 x6 x7 x8 x9 x10 x11 x12 x13 w' hb' 
   have cr := cell_of_row _ _ 0 _ _ _ (zaa hb' (jM (w := wq) hrv) hrv)
   refine za1 (zaS rfl (fun K hK => ?_)) rfl
   go_simp
   exact hK _ _ (Below.refl _ _) rfl
  ·intro x0 x1 x2 x3 x4 x5 x6 x7 x8 x9 x10 x11 x12 x13 w' hb' 
   refine za1 (zaS rfl (fun K hK => ?_)) rfl
   go_simp
   exact hK _ _ (Below.refl _ _) rfl
  ·intro x0 x1 x2 x3 x4 x5 x6 x7 x8 x9 x10 x11 x12 x13 w' hb' e0
   unfold Is at e0
   subst e0
   exact za1 (za0 (fun i => ((X i : Nat) : Int)) rfl rfl rfl zbc (zaa hb' (jM (w := wq) hlo) hlo) (by omega) (fun i hi => zkv _ _ i hi) rfl) rfl
  ·intro x0 x1 x2 x3 x4 x5 x6 x7 x8 x9 x10 x11 x12 x13 w' hb' 
   refine za1 (zaS rfl (fun K hK => ?_)) rfl
   go_simp
   exact hK _ _ (Below.refl _ _) rfl
  ·intro x0 x1 x2 x3 x4 x5 x6 x7 x8 x9 x10 x11 x12 x13 w' hb' e0
   unfold Is at e0
   subst e0
   exact za1 (za0 (fun i => ((Z i : Nat) : Int)) rfl rfl rfl zbc (zaa hb' (jM (w := wq) hlo) hlo) (by omega) (fun i hi => zkw _ _ i hi) rfl) rfl
  ·intro x0 x1 x2 x3 x4 x5 x6 x7 x8 x9 x10 x11 x12 x13 w' hb' e0 e1 e2
   unfold Is at e0 e1 e2
   subst e0 e1 e2
   refine za1 (zaS rfl (fun K hK => ?_)) rfl
   go_simp
   refine (ziA R X Z OX.out OZ.out _ (zaa hb' (jM (w := wq) hr) hr)).mono ?_
   rintro e w4 ⟨rfl, b4⟩
   exact hK _ _ b4 (by unfold Is sB; rfl)
  ·intro x0 x1 x2 x3 x4 x5 x6 x7 x8 x9 x10 x11 x12 x13 w' hb' 
   exact zdJ rfl rfl zga ⟨_, rfl, hb'.size, heap_alloc_new _ _⟩
  ·intro x0 x1 x2 x3 x4 x5 x6 x7 x8 x9 x10 x11 x12 x13 w' hb' 
   exact zdJ rfl rfl zga ⟨_, rfl, hb'.size, heap_alloc_new _ _⟩
 ·(simp only [jH, jI, jF, jG, List.zip_cons_cons, List.zip_nil_left, List.zip_nil_right, zec, zfO, zcD, zdD, zbp, zbA, zbQ, jD, jE, List.range_succ, List.range_zero, List.nil_append, List.cons_append, Act.put, jA, jB, jC])
  rintro x0 x1 x2 x3 x4 x5 x6 x7 x8 x9 x10 x11 x12 x13 w5 hb' e0 e1 e2 e3 e4 e5 e6 e7 e8 e9 e10 e11 e12 e13 d0
  unfold Is at e0 e1 e2 e3 e4 e5 e6 e7 e8 e9 e10 e11
  subst e0 e1 e2 e3 e4 e5 e6 e7 e8 e9 e10 e11
  obtain ⟨BA, rfl, lBA, hA⟩ := e12
  replace lBA : wq.heap.size ≤ BA := lBA
  obtain ⟨BB, rfl, lBB, hB⟩ := e13
  replace lBB : wq.heap.size ≤ BB := lBB
  have nBABB : BA ≠ BB := fun e => d0 (by rw [e])
  clear d0
  have l_hrv := jM (w := wq) hrv
  replace hrv := zaa hb' l_hrv hrv
  have l_hr := jM (w := wq) hr
  replace hr := zaa hb' l_hr hr
  have l_hlo := jM (w := wq) hlo
  replace hlo := zaa hb' l_hlo hlo
  have l_hhi := jM (w := wq) hhi
  replace hhi := zaa hb' l_hhi hhi
  have l_hfi := jM (w := wq) hfi
  replace hfi := zaa hb' l_hfi hfi
  replace hb := (Bar.drewl (Bar.of_below (P := LO) (Q := HI) (w := wq.drew) hb') |> fun h => hb.drew.trans (w' := wq.drew) (by exact ⟨h.os, h.tape, h.output, h.size, h.block⟩))
  go_upto_region 1 with (first | (refine zac rfl rfl rfl rfl zbc hA ?_) | (refine zac rfl rfl rfl rfl zbc (zad hB (Ne.symm nBABB)) ?_))
  replace hrv := zad (g := BA) (c' := (arr .u64 5 fun i => (((sA X Z) i : Nat) : Int))) hrv (Nat.ne_of_lt (jT l_hrv lBA))
  replace hr := zad (g := BA) (c' := (arr .u64 5 fun i => (((sA X Z) i : Nat) : Int))) hr (Nat.ne_of_lt (jT l_hr lBA))
  replace hlo := zad (g := BA) (c' := (arr .u64 5 fun i => (((sA X Z) i : Nat) : Int))) hlo (Nat.ne_of_lt (jT l_hlo lBA))
  replace hhi := zad (g := BA) (c' := (arr .u64 5 fun i => (((sA X Z) i : Nat) : Int))) hhi (Nat.ne_of_lt (jT l_hhi lBA))
  replace hfi := zad (g := BA) (c' := (arr .u64 5 fun i => (((sA X Z) i : Nat) : Int))) hfi (Nat.ne_of_lt (jT l_hfi lBA))
  replace hA := zan (c' := (arr .u64 5 fun i => (((sA X Z) i : Nat) : Int))) hA
  replace hB := zad (g := BA) (c' := (arr .u64 5 fun i => (((sA X Z) i : Nat) : Int))) hB (Ne.symm nBABB)
  replace hb := hb.row (g := BA) (.inr (.inr (jU lw lBA))) (arr .u64 5 fun i => (((sA X Z) i : Nat) : Int))
  replace hrv := zad (g := BB) (c' := (arr .u64 5 fun i => (((sB X Z) i : Nat) : Int))) hrv (Nat.ne_of_lt (jT l_hrv lBB))
  replace hr := zad (g := BB) (c' := (arr .u64 5 fun i => (((sB X Z) i : Nat) : Int))) hr (Nat.ne_of_lt (jT l_hr lBB))
  replace hlo := zad (g := BB) (c' := (arr .u64 5 fun i => (((sB X Z) i : Nat) : Int))) hlo (Nat.ne_of_lt (jT l_hlo lBB))
  replace hhi := zad (g := BB) (c' := (arr .u64 5 fun i => (((sB X Z) i : Nat) : Int))) hhi (Nat.ne_of_lt (jT l_hhi lBB))
  replace hfi := zad (g := BB) (c' := (arr .u64 5 fun i => (((sB X Z) i : Nat) : Int))) hfi (Nat.ne_of_lt (jT l_hfi lBB))
  replace hA := zad (g := BB) (c' := (arr .u64 5 fun i => (((sB X Z) i : Nat) : Int))) hA nBABB
  replace hB := zan (c' := (arr .u64 5 fun i => (((sB X Z) i : Nat) : Int))) hB
  replace hb := hb.row (g := BB) (.inr (.inr (jU lw lBB))) (arr .u64 5 fun i => (((sB X Z) i : Nat) : Int))
  replace lw : w.heap.size ≤ ((w5.setRow BA (arr .u64 5 fun i => (((sA X Z) i : Nat) : Int))).setRow BB (arr .u64 5 fun i => (((sB X Z) i : Nat) : Int))).heap.size := hb.size
  clear l_hrv l_hr l_hlo l_hhi l_hfi lBA lBB hb' nBABB
  generalize ((w5.setRow BA (arr .u64 5 fun i => (((sA X Z) i : Nat) : Int))).setRow BB (arr .u64 5 fun i => (((sB X Z) i : Nat) : Int))) = wn at *
  clear wq
  obtain ⟨wq, rfl⟩ : ∃ x, x = wn := ⟨_, rfl⟩
  (try simp only [Act.put, jA, jB, jC])
  refine zex 20 [Is (.pointer (some ⟨R, 0, none⟩)), Is (.pointer (some ⟨R, 0, none⟩)), Is (.pointer (some ⟨HI, 0, none⟩)), Is (.agg (arr .u64 5 fun i => ((X' i : Nat) : Int))), Is (.pointer (some ⟨HI, 5, none⟩)), Is (.agg (arr .u64 5 fun i => ((Z' i : Nat) : Int))), Is (.agg (arr .u64 5 fun i => (((zik X' Z') i : Nat) : Int))), Is (.agg (arr .u64 5 fun i => (((sA X Z) i : Nat) : Int))), Is (.agg (arr .u64 5 fun i => (((sDA X Z X' Z') i : Nat) : Int))), Is (.pointer (some ⟨R, 0, none⟩)), Is (.pointer (some ⟨R, 0, none⟩)), Is (.pointer (some ⟨HI, 0, none⟩)), Is (.agg (arr .u64 5 fun i => ((X' i : Nat) : Int))), Is (.pointer (some ⟨HI, 5, none⟩)), Is (.agg (arr .u64 5 fun i => ((Z' i : Nat) : Int))), Is (.agg (arr .u64 5 fun i => (((zij X' Z') i : Nat) : Int))), Is (.agg (arr .u64 5 fun i => (((sB X Z) i : Nat) : Int))), Is (.agg (arr .u64 5 fun i => (((sCB X Z X' Z') i : Nat) : Int))), zi1 wq.heap.size (.cells (arr .u64 5 fun _ => 0) 69), zi1 wq.heap.size (.cells (arr .u64 5 fun _ => 0) 69)] [[], [], [], [2], [], [4], [1, 3, 5], [], [0, 6, 7], [], [], [], [11], [], [13], [10, 12, 14], [], [9, 15, 16], [], []] [(18, 19)] (by kernel_rfl) (by kernel_rfl) (by kernel_rfl) rfl (zaG (zaF _) (zaG (zaF _) (zaG (zaF _) (zaG (zaF _) (zaG (zaF _) (zaG (zaF _) (zaG (zaF _) (zaG (zaF _) (zaG (zaF _) (zaG (zaF _) (zaG (zaF _) (zaG (zaF _) (zaG (zaF _) (zaG (zaF _) (zaG (zaF _) (zaG (zaF _) (zaG (zaF _) (zaG (zaF _) (zaG (zcX _ _) (zaG (zcX _ _) zi0)))))))))))))))))))) ?_ ?_
  ·(simp only [jH, jI, jF, jG, List.zip_cons_cons, List.zip_nil_left, List.zip_nil_right, zec, zfO, zcD, zdD, zbp, zbA, zbQ, jD, jE, List.range_succ, List.range_zero, List.nil_append, List.cons_append, Act.put, jA, jB, jC])
   refine ⟨?_, ?_, ?_, ?_, ?_, ?_, ?_, ?_, ?_, ?_, ?_, ?_, ?_, ?_, ?_, ?_, ?_, ?_, ?_, ?_, trivial⟩
   ·intro x0 x1 x2 x3 x4 x5 x6 x7 x8 x9 x10 x11 x12 x13 x14 x15 x16 x17 x18 x19 w' hb' 
    have cr := cell_of_row _ _ 0 _ _ _ (zaa hb' (jM (w := wq) hrv) hrv)
    refine za1 (zaS rfl (fun K hK => ?_)) rfl
    go_simp
    exact hK _ _ (Below.refl _ _) rfl
   ·intro x0 x1 x2 x3 x4 x5 x6 x7 x8 x9 x10 x11 x12 x13 x14 x15 x16 x17 x18 x19 w' hb' 
    have cr := cell_of_row _ _ 0 _ _ _ (zaa hb' (jM (w := wq) hrv) hrv)
    refine za1 (zaS rfl (fun K hK => ?_)) rfl
    go_simp
    exact hK _ _ (Below.refl _ _) rfl
   ·intro x0 x1 x2 x3 x4 x5 x6 x7 x8 x9 x10 x11 x12 x13 x14 x15 x16 x17 x18 x19 w' hb' 
    refine za1 (zaS rfl (fun K hK => ?_)) rfl
    go_simp
    exact hK _ _ (Below.refl _ _) rfl
   ·intro x0 x1 x2 x3 x4 x5 x6 x7 x8 x9 x10 x11 x12 x13 x14 x15 x16 x17 x18 x19 w' hb' e0
    unfold Is at e0
    subst e0
    exact za1 (za0 (fun i => ((X' i : Nat) : Int)) rfl rfl rfl zbc (zaa hb' (jM (w := wq) hhi) hhi) (by omega) (fun i hi => zkv _ _ i hi) rfl) rfl
   ·intro x0 x1 x2 x3 x4 x5 x6 x7 x8 x9 x10 x11 x12 x13 x14 x15 x16 x17 x18 x19 w' hb' 
    refine za1 (zaS rfl (fun K hK => ?_)) rfl
    go_simp
    exact hK _ _ (Below.refl _ _) rfl
   ·intro x0 x1 x2 x3 x4 x5 x6 x7 x8 x9 x10 x11 x12 x13 x14 x15 x16 x17 x18 x19 w' hb' e0
    unfold Is at e0
    subst e0
    exact za1 (za0 (fun i => ((Z' i : Nat) : Int)) rfl rfl rfl zbc (zaa hb' (jM (w := wq) hhi) hhi) (by omega) (fun i hi => zkw _ _ i hi) rfl) rfl
   ·intro x0 x1 x2 x3 x4 x5 x6 x7 x8 x9 x10 x11 x12 x13 x14 x15 x16 x17 x18 x19 w' hb' e0 e1 e2
    unfold Is at e0 e1 e2
    subst e0 e1 e2
    refine za1 (zaS rfl (fun K hK => ?_)) rfl
    go_simp
    refine (ziA R X' Z' OX'.out OZ'.out _ (zaa hb' (jM (w := wq) hr) hr)).mono ?_
    rintro e w4 ⟨rfl, b4⟩
    exact hK _ _ b4 (by unfold Is; rfl)
   ·intro x0 x1 x2 x3 x4 x5 x6 x7 x8 x9 x10 x11 x12 x13 x14 x15 x16 x17 x18 x19 w' hb' 
    exact za1 (zbs rfl rfl rfl zbc (zaa hb' (jM (w := wq) hA) hA) rfl) rfl
   ·intro x0 x1 x2 x3 x4 x5 x6 x7 x8 x9 x10 x11 x12 x13 x14 x15 x16 x17 x18 x19 w' hb' e0 e1 e2
    unfold Is at e0 e1 e2
    subst e0 e1 e2
    refine za1 (zaS rfl (fun K hK => ?_)) rfl
    go_simp
    refine (zeJ R (zik X' Z') (sA X Z) (zjp OX'.out) (zA9 OX.out OZ.out) _ (zaa hb' (jM (w := wq) hr) hr)).mono ?_
    rintro e w4 ⟨rfl, b4⟩
    exact hK _ _ b4 (by unfold Is sDA; rfl)
   ·intro x0 x1 x2 x3 x4 x5 x6 x7 x8 x9 x10 x11 x12 x13 x14 x15 x16 x17 x18 x19 w' hb' 
    have cr := cell_of_row _ _ 0 _ _ _ (zaa hb' (jM (w := wq) hrv) hrv)
    refine za1 (zaS rfl (fun K hK => ?_)) rfl
    go_simp
    exact hK _ _ (Below.refl _ _) rfl
   ·intro x0 x1 x2 x3 x4 x5 x6 x7 x8 x9 x10 x11 x12 x13 x14 x15 x16 x17 x18 x19 w' hb' 
    have cr := cell_of_row _ _ 0 _ _ _ (zaa hb' (jM (w := wq) hrv) hrv)
    refine za1 (zaS rfl (fun K hK => ?_)) rfl
    go_simp
    exact hK _ _ (Below.refl _ _) rfl
   ·intro x0 x1 x2 x3 x4 x5 x6 x7 x8 x9 x10 x11 x12 x13 x14 x15 x16 x17 x18 x19 w' hb' 
    refine za1 (zaS rfl (fun K hK => ?_)) rfl
    go_simp
    exact hK _ _ (Below.refl _ _) rfl
   ·intro x0 x1 x2 x3 x4 x5 x6 x7 x8 x9 x10 x11 x12 x13 x14 x15 x16 x17 x18 x19 w' hb' e0
    unfold Is at e0
    subst e0
    exact za1 (za0 (fun i => ((X' i : Nat) : Int)) rfl rfl rfl zbc (zaa hb' (jM (w := wq) hhi) hhi) (by omega) (fun i hi => zkv _ _ i hi) rfl) rfl
   ·intro x0 x1 x2 x3 x4 x5 x6 x7 x8 x9 x10 x11 x12 x13 x14 x15 x16 x17 x18 x19 w' hb' 
    refine za1 (zaS rfl (fun K hK => ?_)) rfl
    go_simp
    exact hK _ _ (Below.refl _ _) rfl
   ·intro x0 x1 x2 x3 x4 x5 x6 x7 x8 x9 x10 x11 x12 x13 x14 x15 x16 x17 x18 x19 w' hb' e0
    unfold Is at e0
    subst e0
    exact za1 (za0 (fun i => ((Z' i : Nat) : Int)) rfl rfl rfl zbc (zaa hb' (jM (w := wq) hhi) hhi) (by omega) (fun i hi => zkw _ _ i hi) rfl) rfl
   ·intro x0 x1 x2 x3 x4 x5 x6 x7 x8 x9 x10 x11 x12 x13 x14 x15 x16 x17 x18 x19 w' hb' e0 e1 e2
    unfold Is at e0 e1 e2
    subst e0 e1 e2
    refine za1 (zaS rfl (fun K hK => ?_)) rfl
    go_simp
    refine (ziz R X' Z' OX'.out OZ'.out _ (zaa hb' (jM (w := wq) hr) hr)).mono ?_
    rintro e w4 ⟨rfl, b4⟩
    exact hK _ _ b4 (by unfold Is; rfl)
   ·intro x0 x1 x2 x3 x4 x5 x6 x7 x8 x9 x10 x11 x12 x13 x14 x15 x16 x17 x18 x19 w' hb' 
    exact za1 (zbs rfl rfl rfl zbc (zaa hb' (jM (w := wq) hB) hB) rfl) rfl
   ·intro x0 x1 x2 x3 x4 x5 x6 x7 x8 x9 x10 x11 x12 x13 x14 x15 x16 x17 x18 x19 w' hb' e0 e1 e2
    unfold Is at e0 e1 e2
    subst e0 e1 e2
    refine za1 (zaS rfl (fun K hK => ?_)) rfl
    go_simp
    refine (zeJ R (zij X' Z') (sB X Z) (zks OX'.out OZ'.out) (zBa OX.out OZ.out) _ (zaa hb' (jM (w := wq) hr) hr)).mono ?_
    rintro e w4 ⟨rfl, b4⟩
    exact hK _ _ b4 (by unfold Is sCB; rfl)
   ·intro x0 x1 x2 x3 x4 x5 x6 x7 x8 x9 x10 x11 x12 x13 x14 x15 x16 x17 x18 x19 w' hb' 
    exact zdJ rfl rfl zga ⟨_, rfl, hb'.size, heap_alloc_new _ _⟩
   ·intro x0 x1 x2 x3 x4 x5 x6 x7 x8 x9 x10 x11 x12 x13 x14 x15 x16 x17 x18 x19 w' hb' 
    exact zdJ rfl rfl zga ⟨_, rfl, hb'.size, heap_alloc_new _ _⟩
  ·(simp only [jH, jI, jF, jG, List.zip_cons_cons, List.zip_nil_left, List.zip_nil_right, zec, zfO, zcD, zdD, zbp, zbA, zbQ, jD, jE, List.range_succ, List.range_zero, List.nil_append, List.cons_append, Act.put, jA, jB, jC])
   rintro x0 x1 x2 x3 x4 x5 x6 x7 x8 x9 x10 x11 x12 x13 x14 x15 x16 x17 x18 x19 w5 hb' e0 e1 e2 e3 e4 e5 e6 e7 e8 e9 e10 e11 e12 e13 e14 e15 e16 e17 e18 e19 d0
   unfold Is at e0 e1 e2 e3 e4 e5 e6 e7 e8 e9 e10 e11 e12 e13 e14 e15 e16 e17
   subst e0 e1 e2 e3 e4 e5 e6 e7 e8 e9 e10 e11 e12 e13 e14 e15 e16 e17
   obtain ⟨BD, rfl, lBD, hD⟩ := e18
   replace lBD : wq.heap.size ≤ BD := lBD
   obtain ⟨BC, rfl, lBC, hC⟩ := e19
   replace lBC : wq.heap.size ≤ BC := lBC
   have nBDBC : BD ≠ BC := fun e => d0 (by rw [e])
   clear d0
   have l_hrv := jM (w := wq) hrv
   replace hrv := zaa hb' l_hrv hrv
   have l_hr := jM (w := wq) hr
   replace hr := zaa hb' l_hr hr
   have l_hlo := jM (w := wq) hlo
   replace hlo := zaa hb' l_hlo hlo
   have l_hhi := jM (w := wq) hhi
   replace hhi := zaa hb' l_hhi hhi
   have l_hfi := jM (w := wq) hfi
   replace hfi := zaa hb' l_hfi hfi
   have l_hA := jM (w := wq) hA
   replace hA := zaa hb' l_hA hA
   have l_hB := jM (w := wq) hB
   replace hB := zaa hb' l_hB hB
   replace hb := (Bar.drewl (Bar.of_below (P := LO) (Q := HI) (w := wq.drew) hb') |> fun h => hb.drew.trans (w' := wq.drew) (by exact ⟨h.os, h.tape, h.output, h.size, h.block⟩))
   go_upto_region 2 with (first | (refine zac rfl rfl rfl rfl zbc hD ?_) | (refine zac rfl rfl rfl rfl zbc (zad hC (Ne.symm nBDBC)) ?_))
   replace hrv := zad (g := BD) (c' := (arr .u64 5 fun i => (((sDA X Z X' Z') i : Nat) : Int))) hrv (Nat.ne_of_lt (jT l_hrv lBD))
   replace hr := zad (g := BD) (c' := (arr .u64 5 fun i => (((sDA X Z X' Z') i : Nat) : Int))) hr (Nat.ne_of_lt (jT l_hr lBD))
   replace hlo := zad (g := BD) (c' := (arr .u64 5 fun i => (((sDA X Z X' Z') i : Nat) : Int))) hlo (Nat.ne_of_lt (jT l_hlo lBD))
   replace hhi := zad (g := BD) (c' := (arr .u64 5 fun i => (((sDA X Z X' Z') i : Nat) : Int))) hhi (Nat.ne_of_lt (jT l_hhi lBD))
   replace hfi := zad (g := BD) (c' := (arr .u64 5 fun i => (((sDA X Z X' Z') i : Nat) : Int))) hfi (Nat.ne_of_lt (jT l_hfi lBD))
   replace hA := zad (g := BD) (c' := (arr .u64 5 fun i => (((sDA X Z X' Z') i : Nat) : Int))) hA (Nat.ne_of_lt (jT l_hA lBD))
   replace hB := zad (g := BD) (c' := (arr .u64 5 fun i => (((sDA X Z X' Z') i : Nat) : Int))) hB (Nat.ne_of_lt (jT l_hB lBD))
   replace hD := zan (c' := (arr .u64 5 fun i => (((sDA X Z X' Z') i : Nat) : Int))) hD
   replace hC := zad (g := BD) (c' := (arr .u64 5 fun i => (((sDA X Z X' Z') i : Nat) : Int))) hC (Ne.symm nBDBC)
   replace hb := hb.row (g := BD) (.inr (.inr (jU lw lBD))) (arr .u64 5 fun i => (((sDA X Z X' Z') i : Nat) : Int))
   replace hrv := zad (g := BC) (c' := (arr .u64 5 fun i => (((sCB X Z X' Z') i : Nat) : Int))) hrv (Nat.ne_of_lt (jT l_hrv lBC))
   replace hr := zad (g := BC) (c' := (arr .u64 5 fun i => (((sCB X Z X' Z') i : Nat) : Int))) hr (Nat.ne_of_lt (jT l_hr lBC))
   replace hlo := zad (g := BC) (c' := (arr .u64 5 fun i => (((sCB X Z X' Z') i : Nat) : Int))) hlo (Nat.ne_of_lt (jT l_hlo lBC))
   replace hhi := zad (g := BC) (c' := (arr .u64 5 fun i => (((sCB X Z X' Z') i : Nat) : Int))) hhi (Nat.ne_of_lt (jT l_hhi lBC))
   replace hfi := zad (g := BC) (c' := (arr .u64 5 fun i => (((sCB X Z X' Z') i : Nat) : Int))) hfi (Nat.ne_of_lt (jT l_hfi lBC))
   replace hA := zad (g := BC) (c' := (arr .u64 5 fun i => (((sCB X Z X' Z') i : Nat) : Int))) hA (Nat.ne_of_lt (jT l_hA lBC))
   replace hB := zad (g := BC) (c' := (arr .u64 5 fun i => (((sCB X Z X' Z') i : Nat) : Int))) hB (Nat.ne_of_lt (jT l_hB lBC))
   replace hD := zad (g := BC) (c' := (arr .u64 5 fun i => (((sCB X Z X' Z') i : Nat) : Int))) hD nBDBC
   replace hC := zan (c' := (arr .u64 5 fun i => (((sCB X Z X' Z') i : Nat) : Int))) hC
   replace hb := hb.row (g := BC) (.inr (.inr (jU lw lBC))) (arr .u64 5 fun i => (((sCB X Z X' Z') i : Nat) : Int))
   replace lw : w.heap.size ≤ ((w5.setRow BD (arr .u64 5 fun i => (((sDA X Z X' Z') i : Nat) : Int))).setRow BC (arr .u64 5 fun i => (((sCB X Z X' Z') i : Nat) : Int))).heap.size := hb.size
   clear l_hrv l_hr l_hlo l_hhi l_hfi l_hA l_hB lBD lBC hb' nBDBC
   generalize ((w5.setRow BD (arr .u64 5 fun i => (((sDA X Z X' Z') i : Nat) : Int))).setRow BC (arr .u64 5 fun i => (((sCB X Z X' Z') i : Nat) : Int))) = wn at *
   clear wq
   obtain ⟨wq, rfl⟩ : ∃ x, x = wn := ⟨_, rfl⟩
   (try simp only [Act.put, jA, jB, jC])
   have lrv : RV < wq.drew.heap.size := jM (w := wq) hrv
   refine wp_region_can wq.heap.size 16 [(0, false), (1, false), (2, false), (3, false), (6, false), (7, false), (8, false), (9, false), (10, false), (11, false), (4, true), (5, true), (12, true), (13, true), (14, true), (15, false)] (by kernel_rfl) (by kernel_rfl) ?_
   (simp only [canOps, jD, jE, jF, jG])
   have c_rv : wq.drew.cell? ⟨RV, 0, none⟩ = some (.pointer (some ⟨R, 0, none⟩)) := cell_of_row _ _ 0 _ _ _ hrv
   iterate 1 (first | (refine zaA rfl rfl (fun _ _ _ _ h => h) ?_; (simp only [Act.put, Act.eval, jN, jL, jD, jE, jO, jA, jB, jC])) | (refine zas rfl rfl (fun _ _ _ _ h => h) ?_; (simp only [Act.put, Act.eval, jN, jL, jD, jE, jO, jA, jB, jC])) | (refine zao rfl rfl rfl (fun _ _ _ _ h => h) ?_; (simp only [Act.put, jA, jB, jC])) | (refine za3 rfl rfl (fun _ _ _ _ h => h) (by first | exact .bin rfl rfl rfl | exact .indexAddr rfl | exact .un rfl | exact .extract rfl | exact .index rfl | exact .field rfl | exact .slice rfl | exact .load rfl rfl lrv hrv) (fun K hK => ?_); go_simp; (try (simp only [↓IntWalk.iteOmega]; go_simp)); (try go_bits); refine hK _ ?_; clear hK K))
   iterate 1 (first | (refine zaA rfl rfl (fun _ _ _ _ h => h) ?_; (simp only [Act.put, Act.eval, jN, jL, jD, jE, jO, jA, jB, jC])) | (refine zas rfl rfl (fun _ _ _ _ h => h) ?_; (simp only [Act.put, Act.eval, jN, jL, jD, jE, jO, jA, jB, jC])) | (refine zao rfl rfl rfl (fun _ _ _ _ h => h) ?_; (simp only [Act.put, jA, jB, jC])) | (refine za3 rfl rfl (fun _ _ _ _ h => h) (by first | exact .bin rfl rfl rfl | exact .indexAddr rfl | exact .un rfl | exact .extract rfl | exact .index rfl | exact .field rfl | exact .slice rfl | exact .load rfl rfl lrv hrv) (fun K hK => ?_); go_simp; (try (simp only [↓IntWalk.iteOmega]; go_simp)); (try go_bits); refine hK _ ?_; clear hK K))
   refine zaq rfl rfl rfl (fun _ _ _ _ h => h) zbc (jM (w := wq) hD) hD ?_
   (try simp only [Act.put, jA, jB, jC])
   refine zaq rfl rfl rfl (fun _ _ _ _ h => h) zbc (jM (w := wq) hC) hC ?_
   (try simp only [Act.put, jA, jB, jC])
   iterate 1 (first | (refine zaA rfl rfl (fun _ _ _ _ h => h) ?_; (simp only [Act.put, Act.eval, jN, jL, jD, jE, jO, jA, jB, jC])) | (refine zas rfl rfl (fun _ _ _ _ h => h) ?_; (simp only [Act.put, Act.eval, jN, jL, jD, jE, jO, jA, jB, jC])) | (refine zao rfl rfl rfl (fun _ _ _ _ h => h) ?_; (simp only [Act.put, jA, jB, jC])) | (refine za3 rfl rfl (fun _ _ _ _ h => h) (by first | exact .bin rfl rfl rfl | exact .indexAddr rfl | exact .un rfl | exact .extract rfl | exact .index rfl | exact .field rfl | exact .slice rfl | exact .load rfl rfl lrv hrv) (fun K hK => ?_); go_simp; (try (simp only [↓IntWalk.iteOmega]; go_simp)); (try go_bits); refine hK _ ?_; clear hK K))
   refine zaq rfl rfl rfl (fun _ _ _ _ h => h) zbc (jM (w := wq) hfi) hfi ?_
   (try simp only [Act.put, jA, jB, jC])
   iterate 1 (first | (refine zaA rfl rfl (fun _ _ _ _ h => h) ?_; (simp only [Act.put, Act.eval, jN, jL, jD, jE, jO, jA, jB, jC])) | (refine zas rfl rfl (fun _ _ _ _ h => h) ?_; (simp only [Act.put, Act.eval, jN, jL, jD, jE, jO, jA, jB, jC])) | (refine zao rfl rfl rfl (fun _ _ _ _ h => h) ?_; (simp only [Act.put, jA, jB, jC])) | (refine za3 rfl rfl (fun _ _ _ _ h => h) (by first | exact .bin rfl rfl rfl | exact .indexAddr rfl | exact .un rfl | exact .extract rfl | exact .index rfl | exact .field rfl | exact .slice rfl | exact .load rfl rfl lrv hrv) (fun K hK => ?_); go_simp; (try (simp only [↓IntWalk.iteOmega]; go_simp)); (try go_bits); refine hK _ ?_; clear hK K))
   iterate 1 (first | (refine zaA rfl rfl (fun _ _ _ _ h => h) ?_; (simp only [Act.put, Act.eval, jN, jL, jD, jE, jO, jA, jB, jC])) | (refine zas rfl rfl (fun _ _ _ _ h => h) ?_; (simp only [Act.put, Act.eval, jN, jL, jD, jE, jO, jA, jB, jC])) | (refine zao rfl rfl rfl (fun _ _ _ _ h => h) ?_; (simp only [Act.put, jA, jB, jC])) | (refine za3 rfl rfl (fun _ _ _ _ h => h) (by first | exact .bin rfl rfl rfl | exact .indexAddr rfl | exact .un rfl | exact .extract rfl | exact .index rfl | exact .field rfl | exact .slice rfl | exact .load rfl rfl lrv hrv) (fun K hK => ?_); go_simp; (try (simp only [↓IntWalk.iteOmega]; go_simp)); (try go_bits); refine hK _ ?_; clear hK K))
   refine zaq rfl rfl rfl (fun _ _ _ _ h => h) zbc (jM (w := wq) hD) hD ?_
   (try simp only [Act.put, jA, jB, jC])
   refine zaq rfl rfl rfl (fun _ _ _ _ h => h) zbc (jM (w := wq) hC) hC ?_
   (try simp only [Act.put, jA, jB, jC])
   refine wpCan_e rfl (fun K hK => ?_)
   go_simp
   refine (ziz R (sDA X Z X' Z') (sCB X Z X' Z') (zs4 OX.out OZ.out OX'.out OZ'.out) (zyw OX.out OZ.out OX'.out OZ'.out) _ (by exact hr)).mono ?_
   rintro e v1 ⟨rfl, b1⟩
   refine hK _ _ (Keep.of_below b1 (jV _)) ?_
   clear hK K
   (try simp only [Act.put, jA, jB, jC])
   have cb := b1
   clear b1
   refine wpCan_e rfl (fun K hK => ?_)
   go_simp
   refine (zfp R _ (zks (zs4 OX.out OZ.out OX'.out OZ'.out) (zyw OX.out OZ.out OX'.out OZ'.out)) _ (by exact zaa (w := wq.drew) cb (jM (w := wq) hr) hr)).mono ?_
   rintro e v2 ⟨rfl, b2⟩
   refine hK _ _ (Keep.of_below b2 cb.size) ?_
   clear hK K
   (try simp only [Act.put, jA, jB, jC])
   replace cb := cb.trans (b2.mono cb.size)
   clear b2
   refine wpCan_e rfl (fun K hK => ?_)
   go_simp
   refine (ziA R (sDA X Z X' Z') (sCB X Z X' Z') (zs4 OX.out OZ.out OX'.out OZ'.out) (zyw OX.out OZ.out OX'.out OZ'.out) _ (by exact zaa (w := wq.drew) cb (jM (w := wq) hr) hr)).mono ?_
   rintro e v3 ⟨rfl, b3⟩
   refine hK _ _ (Keep.of_below b3 cb.size) ?_
   clear hK K
   (try simp only [Act.put, jA, jB, jC])
   replace cb := cb.trans (b3.mono cb.size)
   clear b3
   refine wpCan_e rfl (fun K hK => ?_)
   go_simp
   refine (zfp R _ (zjp (zs4 OX.out OZ.out OX'.out OZ'.out)) _ (by exact zaa (w := wq.drew) cb (jM (w := wq) hr) hr)).mono ?_
   rintro e v4 ⟨rfl, b4⟩
   refine hK _ _ (Keep.of_below b4 cb.size) ?_
   clear hK K
   (try simp only [Act.put, jA, jB, jC])
   replace cb := cb.trans (b4.mono cb.size)
   clear b4
   refine wpCan_e rfl (fun K hK => ?_)
   go_simp
   refine (zeJ R U _ OU.out (zjn _ (zjp (zs4 OX.out OZ.out OX'.out OZ'.out)) 1) _ (by exact zaa (w := wq.drew) cb (jM (w := wq) hr) hr)).mono ?_
   rintro e v5 ⟨rfl, b5⟩
   refine hK _ _ (Keep.of_below b5 cb.size) ?_
   clear hK K
   (try simp only [Act.put, jA, jB, jC])
   replace cb := cb.trans (b5.mono cb.size)
   clear b5
   refine zcz rfl (fun _ _ _ _ h => h) (fun w' => zaJ rfl (by simp [Act.eval, Act.put]; exact ⟨rfl, rfl⟩) (zgF (sHX X Z X' Z') (sHZ X Z X' Z' U))) ?_
   (try simp only [Act.put, jA, jB, jC])
   refine wpCan_nil ?_
   clear c_rv lrv
   replace hrv := zaa (w := wq.drew) cb (jM (w := wq) hrv) hrv
   replace hr := zaa (w := wq.drew) cb (jM (w := wq) hr) hr
   replace hlo := zaa (w := wq.drew) cb (jM (w := wq) hlo) hlo
   replace hhi := zaa (w := wq.drew) cb (jM (w := wq) hhi) hhi
   replace hfi := zaa (w := wq.drew) cb (jM (w := wq) hfi) hfi
   replace hA := zaa (w := wq.drew) cb (jM (w := wq) hA) hA
   replace hB := zaa (w := wq.drew) cb (jM (w := wq) hB) hB
   replace hD := zaa (w := wq.drew) cb (jM (w := wq) hD) hD
   replace hC := zaa (w := wq.drew) cb (jM (w := wq) hC) hC
   replace hb := hb.drew.trans (Bar.of_below cb)
   clear cb
   obtain ⟨ws, hws⟩ : ∃ x, x = v5 := ⟨_, rfl⟩
   rw [← hws] at hrv hr hlo hhi hfi hA hB hD hC hb ⊢
   clear hws
   go_upto_region 3 with (first | (refine zac rfl rfl rfl rfl zhF hhi ?_))
   replace hrv := zad (g := HI) (c' := (arr .u64 10 fun i => (((zbW (sHX X Z X' Z') (sHZ X Z X' Z' U)) i : Nat) : Int))) hrv (zai hrv hhi (by decide))
   replace hr := zad (g := HI) (c' := (arr .u64 10 fun i => (((zbW (sHX X Z X' Z') (sHZ X Z X' Z' U)) i : Nat) : Int))) hr (zai hr hhi (by decide))
   replace hlo := zad (g := HI) (c' := (arr .u64 10 fun i => (((zbW (sHX X Z X' Z') (sHZ X Z X' Z' U)) i : Nat) : Int))) hlo N7.out
   replace hfi := zad (g := HI) (c' := (arr .u64 10 fun i => (((zbW (sHX X Z X' Z') (sHZ X Z X' Z' U)) i : Nat) : Int))) hfi (zai hfi hhi (by decide))
   replace hA := zad (g := HI) (c' := (arr .u64 10 fun i => (((zbW (sHX X Z X' Z') (sHZ X Z X' Z' U)) i : Nat) : Int))) hA (zai hA hhi (by decide))
   replace hB := zad (g := HI) (c' := (arr .u64 10 fun i => (((zbW (sHX X Z X' Z') (sHZ X Z X' Z' U)) i : Nat) : Int))) hB (zai hB hhi (by decide))
   replace hD := zad (g := HI) (c' := (arr .u64 10 fun i => (((zbW (sHX X Z X' Z') (sHZ X Z X' Z' U)) i : Nat) : Int))) hD (zai hD hhi (by decide))
   replace hC := zad (g := HI) (c' := (arr .u64 10 fun i => (((zbW (sHX X Z X' Z') (sHZ X Z X' Z' U)) i : Nat) : Int))) hC (zai hC hhi (by decide))
   replace hb := hb.row (g := HI) (.inr (.inl rfl)) (arr .u64 10 fun i => (((zbW (sHX X Z X' Z') (sHZ X Z X' Z' U)) i : Nat) : Int))
   replace hhi := zan (c' := (arr .u64 10 fun i => (((zbW (sHX X Z X' Z') (sHZ X Z X' Z' U)) i : Nat) : Int))) hhi
   generalize ws.setRow HI (arr .u64 10 fun i => (((zbW (sHX X Z X' Z') (sHZ X Z X' Z' U)) i : Nat) : Int)) = wn at *
   clear ws
   obtain ⟨wq, rfl⟩ : ∃ x, x = wn := ⟨_, rfl⟩
   (try simp only [Act.put, jA, jB, jC])
   replace lw := hb.size
   clear hD hC
   refine zex 8 [Is (.pointer (some ⟨R, 0, none⟩)), Is (.agg (arr .u64 5 fun i => (((sA X Z) i : Nat) : Int))), Is (.agg (arr .u64 5 fun i => (((sAA X Z) i : Nat) : Int))), Is (.pointer (some ⟨R, 0, none⟩)), Is (.agg (arr .u64 5 fun i => (((sB X Z) i : Nat) : Int))), Is (.agg (arr .u64 5 fun i => (((sBB X Z) i : Nat) : Int))), zi1 wq.heap.size (.cells (arr .u64 5 fun _ => 0) 69), zi1 wq.heap.size (.cells (arr .u64 5 fun _ => 0) 69)] [[], [], [0, 1], [], [], [3, 4], [], []] [(6, 7)] (by kernel_rfl) (by kernel_rfl) (by kernel_rfl) rfl (zaG (zaF _) (zaG (zaF _) (zaG (zaF _) (zaG (zaF _) (zaG (zaF _) (zaG (zaF _) (zaG (zcX _ _) (zaG (zcX _ _) zi0)))))))) ?_ ?_
   ·(simp only [jH, jI, jF, jG, List.zip_cons_cons, List.zip_nil_left, List.zip_nil_right, zec, zfO, zcD, zdD, zbp, zbA, zbQ, jD, jE, List.range_succ, List.range_zero, List.nil_append, List.cons_append, Act.put, jA, jB, jC])
    refine ⟨?_, ?_, ?_, ?_, ?_, ?_, ?_, ?_, trivial⟩
    ·intro x0 x1 x2 x3 x4 x5 x6 x7 w' hb' 
     have cr := cell_of_row _ _ 0 _ _ _ (zaa hb' (jM (w := wq) hrv) hrv)
     refine za1 (zaS rfl (fun K hK => ?_)) rfl
     go_simp
     exact hK _ _ (Below.refl _ _) rfl
    ·intro x0 x1 x2 x3 x4 x5 x6 x7 w' hb' 
     exact za1 (zbs rfl rfl rfl zbc (zaa hb' (jM (w := wq) hA) hA) rfl) rfl
    ·intro x0 x1 x2 x3 x4 x5 x6 x7 w' hb' e0 e1
     unfold Is at e0 e1
     subst e0 e1
     refine za1 (zaS rfl (fun K hK => ?_)) rfl
     go_simp
     refine (zfp R (sA X Z) (zA9 OX.out OZ.out) _ (zaa hb' (jM (w := wq) hr) hr)).mono ?_
     rintro e w4 ⟨rfl, b4⟩
     exact hK _ _ b4 (by unfold Is sAA; rfl)
    ·intro x0 x1 x2 x3 x4 x5 x6 x7 w' hb' 
     have cr := cell_of_row _ _ 0 _ _ _ (zaa hb' (jM (w := wq) hrv) hrv)
     refine za1 (zaS rfl (fun K hK => ?_)) rfl
     go_simp
     exact hK _ _ (Below.refl _ _) rfl
    ·intro x0 x1 x2 x3 x4 x5 x6 x7 w' hb' 
     exact za1 (zbs rfl rfl rfl zbc (zaa hb' (jM (w := wq) hB) hB) rfl) rfl
    ·intro x0 x1 x2 x3 x4 x5 x6 x7 w' hb' e0 e1
     unfold Is at e0 e1
     subst e0 e1
     refine za1 (zaS rfl (fun K hK => ?_)) rfl
     go_simp
     refine (zfp R (sB X Z) (zBa OX.out OZ.out) _ (zaa hb' (jM (w := wq) hr) hr)).mono ?_
     rintro e w4 ⟨rfl, b4⟩
     exact hK _ _ b4 (by unfold Is sBB; rfl)
    ·intro x0 x1 x2 x3 x4 x5 x6 x7 w' hb' 
     exact zdJ rfl rfl zga ⟨_, rfl, hb'.size, heap_alloc_new _ _⟩
    ·intro x0 x1 x2 x3 x4 x5 x6 x7 w' hb' 
     exact zdJ rfl rfl zga ⟨_, rfl, hb'.size, heap_alloc_new _ _⟩
   ·(simp only [jH, jI, jF, jG, List.zip_cons_cons, List.zip_nil_left, List.zip_nil_right, zec, zfO, zcD, zdD, zbp, zbA, zbQ, jD, jE, List.range_succ, List.range_zero, List.nil_append, List.cons_append, Act.put, jA, jB, jC])
    rintro x0 x1 x2 x3 x4 x5 x6 x7 w5 hb' e0 e1 e2 e3 e4 e5 e6 e7 d0
    unfold Is at e0 e1 e2 e3 e4 e5
    subst e0 e1 e2 e3 e4 e5
    obtain ⟨BP, rfl, lBP, hP⟩ := e6
    replace lBP : wq.heap.size ≤ BP := lBP
    obtain ⟨BQ, rfl, lBQ, hQ⟩ := e7
    replace lBQ : wq.heap.size ≤ BQ := lBQ
    have nBPBQ : BP ≠ BQ := fun e => d0 (by rw [e])
    clear d0
    have l_hrv := jM (w := wq) hrv
    replace hrv := zaa hb' l_hrv hrv
    have l_hr := jM (w := wq) hr
    replace hr := zaa hb' l_hr hr
    have l_hlo := jM (w := wq) hlo
    replace hlo := zaa hb' l_hlo hlo
    have l_hhi := jM (w := wq) hhi
    replace hhi := zaa hb' l_hhi hhi
    have l_hfi := jM (w := wq) hfi
    replace hfi := zaa hb' l_hfi hfi
    have l_hA := jM (w := wq) hA
    replace hA := zaa hb' l_hA hA
    have l_hB := jM (w := wq) hB
    replace hB := zaa hb' l_hB hB
    replace hb := (Bar.drewl (Bar.of_below (P := LO) (Q := HI) (w := wq.drew) hb') |> fun h => hb.drew.trans (w' := wq.drew) (by exact ⟨h.os, h.tape, h.output, h.size, h.block⟩))
    go_upto_region 4 with (first | (refine zac rfl rfl rfl rfl zbc hP ?_) | (refine zac rfl rfl rfl rfl zbc (zad hQ (Ne.symm nBPBQ)) ?_))
    replace hrv := zad (g := BP) (c' := (arr .u64 5 fun i => (((sAA X Z) i : Nat) : Int))) hrv (Nat.ne_of_lt (jT l_hrv lBP))
    replace hr := zad (g := BP) (c' := (arr .u64 5 fun i => (((sAA X Z) i : Nat) : Int))) hr (Nat.ne_of_lt (jT l_hr lBP))
    replace hlo := zad (g := BP) (c' := (arr .u64 5 fun i => (((sAA X Z) i : Nat) : Int))) hlo (Nat.ne_of_lt (jT l_hlo lBP))
    replace hhi := zad (g := BP) (c' := (arr .u64 5 fun i => (((sAA X Z) i : Nat) : Int))) hhi (Nat.ne_of_lt (jT l_hhi lBP))
    replace hfi := zad (g := BP) (c' := (arr .u64 5 fun i => (((sAA X Z) i : Nat) : Int))) hfi (Nat.ne_of_lt (jT l_hfi lBP))
    replace hA := zad (g := BP) (c' := (arr .u64 5 fun i => (((sAA X Z) i : Nat) : Int))) hA (Nat.ne_of_lt (jT l_hA lBP))
    replace hB := zad (g := BP) (c' := (arr .u64 5 fun i => (((sAA X Z) i : Nat) : Int))) hB (Nat.ne_of_lt (jT l_hB lBP))
    replace hP := zan (c' := (arr .u64 5 fun i => (((sAA X Z) i : Nat) : Int))) hP
    replace hQ := zad (g := BP) (c' := (arr .u64 5 fun i => (((sAA X Z) i : Nat) : Int))) hQ (Ne.symm nBPBQ)
    replace hb := hb.row (g := BP) (.inr (.inr (jU lw lBP))) (arr .u64 5 fun i => (((sAA X Z) i : Nat) : Int))
    replace hrv := zad (g := BQ) (c' := (arr .u64 5 fun i => (((sBB X Z) i : Nat) : Int))) hrv (Nat.ne_of_lt (jT l_hrv lBQ))
    replace hr := zad (g := BQ) (c' := (arr .u64 5 fun i => (((sBB X Z) i : Nat) : Int))) hr (Nat.ne_of_lt (jT l_hr lBQ))
    replace hlo := zad (g := BQ) (c' := (arr .u64 5 fun i => (((sBB X Z) i : Nat) : Int))) hlo (Nat.ne_of_lt (jT l_hlo lBQ))
    replace hhi := zad (g := BQ) (c' := (arr .u64 5 fun i => (((sBB X Z) i : Nat) : Int))) hhi (Nat.ne_of_lt (jT l_hhi lBQ))
    replace hfi := zad (g := BQ) (c' := (arr .u64 5 fun i => (((sBB X Z) i : Nat) : Int))) hfi (Nat.ne_of_lt (jT l_hfi lBQ))
    replace hA := zad (g := BQ) (c' := (arr .u64 5 fun i => (((sBB X Z) i : Nat) : Int))) hA (Nat.ne_of_lt (jT l_hA lBQ))
    replace hB := zad (g := BQ) (c' := (arr .u64 5 fun i => (((sBB X Z) i : Nat) : Int))) hB (Nat.ne_of_lt (jT l_hB lBQ))
    replace hP := zad (g := BQ) (c' := (arr .u64 5 fun i => (((sBB X Z) i : Nat) : Int))) hP nBPBQ
    replace hQ := zan (c' := (arr .u64 5 fun i => (((sBB X Z) i : Nat) : Int))) hQ
    replace hb := hb.row (g := BQ) (.inr (.inr (jU lw lBQ))) (arr .u64 5 fun i => (((sBB X Z) i : Nat) : Int))
    replace lw : w.heap.size ≤ ((w5.setRow BP (arr .u64 5 fun i => (((sAA X Z) i : Nat) : Int))).setRow BQ (arr .u64 5 fun i => (((sBB X Z) i : Nat) : Int))).heap.size := hb.size
    clear l_hrv l_hr l_hlo l_hhi l_hfi l_hA l_hB lBP lBQ hb' nBPBQ
    generalize ((w5.setRow BP (arr .u64 5 fun i => (((sAA X Z) i : Nat) : Int))).setRow BQ (arr .u64 5 fun i => (((sBB X Z) i : Nat) : Int))) = wn at *
    clear wq
    obtain ⟨wq, rfl⟩ : ∃ x, x = wn := ⟨_, rfl⟩
    (try simp only [Act.put, jA, jB, jC])
    clear hA hB
    have c_rv : wq.cell? ⟨RV, 0, none⟩ = some (.pointer (some ⟨R, 0, none⟩)) := cell_of_row _ _ 0 _ _ _ hrv
    go_wp2_with (first | (refine zab rfl rfl rfl zbc hP ?_) | (refine zab rfl rfl rfl zbc hQ ?_) | (go_at_call 45; fail))
    refine (ziA R (sAA X Z) (sBB X Z) (zs5 OX.out OZ.out) (zAi OX.out OZ.out) _ hr).mono ?_
    rintro e w4 ⟨rfl, b4⟩
    replace hrv := zaa b4 (jM hrv) hrv
    replace hr := zaa b4 (jM hr) hr
    replace hlo := zaa b4 (jM hlo) hlo
    replace hhi := zaa b4 (jM hhi) hhi
    replace hfi := zaa b4 (jM hfi) hfi
    replace hP := zaa b4 (jM hP) hP
    replace hQ := zaa b4 (jM hQ) hQ
    replace hb := hb.trans (Bar.of_below b4)
    clear b4 c_rv
    go_upto_region 5 with (refine zay rfl rfl rfl rfl zga zbc rfl rfl ?_; intro w8 hE b8 hs8)
    have l0 := jM hlo
    replace hrv := zaa b8 (jM hrv) hrv
    replace hr := zaa b8 (jM hr) hr
    replace hlo := zaa b8 (jM hlo) hlo
    replace hhi := zaa b8 (jM hhi) hhi
    replace hfi := zaa b8 (jM hfi) hfi
    replace hP := zaa b8 (jM hP) hP
    replace hQ := zaa b8 (jM hQ) hQ
    replace hb := hb.trans (Bar.of_below b8)
    clear b8 hs8
    obtain ⟨BE, hBE⟩ : ∃ B, B = w4.heap.size := ⟨_, rfl⟩
    rw [← hBE] at l0 hE ⊢
    clear hBE
    obtain ⟨wq, rfl⟩ : ∃ x, x = w8 := ⟨_, rfl⟩
    (try simp only [Act.put, jA, jB, jC])
    have lrv : RV < wq.drew.heap.size := jM (w := wq) hrv
    refine wp_region_can wq.heap.size 15 [(0, false), (1, false), (2, false), (4, false), (5, false), (6, false), (7, false), (8, false), (9, false), (10, false), (3, true), (11, true), (12, true), (13, true), (14, false)] (by kernel_rfl) (by kernel_rfl) ?_
    (simp only [canOps, jD, jE, jF, jG])
    have c_rv : wq.drew.cell? ⟨RV, 0, none⟩ = some (.pointer (some ⟨R, 0, none⟩)) := cell_of_row _ _ 0 _ _ _ hrv
    iterate 1 (first | (refine zaA rfl rfl (fun _ _ _ _ h => h) ?_; (simp only [Act.put, Act.eval, jN, jL, jD, jE, jO, jA, jB, jC])) | (refine zas rfl rfl (fun _ _ _ _ h => h) ?_; (simp only [Act.put, Act.eval, jN, jL, jD, jE, jO, jA, jB, jC])) | (refine zao rfl rfl rfl (fun _ _ _ _ h => h) ?_; (simp only [Act.put, jA, jB, jC])) | (refine za3 rfl rfl (fun _ _ _ _ h => h) (by first | exact .bin rfl rfl rfl | exact .indexAddr rfl | exact .un rfl | exact .extract rfl | exact .index rfl | exact .field rfl | exact .slice rfl | exact .load rfl rfl lrv hrv) (fun K hK => ?_); go_simp; (try (simp only [↓IntWalk.iteOmega]; go_simp)); (try go_bits); refine hK _ ?_; clear hK K))
    refine zaq rfl rfl rfl (fun _ _ _ _ h => h) zbc (jM (w := wq) hP) hP ?_
    (try simp only [Act.put, jA, jB, jC])
    refine zaq rfl rfl rfl (fun _ _ _ _ h => h) zbc (jM (w := wq) hQ) hQ ?_
    (try simp only [Act.put, jA, jB, jC])
    iterate 1 (first | (refine zaA rfl rfl (fun _ _ _ _ h => h) ?_; (simp only [Act.put, Act.eval, jN, jL, jD, jE, jO, jA, jB, jC])) | (refine zas rfl rfl (fun _ _ _ _ h => h) ?_; (simp only [Act.put, Act.eval, jN, jL, jD, jE, jO, jA, jB, jC])) | (refine zao rfl rfl rfl (fun _ _ _ _ h => h) ?_; (simp only [Act.put, jA, jB, jC])) | (refine za3 rfl rfl (fun _ _ _ _ h => h) (by first | exact .bin rfl rfl rfl | exact .indexAddr rfl | exact .un rfl | exact .extract rfl | exact .index rfl | exact .field rfl | exact .slice rfl | exact .load rfl rfl lrv hrv) (fun K hK => ?_); go_simp; (try (simp only [↓IntWalk.iteOmega]; go_simp)); (try go_bits); refine hK _ ?_; clear hK K))
    refine zaq rfl rfl rfl (fun _ _ _ _ h => h) zbc (jM (w := wq) hE) hE ?_
    (try simp only [Act.put, jA, jB, jC])
    iterate 1 (first | (refine zaA rfl rfl (fun _ _ _ _ h => h) ?_; (simp only [Act.put, Act.eval, jN, jL, jD, jE, jO, jA, jB, jC])) | (refine zas rfl rfl (fun _ _ _ _ h => h) ?_; (simp only [Act.put, Act.eval, jN, jL, jD, jE, jO, jA, jB, jC])) | (refine zao rfl rfl rfl (fun _ _ _ _ h => h) ?_; (simp only [Act.put, jA, jB, jC])) | (refine za3 rfl rfl (fun _ _ _ _ h => h) (by first | exact .bin rfl rfl rfl | exact .indexAddr rfl | exact .un rfl | exact .extract rfl | exact .index rfl | exact .field rfl | exact .slice rfl | exact .load rfl rfl lrv hrv) (fun K hK => ?_); go_simp; (try (simp only [↓IntWalk.iteOmega]; go_simp)); (try go_bits); refine hK _ ?_; clear hK K))
    refine zaq rfl rfl rfl (fun _ _ _ _ h => h) zbc (jM (w := wq) hP) hP ?_
    (try simp only [Act.put, jA, jB, jC])
    iterate 1 (first | (refine zaA rfl rfl (fun _ _ _ _ h => h) ?_; (simp only [Act.put, Act.eval, jN, jL, jD, jE, jO, jA, jB, jC])) | (refine zas rfl rfl (fun _ _ _ _ h => h) ?_; (simp only [Act.put, Act.eval, jN, jL, jD, jE, jO, jA, jB, jC])) | (refine zao rfl rfl rfl (fun _ _ _ _ h => h) ?_; (simp only [Act.put, jA, jB, jC])) | (refine za3 rfl rfl (fun _ _ _ _ h => h) (by first | exact .bin rfl rfl rfl | exact .indexAddr rfl | exact .un rfl | exact .extract rfl | exact .index rfl | exact .field rfl | exact .slice rfl | exact .load rfl rfl lrv hrv) (fun K hK => ?_); go_simp; (try (simp only [↓IntWalk.iteOmega]; go_simp)); (try go_bits); refine hK _ ?_; clear hK K))
    refine zcz rfl (fun _ _ _ _ h => h) (fun w' => zaJ rfl (by simp [Act.eval, Act.put]) (zjr 121665)) ?_
    (try simp only [Act.put, jA, jB, jC])
    refine zaq rfl rfl rfl (fun _ _ _ _ h => h) zbc (jM (w := wq) hE) hE ?_
    (try simp only [Act.put, jA, jB, jC])
    refine wpCan_e rfl (fun K hK => ?_)
    go_simp
    refine (zeJ R (sAA X Z) (sBB X Z) (zs5 OX.out OZ.out) (zAi OX.out OZ.out) _ (by exact hr)).mono ?_
    rintro e v1 ⟨rfl, b1⟩
    refine hK _ _ (Keep.of_below b1 (jV _)) ?_
    clear hK K
    (try simp only [Act.put, jA, jB, jC])
    have cb := b1
    clear b1
    refine wpCan_e rfl (fun K hK => ?_)
    go_simp
    refine (zeJ R (zci 121665) (sE X Z) zju (zBb OX.out OZ.out) _ (by exact zaa (w := wq.drew) cb (jM (w := wq) hr) hr)).mono ?_
    rintro e v2 ⟨rfl, b2⟩
    refine hK _ _ (Keep.of_below b2 cb.size) ?_
    clear hK K
    (try simp only [Act.put, jA, jB, jC])
    replace cb := cb.trans (b2.mono cb.size)
    clear b2
    refine wpCan_e rfl (fun K hK => ?_)
    go_simp
    refine (ziz R (sAA X Z) _ (zs5 OX.out OZ.out) (zev _ _ zju (zBb OX.out OZ.out)) _ (by exact zaa (w := wq.drew) cb (jM (w := wq) hr) hr)).mono ?_
    rintro e v3 ⟨rfl, b3⟩
    refine hK _ _ (Keep.of_below b3 cb.size) ?_
    clear hK K
    (try simp only [Act.put, jA, jB, jC])
    replace cb := cb.trans (b3.mono cb.size)
    clear b3
    refine wpCan_e rfl (fun K hK => ?_)
    go_simp
    refine (zeJ R (sE X Z) _ (zBb OX.out OZ.out) (zks (zs5 OX.out OZ.out) (zev _ _ zju (zBb OX.out OZ.out))) _ (by exact zaa (w := wq.drew) cb (jM (w := wq) hr) hr)).mono ?_
    rintro e v4 ⟨rfl, b4⟩
    refine hK _ _ (Keep.of_below b4 cb.size) ?_
    clear hK K
    (try simp only [Act.put, jA, jB, jC])
    replace cb := cb.trans (b4.mono cb.size)
    clear b4
    refine zcz rfl (fun _ _ _ _ h => h) (fun w' => zaJ rfl (by simp [Act.eval, Act.put]; exact ⟨rfl, rfl⟩) (zgF (sLX X Z) (sLZ X Z))) ?_
    (try simp only [Act.put, jA, jB, jC])
    refine wpCan_nil ?_
    clear c_rv lrv
    replace hrv := zaa (w := wq.drew) cb (jM (w := wq) hrv) hrv
    replace hr := zaa (w := wq.drew) cb (jM (w := wq) hr) hr
    replace hlo := zaa (w := wq.drew) cb (jM (w := wq) hlo) hlo
    replace hhi := zaa (w := wq.drew) cb (jM (w := wq) hhi) hhi
    replace hfi := zaa (w := wq.drew) cb (jM (w := wq) hfi) hfi
    replace hP := zaa (w := wq.drew) cb (jM (w := wq) hP) hP
    replace hQ := zaa (w := wq.drew) cb (jM (w := wq) hQ) hQ
    replace hE := zaa (w := wq.drew) cb (jM (w := wq) hE) hE
    replace hb := hb.drew.trans (Bar.of_below cb)
    clear cb
    obtain ⟨ws, hws⟩ : ∃ x, x = v4 := ⟨_, rfl⟩
    rw [← hws] at hrv hr hlo hhi hfi hP hQ hE hb ⊢
    clear hws
    go_wp2_with (first | (refine zac rfl rfl rfl rfl zhF hlo ?_))
    replace hrv := zad (g := LO) (c' := (arr .u64 10 fun i => (((zbW (sLX X Z) (sLZ X Z)) i : Nat) : Int))) hrv (zai hrv hlo (by decide))
    replace hr := zad (g := LO) (c' := (arr .u64 10 fun i => (((zbW (sLX X Z) (sLZ X Z)) i : Nat) : Int))) hr (zai hr hlo (by decide))
    replace hhi := zad (g := LO) (c' := (arr .u64 10 fun i => (((zbW (sLX X Z) (sLZ X Z)) i : Nat) : Int))) hhi (Ne.symm N7.out)
    replace hfi := zad (g := LO) (c' := (arr .u64 10 fun i => (((zbW (sLX X Z) (sLZ X Z)) i : Nat) : Int))) hfi (zai hfi hlo (by decide))
    replace hP := zad (g := LO) (c' := (arr .u64 10 fun i => (((zbW (sLX X Z) (sLZ X Z)) i : Nat) : Int))) hP (zai hP hlo (by decide))
    replace hQ := zad (g := LO) (c' := (arr .u64 10 fun i => (((zbW (sLX X Z) (sLZ X Z)) i : Nat) : Int))) hQ (zai hQ hlo (by decide))
    replace hE := zad (g := LO) (c' := (arr .u64 10 fun i => (((zbW (sLX X Z) (sLZ X Z)) i : Nat) : Int))) hE (zai hE hlo (by decide))
    replace hb := hb.row (g := LO) (.inl rfl) (arr .u64 10 fun i => (((zbW (sLX X Z) (sLZ X Z)) i : Nat) : Int))
    replace hlo := zan (c' := (arr .u64 10 fun i => (((zbW (sLX X Z) (sLZ X Z)) i : Nat) : Int))) hlo
    exact bodyPost_end (results_none rfl _ _ _) rfl ⟨rfl, hb, hrv, hr, hlo, hhi, hfi⟩
end
section
def IsP (p : Nat) : Prop := 2 ≤ p ∧ ∀ d, d ∣ p → d = 1 ∨ d = p
theorem znv {p a b : Nat} (hp : IsP p) (h : p ∣ a * b) : p ∣ a ∨ p ∣ b := by
 rcases hp.2 (Nat.gcd p a) (Nat.gcd_dvd_left p a) with h1 | h1
 ·exact .inr (Nat.Coprime.dvd_of_dvd_mul_left h1 h)
 ·exact .inl (by rw [← h1]; exact Nat.gcd_dvd_right p a)
theorem zs6 (m : Nat) (h : 2 ≤ m) : ∃ q, IsP q ∧ q ∣ m := by
 induction m using Nat.strongRecOn with
 | _ m ih =>
  by_cases hm : ∃ d, d ∣ m ∧ d ≠ 1 ∧ d ≠ m
  ·obtain ⟨d, hd, h1, h2⟩ := hm
   have hle := Nat.le_of_dvd (by omega) hd
   have h0 : d ≠ 0 := fun e => by rw [e] at hd; have := Nat.eq_zero_of_zero_dvd hd; omega
   obtain ⟨q, hq, hqd⟩ := ih d (by omega) (by omega)
   exact ⟨q, hq, Nat.dvd_trans hqd hd⟩
  ·refine ⟨m, ⟨h, fun d hd => ?_⟩, Nat.dvd_refl m⟩
   by_cases h1 : d = 1
   ·exact .inl h1
   ·by_cases h2 : d = m
    ·exact .inr h2
    ·exact absurd ⟨d, hd, h1, h2⟩ hm
def zyx : List Nat → Nat
 | [] => 1
 | q :: l => q * zyx l
theorem zs7 {q : Nat} (hq : IsP q) : ∀ (l : List Nat), (∀ x ∈ l, IsP x) → q ∣ zyx l → q ∈ l
 | [], _, h => by have := Nat.le_of_dvd (by unfold zyx; omega) h; unfold zyx at this; have := hq.1; omega
 | x :: l, hl, h => by
  rcases znv hq h with h1 | h1
  ·rcases (hl x (by simp)).2 q h1 with h2 | h2
   ·have := hq.1; omega
   ·simp [h2]
  ·simp [zs7 hq l (fun y hy => hl y (by simp [hy])) h1]
theorem zw3 : ∀ (N : Nat) (f : Nat → Nat), (∀ i, i < N + 1 → f i < N) → ∃ i j, i < j ∧ j < N + 1 ∧ f i = f j
 | 0, f, h => absurd (h 0 (by omega)) (by omega)
 | N + 1, f, h => by
  by_cases hv : ∃ i, i < N + 1 ∧ f i = f (N + 1)
  ·obtain ⟨i, hi, e⟩ := hv
   exact ⟨i, N + 1, hi, by omega, e⟩
  ·have hne : ∀ i, i < N + 1 → f i ≠ f (N + 1) := fun i hi e => hv ⟨i, hi, e⟩
   have hlast := h (N + 1) (by omega)
   obtain ⟨i, j, hij, hj, e⟩ := zw3 N (fun i => if f i = N then f (N + 1) else f i) (fun i hi => by
    have h1 := h i (by omega)
    have h2 := hne i hi
    try dsimp only
    split <;> omega)
   refine ⟨i, j, hij, by omega, ?_⟩
   have hi1 := hne i (by omega)
   have hj1 := hne j hj
   try dsimp only at e
   split at e <;> split at e <;> omega
theorem zCx (N : Nat) (f : Nat → Nat) (h : ∀ i, i < N → f i < N) (inj : ∀ i j, i < j → j < N → f i ≠ f j) (y : Nat) (hy : y < N) : ∃ i, i < N ∧ f i = y := by
 refine Classical.byContradiction fun hno => ?_
 have hn : ∀ i, i < N → f i ≠ y := fun i hi e => hno ⟨i, hi, e⟩
 obtain ⟨M, rfl⟩ : ∃ M, N = M + 1 := ⟨N - 1, by omega⟩
 obtain ⟨i, j, hij, hj, e⟩ := zw3 M (fun i => if f i = M then y else f i) (fun i hi => by
  have h1 := h i hi
  have h2 := hn i hi
  try dsimp only
  split <;> omega)
 have hi1 := hn i (by omega)
 have hj1 := hn j hj
 refine inj i j hij hj ?_
 try dsimp only at e
 split at e <;> split at e <;> omega
theorem zfq {n g k : Nat} (h : g ^ k % n = 1 % n) (t : Nat) : g ^ (k * t) % n = 1 % n := by
 rw [Nat.pow_mul, Nat.pow_mod, h, ← Nat.pow_mod, Nat.one_pow]
theorem zAj {n g N x y : Nat} (hN : 0 < N) (h : g ^ N % n = 1 % n) (k : Nat) (e : g ^ k * x % n = g ^ k * y % n) : x % n = y % n := by
 have key : ∀ z, (g ^ (N - 1)) ^ k * (g ^ k * z) % n = z % n := by
  intro z
  rw [← Nat.mul_assoc, ← Nat.mul_pow, ← Nat.pow_succ, show (N - 1).succ = N from by omega, Nat.mul_mod, Nat.pow_mod, h, ← Nat.pow_mod, Nat.one_pow, ← Nat.mul_mod, Nat.one_mul]
 rw [← key x, ← key y, Nat.mul_mod, e, ← Nat.mul_mod]
theorem zBu {p : Nat → Prop} : ∀ k, p k → ∃ e, p e ∧ ∀ d, d < e → ¬ p d := by
 intro k
 induction k using Nat.strongRecOn with
 | _ k ih =>
  intro hk
  by_cases hm : ∃ d, d < k ∧ p d
  ·obtain ⟨d, hd, hp⟩ := hm
   exact ih d hd hp
  ·exact ⟨k, hk, fun d hd hp => hm ⟨d, hd, hp⟩⟩
theorem zyy {n g N : Nat} {qs : List Nat} (hN : 0 < N) (hqs : ∀ q ∈ qs, IsP q) (hm : zyx qs = N) (h1 : g ^ N % n = 1 % n) (h2 : ∀ q ∈ qs, g ^ (N / q) % n ≠ 1 % n) (k : Nat) (hk0 : 0 < k) (hk : k < N) : g ^ k % n ≠ 1 % n := by
 intro hk1
 obtain ⟨e, ⟨he0, he1⟩, hmin⟩ := zBu (p := fun e => 0 < e ∧ g ^ e % n = 1 % n) k ⟨hk0, hk1⟩
 have hek : e ≤ k := by
  rcases Nat.lt_or_ge k e with h | h
  ·exact absurd ⟨hk0, hk1⟩ (hmin k h)
  ·exact h
 have hdv : e ∣ N := by
  have hr := Nat.div_add_mod N e
  have hl := Nat.mod_lt N he0
  have h3 : g ^ (N % e) % n = 1 % n := by
   have h4 := zfq he1 (N / e)
   rw [← hr, Nat.pow_add, Nat.mul_mod, h4, ← Nat.mul_mod, Nat.one_mul] at h1
   exact h1
  rcases Nat.eq_zero_or_pos (N % e) with h | h
  ·exact Nat.dvd_of_mod_eq_zero h
  ·exact absurd ⟨h, h3⟩ (hmin _ hl)
 obtain ⟨t, ht⟩ := hdv
 have ht2 : 2 ≤ t := by
  rcases Nat.lt_or_ge t 2 with h | h
  ·have : t = 0 ∨ t = 1 := by omega
   rcases this with rfl | rfl <;> omega
  ·exact h
 obtain ⟨q, hq, hqt⟩ := zs6 t ht2
 have hqm : q ∈ qs := zs7 hq qs hqs (by rw [hm, ht]; exact Nat.dvd_trans hqt (Nat.dvd_mul_left t e))
 obtain ⟨s, hs⟩ := hqt
 refine h2 q hqm ?_
 have : N / q = e * s := by
  rw [ht, hs, Nat.mul_left_comm]
  exact Nat.mul_div_cancel_left _ (by have := hq.1; omega)
 rw [this]
 exact zfq he1 s
theorem zvA {n g : Nat} {qs : List Nat} (hn : 2 ≤ n) (hqs : ∀ q ∈ qs, IsP q) (hm : zyx qs = n - 1) (h1 : g ^ (n - 1) % n = 1) (h2 : ∀ q ∈ qs, g ^ ((n - 1) / q) % n ≠ 1) :
  IsP n ∧ ∀ a, a % n ≠ 0 → a ^ (n - 1) % n = 1 := by
 have e1 : 1 % n = 1 := Nat.mod_eq_of_lt (by omega)
 have hN : 0 < n - 1 := by omega
 have h1' : g ^ (n - 1) % n = 1 % n := by rw [h1, e1]
 have hless := zyy hN hqs hm h1' (fun q hq => by rw [e1]; exact h2 q hq)
 have all : ∀ a, a % n ≠ 0 → a ^ (n - 1) % n = 1 := by
  intro a ha
  have hlt := Nat.mod_lt a (show n > 0 by omega)
  have nz : ∀ i, g ^ i % n ≠ 0 := by
   intro i hi
   have h3 := zfq h1' i
   rw [Nat.mul_comm, Nat.pow_mul, Nat.pow_mod, hi, e1] at h3
   rw [Nat.zero_pow hN, Nat.zero_mod] at h3
   omega
  obtain ⟨k, _, hk⟩ := zCx (n - 1) (fun i => g ^ i % n - 1) (fun i hi => by
    have := nz i
    have := Nat.mod_lt (g ^ i) (show n > 0 by omega)
    try dsimp only
    omega) (fun i j hij hj e => by
    have a1 := nz i
    have a2 := nz j
    try dsimp only at e
    have e3 : g ^ i * 1 % n = g ^ i * g ^ (j - i) % n := by
     rw [Nat.mul_one, ← Nat.pow_add, show i + (j - i) = j from by omega]
     omega
    exact hless (j - i) (by omega) (by omega) (zAj hN h1' i e3).symm) (a % n - 1) (by omega)
  have hka : g ^ k % n = a % n := by have := nz k; omega
  have h4 := zfq h1' k
  rw [Nat.mul_comm, Nat.pow_mul, Nat.pow_mod, hka, ← Nat.pow_mod, e1] at h4
  exact h4
 refine ⟨⟨hn, fun d hd => ?_⟩, all⟩
 by_cases hd1 : d = 1
 ·exact .inl hd1
 by_cases hdn : d = n
 ·exact .inr hdn
 exfalso
 have hle := Nat.le_of_dvd (by omega) hd
 have hd0 : d ≠ 0 := fun e => by rw [e] at hd; have := Nat.eq_zero_of_zero_dvd hd; omega
 have h3 := all d (by rw [Nat.mod_eq_of_lt (by omega)]; exact hd0)
 have h4 : d ∣ d ^ (n - 1) % n := by
  rw [Nat.dvd_mod_iff hd]
  exact Nat.dvd_trans (by rw [Nat.pow_one]; exact Nat.dvd_refl d) (Nat.pow_dvd_pow d (show 1 ≤ n - 1 by omega))
 rw [h3] at h4
 have := Nat.le_of_dvd (by omega) h4
 omega
def pw (n : Nat) : Nat → Nat → Nat → Nat
 | 0, _, _ => 1 % n
 | f + 1, b, e => if e % 2 = 1 then b * pw n f (b * b % n) (e / 2) % n else pw n f (b * b % n) (e / 2)
theorem zvB (n : Nat) : ∀ f b e, e < 2 ^ f → pw n f b e = b ^ e % n
 | 0, b, e, h => by
  have : e = 0 := by simpa using h
  subst this
  simp [pw]
 | f + 1, b, e, h => by
  have ih := zvB n f (b * b % n) (e / 2) (by rw [Nat.pow_succ] at h; omega)
  have e2 : (b * b % n) ^ (e / 2) % n = b ^ (2 * (e / 2)) % n := by rw [← Nat.pow_mod, ← Nat.pow_two, ← Nat.pow_mul]
  unfold pw
  rw [ih, e2]
  split
  ·rw [Nat.mul_mod_mod, ← Nat.pow_succ']
   congr 2
   omega
  ·congr 2
   omega
def zw4 (n g : Nat) (qs : List Nat) : Bool := decide (2 ≤ n) && decide (n < 2 ^ 256) && decide (zyx qs = n - 1) && decide (pw n 256 g (n - 1) = 1) && qs.all fun q => decide (pw n 256 g ((n - 1) / q) ≠ 1)
def zdj (v e : Nat) : Nat := v ^ e
def IsL (n : Nat) : Prop := IsP n ∧ ∀ a, a % n ≠ 0 → zdj a (n - 1) % n = 1
theorem zbL (n g : Nat) (qs : List Nat) (h : zw4 n g qs = true) (hqs : ∀ q ∈ qs, IsP q) : IsL n := by
 unfold IsL zdj
 simp only [zw4, Bool.and_eq_true, jS, List.all_eq_true] at h
 obtain ⟨⟨⟨⟨h1, h2⟩, h3⟩, h4⟩, h5⟩ := h
 refine zvA h1 hqs h3 (by rw [← zvB n 256 g (n - 1) (Nat.lt_of_le_of_lt (Nat.sub_le _ _) h2)]; exact h4) (fun q hq => ?_)
 have := h5 q hq
 rwa [zvB n 256 g _ (Nat.lt_of_le_of_lt (Nat.div_le_self _ _) (Nat.lt_of_le_of_lt (Nat.sub_le _ _) h2))] at this
def zw5 (n : Nat) : Bool := decide (2 ≤ n) && (List.range n).all fun d => decide (d < 2) || decide (n % d ≠ 0)
theorem zb0 {n : Nat} (h : zw5 n = true) : IsP n := by
 simp only [zw5, Bool.and_eq_true, jS, List.all_eq_true, Bool.or_eq_true, List.mem_range] at h
 refine ⟨h.1, fun d hd => ?_⟩
 by_cases hdn : d = n
 ·exact .inr hdn
 have hle := Nat.le_of_dvd (by omega) hd
 rcases h.2 d (by omega) with h2 | h2
 ·have : d ≠ 0 := fun e => by rw [e] at hd; have := Nat.eq_zero_of_zero_dvd hd; omega
  omega
 ·exact absurd (Nat.mod_eq_zero_of_dvd hd) h2
theorem zaU : ∀ q ∈ ([] : List Nat), IsP q := fun _ h => by cases h
theorem all_cons {x : Nat} {l : List Nat} (h : IsP x) (hl : ∀ q ∈ l, IsP q) : ∀ q ∈ x :: l, IsP q := fun q hq => by
 rcases List.mem_cons.1 hq with rfl | hq
 ·exact h
 ·exact hl q hq
theorem p2 : IsP 2 := zb0 (by decide +kernel)
theorem p3 : IsP 3 := zb0 (by decide +kernel)
theorem p5 : IsP 5 := zb0 (by decide +kernel)
theorem p7 : IsP 7 := zb0 (by decide +kernel)
theorem p13 : IsP 13 := zb0 (by decide +kernel)
theorem p17 : IsP 17 := zb0 (by decide +kernel)
theorem p19 : IsP 19 := zb0 (by decide +kernel)
theorem p23 : IsP 23 := zb0 (by decide +kernel)
theorem p29 : IsP 29 := zb0 (by decide +kernel)
theorem p31 : IsP 31 := zb0 (by decide +kernel)
theorem p41 : IsP 41 := zb0 (by decide +kernel)
theorem p43 : IsP 43 := zb0 (by decide +kernel)
theorem p47 : IsP 47 := zb0 (by decide +kernel)
theorem p59 : IsP 59 := zb0 (by decide +kernel)
theorem p83 : IsP 83 := zb0 (by decide +kernel)
theorem p97 : IsP 97 := zb0 (by decide +kernel)
theorem zCy : IsP 103 := zb0 (by decide +kernel)
theorem zCz : IsP 107 := zb0 (by decide +kernel)
theorem zCA : IsP 127 := zb0 (by decide +kernel)
theorem zCB : IsP 131 := zb0 (by decide +kernel)
theorem zCC : IsP 173 := zb0 (by decide +kernel)
theorem zCD : IsP 223 := zb0 (by decide +kernel)
theorem zCE : IsP 353 := zb0 (by decide +kernel)
theorem zCF : IsP 419 := zb0 (by decide +kernel)
theorem zCG : IsP 479 := zb0 (by decide +kernel)
theorem zCH : IsP 487 := zb0 (by decide +kernel)
theorem zCI : IsP 991 := zb0 (by decide +kernel)
theorem zBv : IsL 1723 := zbL 1723 3 [2, 3, 7, 41] (by decide +kernel) (all_cons p2 (all_cons p3 (all_cons p7 (all_cons p41 zaU))))
theorem zBw : IsL 2437 := zbL 2437 2 [2, 2, 3, 7, 29] (by decide +kernel) (all_cons p2 (all_cons p2 (all_cons p3 (all_cons p7 (all_cons p29 zaU)))))
theorem zBx : IsL 3727 := zbL 3727 3 [2, 3, 3, 3, 3, 23] (by decide +kernel) (all_cons p2 (all_cons p3 (all_cons p3 (all_cons p3 (all_cons p3 (all_cons p23 zaU))))))
theorem zBy : IsL 4153 := zbL 4153 5 [2, 2, 2, 3, 173] (by decide +kernel) (all_cons p2 (all_cons p2 (all_cons p2 (all_cons p3 (all_cons zCC zaU)))))
theorem zBz : IsL 9463 := zbL 9463 3 [2, 3, 19, 83] (by decide +kernel) (all_cons p2 (all_cons p3 (all_cons p19 (all_cons p83 zaU))))
theorem zAk : IsL 32573 := zbL 32573 2 [2, 2, 17, 479] (by decide +kernel) (all_cons p2 (all_cons p2 (all_cons p17 (all_cons zCG zaU))))
theorem zAm : IsL 37853 := zbL 37853 2 [2, 2, 9463] (by decide +kernel) (all_cons p2 (all_cons p2 (all_cons zBz.1 zaU)))
theorem zAn : IsL 57467 := zbL 57467 2 [2, 59, 487] (by decide +kernel) (all_cons p2 (all_cons p59 (all_cons zCH zaU)))
theorem zAo : IsL 65147 := zbL 65147 2 [2, 32573] (by decide +kernel) (all_cons p2 (all_cons zAk.1 zaU))
theorem zAp : IsL 75707 := zbL 75707 2 [2, 37853] (by decide +kernel) (all_cons p2 (all_cons zAm.1 zaU))
theorem zyz : IsL 132049 := zbL 132049 26 [2, 2, 2, 2, 3, 3, 7, 131] (by decide +kernel) (all_cons p2 (all_cons p2 (all_cons p2 (all_cons p2 (all_cons p3 (all_cons p3 (all_cons p7 (all_cons zCB zaU))))))))
theorem zyA : IsL 430751 := zbL 430751 17 [2, 5, 5, 5, 1723] (by decide +kernel) (all_cons p2 (all_cons p5 (all_cons p5 (all_cons p5 (all_cons zBv.1 zaU)))))
theorem zyB : IsL 569003 := zbL 569003 2 [2, 7, 97, 419] (by decide +kernel) (all_cons p2 (all_cons p7 (all_cons p97 (all_cons zCF zaU))))
theorem zvC : IsL 1923133 := zbL 1923133 2 [2, 2, 3, 43, 3727] (by decide +kernel) (all_cons p2 (all_cons p2 (all_cons p3 (all_cons p43 (all_cons zBx.1 zaU)))))
theorem zvD : IsL 8574133 := zbL 8574133 2 [2, 2, 3, 7, 103, 991] (by decide +kernel) (all_cons p2 (all_cons p2 (all_cons p3 (all_cons p7 (all_cons zCy (all_cons zCI zaU))))))
theorem zoG : IsL 2773320623 := zbL 2773320623 5 [2, 2437, 569003] (by decide +kernel) (all_cons p2 (all_cons zBw.1 (all_cons zyB.1 zaU)))
theorem znw : IsL 72106336199 := zbL 72106336199 7 [2, 13, 2773320623] (by decide +kernel) (all_cons p2 (all_cons p13 (all_cons zoG.1 zaU)))
theorem zhG : IsL 1919519569386763 := zbL 1919519569386763 2 [2, 3, 7, 19, 47, 47, 127, 8574133] (by decide +kernel) (all_cons p2 (all_cons p3 (all_cons p7 (all_cons p19 (all_cons p47 (all_cons p47 (all_cons zCA (all_cons zvD.1 zaU))))))))
theorem zhb : IsL 31757755568855353 := zbL 31757755568855353 10 [2, 2, 2, 3, 31, 107, 223, 4153, 430751] (by decide +kernel) (all_cons p2 (all_cons p2 (all_cons p2 (all_cons p3 (all_cons p31 (all_cons zCz (all_cons zCD (all_cons zBy.1 (all_cons zyA.1 zaU)))))))))
theorem zc0 : IsL 75445702479781427272750846543864801 := zbL 75445702479781427272750846543864801 7 [2, 2, 2, 2, 2, 3, 3, 5, 5, 75707, 72106336199, 1919519569386763] (by decide +kernel) (all_cons p2 (all_cons p2 (all_cons p2 (all_cons p2 (all_cons p2 (all_cons p3 (all_cons p3 (all_cons p5 (all_cons p5 (all_cons zAp.1 (all_cons znw.1 (all_cons zhG.1 zaU))))))))))))
theorem zbm : IsL 74058212732561358302231226437062788676166966415465897661863160754340907 := zbL 74058212732561358302231226437062788676166966415465897661863160754340907 2 [2, 3, 353, 57467, 132049, 1923133, 31757755568855353, 75445702479781427272750846543864801] (by decide +kernel) (all_cons p2 (all_cons p3 (all_cons zCE (all_cons zAn.1 (all_cons zyz.1 (all_cons zvC.1 (all_cons zhb.1 (all_cons zc0.1 zaU))))))))
theorem zaO : IsL 57896044618658097711785492504343953926634992332820282019728792003956564819949 := zbL 57896044618658097711785492504343953926634992332820282019728792003956564819949 2 [2, 2, 3, 65147, 74058212732561358302231226437062788676166966415465897661863160754340907] (by decide +kernel) (all_cons p2 (all_cons p2 (all_cons p3 (all_cons zAo.1 (all_cons zbm.1 zaU)))))
end
section
attribute [local irreducible] zea zbj zbG zdq zcR zij zik zbV
theorem zmd (v : Nat) : zdj v 1 = v := Nat.pow_one v
theorem zyC (v e n : Nat) : zdj v e ^ 2 ^ n = zdj v (e * 2 ^ n) := (Nat.pow_mul v e _).symm
theorem ziC (v e f : Nat) : zdj v e * zdj v f = zdj v (e + f) := (Nat.pow_add v e f).symm
theorem zyD (v e k : Nat) (h : e + 1 = k) : v * zdj v e = zdj v k := by subst h; exact (Nat.pow_succ' ..).symm
theorem zvE (v w e n : Nat) (h : v % n = w % n) : zdj v e % n = zdj w e % n := by unfold zdj; rw [Nat.pow_mod, h, ← Nat.pow_mod]
theorem znx (e n : Nat) (v : Nat) (he : e ≠ 0) (h : v % n = 0) : zdj v e % n = 0 := by
 unfold zdj
 rw [Nat.pow_mod, h, Nat.zero_pow (Nat.pos_of_ne_zero he), Nat.zero_mod]
attribute [local irreducible] zdj
theorem zny (v : Nat) (h : v % pN ≠ 0) : zdj v 57896044618658097711785492504343953926634992332820282019728792003956564819948 % pN = 1 := by
 have h1 := zaO.2 v
 unfold pN at h ⊢
 exact h1 h
theorem zoH {F : Nat → Nat} {v e : Nat} (hF : zb1 F (zdj v e)) (n k : Nat) (h : e * 2 ^ n = k) : zb1 (sqN F n) (zdj v k) := by
 have := zmc hF n
 rwa [zyC, h] at this
theorem zjv {F G : Nat → Nat} {v e f k : Nat} (hF : zb1 F (zdj v e)) (hG : zb1 G (zdj v f)) (h : e + f = k) : zb1 (zbG F G) (zdj v k) := by
 have := zjq hF hG
 rwa [ziC, h] at this
theorem zdu {F G : Nat → Nat} {v e f k : Nat} (n : Nat) (hF : zb1 F (zdj v e)) (hG : zb1 G (zdj v f)) (h : e * 2 ^ n + f = k) : zb1 (zeP F n G) (zdj v k) :=
 zjv (zoH hF n _ rfl) hG h
theorem zpS {F : Nat → Nat} {v : Nat} (hF : zb1 F v) : zb1 (zeH F) (zdj v 57896044618658097711785492504343953926634992332820282019728792003956564819947) := by
 have h1 : zb1 F (zdj v 1) := by rw [zmd]; exact hF
 have h2 : zb1 (zjo F) (zdj v 2) := zoH h1 1 _ rfl
 have h9 : zb1 (zfU F) (zdj v 9) := zdu 2 h2 h1 rfl
 have h11 : zb1 (zcL F) (zdj v 11) := zjv h9 h2 rfl
 have h5 : zb1 (zdU F) (zdj v 31) := zjv (zoH h11 1 22 rfl) h9 rfl
 have h10 : zb1 (zg9 F) (zdj v 1023) := zdu 5 h5 h5 rfl
 have h20 : zb1 (zds F) (zdj v 1048575) := zdu 10 h10 h10 rfl
 have h40 : zb1 (zfV F) (zdj v 1099511627775) := zdu 20 h20 h20 rfl
 have h50 : zb1 (zdt F) (zdj v 1125899906842623) := zdu 10 h40 h10 rfl
 have h100 : zb1 (zcF F) (zdj v 1267650600228229401496703205375) := zdu 50 h50 h50 rfl
 have h200 : zb1 (zfn F) (zdj v 1606938044258990275541962092341162602522202993782792835301375) := zdu 100 h100 h100 rfl
 have h250 : zb1 (zew F) (zdj v 1809251394333065553493296640760748560207343510400633813116524750123642650623) := zdu 50 h200 h50 rfl
 exact zdu 5 h250 h11 rfl
theorem zyE (v : Nat) (h : v % pN ≠ 0) : v * zdj v 57896044618658097711785492504343953926634992332820282019728792003956564819947 % pN = 1 % pN := by
 rw [zyD v _ 57896044618658097711785492504343953926634992332820282019728792003956564819948 rfl, zny v h]
 rfl
end
section
open Go.RowKit
attribute [local irreducible] zea zbj zbG zdq zcR sqN zij zik zci zbV zbY zeH ofN
def fA (a b : Nat) : Nat := (a + b) % pN
def fS (a b : Nat) : Nat := (a + (pN - b)) % pN
def fM (a b : Nat) : Nat := a * b % pN
structure Pt where
 x : Nat
 z : Nat
def zhZ (q : Pt) : Prop := q.x < pN ∧ q.z < pN
def zoI (q : Pt) : Nat := fS (fM (fA q.x q.z) (fA q.x q.z)) (fM (fS q.x q.z) (fS q.x q.z))
def zeC (q : Pt) : Pt := ⟨fM (fM (fA q.x q.z) (fA q.x q.z)) (fM (fS q.x q.z) (fS q.x q.z)), fM (zoI q) (fA (fM (fA q.x q.z) (fA q.x q.z)) (fM 121665 (zoI q)))⟩
def zed (q s : Pt) : Nat := fM (fS s.x s.z) (fA q.x q.z)
def zd0 (q s : Pt) : Nat := fM (fA s.x s.z) (fS q.x q.z)
def zee (u : Nat) (q s : Pt) : Pt := ⟨fM (fA (zed q s) (zd0 q s)) (fA (zed q s) (zd0 q s)), fM u (fM (fS (zed q s) (zd0 q s)) (fS (zed q s) (zd0 q s)))⟩
def zhc (u b : Nat) (q s : Pt) : Pt × Pt := if b = 1 then (zee u s q, zeC s) else (zeC q, zee u q s)
def zeK (k : Nat → Nat) (n : Nat) : Nat := k ((254 - n) / 8) / 2 ^ ((254 - n) % 8) % 2
def zbf (u : Nat) (k : Nat → Nat) : Nat → Pt × Pt
 | 0 => (⟨1, 0⟩, ⟨u, 1⟩)
 | n + 1 => zhc u (zeK k n) (zbf u k n).1 (zbf u k n).2
def zag (k : Nat → Nat) (i : Nat) : Nat := if i = 0 then k 0 / 8 * 8 else if i = 31 then k 31 % 64 + 64 else k i
def zdA (k : Nat → Nat) (u : Nat) : Nat := fM (zbf u (zag k) 255).1.x (zdj (zbf u (zag k) 255).1.z 57896044618658097711785492504343953926634992332820282019728792003956564819947)
def za2 (u : Nat → Nat) : Nat := kvN (zht u) 32 % pN
theorem zc1 : 0 < pN := by unfold pN; decide +kernel
theorem zoJ (a b : Nat) : fA a b < pN := Nat.mod_lt _ zc1
theorem zoK (a b : Nat) : fS a b < pN := Nat.mod_lt _ zc1
theorem zeQ (a b : Nat) : fM a b < pN := Nat.mod_lt _ zc1
theorem zw6 (q : Pt) : zhZ (zeC q) := ⟨zeQ _ _, zeQ _ _⟩
theorem zw7 (u : Nat) (q s : Pt) : zhZ (zee u q s) := ⟨zeQ _ _, zeQ _ _⟩
theorem ziD : 1 < pN := by unfold pN; decide +kernel
theorem zkx (u : Nat) (hu : u < pN) (k : Nat → Nat) : ∀ n, zhZ (zbf u k n).1 ∧ zhZ (zbf u k n).2
 | 0 => ⟨⟨ziD, zc1⟩, ⟨hu, ziD⟩⟩
 | n + 1 => by
  unfold zbf zhc
  split
  ·exact ⟨zw7 _ _ _, zw6 _⟩
  ·exact ⟨zw6 _, zw7 _ _ _⟩
theorem zgG (k : Nat → Nat) (n : Nat) : zeK k n = 0 ∨ zeK k n = 1 := by unfold zeK; omega
theorem zme {F : Nat → Nat} {a : Nat} (h : zb1 F a) : zb1 F (a % pN) := ⟨h.1, by rw [h.2, Nat.mod_mod]⟩
theorem znz {F G : Nat → Nat} {a b : Nat} (hF : zb1 F a) (hG : zb1 G b) : zb1 (zij F G) (fA a b) := zme (zvy hF hG)
theorem znA {F G : Nat → Nat} {a b : Nat} (hF : zb1 F a) (hG : zb1 G b) (hb : b < pN) : zb1 (zik F G) (fS a b) := by
 refine zvz hF hG ?_
 unfold fS
 rw [Nat.mod_add_mod, show a + (pN - b) + b = a + pN by omega, Nat.add_mod_right]
theorem zh0 {F G : Nat → Nat} {a b : Nat} (hF : zb1 F a) (hG : zb1 G b) : zb1 (zbG F G) (fM a b) := zme (zjq hF hG)
theorem zpT {F : Nat → Nat} {a : Nat} (hF : zb1 F a) : zb1 (sqN F 1) (fM a a) := by
 have h := zme (zmc hF 1)
 rw [show a ^ 2 ^ 1 = a * a from by rw [Nat.pow_one]; exact Nat.pow_two a] at h
 exact h
section
variable {X Z X' Z' U : Nat → Nat} {q s : Pt} {u : Nat}
theorem zoL (hX : zb1 X q.x) (hZ : zb1 Z q.z) : zb1 (sAA X Z) (fM (fA q.x q.z) (fA q.x q.z)) := zpT (znz hX hZ)
theorem zs8 (hX : zb1 X q.x) (hZ : zb1 Z q.z) (hq : zhZ q) : zb1 (sBB X Z) (fM (fS q.x q.z) (fS q.x q.z)) := zpT (znA hX hZ hq.2)
theorem zw8 (hX : zb1 X q.x) (hZ : zb1 Z q.z) (hq : zhZ q) : zb1 (sE X Z) (zoI q) := znA (zoL hX hZ) (zs8 hX hZ hq) (zeQ _ _)
theorem zs9 (hX : zb1 X q.x) (hZ : zb1 Z q.z) (hq : zhZ q) : zb1 (sLX X Z) (zeC q).x := zh0 (zoL hX hZ) (zs8 hX hZ hq)
theorem zta (hX : zb1 X q.x) (hZ : zb1 Z q.z) (hq : zhZ q) : zb1 (sLZ X Z) (zeC q).z := zh0 (zw8 hX hZ hq) (znz (zoL hX hZ) (zh0 (zfo (by omega)) (zw8 hX hZ hq)))
theorem ztb (hX : zb1 X q.x) (hZ : zb1 Z q.z) (hX' : zb1 X' s.x) (hZ' : zb1 Z' s.z) (hs : zhZ s) : zb1 (sDA X Z X' Z') (zed q s) := zh0 (znA hX' hZ' hs.2) (znz hX hZ)
theorem ztc (hX : zb1 X q.x) (hZ : zb1 Z q.z) (hX' : zb1 X' s.x) (hZ' : zb1 Z' s.z) (hq : zhZ q) : zb1 (sCB X Z X' Z') (zd0 q s) := zh0 (znz hX' hZ') (znA hX hZ hq.2)
theorem ztd (hX : zb1 X q.x) (hZ : zb1 Z q.z) (hX' : zb1 X' s.x) (hZ' : zb1 Z' s.z) (hq : zhZ q) (hs : zhZ s) : zb1 (sHX X Z X' Z') (zee u q s).x := zpT (znz (ztb hX hZ hX' hZ' hs) (ztc hX hZ hX' hZ' hq))
theorem zte (hX : zb1 X q.x) (hZ : zb1 Z q.z) (hX' : zb1 X' s.x) (hZ' : zb1 Z' s.z) (hq : zhZ q) (hs : zhZ s) (hU : zb1 U u) : zb1 (sHZ X Z X' Z' U) (zee u q s).z := zh0 hU (zpT (znA (ztb hX hZ hX' hZ' hs) (ztc hX hZ hX' hZ' hq) (zeQ _ _)))
end
end
section
def zak (v i : Nat) : Nat := v / 2 ^ (16 * i) % 65536
def zbd (X : Nat → Nat) : Nat → Nat
 | 0 => 0
 | i + 1 => zbd X i + X i * 2 ^ (16 * i)
theorem zbk (X : Nat → Nat) (i : Nat) : zbd X (i + 1) = zbd X i + X i * 2 ^ (16 * i) := rfl
theorem zey (X Y : Nat → Nat) : ∀ n, (∀ i, i < n → X i = Y i) → zbd X n = zbd Y n
 | 0, _ => rfl
 | n + 1, h => by rw [zbk, zbk, zey X Y n (fun i hi => h i (by omega)), h n (by omega)]
theorem zoM (m : Nat) : 2 ^ (16 * (m + 1)) = 2 ^ (16 * m) * 65536 := by rw [Nat.mul_add, Nat.pow_add]
theorem zhd (v : Nat) : ∀ n, zbd (zak v) n = v % 2 ^ (16 * n)
 | 0 => by simp [zbd, Nat.mod_one]
 | n + 1 => by
  rw [zbk, zhd v n, zoM, Nat.mod_mul]
  unfold zak
  rw [Nat.mul_comm (2 ^ (16 * n))]
theorem zmf (X : Nat → Nat) : ∀ n, (∀ i, i < n → X i < 65536) → zbd X n < 2 ^ (16 * n)
 | 0, _ => by simp [zbd]
 | n + 1, h => by
  have h1 := zmf X n (fun i hi => h i (by omega))
  have h2 := h n (by omega)
  rw [zbk, zoM]
  have h3 : X n * 2 ^ (16 * n) ≤ 65535 * 2 ^ (16 * n) := Nat.mul_le_mul_right _ (by omega)
  omega
theorem zvF (X : Nat → Nat) (n : Nat) (hX : ∀ i, i < n → X i < 65536) (i : Nat) (hi : i < n) : zak (zbd X n) i = X i := by
 have up : ∀ m, i < m → m ≤ n → zak (zbd X m) i = X i := by
  intro m
  induction m with
  | zero => intro h; omega
  | succ m ih =>
   intro h hm
   have hl := zmf X m (fun j hj => hX j (by omega))
   by_cases him : i = m
   ·subst him
    unfold zak
    rw [zbk, Nat.add_mul_div_right _ _ (Nat.two_pow_pos _), Nat.div_eq_of_lt hl, Nat.zero_add, Nat.mod_eq_of_lt (hX i hi)]
   ·rw [← ih (by omega) (by omega)]
    unfold zak
    rw [zbk]
    have : 2 ^ (16 * m) = 2 ^ (16 * i) * (65536 * 2 ^ (16 * (m - i - 1))) := by
     rw [← Nat.mul_assoc, ← zoM, ← Nat.pow_add]
     congr 1
     omega
    rw [this, Nat.mul_left_comm, Nat.add_mul_div_left _ _ (Nat.two_pow_pos _), Nat.mul_left_comm (X m), Nat.add_mul_mod_self_left]
 exact up n hi (jV n)
theorem zjw (A B : Nat → Nat) (c : Nat) : ∀ n, zbd (fun i => A i + c * B i) n = zbd A n + c * zbd B n
 | 0 => by simp [zbd]
 | n + 1 => by
  simp only [zbk]
  rw [zjw A B c n, Nat.mul_add, Nat.add_mul, Nat.mul_assoc]
  omega
theorem zgH (L : Nat → Nat) (k : Nat) : ∀ n, zbd L (k + n) = zbd L k + 2 ^ (16 * k) * zbd (fun i => L (k + i)) n
 | 0 => by simp [zbd]
 | n + 1 => by
  rw [← Nat.add_assoc, zbk, zgH L k n, zbk, Nat.mul_add 16 k n, Nat.pow_add, Nat.mul_add, Nat.mul_left_comm (L (k + n)), Nat.add_assoc]
theorem zq8 (L : Nat → Nat) : zbd (fun i => L i + 38 * L (16 + i)) 16 % pN = zbd L 32 % pN := by
 rw [zjw L (fun i => L (16 + i)) 38 16, zgH L 16 16, show (2 : Nat) ^ (16 * 16) = 38 + pN * 2 from by decide +kernel, Nat.add_mul, ← Nat.add_assoc, Nat.mul_assoc pN 2, Nat.add_mul_mod_self_left]
def ovR (X : Nat → Nat) : Nat → Nat
 | 0 => 0
 | m + 1 => (X m + ovR X m) / 65536
def loR (X : Nat → Nat) (m : Nat) : Nat := (X m + ovR X m) % 65536
theorem zmg (X : Nat → Nat) (m : Nat) : ovR X (m + 1) = (X m + ovR X m) / 65536 := rfl
theorem ztf (X : Nat → Nat) : ∀ m, zbd (loR X) m + ovR X m * 2 ^ (16 * m) = zbd X m
 | 0 => by simp [zbd, ovR]
 | m + 1 => by
  rw [zbk, zbk, ← ztf X m, zmg, zoM]
  unfold loR
  have h := Nat.div_add_mod (X m + ovR X m) 65536
  generalize (X m + ovR X m) / 65536 = d at *
  generalize (X m + ovR X m) % 65536 = r at *
  have e : X m * 2 ^ (16 * m) + ovR X m * 2 ^ (16 * m) = (65536 * d + r) * 2 ^ (16 * m) := by rw [h, Nat.add_mul]
  rw [Nat.add_mul, Nat.mul_comm 65536 d, Nat.mul_assoc d] at e
  rw [Nat.mul_comm (2 ^ (16 * m)) 65536]
  omega
theorem zpU (X : Nat → Nat) (hX : ∀ i, i < 16 → X i < 70368744177664) : ∀ m, m ≤ 16 → ovR X m < 2147483648
 | 0, _ => by unfold ovR; omega
 | m + 1, h => by
  have := zpU X hX m (by omega)
  have := hX m (by omega)
  rw [zmg]
  omega
theorem znB (X : Nat → Nat) (m : Nat) : loR X m < 65536 := Nat.mod_lt _ (by omega)
def zfr (X : Nat → Nat) (i : Nat) : Nat := if i = 0 then loR X 0 + 38 * ovR X 16 else loR X i
theorem zjx (X Y : Nat → Nat) (h : ∀ i, 1 ≤ i → X i = Y i) : ∀ n, zbd X (n + 1) + Y 0 = zbd Y (n + 1) + X 0
 | 0 => by simp [zbd]; omega
 | n + 1 => by
  have := zjx X Y h n
  rw [zbk X (n + 1), zbk Y (n + 1), h (n + 1) (by omega)]
  omega
theorem zpV (X : Nat → Nat) : zbd (zfr X) 16 + ovR X 16 * (pN * 2) = zbd X 16 := by
 have h1 := ztf X 16
 have h2 := zjx (zfr X) (loR X) (fun i hi => by unfold zfr; rw [if_neg (by omega)]) 15
 have e : zfr X 0 = loR X 0 + 38 * ovR X 16 := by unfold zfr; rw [if_pos rfl]
 rw [e] at h2
 rw [show (2 : Nat) ^ (16 * 16) = 38 + pN * 2 from by decide +kernel] at h1
 rw [Nat.mul_add] at h1
 simp only [Nat.reduceAdd] at h2
 generalize ovR X 16 * (pN * 2) = z at *
 omega
theorem zyF (X : Nat → Nat) (hX : ∀ i, i < 16 → X i < 70368744177664) (i : Nat) (_hi : i < 16) : zfr X i < 70368744177664 := by
 have := zpU X hX 16 (by omega)
 have := znB X 0
 have := znB X i
 unfold zfr
 split <;> omega
theorem ztg (X : Nat → Nat) (h : ovR X 16 = 0) (i : Nat) : zfr X i < 65536 := by
 have := znB X 0
 have := znB X i
 unfold zfr
 rw [h]
 split <;> omega
theorem zAq : ∀ i, i < 16 → zak pN i = if i = 0 then 65517 else if i = 15 then 32767 else 65535 := by decide +kernel
theorem zcT (v i : Nat) : zak v i < 65536 := Nat.mod_lt _ (by omega)
theorem zpW (v i : Nat) : v / 2 ^ (16 * i) = v / 2 ^ (16 * (i + 1)) * 65536 + zak v i := by
 unfold zak
 rw [zoM, ← Nat.div_div_eq_div_mul]
 omega
theorem zth (v p i : Nat) (h : v / 2 ^ (16 * (i + 1)) = p / 2 ^ (16 * (i + 1))) (hne : zak v i ≠ zak p i) : decide (v < p) = decide (zak v i < zak p i) := by
 have e1 := zpW v i
 have e2 := zpW p i
 rw [h] at e1
 apply decide_eq_decide.2
 constructor
 ·intro hl
  have := Nat.div_le_div_right (c := 2 ^ (16 * i)) (Nat.le_of_lt hl)
  omega
 ·intro hl
  have : v / 2 ^ (16 * i) < p / 2 ^ (16 * i) := by omega
  rcases Nat.lt_or_ge v p with h' | h'
  ·exact h'
  ·have := Nat.div_le_div_right (c := 2 ^ (16 * i)) h'
   omega
def boN (v p m : Nat) : Nat := if v % 2 ^ (16 * m) < p % 2 ^ (16 * m) then 1 else 0
theorem zpX (v p m : Nat) (h : p ≤ v) : (65536 + zak v m - zak p m - boN v p m) % 65536 = zak (v - p) m ∧ 1 - (65536 + zak v m - zak p m - boN v p m) / 65536 = boN v p (m + 1) := by
 have hv := Nat.div_add_mod v (2 ^ (16 * m))
 have hp := Nat.div_add_mod p (2 ^ (16 * m))
 have pos := Nat.two_pow_pos (16 * m)
 have lv := Nat.mod_lt v pos
 have lp := Nat.mod_lt p pos
 have mv : v % 2 ^ (16 * (m + 1)) = v % 2 ^ (16 * m) + 2 ^ (16 * m) * zak v m := by rw [zoM, Nat.mod_mul]; rfl
 have mp : p % 2 ^ (16 * (m + 1)) = p % 2 ^ (16 * m) + 2 ^ (16 * m) * zak p m := by rw [zoM, Nat.mod_mul]; rfl
 have key : (v - p) / 2 ^ (16 * m) = v / 2 ^ (16 * m) - p / 2 ^ (16 * m) - boN v p m := by
  have hle := Nat.div_le_div_right (c := 2 ^ (16 * m)) h
  unfold boN
  generalize 2 ^ (16 * m) = B at *
  generalize v / B = A at *
  generalize p / B = C at *
  obtain ⟨D, rfl⟩ : ∃ D, A = C + D := ⟨A - C, by omega⟩
  rw [Nat.mul_add] at hv
  split
  ·rename_i hlt
   have hD : D ≠ 0 := by
    intro e
    rw [e, Nat.mul_zero] at hv
    omega
   obtain ⟨E, rfl⟩ : ∃ E, D = E + 1 := ⟨D - 1, by omega⟩
   rw [Nat.mul_add, Nat.mul_one] at hv
   rw [show v - p = v % B + B - p % B + B * E from by omega, Nat.add_mul_div_left _ _ pos, Nat.div_eq_of_lt (by omega)]
   omega
  ·rw [show v - p = v % B - p % B + B * D from by omega, Nat.add_mul_div_left _ _ pos, Nat.div_eq_of_lt (by omega)]
   omega
 have pv := zcT v m
 have pp := zcT p m
 have hb : boN v p m ≤ 1 := by unfold boN; split <;> omega
 constructor
 ·have hle := Nat.div_le_div_right (c := 2 ^ (16 * m)) h
  have hpos : boN v p m + p / 2 ^ (16 * m) ≤ v / 2 ^ (16 * m) := by
   unfold boN
   split
   ·rename_i hlt
    rcases Nat.lt_or_ge (p / 2 ^ (16 * m)) (v / 2 ^ (16 * m)) with h' | h'
    ·omega
    ·have e : v / 2 ^ (16 * m) = p / 2 ^ (16 * m) := by omega
     rw [e] at hv
     omega
   ·omega
  have e3 : zak (v - p) m = (v / 2 ^ (16 * m) - p / 2 ^ (16 * m) - boN v p m) % 65536 := by unfold zak; rw [key]
  rw [e3]
  unfold zak at *
  omega
 ·have hb2 : boN v p (m + 1) = if zak v m < zak p m + boN v p m then 1 else 0 := by
   unfold boN
   rw [mv, mp]
   generalize 2 ^ (16 * m) = B at *
   generalize v % B = a at *
   generalize p % B = b at *
   rcases Nat.lt_trichotomy (zak v m) (zak p m) with h1 | h1 | h1
   ·have : B * zak v m + B ≤ B * zak p m := by rw [← Nat.mul_succ]; exact Nat.mul_le_mul_left B h1
    rw [if_pos (by omega), if_pos (by omega)]
   ·rw [h1]
    by_cases h2 : a < b
    ·rw [if_pos (by omega), if_pos h2, if_pos (by omega)]
    ·rw [if_neg (by omega), if_neg h2, if_neg (by omega)]
   ·have : B * zak p m + B ≤ B * zak v m := by rw [← Nat.mul_succ]; exact Nat.mul_le_mul_left B h1
    rw [if_neg (by omega)]
    by_cases h2 : a < b
    ·rw [if_pos h2, if_neg (by omega)]
    ·rw [if_neg h2, if_neg (by omega)]
  rw [hb2]
  split <;> omega
theorem zti (v p : Nat) : boN v p 0 = 0 := by unfold boN; simp [Nat.mod_one]
end
section
open Go.RowKit
attribute [local irreducible] zbd ovR loR zak boN zfr pN
theorem zbb : zeT Tryz.prog 84 16 := ⟨_, Tryz.underlying84, rfl, by kernel_rfl⟩
theorem ze4 : zcy Tryz.prog 84 .u64 16 := by unfold zcy; kernel_rfl
theorem zBc : zeT Tryz.prog 116 32 := ⟨_, Tryz.underlying116, rfl, by kernel_rfl⟩
theorem zBd : zcy Tryz.prog 116 .u64 32 := by unfold zcy; kernel_rfl
theorem ztj (i : Nat) (hi : i < 16) (w : World) :
  Calls Tryz.prog 112 #[.int .i64 i] w fun e w' => e = .returned (.int .u64 ((zak pN i : Nat) : Int)) ∧ w = w' := by
 rw [zAq i hi]
 by_cases h0 : i = 0
 ·subst h0
  go_enter Tryz.func112, Tryz.ntmps112
  go_wp2
  go_ret
  exact ⟨rfl, rfl⟩
 ·by_cases h15 : i = 15
  ·subst h15
   go_enter Tryz.func112, Tryz.ntmps112
   go_wp2
   go_ret
   exact ⟨rfl, rfl⟩
  ·rw [if_neg h0, if_neg h15]
   have e0 : ((i : Int) == 0) = false := by rw [beq_eq_false_iff_ne]; omega
   have e1 : ((i : Int) == 15) = false := by rw [beq_eq_false_iff_ne]; omega
   clear h0 h15
   go_enter Tryz.func112, Tryz.ntmps112
   go_wp2
   go_ret
   exact ⟨rfl, rfl⟩
theorem zyG {a b : Nat} (h : a ≠ b) : ((a : Int) != (b : Int)) = true := by rw [bne_iff_ne]; omega
theorem zyH {a b : Nat} (h : a = b) : ((a : Int) != (b : Int)) = false := by subst h; simp
theorem ztk (v : Nat) (hv : v < 2 ^ 256) (w : World) :
  Calls Tryz.prog 111 #[.agg (arr .u64 16 fun i => ((zak v i : Nat) : Int))] w fun e w' => e = .returned (.bool (decide (v < pN))) ∧ Below w.heap.size w w' := by
 have hv0 : v / 2 ^ (16 * 16) = pN / 2 ^ (16 * 16) := by rw [Nat.div_eq_of_lt hv, Nat.div_eq_of_lt (by unfold pN; decide +kernel)]
 have hv' := Lib.hid hv
 have HV0 := Lib.hid hv0
 clear hv hv0
 go_enter Tryz.func111, Tryz.ntmps111
 obtain ⟨g0, hz, hb⟩ := zb6 w (.cells (arr .u64 16 fun i => ((zak v i : Nat) : Int)) 84)
 go_wp2
 clear hz
 go_loopg [3] 16 (fun n i wr => i = .int .i64 ((n : Int) - 1) ∧ n ≤ 16 ∧ v / 2 ^ (16 * n) = pN / 2 ^ (16 * n) ∧ wr.heap[w.heap.size]? = some (.cells (arr .u64 16 fun i => ((zak v i : Nat) : Int)) 84 (0, 0)) ∧ Below w.heap.size w wr)
 case atStart => exact ⟨rfl, jV _, HV0.out, g0, hb⟩
 case round =>
  clear g0 hb
  obtain ⟨rfl, hn, heq, g0, hB⟩ := hrel
  have heq' := Lib.hid heq
  clear heq
  rcases Nat.eq_zero_or_pos gk with hz | hz
  ·subst hz
   have ef : decide (v < pN) = false := by
    have := heq'.out
    simp only [Nat.mul_zero, Nat.pow_zero, Nat.div_one] at this
    exact decide_eq_false (by omega)
   have EF := Lib.hid ef
   clear ef
   go_wp2
   go_ret
   refine ⟨?_, hB⟩
   rw [EF.out]
   rfl
  ·obtain ⟨k, rfl⟩ : ∃ k, gk = k + 1 := ⟨gk - 1, by omega⟩
   have ek : ((k + 1 : Nat) : Int) - 1 = (k : Int) := by omega
   rw [ek]
   have c0 := zaj g0 k (by omega)
   have hl := jM g0
   clear hz ek
   by_cases hne : zak v k = zak pN k
   ·have en := zyH hne
    have HN := Lib.hid hne
    clear hne
    go_wp2
    refine wp_region_can wr.heap.size 5 [(0, false), (1, false), (2, false), (3, false), (4, true)] (by kernel_rfl) (by kernel_rfl) ?_
    (simp only [canOps, jD, jE, jF, jG])
    iterate 4 (first | (refine zaA rfl rfl (fun _ _ _ _ h => h) ?_; (simp only [Act.put, Act.eval, jN, jL, jD, jE, jO, jA, jB, jC])) | (refine zas rfl rfl (fun _ _ _ _ h => h) ?_; (simp only [Act.put, Act.eval, jN, jL, jD, jE, jO, jA, jB, jC])) | (refine zao rfl rfl rfl (fun _ _ _ _ h => h) ?_; (simp only [Act.put, jA, jB, jC])) | (refine za3 rfl rfl (fun _ _ _ _ h => h) (by first | exact .bin rfl rfl rfl | exact .indexAddr rfl | exact .un rfl | exact .extract rfl | exact .index rfl | exact .field rfl | exact .slice rfl | exact .load rfl rfl hl g0) (fun K hK => ?_); go_simp; (try (simp only [↓IntWalk.iteOmega]; go_simp)); (try go_bits); refine hK _ ?_; clear hK K))
    refine wpCan_e rfl (fun K hK => ?_)
    go_simp
    refine (ztj k (by omega) _).mono ?_
    rintro e w4 ⟨rfl, rfl⟩
    refine hK _ _ (Keep.refl _ _) ?_
    clear hK K
    (try simp only [Act.put, jA, jB, jC])
    refine wpCan_nil ?_
    go_wp2
    go_roundg k
    case rel =>
     have heq := heq'.out
     refine ⟨by go_num, by omega, ?_, g0, hB.drew⟩
     rw [zpW v k, zpW pN k, heq, HN.out]
    case measure => omega
   ·have en := zyG hne
    have lb := zth v pN k heq'.out hne
    have LB := Lib.hid lb
    clear hne lb
    go_wp2
    refine wp_region_can wr.heap.size 5 [(0, false), (1, false), (2, false), (3, false), (4, true)] (by kernel_rfl) (by kernel_rfl) ?_
    (simp only [canOps, jD, jE, jF, jG])
    iterate 4 (first | (refine zaA rfl rfl (fun _ _ _ _ h => h) ?_; (simp only [Act.put, Act.eval, jN, jL, jD, jE, jO, jA, jB, jC])) | (refine zas rfl rfl (fun _ _ _ _ h => h) ?_; (simp only [Act.put, Act.eval, jN, jL, jD, jE, jO, jA, jB, jC])) | (refine zao rfl rfl rfl (fun _ _ _ _ h => h) ?_; (simp only [Act.put, jA, jB, jC])) | (refine za3 rfl rfl (fun _ _ _ _ h => h) (by first | exact .bin rfl rfl rfl | exact .indexAddr rfl | exact .un rfl | exact .extract rfl | exact .index rfl | exact .field rfl | exact .slice rfl | exact .load rfl rfl hl g0) (fun K hK => ?_); go_simp; (try (simp only [↓IntWalk.iteOmega]; go_simp)); (try go_bits); refine hK _ ?_; clear hK K))
    refine wpCan_e rfl (fun K hK => ?_)
    go_simp
    refine (ztj k (by omega) _).mono ?_
    rintro e w4 ⟨rfl, rfl⟩
    refine hK _ _ (Keep.refl _ _) ?_
    clear hK K
    (try simp only [Act.put, jA, jB, jC])
    refine wpCan_nil ?_
    go_wp2
    refine wp_region_can wr.heap.size 6 [(0, false), (1, false), (2, false), (3, false), (4, true), (5, false)] (by kernel_rfl) (by kernel_rfl) ?_
    (simp only [canOps, jD, jE, jF, jG])
    iterate 4 (first | (refine zaA rfl rfl (fun _ _ _ _ h => h) ?_; (simp only [Act.put, Act.eval, jN, jL, jD, jE, jO, jA, jB, jC])) | (refine zas rfl rfl (fun _ _ _ _ h => h) ?_; (simp only [Act.put, Act.eval, jN, jL, jD, jE, jO, jA, jB, jC])) | (refine zao rfl rfl rfl (fun _ _ _ _ h => h) ?_; (simp only [Act.put, jA, jB, jC])) | (refine za3 rfl rfl (fun _ _ _ _ h => h) (by first | exact .bin rfl rfl rfl | exact .indexAddr rfl | exact .un rfl | exact .extract rfl | exact .index rfl | exact .field rfl | exact .slice rfl | exact .load rfl rfl hl g0) (fun K hK => ?_); go_simp; (try (simp only [↓IntWalk.iteOmega]; go_simp)); (try go_bits); refine hK _ ?_; clear hK K))
    refine wpCan_e rfl (fun K hK => ?_)
    go_simp
    refine (ztj k (by omega) _).mono ?_
    rintro e w4 ⟨rfl, rfl⟩
    refine hK _ _ (Keep.refl _ _) ?_
    clear hK K
    (try simp only [Act.put, jA, jB, jC])
    iterate 1 (first | (refine zaA rfl rfl (fun _ _ _ _ h => h) ?_; (simp only [Act.put, Act.eval, jN, jL, jD, jE, jO, jA, jB, jC])) | (refine zas rfl rfl (fun _ _ _ _ h => h) ?_; (simp only [Act.put, Act.eval, jN, jL, jD, jE, jO, jA, jB, jC])) | (refine zao rfl rfl rfl (fun _ _ _ _ h => h) ?_; (simp only [Act.put, jA, jB, jC])) | (refine za3 rfl rfl (fun _ _ _ _ h => h) (by first | exact .bin rfl rfl rfl | exact .indexAddr rfl | exact .un rfl | exact .extract rfl | exact .index rfl | exact .field rfl | exact .slice rfl) (fun K hK => ?_); go_simp; (try (simp only [↓IntWalk.iteOmega]; go_simp)); (try go_bits); refine hK _ ?_; clear hK K))
    refine wpCan_nil ?_
    go_wp2
    go_ret
    refine ⟨?_, hB.drew.drew⟩
    rw [LB.out]
    rfl
theorem zpY : 0 < pN := by unfold pN; omega
theorem zvG (L : Nat → Nat) (hL : ∀ i, i < 32 → L i < 1099511627776) (w : World) :
  Calls Tryz.prog 83 #[.agg (arr .u64 32 fun i => ((L i : Nat) : Int))] w fun e w' => e = .returned (.agg (arr .u64 16 fun i => ((zak (zbd L 32 % pN) i : Nat) : Int))) ∧ Below w.heap.size w w' := by
 go_enter Tryz.func83, Tryz.ntmps83
 obtain ⟨h0, h1, hsz, hb⟩ := zcb w (.cells (arr .u64 32 fun i => ((L i : Nat) : Int)) 116) (.cells (arr .u64 16 fun _ => 0) 84)
 go_upto_region 1 with (refine zae rfl rfl ze4 ?_)
 generalize (w.alloc (.cells (arr .u64 32 fun i => ((L i : Nat) : Int)) 116)).alloc (.cells (arr .u64 16 fun _ => 0) 84) = wa at *
 (try simp only [Act.put, jA, jB, jC])
 try simp only [World.size_alloc]
 obtain ⟨h2, hz3, bl⟩ := zb6 wa (.cells (arr .u64 16 fun _ => 0) 84)
 go_upto_region 2 with (refine zae rfl rfl ze4 ?_)
 replace h0 := zaa bl (by omega) h0
 replace h1 := zaa bl (by omega) h1
 replace hb := hb.trans (bl.mono (by omega))
 rw [hsz] at h2 ⊢
 generalize wa.alloc (.cells (arr .u64 16 fun _ => 0) 84) = wb at *
 clear hz3 bl hsz
 (try simp only [Act.put, jA, jB, jC])
 have hL' := Lib.hid hL
 clear hL
 go_wp2
 go_loopg [10] 16 (fun n i wr => ∃ m : Nat, m + n = 16 ∧ i = .int .i64 m ∧ wr.heap[w.heap.size]? = some (.cells (arr .u64 32 fun i => ((L i : Nat) : Int)) 116 (0, 0)) ∧ wr.heap[w.heap.size + 1]? = some (.cells (arr .u64 16 fun _ => 0) 84 (0, 0)) ∧
  wr.heap[w.heap.size + 2]? = some (.cells (arr .u64 16 fun i => ((if i < m then L i + 38 * L (16 + i) else 0 : Nat) : Int)) 84 (0, 0)) ∧ Below w.heap.size w wr)
 case atStart => exact ⟨0, rfl, rfl, h0, h1, zaf h2 (fun i _ => by rw [if_neg (Nat.not_lt_zero i)]; rfl), hb⟩
 case round =>
  clear h0 h1 h2 hb
  obtain ⟨m, hm, rfl, h0, h1, h2, hB⟩ := hrel
  have hm' := Lib.hid hm
  clear hm
  by_cases hlt : m < 16
  ·have b0 := hL'.out m (by omega)
   have b1 := hL'.out (16 + m) (by omega)
   have c0 := zaj h0 m (by omega)
   have c1 := zaj h0 (16 + m) (by omega)
   have c2 := zaj h2 m hlt
   have fz := zaH h2 m
   go_wp2
   refine zax 11 (by kernel_rfl) (by kernel_rfl) ?_
   (simp only [jH, jI, jF, jG])
   repeat (refine wpStill_step (fun K hK => ?_); go_simp; (try (simp only [↓IntWalk.iteOmega]; go_simp)); (try go_bits); refine hK _ ?_; clear hK K)
   refine wpStill_nil ?_
   go_wp2
   go_roundg (gk - 1)
   case measure => have := hm'.out; omega
   case rel =>
    have hm'' := hm'.out
    refine ⟨m + 1, by omega, by go_num, zar h0 _ _ (by omega), zar h1 _ _ (by omega), zaf (zaL h2 m _) (fun i _ => ?_), (hB.setCell (by show w.heap.size ≤ w.heap.size + 2; omega) _).drew⟩
    unfold upd
    by_cases h : i = m
    ·rw [if_pos h, h, if_pos (by omega)]; omega
    ·rw [if_neg h]
     dsimp only
     by_cases h2 : i < m
     ·rw [if_pos h2, if_pos (by omega)]
     ·rw [if_neg h2, if_neg (by omega)]
  ·obtain rfl : m = 16 := by have := hm'.out; omega
   obtain ⟨X, hX⟩ : ∃ X : Nat → Nat, X = fun i => L i + 38 * L (16 + i) := ⟨_, rfl⟩
   have xb : ∀ i, i < 16 → X i < 70368744177664 := fun i hi => by
    have := hL'.out i (by omega)
    have := hL'.out (16 + i) (by omega)
    rw [hX]; dsimp only; omega
   have xv : zbd X 16 % pN = zbd L 32 % pN := by rw [hX]; exact zq8 L
   have g2 := zaf (f' := fun i => ((X i : Nat) : Int)) h2 (fun i hi => by rw [if_pos hi, hX])
   have XB := Lib.hid xb
   have XV := Lib.hid xv
   clear h2 h0 hX xb xv hm' hL'
   go_wp2
   go_loopg [5] (zbd X 16 + 1) (fun n o wr => ∃ (X : Nat → Nat) (ov : Nat), o = .int .u64 ov ∧ (∀ i, i < 16 → X i < 70368744177664) ∧ zbd X 16 % pN = zbd L 32 % pN ∧ (ov = 0 → ∀ i, i < 16 → X i < 65536) ∧ (ov ≠ 0 → n = zbd X 16 + 1) ∧
    wr.heap[w.heap.size + 1]? = some (.cells (arr .u64 16 fun _ => 0) 84 (0, 0)) ∧ wr.heap[w.heap.size + 2]? = some (.cells (arr .u64 16 fun i => ((X i : Nat) : Int)) 84 (0, 0)) ∧ Below w.heap.size w wr)
   case atStart => exact ⟨X, 1, rfl, XB.out, XV.out, (fun h => by cases h), (fun _ => rfl), h1, g2, hB⟩
   case round =>
    clear XB XV g2 h1 hB X
    obtain ⟨X, ov, rfl, xb, xv, x0, xn, h1, g2, hB⟩ := hrel
    obtain ⟨go1, rfl⟩ : ∃ x, x = gk := ⟨_, rfl⟩
    have XB := Lib.hid xb
    have XV := Lib.hid xv
    have X0 := Lib.hid x0
    have XN := Lib.hid xn
    clear xb xv x0 xn
    by_cases hz : ov = 0
    ·subst hz
     have bound := Lib.hid (zmf X 16 (X0.out rfl))
     obtain ⟨V, hV⟩ : ∃ V, V = zbd X 16 := ⟨_, rfl⟩
     have g3 := zaf (f' := fun i => ((zak V i : Nat) : Int)) g2 (fun i hi => by rw [hV, zvF X 16 (X0.out rfl) i hi])
     have vv : V % pN = zbd L 32 % pN := by rw [hV]; exact XV.out
     have vl : V < 2 ^ 256 := by rw [hV]; exact bound.out
     have VV := Lib.hid vv
     have VL := Lib.hid vl
     clear g2 XB XV X0 XN bound hV vv vl
     go_wp2
     go_loopg [7] V (fun n o wr => ∃ V : Nat, n = V ∧ V < 2 ^ 256 ∧ V % pN = zbd L 32 % pN ∧ wr.heap[w.heap.size + 1]? = some (.cells (arr .u64 16 fun _ => 0) 84 (0, 0)) ∧
      wr.heap[w.heap.size + 2]? = some (.cells (arr .u64 16 fun i => ((zak V i : Nat) : Int)) 84 (0, 0)) ∧ Below w.heap.size w wr)
     case atStart => exact ⟨V, rfl, VL.out, VV.out, h1, g3, hB⟩
     case round =>
      clear VL VV h1 g3 hB V X
      obtain ⟨V, hn, vl, vv, h1, g3, hB⟩ := hrel
      obtain ⟨go2, rfl⟩ : ∃ x, x = gk := ⟨_, rfl⟩
      have HN := Lib.hid hn
      have VV := Lib.hid vv
      have VL := Lib.hid vl
      clear vv vl hn
      go_wp2_with (first | (refine zab rfl rfl rfl zbb g3 ?_) | (go_at_call 111; fail))
      refine (ztk V VL.out _).mono ?_
      rintro e w4 ⟨rfl, b4⟩
      replace h1 := zaa b4 (jM h1) h1
      replace g3 := zaa b4 (jM g3) g3
      replace hB := hB.trans (b4.mono hB.size)
      clear b4
      by_cases hp : V < pN
      ·rw [decide_eq_true hp]
       have fin : V = zbd L 32 % pN := by rw [← VV.out, Nat.mod_eq_of_lt hp]
       have FIN := Lib.hid fin
       clear hp fin
       go_wp2_with (first | (refine zab rfl rfl rfl zbb g3 ?_) | (refine zac rfl rfl rfl rfl zbb h1 ?_))
       refine bodyPost_ret (zaw rfl rfl zbb (zan h1)) rfl ⟨?_, zam hB (by omega) _⟩
       rw [← FIN.out]
      ·rw [decide_eq_false hp]
       have hle : pN ≤ V := by omega
       have HLE := Lib.hid hle
       clear hp hle
       go_wp2
       go_loopg [7, 51] 16 (fun n u i wr => ∃ m : Nat, m + n = 16 ∧ i = .int .i64 m ∧ u = .int .u64 ((boN V pN m : Nat) : Int) ∧ wr.heap[w.heap.size + 1]? = some (.cells (arr .u64 16 fun _ => 0) 84 (0, 0)) ∧
        wr.heap[w.heap.size + 2]? = some (.cells (arr .u64 16 fun i => ((if i < m then zak (V - pN) i else zak V i : Nat) : Int)) 84 (0, 0)) ∧ Below w.heap.size w wr)
       case atStart => exact ⟨0, rfl, rfl, (by rw [zti]; rfl), h1, zaf g3 (fun i _ => by rw [if_neg (Nat.not_lt_zero i)]), hB⟩
       case round =>
        clear h1 g3 hB
        obtain ⟨m, hm, rfl, rfl, h1, g3, hB⟩ := hrel
        have hm' := Lib.hid hm
        clear hm
        by_cases hlt : m < 16
        ·have c0 := zaj g3 m hlt
         simp only [Nat.lt_irrefl, if_false] at c0
         have fz := zaH g3 m
         have pv := zcT V m
         have pp := zcT pN m
         have ub : boN V pN m ≤ 1 := by unfold boN; split <;> omega
         have hl := jM g3
         have ss := Lib.hid (zpX V pN m HLE.out)
         go_wp2
         refine wp_region_can wr.heap.size 9 [(0, false), (1, false), (2, false), (3, false), (4, false), (7, false), (5, true), (6, false), (8, false)] (by kernel_rfl) (by kernel_rfl) ?_
         (simp only [canOps, jD, jE, jF, jG])
         iterate 6 (first | (refine zaA rfl rfl (fun _ _ _ _ h => h) ?_; (simp only [Act.put, Act.eval, jN, jL, jD, jE, jO, jA, jB, jC])) | (refine zas rfl rfl (fun _ _ _ _ h => h) ?_; (simp only [Act.put, Act.eval, jN, jL, jD, jE, jO, jA, jB, jC])) | (refine zao rfl rfl rfl (fun _ _ _ _ h => h) ?_; (simp only [Act.put, jA, jB, jC])) | (refine za3 rfl rfl (fun _ _ _ _ h => h) (by first | exact .bin rfl rfl rfl | exact .indexAddr rfl | exact .un rfl | exact .extract rfl | exact .index rfl | exact .field rfl | exact .slice rfl | exact .load rfl rfl hl g3) (fun K hK => ?_); go_simp; (try (simp only [↓IntWalk.iteOmega]; go_simp)); (try go_bits); refine hK _ ?_; clear hK K))
         refine wpCan_e rfl (fun K hK => ?_)
         go_simp
         refine (ztj m hlt _).mono ?_
         rintro e w4 ⟨rfl, rfl⟩
         refine hK _ _ (Keep.refl _ _) ?_
         clear hK K
         (try simp only [Act.put, jA, jB, jC])
         iterate 2 (first | (refine zaA rfl rfl (fun _ _ _ _ h => h) ?_; (simp only [Act.put, Act.eval, jN, jL, jD, jE, jO, jA, jB, jC])) | (refine zas rfl rfl (fun _ _ _ _ h => h) ?_; (simp only [Act.put, Act.eval, jN, jL, jD, jE, jO, jA, jB, jC])) | (refine zao rfl rfl rfl (fun _ _ _ _ h => h) ?_; (simp only [Act.put, jA, jB, jC])) | (refine za3 rfl rfl (fun _ _ _ _ h => h) (by first | exact .bin rfl rfl rfl | exact .indexAddr rfl | exact .un rfl | exact .extract rfl | exact .index rfl | exact .field rfl | exact .slice rfl) (fun K hK => ?_); go_simp; (try (simp only [↓IntWalk.iteOmega]; go_simp)); (try go_bits); refine hK _ ?_; clear hK K))
         refine wpCan_nil ?_
         go_wp2
         go_roundg (gk - 1)
         case measure => have := hm'.out; omega
         case rel =>
          have hm'' := hm'.out
          obtain ⟨s1, s2⟩ := ss.out
          refine ⟨m + 1, by omega, by go_num, ?_, zar h1 _ _ (by omega), zaf (zaL g3 m _) (fun i _ => ?_), (hB.drew.setCell (by show w.heap.size ≤ w.heap.size + 2; omega) _)⟩
          ·rw [← s2]; congr 1; omega
          ·unfold upd
           by_cases h : i = m
           ·rw [if_pos h, h, if_pos (by omega), ← s1]; omega
           ·rw [if_neg h]
            dsimp only
            by_cases h2 : i < m
            ·rw [if_pos h2, if_pos (by omega)]
            ·rw [if_neg h2, if_neg (by omega)]
        ·obtain rfl : m = 16 := by have := hm'.out; omega
         have g4 := zaf (f' := fun i => ((zak (V - pN) i : Nat) : Int)) g3 (fun i hi => by rw [if_pos hi])
         clear g3
         go_wp2
         go_roundg (V - pN)
         case measure => have := HLE.out; have := HN.out; have := zpY; omega
         case rel => exact ⟨V - pN, rfl, Nat.lt_of_le_of_lt (Nat.sub_le _ _) VL.out, by rw [← VV.out, ← Nat.mod_eq_sub_mod HLE.out], h1, g4, hB⟩
    ·have op : 0 < ov := by omega
     have HZ := Lib.hid hz
     clear hz
     go_wp2
     go_loopg [5, 27] 16 (fun n o i wr => ∃ m : Nat, m + n = 16 ∧ i = .int .i64 m ∧ o = .int .u64 ((ovR X m : Nat) : Int) ∧ wr.heap[w.heap.size + 1]? = some (.cells (arr .u64 16 fun _ => 0) 84 (0, 0)) ∧
      wr.heap[w.heap.size + 2]? = some (.cells (arr .u64 16 fun i => ((if i < m then loR X i else X i : Nat) : Int)) 84 (0, 0)) ∧ Below w.heap.size w wr)
     case atStart => exact ⟨0, rfl, rfl, (by unfold ovR; rfl), h1, zaf g2 (fun i _ => by rw [if_neg (Nat.not_lt_zero i)]), hB⟩
     case round =>
      clear h1 g2 hB op
      obtain ⟨m, hm, rfl, rfl, h1, g2, hB⟩ := hrel
      have hm' := Lib.hid hm
      clear hm
      by_cases hlt : m < 16
      ·have c0 := zaj g2 m hlt
       simp only [Nat.lt_irrefl, if_false] at c0
       have fz := zaH g2 m
       have xb := XB.out m hlt
       have ob := zpU X XB.out m (by omega)
       go_wp2
       go_roundg (gk - 1)
       case measure => have := hm'.out; omega
       case rel =>
        have hm'' := hm'.out
        refine ⟨m + 1, by omega, by go_num, ?_, zar h1 _ _ (by omega), zaf (zaL g2 m _) (fun i _ => ?_), (hB.setCell (by show w.heap.size ≤ w.heap.size + 2; omega) _)⟩
        ·rw [zmg]; congr 1; omega
        ·unfold upd
         by_cases h : i = m
         ·rw [if_pos h, h, if_pos (by omega)]; unfold loR; omega
         ·rw [if_neg h]
          dsimp only
          by_cases h2 : i < m
          ·rw [if_pos h2, if_pos (by omega)]
          ·rw [if_neg h2, if_neg (by omega)]
      ·obtain rfl : m = 16 := by have := hm'.out; omega
       have g3 := zaf (f' := fun i => ((loR X i : Nat) : Int)) g2 (fun i hi => by rw [if_pos hi])
       have c0 := zaj g3 0 (by omega)
       have fz := zaH g3 0
       have ob := zpU X XB.out 16 (by omega)
       have lb := znB X 0
       clear g2
       go_wp2
       go_roundg (if ovR X 16 = 0 then 0 else zbd (zfr X) 16 + 1)
       case measure =>
        have h3 := zpV X
        have h4 := XN.out HZ.out
        have h5 := zpY
        split
        ·omega
        ·rename_i h6
         have : 1 ≤ ovR X 16 * (pN * 2) := Nat.mul_pos (by omega) (by omega)
         omega
       case rel =>
        refine ⟨zfr X, ovR X 16, rfl, zyF X XB.out, ?_, fun h i _ => ztg X h i, fun h => by rw [if_neg h], zar h1 _ _ (by omega), zaf (zaL g3 0 _) (fun i _ => ?_), (hB.setCell (by show w.heap.size ≤ w.heap.size + 2; omega) _)⟩
        ·rw [← XV.out, ← zpV X, Nat.mul_left_comm, Nat.mul_comm, Nat.add_mul_mod_self_right]
        ·unfold upd zfr
         by_cases h : i = 0
         ·rw [if_pos h, if_pos h]; omega
         ·rw [if_neg h, if_neg h]
end
end Go.Proofs.YtfolbgiekbimpaaGreatDoor
