/- A region that draws its order, walked in each order of its calls and new blocks (a tree of orders); what only reads is taken as soon as it may come up. No program is in sight. x[i] of an array that is a value; no program is in sight. The walks of layer 5: whether numbers may be. The walks of layer 5: what goes over a part is carried. The walks of layer 5: a number's own, below p. Plain law of layer 5: a number's parts, and its bytes; no program is in sight. The walks of layer 5: a number's bytes. The walks of layer 5: a number of bytes. A region that draws its order, where at some places eithe -/
import Derived.Test.YtfolbgiekbimpaaGreatDoorKemUnboxesC
import Derived.Great.Walk
import Derived.Laws.Bits64b
import Derived.Lib.Mul64
import Derived.Laws.Externs
set_option linter.unusedSimpArgs false
set_option linter.unusedVariables false
set_option maxRecDepth 200000
set_option maxHeartbeats 6000000
namespace Go.Proofs.YtfolbgiekbimpaaGreatDoor
namespace CanB
open Go.RowKit
inductive Tr where
 | nil
 | pure (i : Nat) (t : Tr)
 | eff (i : Nat) (t more : Tr)
def Tr.alts : Tr → List Nat
 | .eff i _ m => i :: m.alts
 | _ => []
def Tr.isNil : Tr → Bool
 | .nil => true
 | _ => false
def Tr.uni : Tr → Nat → Bool
 | .nil, n => n == 0
 | .pure _ t, n + 1 => t.uni n
 | .eff _ t m, n + 1 => t.uni n && (m.isNil || m.uni (n + 1))
 | _, 0 => false
inductive Tro where
 | nil
 | pure (o : Oper) (t : Tro)
 | eff (o : Oper) (t more : Tro)
def opsT (l : List Oper) : Tr → Tro
 | .nil => .nil
 | .pure i t => match l[i]? with | some o => .pure o (opsT l t) | none => .nil
 | .eff i t m => match l[i]? with | some o => .eff o (opsT l t) (opsT l m) | none => .nil
def wpTr (P : Program) (ops : Array Oper) (Q : Exit → Act → World → Prop) (N : Nat → Prop) (T : Act → World → Prop) : Bool → Tro → Act → World → Prop
 | true, .nil, _, _ => True
 | false, .nil, a, w => T a w
 | true, .pure _ _, _, _ => False
 | false, .pure o t, a, w => ∃ v, ((Region.wanted o (yielded ops a.tmps) = true ∧ (execOp a.eval o).run P w = .ok (.value v) w ∧ zaT P N o a w) ∨ (Region.wanted o (yielded ops a.tmps) = false ∧ v = undef)) ∧
   (∀ c a w, Q (.panic c) (a.put o.dst v) w → Q (.panic c) a w) ∧ wpTr P ops Q N T false t (a.put o.dst v) w
 | _, .eff o t m, a, w => (if Region.wanted o (yielded ops a.tmps) then o.wp P a w (fun a' w' => Keep N w w' ∧ wpTr P ops Q N T false t a' w') Q else wpTr P ops Q N T false t (a.put o.dst undef) w) ∧ wpTr P ops Q N T true m a w
def zqV (md : Region.Mode) (ops : Array Oper) (n : Nat) : Bool → Tr → Array Bool → Bool
 | true, .nil, _ => true
 | false, .nil, listed => Region.seqB md ops (ops.size - n) n listed
 | true, .pure _ _, _ => false
 | false, .pure i t, listed => decide (i < n) && (Region.ready md ops listed).contains i && Region.free md ops listed i && zqV md ops n false t (listed.setIfInBounds i true)
 | b, .eff i t m, listed => decide (i < n) && (b || decide (Region.ready md ops listed = i :: m.alts)) && zqV md ops n false t (listed.setIfInBounds i true) && zqV md ops n true m listed
def treB (md : Region.Mode) (ops : Array Oper) (n : Nat) (t : Tr) : Bool :=
 Region.noSelect ops && decide (n < ops.size) && t.uni n && Region.sinkB md ops n && Region.chainB md ops n && zqV md ops n false t (Array.replicate ops.size false)
section
variable {P : Program} {Q : Exit → Act → World → Prop} {md : Region.Mode} {N : Nat → Prop} {n : Nat} {w0 : World} {T : Act → World → Prop} {l : List Oper}
theorem zsD (hsel : Region.noSelect l.toArray = true) (hs : Region.sinkB md l.toArray n = true) (hc : Region.chainB md l.toArray n = true) (hn : n < l.length) :
  ∀ (t : Tr) (f : Nat) (listed : Array Bool) (a : Act) (w : World), HeadInv md l.toArray n listed → Keep N w0 w → t.uni f = true →
   (zqV md l.toArray n false t listed = true → wpTr P l.toArray Q N T false (opsT l t) a w → zcc P md l.toArray Q (Keep N w0) n (fun listed' a' w' => Region.seqB md l.toArray (l.toArray.size - n) n listed' = true ∧ T a' w') f listed a w) ∧
   (∀ f', f = f' + 1 → zqV md l.toArray n true t listed = true → wpTr P l.toArray Q N T true (opsT l t) a w → ∀ j ∈ t.alts, j ∈ Region.ready md l.toArray listed →
    j < n ∧ wpOp P l.toArray Q j (fun a' w' => Keep N w0 w' ∧ zcc P md l.toArray Q (Keep N w0) n (fun listed' a' w' => Region.seqB md l.toArray (l.toArray.size - n) n listed' = true ∧ T a' w') f' (listed.setIfInBounds j true) a' w') a w) := by
 intro t
 induction t with
 | nil =>
  intro f listed a w inv hk hu
  have hf : f = 0 := by simpa [Tr.uni] using hu
  subst hf
  exact ⟨fun hB h => ⟨by simpa [zqV] using hB, by simpa [wpTr, opsT] using h⟩, fun f' _ _ _ j hj => by cases hj⟩
 | pure i t ih =>
  intro f listed a w inv hk hu
  cases f with
  | zero => simp [Tr.uni] at hu
  | succ f =>
   have hu' : t.uni f = true := by simpa [Tr.uni] using hu
   refine ⟨fun hB h => ?_, fun f' _ hB => by simp [zqV] at hB⟩
   simp only [zqV, Bool.and_eq_true, jS] at hB
   obtain ⟨⟨⟨hin, hr⟩, hf⟩, hB'⟩ := hB
   have hil : i < l.length := by omega
   have ho : l.toArray[i]? = some l[i] := by simp [hil]
   simp only [opsT, jP hil, wpTr] at h
   obtain ⟨v, hv, hQ, hK⟩ := h
   have hr' : i ∈ Region.ready md l.toArray listed := by simpa using hr
   have hy : YieldsIf P l.toArray (Keep N w0) l[i] v a := by
    rcases hv with ⟨hw, hrun, hfr⟩ | ⟨hw, hv⟩
    ·exact .inl ⟨hw, fun w' hw' => hfr v hrun w' (hk.symm.trans hw')⟩
    ·exact .inr ⟨hw, hv⟩
   exact zdP ho (Region.noSelect_spec hsel) hQ hs hc (by simpa using hn) hin (fun listed' a' w' hL => seqB_ready hL.1) f listed a w inv (Region.free_spec ho hf) hr' hy hk
    ((ih f _ _ _ (inv.set hr' hin) hk hu').1 hB' hK)
 | eff i t m iht ihm =>
  intro f listed a w inv hk hu
  cases f with
  | zero => simp [Tr.uni] at hu
  | succ f =>
   simp only [Tr.uni, Bool.and_eq_true, Bool.or_eq_true] at hu
   obtain ⟨hu1, hu2⟩ := hu
   have step : ∀ (hin : i < n), i ∈ Region.ready md l.toArray listed → zqV md l.toArray n false t (listed.setIfInBounds i true) = true →
     (if Region.wanted l[i] (yielded l.toArray a.tmps) then l[i].wp P a w (fun a' w' => Keep N w w' ∧ wpTr P l.toArray Q N T false (opsT l t) a' w') Q else wpTr P l.toArray Q N T false (opsT l t) (a.put l[i].dst undef) w) →
     i < n ∧ wpOp P l.toArray Q i (fun a' w' => Keep N w0 w' ∧ zcc P md l.toArray Q (Keep N w0) n (fun listed' a' w' => Region.seqB md l.toArray (l.toArray.size - n) n listed' = true ∧ T a' w') f (listed.setIfInBounds i true) a' w') a w := by
    intro hin hr' hB' hw
    have hil : i < l.length := by omega
    have ho : l.toArray[i]? = some l[i] := by simp [hil]
    refine ⟨hin, ?_⟩
    unfold wpOp
    simp only [ho]
    split
    ·rename_i hwt
     rw [if_pos hwt] at hw
     exact .inl (Oper.wp_mono (fun a' w' h' => ⟨hk.trans h'.1, (iht f _ _ _ (inv.set hr' hin) (hk.trans h'.1) hu1).1 hB' h'.2⟩) hw)
    ·rename_i hwt
     rw [if_neg hwt] at hw
     exact ⟨hk, (iht f _ _ _ (inv.set hr' hin) hk hu1).1 hB' hw⟩
   have other : zqV md l.toArray n true m listed = true → wpTr P l.toArray Q N T true (opsT l m) a w → ∀ j ∈ m.alts, j ∈ Region.ready md l.toArray listed →
     j < n ∧ wpOp P l.toArray Q j (fun a' w' => Keep N w0 w' ∧ zcc P md l.toArray Q (Keep N w0) n (fun listed' a' w' => Region.seqB md l.toArray (l.toArray.size - n) n listed' = true ∧ T a' w') f (listed.setIfInBounds j true) a' w') a w := by
    intro hB hw j hj hr
    rcases hu2 with h | h
    ·cases m with
     | nil => cases hj
     | pure i' t' => simp [Tr.isNil] at h
     | eff i' t' m' => simp [Tr.isNil] at h
    ·exact (ihm (f + 1) listed a w inv hk h).2 f rfl hB hw j hj hr
   constructor
   ·intro hB h
    simp only [zqV, Bool.and_eq_true, Bool.or_eq_true, jS, Bool.false_eq_true, false_or] at hB
    obtain ⟨⟨⟨hin, hr⟩, hB1⟩, hB2⟩ := hB
    have hil : i < l.length := by omega
    simp only [opsT, jP hil, wpTr] at h
    refine ⟨fun h0 => (by rw [h0] at hr; cases hr), fun j hj => ?_⟩
    have hj' := hj
    rw [hr] at hj'
    rcases List.mem_cons.1 hj' with rfl | h2
    ·exact step hin hj hB1 h.1
    ·exact other hB2 h.2 j h2 hj
   ·intro f' hf' hB h j hj hr
    obtain rfl : f = f' := by omega
    simp only [zqV, Bool.and_eq_true, Bool.true_or, jS, and_true] at hB
    obtain ⟨⟨hin, hB1⟩, hB2⟩ := hB
    have hil : i < l.length := by omega
    simp only [opsT, jP hil, wpTr] at h
    rcases List.mem_cons.1 hj with rfl | h2
    ·exact step hin hr hB1 h.1
    ·exact other hB2 h.2 j h2 hr
theorem wp_region_tr {id : Nat} {a : Act} {w : World} (N : Nat → Prop) (n : Nat) (t : Tr) (hm : P.follows .mixedOrders = true) (hB : treB .any l.toArray n t = true)
  (h : wpTr P l.toArray Q N (fun a' w' => wpList P l.toArray Q (l.drop n) a' w') false (opsT l t) a w.drew) : (Code.region id l.toArray true).wp P Q a w := by
 simp only [treB, Bool.and_eq_true, jS] at hB
 obtain ⟨⟨⟨⟨⟨hsel, hn⟩, hp⟩, hs⟩, hc⟩, hcan⟩ := hB
 have inv0 : HeadInv .any l.toArray n (Array.replicate l.toArray.size false) :=
  ⟨by simp, fun j oj _ hl => (by rw [getD_replicate_false] at hl; cases hl), fun t _ ht => getD_in (by simpa using ht) (getD_replicate_false _ _)⟩
 have H := (zsD (md := .any) (w0 := w.drew) hsel hs hc (by simpa using hn) t n _ a _ inv0 (Keep.refl _ _) hp).1 hcan h
 refine wp_region_any hm ?_
 have hdl : (l.drop n).length = l.toArray.size - n := by simp
 have := zbE (g := l.toArray.size - n) (fun listed a' w' hL => by
  have := wpAny_of_seq (md := .any) (Q' := Q) (l.drop n) n listed a' w' (fun j => by simp [List.getElem?_drop]) (by rw [hdl]; exact hL.1) hL.2
  rwa [hdl] at this) _ _ _ _ H
 rw [show n + (l.toArray.size - n) = l.toArray.size by omega] at this
 exact this
end
end CanB
section
open Go.RowKit
section
variable {P : Program} {ops : Array Oper} {Q : Exit → Act → World → Prop} {o : Oper} {a : Act} {w ws : World} {N d : Nat} {l : List (Nat × Value)} {v : Value} {S : Nat → Prop} {T : Act → World → Prop} {p m : CanB.Tro}
theorem zb9 (E : Env a N l) (HK : CanB.Keep S ws w) (hv : PK P S ws l o v) (hg : gd ops l o = some true) (hd : o.dst = some d) (hN : Nat.blt d N = true) (hQ : ∀ c a v w, Q (.panic c) (a.put o.dst v) w → Q (.panic c) a w)
  (h : ∀ a', Env a' N ((d, v) :: l) → CanB.wpTr P ops Q S T false p a' w) : CanB.wpTr P ops Q S T false (.pure o p) a w := by
 unfold CanB.wpTr
 exact ⟨v, .inl ⟨zcV E hg, hv w HK a N E, fun u hu w' hk => by
  have h1 := hv w HK a N E
  rw [hu] at h1
  simp only [Result.ok.injEq, Next.value.injEq] at h1
  rw [h1.1]
  exact hv w' (HK.trans hk) a N E⟩, fun c a w => hQ c a v w, h _ (by rw [hd]; exact E.put hN)⟩
theorem zoA {b : Bool} (h : CanB.wpTr P ops Q S T false (.eff o p .nil) a w) (hm : CanB.wpTr P ops Q S T true m a w) : CanB.wpTr P ops Q S T b (.eff o p m) a w := by
 cases b <;> (unfold CanB.wpTr at h ⊢; exact ⟨h.1, hm⟩)
theorem zwV : CanB.wpTr P ops Q S T true .nil a w := by unfold CanB.wpTr; trivial
theorem zqW {b : Bool} (h : CanB.wpTr P ops Q S T false (.eff o p .nil) a w) : CanB.wpTr P ops Q S T b (.eff o p .nil) a w := zoA h zwV
theorem zj4 (h : T a w) : CanB.wpTr P ops Q S T false .nil a w := by unfold CanB.wpTr; exact h
theorem zcJ (E : Env a N l) (hg : gd ops l o = some true) (h : ∀ K : Act → World → Prop, (∀ a' w', CanB.Keep S w w' → CanB.wpTr P ops Q S T false p a' w' → K a' w') → o.wp P a w K Q) : CanB.wpTr P ops Q S T false (.eff o p .nil) a w := by
 unfold CanB.wpTr
 refine ⟨?_, zwV⟩
 rw [if_pos (zcV E hg)]
 exact h _ fun _ _ hk h => ⟨hk, h⟩
theorem zdz {u : Value} (E : Env a N l) (hd : o.dst = some d) (hN : Nat.blt d N = true) (h : ∀ a', Env a' N ((d, u) :: l) → CanB.wpTr P ops Q S T false p a' w) : CanB.wpTr P ops Q S T false p (a.put o.dst u) w := h _ (by rw [hd]; exact E.put hN)
theorem zkp {u : Value} (hd : o.dst = none) (h : CanB.wpTr P ops Q S T false p a w) : CanB.wpTr P ops Q S T false p (a.put o.dst u) w := by rw [hd]; exact h
theorem ziw {id : Nat} {lo : List Oper} {X G : List Nat} {w0 : World} {L : List Res} {R : List (World → Prop)} (E : Env a N l) (H : Sep X G w0 w L R) (D : List Nat) (n : Nat) (t : CanB.Tr) (hm : P.follows .mixedOrders = true) (hB : CanB.treB .any lo.toArray n t = true)
  (h : ∀ ws, Sep X G w0 ws L R → CanB.wpTr P lo.toArray Q (fun k => k < ws.heap.size ∧ k ∉ D) (fun a' w' => wpList P lo.toArray Q (lo.drop n) a' w') false (CanB.opsT lo t) a ws) : (Code.region id lo.toArray true).wp P Q a w :=
 CanB.wp_region_tr (fun k => k < w.drew.heap.size ∧ k ∉ D) n t hm hB (h w.drew H.drew)
end
section
variable {P : Program} {o : Oper} {a : Act} {w : World} {Q : Exit → Act → World → Prop} {N : Nat} {l : List (Nat × Value)} {v : Value} {K : Act → World → Prop} {X G : List Nat} {w0 : World} {L : List Res} {R : List (World → Prop)}
theorem zek {ty : TypeId} {z : List Chunk} (H : Sep X G w0 w L R) (ho : o.op = .alloc ty) (hz : zjX P ty = some (ca z))
  (h : ∀ b w', w.heap.size ≤ b → Sep X G w0 w' (.blk b (ca z) ty :: L) R → Frm [] w w' → K (a.put o.dst (.pointer (some ⟨b, 0, none⟩))) w') : o.wp P a w K Q := by
 obtain ⟨i, zv, h1, h2, h3⟩ := zfe hz
 have hr : (execOp a.eval o).run P w = .ok (.value (.pointer (some ⟨w.heap.size, 0, none⟩))) (w.alloc (.cells (ca z) ty)) := by
  unfold execOp
  simp [ho, Instr.alloc, zeroValue, typeInfo, h1, h2, newVar, newRow, newObj, h3, Sem.run_bind]
  rfl
 unfold Oper.wp
 rw [hr]
 have hf : Frm [] w (w.alloc (.cells (ca z) ty)) := Frm.of_below ((Below.refl _ _).alloc (jV _) _)
 exact h w.heap.size _ (jV _) (H.own hf (heap_alloc_new w _) (by simp [Res.keys]) (by simp [Res.keys])) hf
end
end
section
open Go.RowKit
section
variable {P : Program} {ops : Array Oper} {rest : List Oper} {o : Oper} {a : Act} {w : World} {Q : Exit → Act → World → Prop}
theorem zoB (k : IntKind) (N : Nat) (f : Nat → Int) (off n : Nat) (h : off + n ≤ N) : (arr k N f).extract off (off + n) = arr k n fun i => f (off + i) := by
 apply Array.ext_getElem?
 intro j
 by_cases hj : j < n
 ·rw [ze9 _ _ _ _ hj, Array.getElem?_extract, if_pos (by rw [zct]; omega), ze9 _ _ _ _ (by omega)]
 ·rw [Array.getElem?_eq_none (by simp [zct]; omega), Array.getElem?_eq_none (by rw [zct]; omega)]
theorem zk6 {e n : Nat} (hT : zeT P e n) : (isAgg e).run P w = .ok true w := by
 obtain ⟨d, hu, hd, _⟩ := hT
 unfold isAgg
 rw [Sem.run_bind, run_underlying hu w]
 cases d <;> simp_all
theorem zih {t e n N len : Nat} {k : IntKind} {f : Nat → Int} {x y : Operand} {i : Int} (ho : o.op = .index t x y) (ht : P.underlying t = some (.array len e)) (hT : zeT P e n) (hx : a.eval x = .agg (arr k N f)) (hy : a.eval y = .int .i64 i) (h0 : 0 ≤ i) (hi : i < len) (hle : i.toNat * n + n ≤ N) :
  (execOp a.eval o).run P w = .ok (.value (.agg (arr k n fun j => f (i.toNat * n + j)))) w := by
 have hs := hT
 obtain ⟨_, _, _, hs⟩ := hs
 unfold execOp
 simp only [ho, hx, hy]
 unfold Instr.index
 have h1 : 0 ≤ i ∧ i < (len : Int) := ⟨h0, hi⟩
 simp [Sem.run_bind, run_underlying ht, asIntOf, h1, zby hs, part, zk6 hT, zoB k N f _ n hle]
theorem zhA {t e N len : Nat} {k : IntKind} {d : TypeDesc} {f : Nat → Int} {x y : Operand} {i : Int} (ho : o.op = .index t x y) (ht : P.underlying t = some (.array len e)) (he : P.underlying e = some d) (hd : (match d with | .struct _ | .array _ _ => true | _ => false) = false) (hs : (P.info? e).map (·.size) = some 1) (hx : a.eval x = .agg (arr k N f)) (hy : a.eval y = .int .i64 i) (h0 : 0 ≤ i) (hi : i < len) (hle : i.toNat < N) :
  (execOp a.eval o).run P w = .ok (.value (.int k (f i.toNat))) w := by
 have hg : (isAgg e).run P w = .ok false w := by
  unfold isAgg
  rw [Sem.run_bind, run_underlying he w]
  cases d <;> simp_all
 unfold execOp
 simp only [ho, hx, hy]
 unfold Instr.index
 have h1 : 0 ≤ i ∧ i < (len : Int) := ⟨h0, hi⟩
 simp [Sem.run_bind, run_underlying ht, asIntOf, h1, zby hs, part, hg, ze9 _ _ _ _ hle]
theorem zfB {t e n N len : Nat} {k : IntKind} {f : Nat → Int} {x y : Operand} {i : Int} (hgd : o.guard = none) (ho : o.op = .index t x y) (ht : P.underlying t = some (.array len e)) (hT : zeT P e n) (hx : a.eval x = .agg (arr k N f)) (hy : a.eval y = .int .i64 i) (h0 : 0 ≤ i) (hi : i < len) (hle : i.toNat * n + n ≤ N)
  (f' : Nat → Int) (hf : ∀ j, j < n → f (i.toNat * n + j) = f' j) (h : wpList P ops Q rest (a.put o.dst (.agg (arr k n f'))) w) : wpList P ops Q (o :: rest) a w :=
 zf7 hgd (zih ho ht hT hx hy h0 hi hle) (by rw [zcd hf]; exact h)
theorem zaR {t e N len : Nat} {k : IntKind} {d : TypeDesc} {f : Nat → Int} {x y : Operand} {i : Int} (hgd : o.guard = none) (ho : o.op = .index t x y) (ht : P.underlying t = some (.array len e)) (he : P.underlying e = some d) (hd : (match d with | .struct _ | .array _ _ => true | _ => false) = false) (hs : (P.info? e).map (·.size) = some 1) (hx : a.eval x = .agg (arr k N f)) (hy : a.eval y = .int .i64 i) (h0 : 0 ≤ i) (hi : i < len) (hle : i.toNat < N)
  (h : wpList P ops Q rest (a.put o.dst (.int k (f i.toNat))) w) : wpList P ops Q (o :: rest) a w :=
 zf7 hgd (zhA ho ht he hd hs hx hy h0 hi hle) h
theorem zaJ {ty : TypeId} {parts : Array (Nat × Operand)} {c : Array Value} {l : List (Nat × Value)} (ho : o.op = .build ty parts) (hl : (parts.map fun (i, x) => (i, a.eval x)).toList = l) (hb : P.built ty l = some c) : (execOp a.eval o).run P w = .ok (.value (.agg c)) w := by
 subst hl
 unfold execOp
 simp only [ho, Sem.run_bind, run_build w ty _ c hb, Result.andThen_ok]
 rfl
theorem zcK {t e len : Nat} {parts : Array (Nat × Operand)} {c : Array Value} {l : List (Nat × Value)} (hgd : o.guard = none) (ho : o.op = .buildSlice t len parts) (hu : P.underlying t = some (.slice e)) (hl : (parts.map fun (i, x) => (i, a.eval x)).toList = l) (hb : P.builtSlice e len l = some c)
  (h : wpList P ops Q rest (a.put o.dst (.slice (some ⟨w.heap.size, 0, none⟩) len len)) (w.alloc (.cells c e))) : wpList P ops Q (o :: rest) a w := by
 subst hl
 exact Go.Great.wpList_buildSliceTo hgd t e len parts ho _ rfl _ rfl hu c hb h
end
end
section
open Go.RowKit
theorem zbc : zeT Tryz.prog 69 5 := ⟨_, Tryz.underlying69, rfl, by kernel_rfl⟩
theorem zga : zcy Tryz.prog 69 .u64 5 := by unfold zcy; kernel_rfl
theorem zjd : (Tryz.prog.info? 67).map (·.size) = some 1 := by kernel_rfl
def mxN (F : Nat → Nat) : Nat → Nat
 | 0 => F 0
 | m + 1 => max (mxN F m) (F (m + 1))
theorem zwW (F : Nat → Nat) (b : Nat) : ∀ m, (mxN F m < b ↔ ∀ i, i < m + 1 → F i < b)
 | 0 => by
  unfold mxN
  exact ⟨fun h i hi => by rw [show i = 0 from by omega]; exact h, fun h => h 0 (by omega)⟩
 | m + 1 => by
  unfold mxN
  rw [Nat.max_lt, zwW F b m]
  constructor
  ·rintro ⟨h1, h2⟩ i hi
   by_cases h : i < m + 1
   ·exact h1 i h
   ·rw [show i = m + 1 from by omega]; exact h2
  ·intro h
   exact ⟨fun i hi => h i (by omega), h _ (by omega)⟩
theorem zvj (F : Nat → Nat) (m : Nat) : mxN F (m + 1) = max (mxN F m) (F (m + 1)) := rfl
attribute [local irreducible] mxN
theorem zyc (F : Nat → Nat) (hF : ∀ i, i < 5 → F i < 18446744073709551616) (g : Nat) (w : World) (hg : w.heap[g]? = some (.cells (arr .u64 5 fun i => ((F i : Nat) : Int)) 69 (0, 0))) :
  Calls Tryz.prog 101 #[.slice (some ⟨g, 0, none⟩) 5 5] w fun e w' => e = .returned (.int .u64 ((mxN F 4 : Nat) : Int)) ∧ w = w' := by
 go_enter Tryz.func101, Tryz.ntmps101
 have c0 := zaj hg 0 (by omega)
 go_wp2
 have e0 : mxN F 0 = F 0 := by unfold mxN; rfl
 go_loopg [3, 4] 4 (fun n x i wr => ∃ m : Nat, m + n = 4 ∧ i = .int .i64 ((m : Int) + 1) ∧ x = .int .u64 ((mxN F m : Nat) : Int) ∧ w = wr)
 case atStart => exact ⟨0, rfl, rfl, by rw [e0], rfl⟩
 case round =>
  obtain ⟨m, hm, rfl, rfl, rfl⟩ := hrel
  have hm' := Lib.hid hm
  clear hm c0 e0
  by_cases hlt : m < 4
  ·have c1 := zaj hg (m + 1) (by omega)
   go_wp2
   all_goals
    go_roundg (gk - 1)
    case measure => have := hm'.out; omega
    case rel =>
     have hm'' := hm'.out
     exact ⟨m + 1, by omega, by go_num, by rw [zvj]; congr 2; omega, rfl⟩
  ·obtain rfl : m = 4 := by have := hm'.out; omega
   go_wp2
   go_ret
   exact ⟨rfl, rfl⟩
def okF (F : Nat → Nat) (n : Nat) : Prop := ∀ i, i < n → F i < 4503599627370496
instance (F : Nat → Nat) (n : Nat) : Decidable (okF F n) := Nat.decidableBallLT n fun i _ => F i < 4503599627370496
theorem zvk (F : Nat → Nat) (off k : Nat) (h : okF F (off + 5 * k)) : okF F (off + 5 * (k + 1)) ↔ okF (fun i => F (off + 5 * k + i)) 5 := by
 constructor
 ·intro h i hi; exact h _ (by omega)
 ·intro h' i hi
  by_cases hlt : i < off + 5 * k
  ·exact h i hlt
  ·have := h' (i - (off + 5 * k)) (by omega)
   simpa only [show off + 5 * k + (i - (off + 5 * k)) = i from by omega] using this
theorem zsE (F : Nat → Nat) (hF : ∀ i, i < 5 → F i < 18446744073709551616) (w : World) :
  Calls Tryz.prog 100 #[.agg (arr .u64 5 fun i => ((F i : Nat) : Int))] w fun e w' => e = .returned (.bool (!decide (okF F 5))) ∧ Below w.heap.size w w' := by
 go_enter Tryz.func100, Tryz.ntmps100
 obtain ⟨g0, hz, hb0⟩ := zb6 w (.cells (arr .u64 5 fun i => ((F i : Nat) : Int)) 69)
 have hl := zwW F 4503599627370496 4
 have e0 : (!decide (okF F 5)) = decide (4503599627370496 ≤ mxN F 4) := by
  rw [← decide_not]
  exact decide_eq_decide.2 (by rw [← Nat.not_lt, hl]; rfl)
 rw [e0]
 clear e0 hl
 go_wp2_with (first | (refine za8 rfl (zdY rfl Tryz.underlying69 zjd rfl) ?_) | (go_at_call 101; refine (zyc F hF _ _ g0).mono ?_; rintro e w' ⟨rfl, rfl⟩))
 go_ret
 refine ⟨?_, hb0⟩
 show Ending.returned (Value.bool _) = Ending.returned (Value.bool _)
 rw [show decide ((4503599627370496 : Int) ≤ ((mxN F 4 : Nat) : Int)) = decide (4503599627370496 ≤ mxN F 4) from decide_eq_decide.2 (by omega)]
theorem zk7 (n : Nat) (hn : n < 1000) (F : Nat → Nat) (hF : ∀ i, i < 5 * n → F i < 18446744073709551616) (g t : Nat) (w : World) (hg : w.heap[g]? = some (.cells (arr .u64 (5 * n) fun i => ((F i : Nat) : Int)) t (0, 0))) :
  Calls Tryz.prog 126 #[.slice (some ⟨g, 0, none⟩) n n, .func (.func 100) #[] #[]] w fun e w' => (∃ r : Int, e = .returned (.int .i64 r) ∧ decide (r ≥ 0) = !decide (okF F (5 * n))) ∧ Below w.heap.size w w' := by
 go_enter Tryz.func126, Tryz.ntmps126
 have hgl := jM hg
 go_wp2
 go_loopg [8] n (fun q i wr => ∃ m : Nat, m + q = n ∧ i = .int .i64 m ∧ okF F (5 * m) ∧ wr.heap[g]? = some (.cells (arr .u64 (5 * n) fun i => ((F i : Nat) : Int)) t (0, 0)) ∧ Below w.heap.size w wr)
 case atStart => exact ⟨0, by omega, rfl, fun i hi => absurd hi (by omega), hg, Below.refl _ _⟩
 case round =>
  clear hg
  obtain ⟨m, hm, rfl, hok, hg, hB⟩ := hrel
  have hm' := Lib.hid hm
  clear hm
  by_cases hlt : m < n
  ·have h5 := zvk F 0 m (by simpa using hok)
   simp only [Nat.zero_add] at h5
   by_cases hq : okF (fun i => F (5 * m + i)) 5
   ·go_wp2_with (first | (refine zbx (off := m * 5) (fun i => ((F (5 * m + i) : Nat) : Int)) rfl rfl rfl zbc hg (by omega) (fun i hi => by rw [Nat.mul_comm m 5]) ?_) | (go_at_call 100; refine (zsE (fun i => F (5 * m + i)) (fun i hi => hF _ (by omega)) _).mono ?_; rintro e w2 ⟨rfl, b2⟩; rw [show (!decide (okF (fun i => F (5 * m + i)) 5)) = false from by rw [decide_eq_true hq]; rfl]))
    go_roundg (gk - 1)
    case measure => have := hm'.out; omega
    case rel =>
     have hm'' := hm'.out
     exact ⟨m + 1, by omega, by go_num, h5.2 hq, zaa b2 (jM hg) hg, hB.trans (b2.mono hB.size)⟩
   ·go_wp2_with (first | (refine zbx (off := m * 5) (fun i => ((F (5 * m + i) : Nat) : Int)) rfl rfl rfl zbc hg (by omega) (fun i hi => by rw [Nat.mul_comm m 5]) ?_) | (go_at_call 100; refine (zsE (fun i => F (5 * m + i)) (fun i hi => hF _ (by omega)) _).mono ?_; rintro e w2 ⟨rfl, b2⟩; rw [show (!decide (okF (fun i => F (5 * m + i)) 5)) = true from by rw [decide_eq_false hq]; rfl]))
    go_ret
    refine ⟨⟨_, rfl, ?_⟩, hB.trans (b2.mono hB.size)⟩
    rw [show decide (okF F (5 * n)) = false from decide_eq_false fun h => hq (h5.1 fun i hi => h i (by omega))]
    exact decide_eq_true (by omega)
  ·obtain rfl : m = n := by have := hm'.out; omega
   go_wp2
   go_ret
   refine ⟨⟨_, rfl, ?_⟩, hB⟩
   rw [decide_eq_true hok]; rfl
theorem zni (n : Nat) (hn : n < 1000) (F : Nat → Nat) (hF : ∀ i, i < 5 * n → F i < 18446744073709551616) (g t : Nat) (w : World) (hg : w.heap[g]? = some (.cells (arr .u64 (5 * n) fun i => ((F i : Nat) : Int)) t (0, 0))) :
  Calls Tryz.prog 99 #[.slice (some ⟨g, 0, none⟩) n n, .func (.func 100) #[] #[]] w fun e w' => e = .returned (.bool (!decide (okF F (5 * n)))) ∧ Below w.heap.size w w' := by
 go_enter Tryz.func99, Tryz.ntmps99
 go_wp2_with (go_at_call 126; refine (zk7 n hn F hF g t _ hg).mono ?_; rintro e w2 ⟨⟨r, rfl, hr⟩, b2⟩)
 go_ret
 exact ⟨rfl, b2⟩
theorem zhB (n m : Nat) (hm : 5 * n = m) (hn : n < 1000) (F : Nat → Nat) (hF : ∀ i, i < m → F i < 18446744073709551616) (g t : Nat) (w : World) (hg : w.heap[g]? = some (.cells (arr .u64 m fun i => ((F i : Nat) : Int)) t (0, 0))) :
  Calls Tryz.prog 72 #[.slice (some ⟨g, 0, none⟩) n n] w fun e w' => e = .returned (.bool (decide (okF F m))) ∧ Below w.heap.size w w' := by
 subst hm
 go_enter Tryz.func72, Tryz.ntmps72
 go_wp2_with (go_at_call 99; refine (zni n hn F hF g t _ hg).mono ?_; rintro e w2 ⟨rfl, b2⟩)
 go_ret
 exact ⟨by simp, b2⟩
theorem zje (F : Nat → Int) : Tryz.prog.builtSlice 69 1 [(0, .agg (arr .u64 5 F))] = some (arr .u64 5 F) := by kernel_rfl
def zbW (F G : Nat → Nat) (i : Nat) : Nat := if i < 5 then F i else G (i - 5)
theorem zjf (F G : Nat → Nat) : Tryz.prog.builtSlice 69 2 [(0, .agg (arr .u64 5 fun i => ((F i : Nat) : Int))), (1, .agg (arr .u64 5 fun i => ((G i : Nat) : Int)))] = some (arr .u64 10 fun i => ((zbW F G i : Nat) : Int)) := by kernel_rfl
theorem zhC (F G : Nat → Nat) : okF (zbW F G) 10 ↔ okF F 5 ∧ okF G 5 := by
 constructor
 ·intro h
  refine ⟨fun i hi => ?_, fun i hi => ?_⟩
  ·have := h i (by omega); unfold zbW at this; rwa [if_pos hi] at this
  ·have := h (5 + i) (by omega); unfold zbW at this; rwa [if_neg (by omega), Nat.add_sub_cancel_left] at this
 ·rintro ⟨h1, h2⟩ i hi
  unfold zbW
  by_cases h : i < 5
  ·rw [if_pos h]; exact h1 i h
  ·rw [if_neg h]; exact h2 _ (by omega)
theorem zoC (F G : Nat → Nat) (b : Nat) (hF : ∀ i, i < 5 → F i < b) (hG : ∀ i, i < 5 → G i < b) (i : Nat) (hi : i < 10) : zbW F G i < b := by
 unfold zbW
 by_cases h : i < 5
 ·rw [if_pos h]; exact hF i h
 ·rw [if_neg h]; exact hG _ (by omega)
end
section
open Go.RowKit
theorem zk8 (a b : Nat) (h : a + b < 18446744073709551616) : bits .and .u64 ((a : Int) + (b : Int)) 2251799813685247 = (((a + b) % 2251799813685248 : Nat) : Int) := by
 have h1 := bits_and_u64_nat (a + b) 2251799813685247 h (by omega)
 have e : (a + b) &&& 2251799813685247 = (a + b) % 2251799813685248 := Nat.and_two_pow_sub_one_eq_mod (a + b) 51
 rw [e] at h1
 rw [← h1]
 rfl
def ovN (F : Nat → Nat) : Nat → Nat
 | 0 => 0
 | m + 1 => (F m + ovN F m) / 2251799813685248
def loN (F : Nat → Nat) (m : Nat) : Nat := (F m + ovN F m) % 2251799813685248
def zdq (F : Nat → Nat) (i : Nat) : Nat := if i = 0 then loN F 0 + 19 * ovN F 5 else loN F i
theorem zg6 (F : Nat → Nat) (m : Nat) : ovN F (m + 1) = (F m + ovN F m) / 2251799813685248 := rfl
theorem zpB (F : Nat → Nat) (hF : ∀ i, i < 5 → F i < 9223372036854775808) : ∀ m, m ≤ 5 → ovN F m < 8192
 | 0, _ => by unfold ovN; omega
 | m + 1, h => by
  have := zpB F hF m (by omega)
  have := hF m (by omega)
  rw [zg6]
  omega
attribute [local irreducible] ovN
theorem zfS (F : Nat → Nat) (hF : ∀ i, i < 5 → F i < 9223372036854775808) (w : World) :
  Calls Tryz.prog 98 #[.agg (arr .u64 5 fun i => ((F i : Nat) : Int))] w fun e w' => e = .returned (.agg (arr .u64 5 fun i => ((zdq F i : Nat) : Int))) ∧ Below w.heap.size w w' := by
 go_enter Tryz.func98, Tryz.ntmps98
 obtain ⟨h0, h1, hsz, hb⟩ := zcb w (.cells (arr .u64 5 fun i => ((F i : Nat) : Int)) 69) (.cells (arr .u64 5 fun _ => 0) 69)
 go_wp2_with (first | (refine zae rfl rfl zga ?_) | (refine zab rfl rfl rfl zbc h0 ?_))
 have hF' := Lib.hid hF
 have hov := Lib.hid (zpB F hF)
 clear hF
 go_loopg [3, 7] 5 (fun n x i wr => ∃ m : Nat, m + n = 5 ∧ i = .int .i64 m ∧ x = .int .u64 ((ovN F m : Nat) : Int) ∧ wr.heap[w.heap.size]? = some (.cells (arr .u64 5 fun i => ((if i < m then loN F i else F i : Nat) : Int)) 69 (0, 0)) ∧
  wr.heap[w.heap.size + 1]? = some (.cells (arr .u64 5 fun _ => 0) 69 (0, 0)) ∧ Below w.heap.size w wr)
 case atStart => exact ⟨0, rfl, rfl, by unfold ovN; rfl, zaf h0 (fun i _ => by rw [if_neg (Nat.not_lt_zero i)]), h1, hb⟩
 case round =>
  obtain ⟨m, hm, rfl, rfl, g0, g1, hB⟩ := hrel
  have hm' := Lib.hid hm
  clear h0 h1 hsz hb hm
  by_cases hlt : m < 5
  ·have fb := hF'.out m hlt
   have ob := hov.out m (by omega)
   have c0 := zaj g0 m hlt
   have fz := zaH g0 m
   go_wp2_with (refine zaR rfl rfl Tryz.underlying69 Tryz.underlying67 rfl zjd rfl rfl (by omega) (by omega) (by omega) ?_)
   go_roundg (gk - 1)
   case measure => have := hm'.out; omega
   case rel =>
    have hm'' := hm'.out
    refine ⟨m + 1, by omega, by go_num, ?_, zaf (zaL g0 m _) (fun i _ => ?_), zar g1 _ _ (by omega), hB.setCell (jV _) _⟩
    ·rw [zg6]; rfl
    ·rw [zk8 _ _ (by omega)]
     unfold upd
     by_cases h : i = m
     ·rw [if_pos h, h, if_pos (by omega)]; rfl
     ·rw [if_neg h]
      dsimp only
      by_cases h2 : i < m
      ·rw [if_pos h2, if_pos (by omega)]
      ·rw [if_neg h2, if_neg (by omega)]
  ·obtain rfl : m = 5 := by have := hm'.out; omega
   have ob := hov.out 5 (by omega)
   have g0' := zaf (f' := fun i => ((loN F i : Nat) : Int)) g0 (fun i hi => by rw [if_pos hi])
   clear g0
   have c0 := zaj g0' 0 (by omega)
   have fz := zaH g0' 0
   have lb : loN F 0 < 2251799813685248 := Nat.mod_lt _ (by omega)
   go_upto_region 9 with (fail)
   have g2 := zaf (f' := fun i => ((zdq F i : Nat) : Int)) (zaL g0' 0 (((loN F 0 : Nat) : Int) + 19 * ((ovN F 5 : Nat) : Int))) (fun i _ => by
    unfold upd zdq
    by_cases h : i = 0
    ·rw [if_pos h, if_pos h]; omega
    ·rw [if_neg h, if_neg h])
   have g3 := zar (i := 0) (v := .int .u64 (((loN F 0 : Nat) : Int) + 19 * ((ovN F 5 : Nat) : Int))) g1 (C := w.heap.size) (by omega)
   have hBq := hB.setCell (p := ⟨w.heap.size, 0, none⟩) (jV _) (.int .u64 (((loN F 0 : Nat) : Int) + 19 * ((ovN F 5 : Nat) : Int)))
   go_wp2_with (first | (refine zab rfl rfl rfl zbc g2 ?_) | (refine zac rfl rfl rfl rfl zbc g3 ?_))
   exact bodyPost_ret (zaw rfl rfl zbc (zan g3)) rfl ⟨rfl, zam hBq (by omega) _⟩
end
section
open Go.RowKit
theorem zdr (F : Nat → Nat) (hF : ∀ i, i < 5 → F i < 9223372036854775808) (i : Nat) (_hi : i < 5) : zdq F i < 2251799813840896 := by
 have h1 := zpB F hF 5 (by omega)
 have h2 : ∀ i, loN F i < 2251799813685248 := fun i => Nat.mod_lt _ (by omega)
 unfold zdq
 have := h2 0
 have := h2 i
 split <;> omega
def quN (F : Nat → Nat) : Nat → Nat
 | 0 => 19
 | m + 1 => (F m + quN F m) / 2251799813685248
theorem zpC (F : Nat → Nat) (m : Nat) : quN F (m + 1) = (F m + quN F m) / 2251799813685248 := rfl
theorem zsF (F : Nat → Nat) (hF : ∀ i, i < 5 → F i < 4503599627370496) : ∀ m, m ≤ 5 → quN F m < 20
 | 0, _ => by unfold quN; omega
 | m + 1, h => by
  have := zsF F hF m (by omega)
  have := hF m (by omega)
  rw [zpC]
  omega
def upN (F : Nat → Nat) (i : Nat) : Nat := if i = 0 then F 0 + 19 * quN F 5 else F i
def zeu (F : Nat → Nat) (i : Nat) : Nat := loN (upN (zdq (zdq F))) i
theorem zz7 (F : Nat → Nat) (hF : ∀ i, i < 5 → F i < 4503599627370496) (i : Nat) (hi : i < 5) : upN F i < 4503599627370877 := by
 have := zsF F hF 5 (by omega)
 have := hF 0 (by omega)
 have := hF i hi
 unfold upN
 split <;> omega
theorem zsG (F : Nat → Nat) (i : Nat) : zeu F i < 2251799813685248 := Nat.mod_lt _ (by omega)
attribute [local irreducible] ovN quN
theorem zsH (F : Nat → Nat) (hF : ∀ i, i < 5 → F i < 9223372036854775808) (w : World) :
  Calls Tryz.prog 102 #[.agg (arr .u64 5 fun i => ((F i : Nat) : Int))] w fun e w' => e = .returned (.agg (arr .u64 5 fun i => ((zeu F i : Nat) : Int))) ∧ Below w.heap.size w w' := by
 go_enter Tryz.func102, Tryz.ntmps102
 obtain ⟨h0, h1, hsz, hb⟩ := zcb w (.cells (arr .u64 5 fun i => ((F i : Nat) : Int)) 69) (.cells (arr .u64 5 fun _ => 0) 69)
 go_wp2_with (first | (refine zae rfl rfl zga ?_) | (refine zab rfl rfl rfl zbc h0 ?_) | (go_at_call 98; fail))
 refine (zfS F hF _).mono ?_
 rintro e w1 ⟨rfl, b1⟩
 have c1 := zdr F hF
 go_wp2_with (go_at_call 98; fail)
 refine (zfS (zdq F) (fun i hi => by have := c1 i hi; omega) _).mono ?_
 rintro e w2 ⟨rfl, b2⟩
 have c2 : ∀ i, i < 5 → zdq (zdq F) i < 4503599627370496 := fun i hi => by have := zdr (zdq F) (fun i hi => by have := c1 i hi; omega) i hi; omega
 have b3 := b1.trans (b2.mono b1.size)
 have g0 := zaa b3 (by omega) h0
 have g1 := zaa b3 (by omega) h1
 have hB := hb.trans (b3.mono (by omega))
 clear h0 h1 b1 b2 b3 c1 hF hb hsz
 generalize hGe : zdq (zdq F) = G at c2 ⊢
 have hGe' := Lib.hid hGe
 clear hGe
 go_upto_region 2 with (refine zac rfl rfl rfl rfl zbc g0 ?_)
 have q0 := zan (w := w2) (c' := arr .u64 5 fun i => ((G i : Nat) : Int)) g0
 have q1 := zad (w := w2) (c' := arr .u64 5 fun i => ((G i : Nat) : Int)) (g := w.heap.size) g1 (by omega)
 have hBq := zam hB (g := w.heap.size) (by omega) (arr .u64 5 fun i => ((G i : Nat) : Int))
 clear g0 g1 hB
 generalize w2.setRow w.heap.size (arr .u64 5 fun i => ((G i : Nat) : Int)) = w3 at *
 (try simp only [Act.put, jA, jB, jC])
 have hq := Lib.hid (zsF G c2)
 have hu := Lib.hid (zz7 G c2)
 have hG := Lib.hid c2
 clear c2
 go_wp2_with (refine zab rfl rfl rfl zbc q0 ?_)
 go_loopg [3, 13] 5 (fun n x i wr => ∃ m : Nat, m + n = 5 ∧ i = .int .i64 m ∧ x = .int .u64 ((quN G m : Nat) : Int) ∧ wr.heap[w.heap.size]? = some (.cells (arr .u64 5 fun i => ((G i : Nat) : Int)) 69 (0, 0)) ∧
  wr.heap[w.heap.size + 1]? = some (.cells (arr .u64 5 fun _ => 0) 69 (0, 0)) ∧ Below w.heap.size w wr)
 case atStart => exact ⟨0, rfl, rfl, by unfold quN; rfl, q0, q1, hBq⟩
 case round =>
  clear q0 q1 hBq
  obtain ⟨m, hm, rfl, rfl, g0, g1, hB⟩ := hrel
  have hm' := Lib.hid hm
  clear hm
  by_cases hlt : m < 5
  ·have fb := hG.out m hlt
   have ob := hq.out m (by omega)
   go_wp2_with (refine zaR rfl rfl Tryz.underlying69 Tryz.underlying67 rfl zjd rfl rfl (by omega) (by omega) (by omega) ?_)
   go_roundg (gk - 1)
   case measure => have := hm'.out; omega
   case rel =>
    have hm'' := hm'.out
    exact ⟨m + 1, by omega, by go_num, by rw [zpC]; rfl, g0, g1, hB⟩
  ·obtain rfl : m = 5 := by have := hm'.out; omega
   have ob := hq.out 5 (by omega)
   have fb := hG.out 0 (by omega)
   have c0 := zaj g0 0 (by omega)
   have fz := zaH g0 0
   go_upto_region 9 with (fail)
   have q0 := zaf (f' := fun i => ((upN G i : Nat) : Int)) (zaL g0 0 (((G 0 : Nat) : Int) + 19 * ((quN G 5 : Nat) : Int))) (fun i _ => by
    unfold upd upN
    by_cases h : i = 0
    ·rw [if_pos h, if_pos h]; omega
    ·rw [if_neg h, if_neg h])
   have q1 := zar (i := 0) (v := .int .u64 (((G 0 : Nat) : Int) + 19 * ((quN G 5 : Nat) : Int))) g1 (C := w.heap.size) (by omega)
   have hBq := hB.setCell (p := ⟨w.heap.size, 0, none⟩) (jV _) (.int .u64 (((G 0 : Nat) : Int) + 19 * ((quN G 5 : Nat) : Int)))
   clear g0 g1 hB c0 fz ob fb
   generalize wr.setCell ⟨w.heap.size, 0, none⟩ (.int .u64 (((G 0 : Nat) : Int) + 19 * ((quN G 5 : Nat) : Int))) = w4 at *
   generalize hUe : upN G = U at hu q0 ⊢
   have hUe' := Lib.hid hUe
   clear hUe
   have hov := Lib.hid (zpB U (fun i hi => by have := hu.out i hi; omega))
   go_wp2_with (refine zab rfl rfl rfl zbc q0 ?_)
   go_loopg [6, 28] 5 (fun n x i wr => ∃ m : Nat, m + n = 5 ∧ i = .int .i64 m ∧ x = .int .u64 ((ovN U m : Nat) : Int) ∧ wr.heap[w.heap.size]? = some (.cells (arr .u64 5 fun i => ((if i < m then loN U i else U i : Nat) : Int)) 69 (0, 0)) ∧
    wr.heap[w.heap.size + 1]? = some (.cells (arr .u64 5 fun _ => 0) 69 (0, 0)) ∧ Below w.heap.size w wr)
   case atStart => exact ⟨0, rfl, rfl, by unfold ovN; rfl, zaf q0 (fun i _ => by rw [if_neg (Nat.not_lt_zero i)]), q1, hBq⟩
   case round =>
    clear q0 q1 hBq
    obtain ⟨m, hm, rfl, rfl, g0, g1, hB⟩ := hrel
    have hm' := Lib.hid hm
    clear hm
    by_cases hlt : m < 5
    ·have fb := hu.out m hlt
     have ob := hov.out m (by omega)
     have c0 := zaj g0 m hlt
     have fz := zaH g0 m
     go_wp2_with (refine zaR rfl rfl Tryz.underlying69 Tryz.underlying67 rfl zjd rfl rfl (by omega) (by omega) (by omega) ?_)
     go_roundg (gk - 1)
     case measure => have := hm'.out; omega
     case rel =>
      have hm'' := hm'.out
      refine ⟨m + 1, by omega, by go_num, ?_, zaf (zaL g0 m _) (fun i _ => ?_), zar g1 _ _ (by omega), hB.setCell (jV _) _⟩
      ·rw [zg6]; rfl
      ·rw [zk8 _ _ (by omega)]
       unfold upd
       by_cases h : i = m
       ·rw [if_pos h, h, if_pos (by omega)]; rfl
       ·rw [if_neg h]
        dsimp only
        by_cases h2 : i < m
        ·rw [if_pos h2, if_pos (by omega)]
        ·rw [if_neg h2, if_neg (by omega)]
    ·obtain rfl : m = 5 := by have := hm'.out; omega
     have p0 := zaf (f' := fun i => ((loN U i : Nat) : Int)) g0 (fun i hi => by rw [if_pos hi])
     clear g0
     go_wp2_with (first | (refine zab rfl rfl rfl zbc p0 ?_) | (refine zac rfl rfl rfl rfl zbc g1 ?_))
     exact bodyPost_ret (zaw rfl rfl zbc (zan g1)) rfl ⟨by rw [← hUe'.out, ← hGe'.out]; rfl, zam hB (by omega) _⟩
end
section
def zbV (X : Nat → Nat) : Nat → Nat
 | 0 => 0
 | i + 1 => zbV X i + X i * 2 ^ (51 * i)
theorem zg7 (X : Nat → Nat) (i : Nat) : zbV X (i + 1) = zbV X i + X i * 2 ^ (51 * i) := rfl
theorem zhD (X : Nat → Nat) (n : Nat) (hX : ∀ i, i < n → X i < 2251799813685248) : ∀ i, i ≤ n → zbV X i < 2 ^ (51 * i)
 | 0, _ => by unfold zbV; decide
 | i + 1, h => by
  have h1 := zhD X n hX i (by omega)
  have h2 : X i + 1 ≤ 2251799813685248 := hX i (by omega)
  have h3 := Nat.mul_le_mul_right (2 ^ (51 * i)) h2
  rw [zg7, show 51 * (i + 1) = 51 + 51 * i from by omega, Nat.pow_add]
  rw [Nat.add_mul] at h3
  have : (2 : Nat) ^ 51 = 2251799813685248 := by decide
  rw [this]
  omega
def zbj (v k : Nat) : Nat := v / 2 ^ (8 * k) % 256
theorem zsI (a b t : Nat) (ha : a < 2 ^ t) : a ||| (b * 2 ^ t) = a + b * 2 ^ t := by
 rw [Nat.or_comm, Nat.mul_comm, ← Nat.two_pow_add_eq_or_of_lt ha, Nat.add_comm]
theorem zvm (v x i k : Nat) (hv : v < 2 ^ (51 * i)) (h : 8 * k < 51 * i) (h2 : 51 * i < 8 * k + 8) :
  zbj v k ||| (x * 2 ^ (51 * i - 8 * k) % 256) = zbj (v + x * 2 ^ (51 * i)) k := by
 obtain ⟨t, ht⟩ : ∃ t, 51 * i = 8 * k + t := ⟨51 * i - 8 * k, by omega⟩
 unfold zbj
 rw [show 51 * i - 8 * k = t from by omega, ht, Nat.pow_add]
 have ha : v / 2 ^ (8 * k) < 2 ^ t := by
  rw [Nat.div_lt_iff_lt_mul (Nat.two_pow_pos _), ← Nat.pow_add]
  rw [show t + 8 * k = 51 * i from by omega]; exact hv
 have e : (v + x * (2 ^ (8 * k) * 2 ^ t)) / 2 ^ (8 * k) = v / 2 ^ (8 * k) + x * 2 ^ t := by
  rw [show x * (2 ^ (8 * k) * 2 ^ t) = 2 ^ (8 * k) * (x * 2 ^ t) from by rw [Nat.mul_left_comm], Nat.add_mul_div_left _ _ (Nat.two_pow_pos _)]
 rw [e]
 generalize v / 2 ^ (8 * k) = a at *
 obtain ⟨u, hu⟩ : ∃ u, t + u = 8 := ⟨8 - t, by omega⟩
 have hp : (256 : Nat) = 2 ^ t * 2 ^ u := by rw [← Nat.pow_add, hu]
 have hl : a < 256 := jT ha (by rw [hp]; exact Nat.le_mul_of_pos_right _ (Nat.two_pow_pos _))
 have hm : x * 2 ^ t % 256 = x % 2 ^ u * 2 ^ t := by rw [hp, Nat.mul_comm x, Nat.mul_mod_mul_left, Nat.mul_comm]
 have hlt : a + x * 2 ^ t % 256 < 256 := by
  rw [hm]
  have h1 : x % 2 ^ u + 1 ≤ 2 ^ u := Nat.mod_lt _ (Nat.two_pow_pos _)
  have h3 := Nat.mul_le_mul_right (2 ^ t) h1
  rw [Nat.add_mul, Nat.mul_comm (2 ^ u), ← hp] at h3
  omega
 rw [Nat.mod_eq_of_lt hl]
 have ho := zsI a (x % 2 ^ u) t ha
 rw [← hm] at ho
 rw [ho]
 generalize x * 2 ^ t = y at *
 omega
theorem zsJ (v x i k : Nat) (hv : v < 2 ^ (51 * i)) (h : 51 * i ≤ 8 * k) : zbj v k = 0 ∧ x / 2 ^ (8 * k - 51 * i) % 256 = zbj (v + x * 2 ^ (51 * i)) k := by
 obtain ⟨t, ht⟩ : ∃ t, 8 * k = 51 * i + t := ⟨8 * k - 51 * i, by omega⟩
 unfold zbj
 rw [show 8 * k - 51 * i = t from by omega, ht, Nat.pow_add]
 constructor
 ·rw [Nat.div_eq_of_lt (jT hv (Nat.le_mul_of_pos_right _ (Nat.two_pow_pos _)))]
 ·rw [← Nat.div_div_eq_div_mul, Nat.mul_comm x, Nat.add_mul_div_left _ _ (Nat.two_pow_pos _), Nat.div_eq_of_lt hv, Nat.zero_add]
theorem zqX (v x i k : Nat) (h : 8 * k + 8 ≤ 51 * i) : zbj (v + x * 2 ^ (51 * i)) k = zbj v k := by
 obtain ⟨t, ht⟩ : ∃ t, 51 * i = 8 * k + (8 + t) := ⟨51 * i - 8 * k - 8, by omega⟩
 unfold zbj
 rw [ht, Nat.pow_add, show x * (2 ^ (8 * k) * 2 ^ (8 + t)) = 2 ^ (8 * k) * (x * 2 ^ (8 + t)) from by rw [Nat.mul_left_comm], Nat.add_mul_div_left _ _ (Nat.two_pow_pos _)]
 rw [Nat.pow_add, show x * (2 ^ 8 * 2 ^ t) = 256 * (x * 2 ^ t) from by rw [show (2 : Nat) ^ 8 = 256 from rfl, Nat.mul_left_comm], Nat.add_mul_mod_self_left]
theorem zhE (v k : Nat) (h : v < 2 ^ (8 * k)) : zbj v k = 0 := by
 unfold zbj
 rw [Nat.div_eq_of_lt h]
end
section
open Go.RowKit
theorem zch : zeT Tryz.prog 23 32 := ⟨_, Tryz.underlying23, rfl, by kernel_rfl⟩
theorem zii : zcy Tryz.prog 23 .u8 32 := by unfold zcy; kernel_rfl
def zoD (X : Nat → Nat) (m k q : Nat) : Nat := if q < k then zbj (zbV X (m + 1)) q else zbj (zbV X m) q
theorem zqY (X : Nat → Nat) (m q : Nat) : zbj (zbV X m) q = zoD X m (51 * m / 8) q := by
 unfold zoD
 by_cases h : q < 51 * m / 8
 ·rw [if_pos h, zg7, zqX _ _ _ _ (by omega)]
 ·rw [if_neg h]
theorem zsK (X : Nat → Nat) (hX : ∀ i, i < 5 → X i < 2251799813685248) (m k q : Nat) (hm : m < 5) (hq : q < 32) (hk : 51 * m / 8 + 8 ≤ k ∨ 32 ≤ k) : zoD X m k q = zbj (zbV X (m + 1)) q := by
 unfold zoD
 by_cases h : q < k
 ·rw [if_pos h]
 ·rw [if_neg h, zhE, zhE]
  ·exact jT (zhD X 5 hX (m + 1) (by omega)) (Nat.pow_le_pow_right (by omega) (by omega))
  ·exact jT (zhD X 5 hX m (by omega)) (Nat.pow_le_pow_right (by omega) (by omega))
theorem zgq (a b : Nat) (ha : a < 256) (hb : b < 256) : bits .or .u8 (a : Int) (b : Int) = ((a ||| b : Nat) : Int) := by
 have hx : a ||| b < 2 ^ 8 := Nat.or_lt_two_pow (by omega) (by omega)
 have h1 : (BitVec.ofInt 8 (a : Int)).toNat = a := by
  rw [BitVec.ofInt_natCast, BitVec.toNat_ofNat]; exact Nat.mod_eq_of_lt (by omega)
 have h2 : (BitVec.ofInt 8 (b : Int)).toNat = b := by
  rw [BitVec.ofInt_natCast, BitVec.toNat_ofNat]; exact Nat.mod_eq_of_lt (by omega)
 show IntKind.u8.wrap ((BitVec.ofInt 8 (a : Int) ||| BitVec.ofInt 8 (b : Int)).toNat : Int) = _
 rw [BitVec.toNat_or, h1, h2, IntKind.wrap_u8]
 omega
theorem zix (v k : Nat) : zbj v k < 256 := Nat.mod_lt _ (by omega)
theorem zyd (X : Nat → Nat) (hX : ∀ i, X i < 2251799813685248) (m k : Nat) (hm : m < 5) (h : 8 * k < 51 * m) (h2 : 51 * m / 8 ≤ k) :
  bits .or .u8 ((zoD X m k k : Nat) : Int) (IntKind.u64.wrap (((X m : Nat) : Int) * 2 ^ (-(8 * (k : Int) - 51 * (m : Int))).toNat) % 256) = ((zbj (zbV X (m + 1)) k : Nat) : Int) := by
 have e1 : zoD X m k k = zbj (zbV X m) k := by unfold zoD; rw [if_neg (by omega)]
 have e2 : (-(8 * (k : Int) - 51 * (m : Int))).toNat = 51 * m - 8 * k := by omega
 have e3 : IntKind.u64.wrap (((X m : Nat) : Int) * 2 ^ (51 * m - 8 * k)) % 256 = ((X m * 2 ^ (51 * m - 8 * k) % 256 : Nat) : Int) := by
  rw [show ((X m : Nat) : Int) * 2 ^ (51 * m - 8 * k) = ((X m * 2 ^ (51 * m - 8 * k) : Nat) : Int) from by rw [Int.natCast_mul, Int.natCast_pow]; rfl]
  generalize X m * 2 ^ (51 * m - 8 * k) = y
  rw [IntKind.wrap_u64]
  omega
 rw [e1, e2, e3, zgq _ _ (zix _ _) (Nat.mod_lt _ (by omega)), zvm _ _ _ _ (zhD X 5 (fun i _ => hX i) m (by omega)) h (by omega), zg7]
theorem zvn (X : Nat → Nat) (hX : ∀ i, X i < 2251799813685248) (m k : Nat) (hm : m < 5) (h : 51 * m ≤ 8 * k) :
  bits .or .u8 ((zoD X m k k : Nat) : Int) (((X m : Nat) : Int) / 2 ^ (8 * k - 51 * m) % 256) = ((zbj (zbV X (m + 1)) k : Nat) : Int) := by
 have e1 : zoD X m k k = zbj (zbV X m) k := by unfold zoD; rw [if_neg (by omega)]
 obtain ⟨b1, b2⟩ := zsJ (zbV X m) (X m) m k (zhD X 5 (fun i _ => hX i) m (by omega)) h
 have e3 : (((X m : Nat) : Int) / 2 ^ (8 * k - 51 * m) % 256) = ((X m / 2 ^ (8 * k - 51 * m) % 256 : Nat) : Int) := by
  rw [Int.natCast_emod, Int.natCast_ediv, Int.natCast_pow]; rfl
 rw [e1, b1, e3, zgq _ _ (by omega) (Nat.mod_lt _ (by omega)), Nat.zero_or, b2, zg7]
theorem zpD (X : Nat → Nat) (m k q : Nat) (v : Int) (hv : v = ((zbj (zbV X (m + 1)) k : Nat) : Int)) : upd (fun q => ((zoD X m k q : Nat) : Int)) k v q = ((zoD X m (k + 1) q : Nat) : Int) := by
 unfold upd zoD
 by_cases h : q = k
 ·rw [if_pos h, hv, h, if_pos (by omega)]
 ·rw [if_neg h]
  dsimp only
  by_cases h2 : q < k
  ·rw [if_pos h2, if_pos (by omega)]
  ·rw [if_neg h2, if_neg (by omega)]
attribute [local irreducible] zeu zbV zbj
theorem zsL (F : Nat → Nat) (hF : ∀ i, i < 5 → F i < 9223372036854775808) (w : World) :
  Calls Tryz.prog 73 #[.agg (arr .u64 5 fun i => ((F i : Nat) : Int))] w fun e w' => e = .returned (.agg (arr .u8 32 fun k => ((zbj (zbV (zeu F) 5) k : Nat) : Int))) ∧ Below w.heap.size w w' := by
 go_enter Tryz.func73, Tryz.ntmps73
 obtain ⟨h0, h1, hsz, hb⟩ := zcb w (.cells (arr .u64 5 fun i => ((F i : Nat) : Int)) 69) (.cells (arr .u8 32 fun _ => 0) 23)
 go_wp2_with (first | (refine zae rfl rfl zii ?_) | (refine zab rfl rfl rfl zbc h0 ?_) | (go_at_call 102; fail))
 refine (zsH F hF _).mono ?_
 rintro e w1 ⟨rfl, b1⟩
 have hX := zsG F
 generalize hXe : zeu F = X at hX ⊢
 have hXe' := Lib.hid hXe
 have hX' := Lib.hid hX
 clear hXe hF
 have g0 := zaa b1 (by omega) h0
 have g1 := zaa b1 (by omega) h1
 have hB := hb.trans (b1.mono (by omega))
 clear h0 h1 b1 hb hsz
 go_upto_region 2 with (refine zac rfl rfl rfl rfl zbc g0 ?_)
 have q0 := zan (w := w1) (c' := arr .u64 5 fun i => ((X i : Nat) : Int)) g0
 have q1 := zad (w := w1) (c' := arr .u64 5 fun i => ((X i : Nat) : Int)) (g := w.heap.size) g1 (by omega)
 have hBq := zam hB (g := w.heap.size) (by omega) (arr .u64 5 fun i => ((X i : Nat) : Int))
 clear g0 g1 hB hX
 generalize w1.setRow w.heap.size (arr .u64 5 fun i => ((X i : Nat) : Int)) = w3 at *
 (try simp only [Act.put, jA, jB, jC])
 go_wp2_with (refine zab rfl rfl rfl zbc q0 ?_)
 go_loopg [11] 5 (fun n i wr => ∃ m : Nat, m + n = 5 ∧ i = .int .i64 m ∧ wr.heap[w.heap.size + 1]? = some (.cells (arr .u8 32 fun k => ((zbj (zbV X m) k : Nat) : Int)) 23 (0, 0)) ∧ Below w.heap.size w wr)
 case atStart => exact ⟨0, rfl, rfl, zaf q1 (fun k _ => by rw [zhE _ _ (by unfold zbV; exact Nat.two_pow_pos _)]; rfl), hBq⟩
 case round =>
  clear q0 q1 hBq
  obtain ⟨m, hm, rfl, g1, hB⟩ := hrel
  obtain ⟨go1, rfl⟩ : ∃ x, x = gk := ⟨_, rfl⟩
  have hm' := Lib.hid hm
  clear hm
  by_cases hlt : m < 5
  ·have xb := hX'.out m
   have g2 := zaf g1 (f' := fun q => ((zoD X m (51 * m / 8) q : Nat) : Int)) (fun q _ => by rw [zqY X m q])
   clear g1
   obtain ⟨K, hK1, hK2, hK3⟩ : ∃ K, K ≤ 51 * m / 8 + 8 ∧ K ≤ 32 ∧ (51 * m / 8 + 8 ≤ K ∨ 32 ≤ K) := ⟨min (51 * m / 8 + 8) 32, by omega, by omega, by omega⟩
   go_upto_region 5 with (refine zaR rfl rfl Tryz.underlying69 Tryz.underlying67 rfl zjd rfl rfl (by omega) (by omega) (by omega) ?_)
   (try simp only [Act.put, jA, jB, jC])
   try rw [show decide ((m : Int) < 5) = true from decide_eq_true (by omega)]
   go_wp2
   go_loopg [6] (K - 51 * m / 8) (fun n i wr => ∃ k : Nat, k + n = K ∧ 51 * m / 8 ≤ k ∧ i = .int .i64 k ∧ wr.heap[w.heap.size + 1]? = some (.cells (arr .u8 32 fun q => ((zoD X m k q : Nat) : Int)) 23 (0, 0)) ∧ Below w.heap.size w wr)
   case atStart => exact ⟨51 * m / 8, by omega, by omega, by go_num, g2, hB⟩
   case round =>
    clear g2 hB
    obtain ⟨k, hk, hkm, rfl, g2, hB⟩ := hrel
    have hk' := Lib.hid hk
    clear hk
    by_cases hlk : k < K
    ·have c0 := zaj g2 k (by omega)
     have fz := zaH g2 k
     by_cases hs : 8 * k < 51 * m
     ·go_wp2
      all_goals
       refine zax 10 (by kernel_rfl) (by kernel_rfl) ?_
       (simp only [jH, jI, jF, jG])
       repeat (refine wpStill_step (fun K hK => ?_); go_simp; (try (simp only [↓IntWalk.iteOmega]; go_simp)); (try go_bits); refine hK _ ?_; clear hK K)
       refine wpStill_nil ?_
       go_wp2
       go_roundg (gk - 1)
       case measure => have := hk'.out; omega
       case rel =>
        have hk'' := hk'.out
        exact ⟨k + 1, by omega, by omega, by go_num, zaf (zaL g2 _ _) (fun q _ => zpD X m k q _ (zyd X hX'.out m k hlt hs hkm)), (hB.setCell (by show w.heap.size ≤ w.heap.size + 1; omega) _).drew⟩
     ·go_wp2
      all_goals
       refine zax 9 (by kernel_rfl) (by kernel_rfl) ?_
       (simp only [jH, jI, jF, jG])
       repeat (refine wpStill_step (fun K hK => ?_); go_simp; (try (simp only [↓IntWalk.iteOmega]; go_simp)); (try go_bits); refine hK _ ?_; clear hK K)
       refine wpStill_nil ?_
       go_wp2
       go_roundg (gk - 1)
       case measure => have := hk'.out; omega
       case rel =>
        have hk'' := hk'.out
        exact ⟨k + 1, by omega, by omega, by go_num, zaf (zaL g2 _ _) (fun q _ => zpD X m k q _ (zvn X hX'.out m k hlt (by omega))), (hB.setCell (by show w.heap.size ≤ w.heap.size + 1; omega) _).drew⟩
    ·obtain rfl : k = K := by have := hk'.out; omega
     have g3 := zaf g2 (f' := fun q => ((zbj (zbV X (m + 1)) q : Nat) : Int)) (fun q hq => by rw [zsK X (fun i _ => hX'.out i) m k q hlt hq hK3])
     go_wp2
     all_goals
      go_roundg (go1 - 1)
      case measure => have := hm'.out; omega
      case rel =>
       have hm'' := hm'.out
       exact ⟨m + 1, by omega, by go_num, g3, hB⟩
  ·obtain rfl : m = 5 := by have := hm'.out; omega
   go_wp2_with (first | (refine zab rfl rfl rfl zch g1 ?_) | (refine zac rfl rfl rfl rfl zch g1 ?_))
   exact bodyPost_ret (zaw rfl rfl zch (zan g1)) rfl ⟨by rw [hXe'.out], zam hB (by omega) _⟩
end
section
open Go.RowKit
def kvN (b : Nat → Nat) : Nat → Nat
 | 0 => 0
 | k + 1 => kvN b k + b k * 2 ^ (8 * k)
theorem zd9 (b : Nat → Nat) (k : Nat) : kvN b (k + 1) = kvN b k + b k * 2 ^ (8 * k) := rfl
theorem zkq (b : Nat → Nat) (n : Nat) (hb : ∀ i, i < n → b i < 256) : ∀ k, k ≤ n → kvN b k < 2 ^ (8 * k)
 | 0, _ => by unfold kvN; decide
 | k + 1, h => by
  have h1 := zkq b n hb k (by omega)
  have h2 : b k + 1 ≤ 256 := hb k (by omega)
  have h3 := Nat.mul_le_mul_right (2 ^ (8 * k)) h2
  rw [zd9, show 8 * (k + 1) = 8 + 8 * k from by omega, Nat.pow_add]
  rw [Nat.add_mul] at h3
  have : (2 : Nat) ^ 8 = 256 := by decide
  rw [this]
  omega
theorem zsM (b : Nat → Nat) (i k : Nat) (hk : kvN b k < 2 ^ (8 * k)) (h : 8 * k ≤ 51 * i) : kvN b k / 2 ^ (51 * i) = 0 :=
 Nat.div_eq_of_lt (jT hk (Nat.pow_le_pow_right (by omega) h))
theorem zz8 (b : Nat → Nat) (i k : Nat) (hk : kvN b k < 2 ^ (8 * k)) (h : 8 * k < 51 * i) : b k / 2 ^ (51 * i - 8 * k) = kvN b (k + 1) / 2 ^ (51 * i) := by
 obtain ⟨t, ht⟩ : ∃ t, 51 * i = 8 * k + t := ⟨51 * i - 8 * k, by omega⟩
 rw [show 51 * i - 8 * k = t from by omega, ht, Nat.pow_add, ← Nat.div_div_eq_div_mul, zd9, Nat.mul_comm (b k), Nat.add_mul_div_left _ _ (Nat.two_pow_pos _), Nat.div_eq_of_lt hk, Nat.zero_add]
theorem zye (b : Nat → Nat) (i k : Nat) (hk : kvN b k < 2 ^ (8 * k)) (h : 51 * i ≤ 8 * k) : (kvN b k / 2 ^ (51 * i)) ||| (b k * 2 ^ (8 * k - 51 * i)) = kvN b (k + 1) / 2 ^ (51 * i) := by
 obtain ⟨t, ht⟩ : ∃ t, 8 * k = 51 * i + t := ⟨8 * k - 51 * i, by omega⟩
 have ha : kvN b k / 2 ^ (51 * i) < 2 ^ t := by
  rw [Nat.div_lt_iff_lt_mul (Nat.two_pow_pos _), ← Nat.pow_add, show t + 51 * i = 8 * k from by omega]; exact hk
 rw [show 8 * k - 51 * i = t from by omega, zsI _ _ _ ha, zd9, ht, Nat.pow_add, show b k * (2 ^ (51 * i) * 2 ^ t) = 2 ^ (51 * i) * (b k * 2 ^ t) from by rw [Nat.mul_left_comm], Nat.add_mul_div_left _ _ (Nat.two_pow_pos _)]
theorem zsN (b : Nat → Nat) (i k : Nat) (h : 51 * i + 51 ≤ 8 * k) : ∀ d, kvN b (k + d) / 2 ^ (51 * i) % 2251799813685248 = kvN b k / 2 ^ (51 * i) % 2251799813685248
 | 0 => rfl
 | d + 1 => by
  rw [show k + (d + 1) = k + d + 1 from by omega, zd9, ← zsN b i k h d]
  obtain ⟨t, ht⟩ : ∃ t, 8 * (k + d) = 51 * i + (51 + t) := ⟨8 * (k + d) - 51 * i - 51, by omega⟩
  rw [ht, Nat.pow_add, show b (k + d) * (2 ^ (51 * i) * 2 ^ (51 + t)) = 2 ^ (51 * i) * (b (k + d) * 2 ^ (51 + t)) from by rw [Nat.mul_left_comm], Nat.add_mul_div_left _ _ (Nat.two_pow_pos _)]
  rw [Nat.pow_add, show b (k + d) * (2 ^ 51 * 2 ^ t) = 2251799813685248 * (b (k + d) * 2 ^ t) from by rw [show (2 : Nat) ^ 51 = 2251799813685248 from by decide, Nat.mul_left_comm], Nat.add_mul_mod_self_left]
def ofN (b : Nat → Nat) (i : Nat) : Nat := kvN b 32 / 2 ^ (51 * i) % 2251799813685248
def znj (b : Nat → Nat) (m k q : Nat) : Nat := if q = m then kvN b k / 2 ^ (51 * m) else if q < m then ofN b q else 0
theorem zjg (a : Nat) (h : a < 18446744073709551616) : bits .and .u64 (a : Int) 2251799813685247 = ((a % 2251799813685248 : Nat) : Int) := zk8 a 0 (by omega)
theorem zpE (b : Nat → Nat) (i k : Nat) (hk : kvN b k < 2 ^ (8 * k)) (h : 8 * k ≤ 51 * i + 64) : kvN b k / 2 ^ (51 * i) < 18446744073709551616 := by
 rw [Nat.div_lt_iff_lt_mul (Nat.two_pow_pos _)]
 refine jT hk ?_
 rw [show (18446744073709551616 : Nat) = 2 ^ 64 from by decide, ← Nat.pow_add]
 exact Nat.pow_le_pow_right (by omega) (by omega)
theorem zvo (b : Nat → Nat) (hb : ∀ i, i < 32 → b i < 256) (m k : Nat) (hk : k < 32) (h : 8 * k < 51 * m) :
  bits .or .u64 ((znj b m k m : Nat) : Int) (((b k : Nat) : Int) / 2 ^ (-(8 * (k : Int) - 51 * (m : Int))).toNat) = ((kvN b (k + 1) / 2 ^ (51 * m) : Nat) : Int) := by
 have hl := zkq b 32 hb k (by omega)
 have e1 : znj b m k m = 0 := by unfold znj; rw [if_pos rfl, zsM b m k hl (by omega)]
 have e2 : (-(8 * (k : Int) - 51 * (m : Int))).toNat = 51 * m - 8 * k := by omega
 have e3 : ((b k : Nat) : Int) / 2 ^ (51 * m - 8 * k) = ((b k / 2 ^ (51 * m - 8 * k) : Nat) : Int) := by rw [Int.natCast_ediv, Int.natCast_pow]; rfl
 have hb' := hb k hk
 have hd : b k / 2 ^ (51 * m - 8 * k) ≤ b k := Nat.div_le_self _ _
 rw [e1, e2, e3, bits_or_u64_nat _ _ (by omega) (by omega), Nat.zero_or, zz8 b m k hl h]
theorem zsO (b : Nat → Nat) (hb : ∀ i, i < 32 → b i < 256) (m k : Nat) (hk : k < 32) (h : 51 * m ≤ 8 * k) (h2 : 8 * k ≤ 51 * m + 56) :
  bits .or .u64 ((znj b m k m : Nat) : Int) (IntKind.u64.wrap (((b k : Nat) : Int) * 2 ^ (8 * k - 51 * m))) = ((kvN b (k + 1) / 2 ^ (51 * m) : Nat) : Int) := by
 have hl := zkq b 32 hb k (by omega)
 have e1 : znj b m k m = kvN b k / 2 ^ (51 * m) := by unfold znj; rw [if_pos rfl]
 have hb' := hb k hk
 have hp : b k * 2 ^ (8 * k - 51 * m) < 18446744073709551616 := by
  have h3 : 2 ^ (8 * k - 51 * m) ≤ 2 ^ 56 := Nat.pow_le_pow_right (by omega) (by omega)
  have h4 : b k * 2 ^ (8 * k - 51 * m) ≤ 255 * 2 ^ 56 := Nat.mul_le_mul (by omega) h3
  omega
 have e3 : IntKind.u64.wrap (((b k : Nat) : Int) * 2 ^ (8 * k - 51 * m)) = ((b k * 2 ^ (8 * k - 51 * m) : Nat) : Int) := by
  rw [show ((b k : Nat) : Int) * 2 ^ (8 * k - 51 * m) = ((b k * 2 ^ (8 * k - 51 * m) : Nat) : Int) from by rw [Int.natCast_mul, Int.natCast_pow]; rfl, IntKind.wrap_u64]
  omega
 rw [e1, e3, bits_or_u64_nat _ _ (zpE b m k hl (by omega)) hp, zye b m k hl h]
theorem znk (b : Nat → Nat) (m k q : Nat) (v : Int) (hv : v = ((kvN b (k + 1) / 2 ^ (51 * m) : Nat) : Int)) : upd (fun q => ((znj b m k q : Nat) : Int)) m v q = ((znj b m (k + 1) q : Nat) : Int) := by
 unfold upd znj
 by_cases h : q = m
 ·rw [if_pos h, hv, if_pos h]
 ·rw [if_neg h, if_neg h]; dsimp only; rw [if_neg h]
theorem zqZ (b : Nat → Nat) (hb : ∀ i, i < 32 → b i < 256) (m q : Nat) (hm : m < 5) : (if q < m then ofN b q else 0) = znj b m (51 * m / 8) q := by
 unfold znj
 by_cases h : q = m
 ·rw [if_pos h, if_neg (by omega), zsM b m _ (zkq b 32 hb _ (by omega)) (by omega)]
 ·rw [if_neg h]
theorem zsP (b : Nat → Nat) (m k : Nat) (hm : m < 5) (hk : 51 * m / 8 + 8 ≤ k ∨ 32 ≤ k) (hk2 : k ≤ 32) : kvN b k / 2 ^ (51 * m) % 2251799813685248 = ofN b m := by
 unfold ofN
 have := zsN b m k (by omega) (32 - k)
 rw [show k + (32 - k) = 32 from by omega] at this
 exact this.symm
theorem zvp (b : Nat → Nat) (_hb : ∀ i, i < 32 → b i < 256) (m k q : Nat) (hm : m < 5) (hk : 51 * m / 8 + 8 ≤ k ∨ 32 ≤ k) (hk2 : k ≤ 32) (sm : kvN b k / 2 ^ (51 * m) < 18446744073709551616) :
  upd (fun q => ((znj b m k q : Nat) : Int)) m (bits .and .u64 (((kvN b k : Nat) : Int) / 2 ^ (51 * m)) 2251799813685247) q = ((if q < m + 1 then ofN b q else 0 : Nat) : Int) := by
 have e3 : ((kvN b k : Nat) : Int) / 2 ^ (51 * m) = ((kvN b k / 2 ^ (51 * m) : Nat) : Int) := by rw [Int.natCast_ediv, Int.natCast_pow]; rfl
 rw [e3, zjg _ sm, zsP b m k hm hk hk2]
 unfold upd znj
 by_cases h : q = m
 ·rw [if_pos h, h, if_pos (by omega)]
 ·rw [if_neg h]; dsimp only; rw [if_neg h]
  by_cases h2 : q < m
  ·rw [if_pos h2, if_pos (by omega)]
  ·rw [if_neg h2, if_neg (by omega)]
attribute [local irreducible] kvN ofN
theorem zz9 (b : Nat → Nat) (hb : ∀ i, i < 32 → b i < 256) (w : World) :
  Calls Tryz.prog 42 #[.agg (arr .u8 32 fun i => ((b i : Nat) : Int))] w fun e w' => e = .returned (.agg (arr .u64 5 fun i => ((ofN b i : Nat) : Int))) ∧ Below w.heap.size w w' := by
 go_enter Tryz.func42, Tryz.ntmps42
 obtain ⟨h0, h1, hsz, hbl⟩ := zcb w (.cells (arr .u8 32 fun i => ((b i : Nat) : Int)) 23) (.cells (arr .u64 5 fun _ => 0) 69)
 have hb' := Lib.hid hb
 clear hb
 go_wp2_with (refine zae rfl rfl zga ?_)
 go_loopg [8] 5 (fun n i wr => ∃ m : Nat, m + n = 5 ∧ i = .int .i64 m ∧ wr.heap[w.heap.size]? = some (.cells (arr .u8 32 fun i => ((b i : Nat) : Int)) 23 (0, 0)) ∧ wr.heap[w.heap.size + 1]? = some (.cells (arr .u64 5 fun q => ((if q < m then ofN b q else 0 : Nat) : Int)) 69 (0, 0)) ∧ Below w.heap.size w wr)
 case atStart => exact ⟨0, rfl, rfl, h0, zaf h1 (fun k _ => by rw [if_neg (Nat.not_lt_zero k)]; rfl), hbl⟩
 case round =>
  clear h0 h1 hbl hsz
  obtain ⟨m, hm, rfl, g0, g1, hB⟩ := hrel
  obtain ⟨go1, rfl⟩ : ∃ x, x = gk := ⟨_, rfl⟩
  have hm' := Lib.hid hm
  clear hm
  by_cases hlt : m < 5
  ·have g2 := zaf g1 (f' := fun q => ((znj b m (51 * m / 8) q : Nat) : Int)) (fun q _ => by rw [← zqZ b hb'.out m q hlt])
   clear g1
   obtain ⟨K, hK1, hK2, hK3⟩ : ∃ K, K ≤ 51 * m / 8 + 8 ∧ K ≤ 32 ∧ (51 * m / 8 + 8 ≤ K ∨ 32 ≤ K) := ⟨min (51 * m / 8 + 8) 32, by omega, by omega, by omega⟩
   go_upto_region 4 with (fail)
   (try simp only [Act.put, jA, jB, jC])
   try rw [show decide ((m : Int) < 5) = true from decide_eq_true (by omega)]
   go_wp2
   go_loopg [5] (K - 51 * m / 8) (fun n i wr => ∃ k : Nat, k + n = K ∧ 51 * m / 8 ≤ k ∧ i = .int .i64 k ∧ wr.heap[w.heap.size]? = some (.cells (arr .u8 32 fun i => ((b i : Nat) : Int)) 23 (0, 0)) ∧ wr.heap[w.heap.size + 1]? = some (.cells (arr .u64 5 fun q => ((znj b m k q : Nat) : Int)) 69 (0, 0)) ∧ Below w.heap.size w wr)
   case atStart => exact ⟨51 * m / 8, by omega, by omega, by go_num, g0, g2, hB⟩
   case round =>
    clear g0 g2 hB
    obtain ⟨k, hk, hkm, rfl, g0, g2, hB⟩ := hrel
    have hk' := Lib.hid hk
    clear hk
    by_cases hlk : k < K
    ·have c0 := zaj g2 m (by omega)
     have c1 := zaj g0 k (by omega)
     have bk := hb'.out k (by omega)
     have fz := zaH g2 m
     by_cases hs : 8 * k < 51 * m
     ·go_wp2
      all_goals
       refine zax 9 (by kernel_rfl) (by kernel_rfl) ?_
       (simp only [jH, jI, jF, jG])
       repeat (refine wpStill_step (fun K hK => ?_); go_simp; (try (simp only [↓IntWalk.iteOmega]; go_simp)); (try go_bits); refine hK _ ?_; clear hK K)
       refine wpStill_nil ?_
       go_wp2
       go_roundg (gk - 1)
       case measure => have := hk'.out; omega
       case rel =>
        have hk'' := hk'.out
        exact ⟨k + 1, by omega, by omega, by go_num, zar g0 _ _ (by omega), zaf (zaL g2 _ _) (fun q _ => znk b m k q _ (zvo b hb'.out m k (by omega) hs)), (hB.setCell (by show w.heap.size ≤ w.heap.size + 1; omega) _).drew⟩
     ·go_wp2
      all_goals
       refine zax 8 (by kernel_rfl) (by kernel_rfl) ?_
       (simp only [jH, jI, jF, jG])
       repeat (refine wpStill_step (fun K hK => ?_); go_simp; (try (simp only [↓IntWalk.iteOmega]; go_simp)); (try go_bits); refine hK _ ?_; clear hK K)
       refine wpStill_nil ?_
       go_wp2
       go_roundg (gk - 1)
       case measure => have := hk'.out; omega
       case rel =>
        have hk'' := hk'.out
        exact ⟨k + 1, by omega, by omega, by go_num, zar g0 _ _ (by omega), zaf (zaL g2 _ _) (fun q _ => znk b m k q _ (zsO b hb'.out m k (by omega) (by omega) (by omega))), (hB.setCell (by show w.heap.size ≤ w.heap.size + 1; omega) _).drew⟩
    ·obtain rfl : k = K := by have := hk'.out; omega
     have c0 := zaj g2 m (by omega)
     have fz := zaH g2 m
     have sm := zpE b m k (zkq b 32 hb'.out k hK2) (by omega)
     have e1 : znj b m k m = kvN b k / 2 ^ (51 * m) := by unfold znj; rw [if_pos rfl]
     rw [e1] at c0
     go_wp2
     all_goals
      go_roundg (go1 - 1)
      case measure => have := hm'.out; omega
      case rel =>
       have hm'' := hm'.out
       refine ⟨m + 1, by omega, by go_num, zar g0 _ _ (by omega), zaf (zaL g2 _ _) (fun q _ => ?_), hB.setCell (by show w.heap.size ≤ w.heap.size + 1; omega) _⟩
       exact zvp b hb'.out m k q hlt hK3 hK2 sm
  ·obtain rfl : m = 5 := by have := hm'.out; omega
   have g2 := zaf g1 (f' := fun q => ((ofN b q : Nat) : Int)) (fun q hq => by rw [if_pos hq])
   clear g1
   go_wp2_with (first | (refine zab rfl rfl rfl zbc g2 ?_) | (refine zac rfl rfl rfl rfl zbc g2 ?_))
   exact bodyPost_ret (zaw rfl rfl zbc (zan g2)) rfl ⟨rfl, zam hB (by omega) _⟩
end
section
open Go.RowKit
inductive CPlan where
 | done (p : List (Nat × Bool))
 | fork (p : List (Nat × Bool)) (i : Nat) (pi : CPlan) (j : Nat) (pj : CPlan)
def CPlan.size : CPlan → Nat
 | .done p => p.length
 | .fork p _ pi _ _ => p.length + (pi.size + 1)
def zfT (P : Program) (l : List Oper) (Q : Exit → Act → World → Prop) (N : Nat) (T : Act → World → Prop) : CPlan → Act → World → Prop
 | .done p => wpCan P l.toArray Q N T (canOps l p)
 | .fork p i pi j pj => wpCan P l.toArray Q N (fun a w => wpCan P l.toArray Q N (zfT P l Q N T pi) (canOps l [(i, true)]) a w ∧ wpCan P l.toArray Q N (zfT P l Q N T pj) (canOps l [(j, true)]) a w) (canOps l p)
def zyf (md : Region.Mode) (ops : Array Oper) (n : Nat) : List (Nat × Bool) → Array Bool → Bool
 | [], _ => true
 | (i, false) :: p, listed => decide (i < n) && (Region.ready md ops listed).contains i && Region.free md ops listed i && zyf md ops n p (listed.setIfInBounds i true)
 | (i, true) :: p, listed => decide (i < n) && decide (Region.ready md ops listed = [i]) && zyf md ops n p (listed.setIfInBounds i true)
def aft : List (Nat × Bool) → Array Bool → Array Bool
 | [], listed => listed
 | (i, _) :: p, listed => aft p (listed.setIfInBounds i true)
def zq0 (md : Region.Mode) (ops : Array Oper) (n : Nat) : CPlan → Array Bool → Bool
 | .done p, listed => zyf md ops n p listed && Region.seqB md ops (ops.size - n) n (aft p listed)
 | .fork p i pi j pj, listed => zyf md ops n p listed && decide (Region.ready md ops (aft p listed) = [i, j]) && decide (i < n) && decide (j < n) && decide (pi.size = pj.size) &&
   zq0 md ops n pi ((aft p listed).setIfInBounds i true) && zq0 md ops n pj ((aft p listed).setIfInBounds j true)
section
variable {P : Program} {md : Region.Mode} {Q : Exit → Act → World → Prop} {N n : Nat} {w0 : World} {l : List Oper}
theorem ze3 {T' : Act → World → Prop} {L : Array Bool → Act → World → Prop} (hsel : Region.noSelect l.toArray = true) (hs : Region.sinkB md l.toArray n = true) (hc : Region.chainB md l.toArray n = true) (hn : n < l.length)
  (hdone : ∀ listed a w, L listed a w → ∀ j ∈ Region.ready md l.toArray listed, n ≤ j) (f : Nat) :
  ∀ (p : List (Nat × Bool)) (listed : Array Bool) (a : Act) (w : World), HeadInv md l.toArray n listed → zyf md l.toArray n p listed = true → Keep N w0 w → wpCan P l.toArray Q N T' (canOps l p) a w →
   (∀ a' w', HeadInv md l.toArray n (aft p listed) → Keep N w0 w' → T' a' w' → zcc P md l.toArray Q (Keep N w0) n L f (aft p listed) a' w') →
   zcc P md l.toArray Q (Keep N w0) n L (f + p.length) listed a w
 | [], listed, a, w, inv, _, hk, h, hL => hL a w inv hk h
 | (i, false) :: p, listed, a, w, inv, hB, hk, h, hL => by
  simp only [zyf, Bool.and_eq_true, jS] at hB
  obtain ⟨⟨⟨hin, hr⟩, hf⟩, hB'⟩ := hB
  have hil : i < l.length := by omega
  have ho : l.toArray[i]? = some l[i] := by simp [hil]
  simp only [canOps, jP hil] at h
  obtain ⟨v, hv, hQ, hK⟩ := h
  have hr' : i ∈ Region.ready md l.toArray listed := by simpa using hr
  have hy : YieldsIf P l.toArray (Keep N w0) l[i] v a := by
   rcases hv with ⟨hw, hrun, hfr⟩ | ⟨hw, hv⟩
   ·exact .inl ⟨hw, fun w' hw' => hfr v hrun w' (hk.symm.trans hw')⟩
   ·exact .inr ⟨hw, hv⟩
  exact zdP ho (Region.noSelect_spec hsel) hQ hs hc (by simpa using hn) hin hdone (f + p.length) listed a w inv (Region.free_spec ho hf) hr' hy hk
   (ze3 hsel hs hc hn hdone f p _ _ _ (inv.set hr' hin) hB' hk hK hL)
 | (i, true) :: p, listed, a, w, inv, hB, hk, h, hL => by
  simp only [zyf, Bool.and_eq_true, jS] at hB
  obtain ⟨⟨hin, hr⟩, hB'⟩ := hB
  have hil : i < l.length := by omega
  have ho : l.toArray[i]? = some l[i] := by simp [hil]
  simp only [canOps, jP hil] at h
  have hw : if Region.wanted l[i] (yielded l.toArray a.tmps) then l[i].wp P a w (fun a' w' => Keep N w w' ∧ wpCan P l.toArray Q N T' (canOps l p) a' w') Q else wpCan P l.toArray Q N T' (canOps l p) (a.put l[i].dst undef) w := h
  have hr' : i ∈ Region.ready md l.toArray listed := by rw [hr]; simp
  refine ⟨fun h0 => (by rw [h0] at hr; cases hr), fun j hj => ?_⟩
  rw [hr] at hj
  obtain rfl : j = i := by simpa using hj
  refine ⟨hin, ?_⟩
  unfold wpOp
  simp only [ho]
  split
  ·rename_i hwt
   rw [if_pos hwt] at hw
   exact .inl (Oper.wp_mono (fun a' w' h' => ⟨hk.trans h'.1, ze3 hsel hs hc hn hdone f p _ _ _ (inv.set hr' hin) hB' (hk.trans h'.1) h'.2 hL⟩) hw)
  ·rename_i hwt
   rw [if_neg hwt] at hw
   exact ⟨hk, ze3 hsel hs hc hn hdone f p _ _ _ (inv.set hr' hin) hB' hk hw hL⟩
theorem zgE {T : Act → World → Prop} (hsel : Region.noSelect l.toArray = true) (hs : Region.sinkB md l.toArray n = true) (hc : Region.chainB md l.toArray n = true) (hn : n < l.length) :
  ∀ (p : CPlan) (listed : Array Bool) (a : Act) (w : World), HeadInv md l.toArray n listed → zq0 md l.toArray n p listed = true → Keep N w0 w → zfT P l Q N T p a w →
   zcc P md l.toArray Q (Keep N w0) n (fun listed' a' w' => Region.seqB md l.toArray (l.toArray.size - n) n listed' = true ∧ T a' w') p.size listed a w
 | .done p, listed, a, w, inv, hB, hk, h => by
  simp only [zq0, Bool.and_eq_true] at hB
  have := ze3 hsel hs hc hn (L := fun listed' a' w' => Region.seqB md l.toArray (l.toArray.size - n) n listed' = true ∧ T a' w') (fun listed' a' w' hL => seqB_ready hL.1) 0 p listed a w inv hB.1 hk h (fun a' w' _ _ hT => ⟨hB.2, hT⟩)
  rwa [Nat.zero_add] at this
 | .fork p i pi j pj, listed, a, w, inv, hB, hk, h => by
  simp only [zq0, Bool.and_eq_true, jS] at hB
  obtain ⟨⟨⟨⟨⟨⟨h1, h2⟩, h3⟩, h4⟩, h5⟩, h6⟩, h7⟩ := hB
  unfold CPlan.size
  rw [Nat.add_comm]
  refine ze3 hsel hs hc hn (fun listed' a' w' hL => seqB_ready hL.1) (pi.size + 1) p listed a w inv h1 hk h (fun a' w' inv' hk' hT => ?_)
  have step : ∀ (x : Nat) (px : CPlan), x < n → x ∈ Region.ready md l.toArray (aft p listed) → px.size = pi.size →
    (∀ a w, HeadInv md l.toArray n ((aft p listed).setIfInBounds x true) → Keep N w0 w → zfT P l Q N T px a w → zcc P md l.toArray Q (Keep N w0) n (fun listed' a' w' => Region.seqB md l.toArray (l.toArray.size - n) n listed' = true ∧ T a' w') px.size ((aft p listed).setIfInBounds x true) a w) →
    wpCan P l.toArray Q N (zfT P l Q N T px) (canOps l [(x, true)]) a' w' →
    wpOp P l.toArray Q x (fun a'' w'' => Keep N w0 w'' ∧ zcc P md l.toArray Q (Keep N w0) n (fun listed' a' w' => Region.seqB md l.toArray (l.toArray.size - n) n listed' = true ∧ T a' w') pi.size ((aft p listed).setIfInBounds x true) a'' w'') a' w' := by
   intro x px hx hr hsz ih hw
   have hil : x < l.length := by omega
   have ho : l.toArray[x]? = some l[x] := by simp [hil]
   simp only [canOps, jP hil] at hw
   have hw' : if Region.wanted l[x] (yielded l.toArray a'.tmps) then l[x].wp P a' w' (fun a'' w'' => Keep N w' w'' ∧ zfT P l Q N T px a'' w'') Q else zfT P l Q N T px (a'.put l[x].dst undef) w' := hw
   rw [← hsz]
   unfold wpOp
   simp only [ho]
   split
   ·rename_i hwt
    rw [if_pos hwt] at hw'
    exact .inl (Oper.wp_mono (fun a'' w'' h' => ⟨hk'.trans h'.1, ih _ _ (inv'.set hr hx) (hk'.trans h'.1) h'.2⟩) hw')
   ·rename_i hwt
    rw [if_neg hwt] at hw'
    exact ⟨hk', ih _ _ (inv'.set hr hx) hk' hw'⟩
  have hri : i ∈ Region.ready md l.toArray (aft p listed) := by rw [h2]; simp
  have hrj : j ∈ Region.ready md l.toArray (aft p listed) := by rw [h2]; simp
  refine ⟨fun h0 => (by rw [h0] at h2; cases h2), fun x hx => ?_⟩
  rw [h2] at hx
  simp only [List.mem_cons, List.not_mem_nil, or_false] at hx
  rcases hx with rfl | rfl
  ·exact ⟨h3, step x pi h3 hri rfl (fun a w iv k t => zgE hsel hs hc hn pi _ a w iv h6 k t) hT.1⟩
  ·exact ⟨h4, step x pj h4 hrj h5.symm (fun a w iv k t => zgE hsel hs hc hn pj _ a w iv h7 k t) hT.2⟩
def zAa (md : Region.Mode) (ops : Array Oper) (n : Nat) (p : CPlan) : Bool :=
 Region.noSelect ops && decide (n < ops.size) && decide (p.size = n) && Region.sinkB md ops n && Region.chainB md ops n && zq0 md ops n p (Array.replicate ops.size false)
theorem zj5 {id : Nat} {a : Act} {w : World} {l : List Oper} (N n : Nat) (p : CPlan) (hm : P.follows .mixedOrders = true) (hB : zAa .any l.toArray n p = true)
  (h : zfT P l Q N (fun a' w' => wpList P l.toArray Q (l.drop n) a' w') p a w.drew) : (Code.region id l.toArray true).wp P Q a w := by
 simp only [zAa, Bool.and_eq_true, jS] at hB
 obtain ⟨⟨⟨⟨⟨hsel, hn⟩, hp⟩, hs⟩, hc⟩, hcan⟩ := hB
 have inv0 : HeadInv .any l.toArray n (Array.replicate l.toArray.size false) :=
  ⟨by simp, fun j oj _ hl => (by rw [getD_replicate_false] at hl; cases hl), fun t _ ht => getD_in (by simpa using ht) (getD_replicate_false _ _)⟩
 have H := zgE (md := .any) (w0 := w.drew) hsel hs hc (by simpa using hn) p _ a _ inv0 hcan (Keep.refl _ _) h
 refine wp_region_any hm ?_
 have hdl : (l.drop n).length = l.toArray.size - n := by simp
 have := zbE (g := l.toArray.size - n) (fun listed a' w' hL => by
  have := wpAny_of_seq (md := .any) (Q' := Q) (l.drop n) n listed a' w' (fun j => by simp [List.getElem?_drop]) (by rw [hdl]; exact hL.1) hL.2
  rwa [hdl] at this) _ _ _ _ H
 rw [hp, show n + (l.toArray.size - n) = l.toArray.size by omega] at this
 exact this
end
end
section
open Go.RowKit
theorem za6 {P : Program} {w : World} {fn : Func} {p q : Tmp} {ty : TypeId} {n t g : Nat} {k : IntKind} {f : Nat → Int} {fr : Nat × Nat} {v : Value} (h : fn.results = #[.cell p ty, .tmp q]) {tmps : Array Value} (hp : tmps.getD p undef = .pointer (some ⟨g, 0, none⟩)) (hq : tmps.getD q undef = v)
  (hT : zeT P ty n) (hg : w.heap[g]? = some (.cells (arr k n f) t fr)) : (results fn tmps).run P w = .ok (.tuple #[.agg (arr k n f), v]) w := by
 have hp' : tmps[p]?.getD undef = .pointer (some ⟨g, 0, none⟩) := by simpa using hp
 have hq' : tmps[q]?.getD undef = v := by simpa using hq
 simp [results, h, hp', hq', asAddr, zbM hT hg]
theorem zsQ : Tryz.prog.built 23 [] = some (arr .u8 32 fun _ => 0) := by kernel_rfl
theorem zfk : Tryz.prog.built 69 [] = some (arr .u64 5 fun _ => 0) := by kernel_rfl
attribute [local irreducible] zeu zbV zbj
def zbY (F : Nat → Nat) (k : Nat) : Nat := if okF F 5 then zbj (zbV (zeu F) 5) k else 0
theorem zpF {F : Nat → Nat} (h : okF F 5) (i : Nat) (hi : i < 5) : F i < 9223372036854775808 := by have := h i hi; omega
theorem zoE (F : Nat → Nat) (hF : ∀ i, i < 5 → F i < 18446744073709551616) (w : World) :
  Calls Tryz.prog 49 #[.agg (arr .u64 5 fun i => ((F i : Nat) : Int))] w fun e w' => e = .returned (.tuple #[.agg (arr .u8 32 fun k => ((zbY F k : Nat) : Int)), .int .i64 (if okF F 5 then 0 else 1)]) ∧ Below w.heap.size w w' := by
 go_enter Tryz.func49, Tryz.ntmps49
 obtain ⟨h0, h1, hsz, hb⟩ := zcb w (.cells (arr .u64 5 fun i => ((F i : Nat) : Int)) 69) (.cells (arr .u8 32 fun _ => 0) 23)
 go_upto_region 1 with (refine zae rfl rfl zii ?_)
 generalize (w.alloc (.cells (arr .u64 5 fun i => ((F i : Nat) : Int)) 69)).alloc (.cells (arr .u8 32 fun _ => 0) 23) = wa at *
 (try simp only [Act.put, jA, jB, jC])
 obtain ⟨g2, hz2, bl⟩ := zb6 wa (.cells (arr .u64 5 fun i => ((F i : Nat) : Int)) 69)
 rw [hsz] at g2
 go_wp2_with (first | (refine zab rfl rfl rfl zbc h0 ?_) | (refine zcK rfl rfl Tryz.underlying131 (by simp [Act.eval, Act.put]) (zje fun i => ((F i : Nat) : Int)) ?_) | (go_at_call 72; fail))
 refine (zhB 1 5 rfl (by omega) F hF _ _ _ g2).mono ?_
 rintro e w2 ⟨rfl, b2⟩
 have b3 := bl.trans (b2.mono (by omega))
 have q0 := zaa b3 (by omega) h0
 have q1 := zaa b3 (by omega) h1
 have hB := hb.trans (b3.mono (by omega))
 clear b2 b3 bl g2 h0 h1 hb hz2 hsz
 by_cases hq : okF F 5
 ·rw [show decide (okF F 5) = true from decide_eq_true hq]
  go_wp2_with (first | (refine zab rfl rfl rfl zbc q0 ?_) | (go_at_call 73; fail))
  refine (zsL F (fun i hi => zpF hq i hi) _).mono ?_
  rintro e w4 ⟨rfl, b4⟩
  have e1 := zaa b4 (jM q1) q1
  have hBe := hB.trans (b4.mono hB.size)
  go_wp2_with (refine zac rfl rfl rfl rfl zch e1 ?_)
  refine bodyPost_ret (za6 rfl rfl rfl zch (zan e1)) rfl ⟨?_, zam hBe (by omega) _⟩
  rw [show (arr .u8 32 fun k => ((zbY F k : Nat) : Int)) = arr .u8 32 fun k => ((zbj (zbV (zeu F) 5) k : Nat) : Int) from zcd fun k _ => by unfold zbY; rw [if_pos hq]]
  first | rfl | (rw [if_pos hq]; rfl)
 ·rw [show decide (okF F 5) = false from decide_eq_false hq]
  go_wp2_with (first | (refine za8 rfl (zaJ rfl (by simp [Act.eval, Act.put]) zsQ) ?_) | (refine zac rfl rfl rfl rfl zch q1 ?_))
  refine bodyPost_ret (za6 rfl rfl rfl zch (zan q1)) rfl ⟨?_, zam hB (by omega) _⟩
  rw [show (arr .u8 32 fun k => ((zbY F k : Nat) : Int)) = arr .u8 32 fun _ => 0 from zcd fun k _ => by unfold zbY; rw [if_neg hq]; rfl]
  first | rfl | (rw [if_neg hq]; rfl)
def addN (F G : Nat → Nat) (i : Nat) : Nat := if okF F 5 ∧ okF G 5 then zdq (fun i => F i + G i) i else 0
theorem zyg (F G : Nat → Nat) (hF : ∀ i, i < 5 → F i < 18446744073709551616) (hG : ∀ i, i < 5 → G i < 18446744073709551616) (w : World) :
  Calls Tryz.prog 68 #[.agg (arr .u64 5 fun i => ((F i : Nat) : Int)), .agg (arr .u64 5 fun i => ((G i : Nat) : Int))] w fun e w' => e = .returned (.tuple #[.agg (arr .u64 5 fun k => ((addN F G k : Nat) : Int)), .int .i64 (if okF F 5 ∧ okF G 5 then 0 else 1)]) ∧ Below w.heap.size w w' := by
 go_enter Tryz.func68, Tryz.ntmps68
 obtain ⟨h0, h1, h2, hsz, hb⟩ := zdb w (.cells (arr .u64 5 fun i => ((F i : Nat) : Int)) 69) (.cells (arr .u64 5 fun i => ((G i : Nat) : Int)) 69) (.cells (arr .u64 5 fun _ => 0) 69)
 go_upto_region 1 with (refine zae rfl rfl zga ?_)
 generalize ((w.alloc (.cells (arr .u64 5 fun i => ((F i : Nat) : Int)) 69)).alloc (.cells (arr .u64 5 fun i => ((G i : Nat) : Int)) 69)).alloc (.cells (arr .u64 5 fun _ => 0) 69) = wa at *
 (try simp only [Act.put, jA, jB, jC])
 obtain ⟨g3, hz2, bl⟩ := zb6 wa (.cells (arr .u64 10 fun i => ((zbW F G i : Nat) : Int)) 69)
 rw [hsz] at g3
 go_wp2_with (first | (refine zab rfl rfl rfl zbc h0 ?_) | (refine zab rfl rfl rfl zbc h1 ?_) | (refine zcK rfl rfl Tryz.underlying131 (by simp [Act.eval, Act.put]) (zjf F G) ?_) | (go_at_call 72; fail))
 refine (zhB 2 10 rfl (by omega) (zbW F G) (fun i hi => zoC F G _ hF hG i hi) _ _ _ g3).mono ?_
 rintro e w2 ⟨rfl, b2⟩
 have b3 := bl.trans (b2.mono (by omega))
 have q0 := zaa b3 (by omega) h0
 have q1 := zaa b3 (by omega) h1
 have q2 := zaa b3 (by omega) h2
 have hB := hb.trans (b3.mono (by omega))
 clear b2 b3 bl g3 h0 h1 h2 hb hz2 hsz
 by_cases hq : okF F 5 ∧ okF G 5
 ·rw [show decide (okF (zbW F G) 10) = true from decide_eq_true ((zhC F G).2 hq)]
  have hq' := Lib.hid hq
  go_wp2
  go_loopg [13] 5 (fun n i wr => ∃ m : Nat, m + n = 5 ∧ i = .int .i64 m ∧ wr.heap[w.heap.size]? = some (.cells (arr .u64 5 fun i => ((if i < m then F i + G i else F i : Nat) : Int)) 69 (0, 0)) ∧
   wr.heap[w.heap.size + 1]? = some (.cells (arr .u64 5 fun i => ((G i : Nat) : Int)) 69 (0, 0)) ∧ wr.heap[w.heap.size + 1 + 1]? = some (.cells (arr .u64 5 fun _ => 0) 69 (0, 0)) ∧ Below w.heap.size w wr)
  case atStart => exact ⟨0, rfl, rfl, zaf q0 (fun i _ => by rw [if_neg (Nat.not_lt_zero i)]), q1, q2, hB⟩
  case round =>
   clear q0 q1 q2 hB
   obtain ⟨m, hm, rfl, q0, q1, q2, hB⟩ := hrel
   have hm' := Lib.hid hm
   clear hm
   by_cases hlt : m < 5
   ·have f1 := hq'.out.1 m hlt
    have f2 := hq'.out.2 m hlt
    have c0 := zaj q0 m hlt
    have c1 := zaj q1 m hlt
    have fz := zaH q0 m
    simp only [Nat.lt_irrefl, if_false] at c0
    go_wp2
    refine zax 8 (by kernel_rfl) (by kernel_rfl) ?_
    (simp only [jH, jI, jF, jG])
    repeat (refine wpStill_step (fun K hK => ?_); go_simp; (try (simp only [↓IntWalk.iteOmega]; go_simp)); (try go_bits); refine hK _ ?_; clear hK K)
    refine wpStill_nil ?_
    go_wp2
    go_roundg (gk - 1)
    case measure => have := hm'.out; omega
    case rel =>
     have hm'' := hm'.out
     refine ⟨m + 1, by omega, by go_num, zaf (zaL q0 m _) (fun i _ => ?_), zar q1 _ _ (by omega), zar q2 _ _ (by omega), (hB.setCell (jV _) _).drew⟩
     unfold upd
     by_cases h : i = m
     ·rw [if_pos h, h, if_pos (by omega)]; rfl
     ·rw [if_neg h]
      dsimp only
      by_cases h2 : i < m
      ·rw [if_pos h2, if_pos (by omega)]
      ·rw [if_neg h2, if_neg (by omega)]
   ·obtain rfl : m = 5 := by have := hm'.out; omega
    have p0 := zaf (f' := fun i => ((F i + G i : Nat) : Int)) q0 (fun i hi => by rw [if_pos hi])
    clear q0
    go_wp2_with (first | (refine zab rfl rfl rfl zbc p0 ?_) | (go_at_call 98; fail))
    refine (zfS (fun i => F i + G i) (fun i hi => by have := hq'.out.1 i hi; have := hq'.out.2 i hi; show F i + G i < _; omega) _).mono ?_
    rintro e w4 ⟨rfl, b4⟩
    have e2 := zaa b4 (jM q2) q2
    have hBe := hB.trans (b4.mono hB.size)
    go_wp2_with (refine zac rfl rfl rfl rfl zbc e2 ?_)
    refine bodyPost_ret (za6 rfl rfl rfl zbc (zan e2)) rfl ⟨?_, zam hBe (by omega) _⟩
    rw [show (arr .u64 5 fun k => ((addN F G k : Nat) : Int)) = arr .u64 5 fun k => ((zdq (fun i => F i + G i) k : Nat) : Int) from zcd fun k _ => by unfold addN; rw [if_pos hq'.out]]
    first | rfl | (rw [if_pos hq'.out]; rfl)
 ·rw [show decide (okF (zbW F G) 10) = false from decide_eq_false fun h => hq ((zhC F G).1 h)]
  go_wp2_with (first | (refine za8 rfl (zaJ rfl (by simp [Act.eval, Act.put]) zfk) ?_) | (refine zac rfl rfl rfl rfl zbc q2 ?_))
  refine bodyPost_ret (za6 rfl rfl rfl zbc (zan q2)) rfl ⟨?_, zam hB (by omega) _⟩
  rw [show (arr .u64 5 fun k => ((addN F G k : Nat) : Int)) = arr .u64 5 fun _ => 0 from zcd fun k _ => by unfold addN; rw [if_neg hq]; rfl]
  first | rfl | (rw [if_neg hq]; rfl)
end
section
open Go.RowKit
namespace M64
theorem maskN (a : Nat) (ha : a < 18446744073709551616) : bits .and .u64 (a : Int) 4294967295 = ((a % 4294967296 : Nat) : Int) := by
 have h := bits_and_u64_nat a 4294967295 ha (by omega)
 have e : a &&& 4294967295 = a % 4294967296 := Nat.and_two_pow_sub_one_eq_mod a 32
 rw [e] at h
 exact h
theorem divN (a : Nat) : (a : Int) / 4294967296 = ((a / 4294967296 : Nat) : Int) := by omega
theorem mulN (a b : Nat) : (a : Int) * (b : Int) = ((a * b : Nat) : Int) := (Int.natCast_mul a b).symm
theorem addN (a b : Nat) : (a : Int) + (b : Int) = ((a + b : Nat) : Int) := (Int.natCast_add a b).symm
theorem wrapN (a : Nat) (ha : a < 18446744073709551616) : IntKind.u64.wrap (a : Int) = (a : Int) := by rw [IntKind.wrap_u64]; omega
theorem wrapM (a : Nat) : IntKind.u64.wrap (a : Int) = ((a % 18446744073709551616 : Nat) : Int) := by rw [IntKind.wrap_u64]; omega
end M64
theorem znm (x y : Nat) (hx : x < 18446744073709551616) (hy : y < 18446744073709551616) (w : World) :
  Calls Tryz.prog 104 #[.int .u64 x, .int .u64 y] w fun e w' => e = .returned (.tuple #[.int .u64 ((x * y / 18446744073709551616 : Nat) : Int), .int .u64 ((x * y % 18446744073709551616 : Nat) : Int)]) ∧ w = w' := by
 obtain ⟨bd, bt, bw, hhi⟩ := Lib.mul64_hi x y hx hy
 have ba := Lib.half_mul_le (a := x / 4294967296) (b := y / 4294967296) (by omega) (by omega)
 have bb := Lib.half_mul_le (a := x / 4294967296) (b := y % 4294967296) (by omega) (by omega)
 have bc := Lib.half_mul_le (a := x % 4294967296) (b := y / 4294967296) (by omega) (by omega)
 have ba' : x / 4294967296 * (y / 4294967296) < 18446744073709551616 := by omega
 have bb' : x / 4294967296 * (y % 4294967296) < 18446744073709551616 := by omega
 have bc' : x % 4294967296 * (y / 4294967296) < 18446744073709551616 := by omega
 have bh1 : x / 4294967296 * (y / 4294967296) + (x / 4294967296 * (y % 4294967296) + x % 4294967296 * (y % 4294967296) / 4294967296) / 4294967296 < 18446744073709551616 := by omega
 have bh : x / 4294967296 * (y / 4294967296) + (x / 4294967296 * (y % 4294967296) + x % 4294967296 * (y % 4294967296) / 4294967296) / 4294967296 + ((x / 4294967296 * (y % 4294967296) + x % 4294967296 * (y % 4294967296) / 4294967296) % 4294967296 + x % 4294967296 * (y / 4294967296)) / 4294967296 < 18446744073709551616 := by omega
 go_enter Tryz.func104, Tryz.ntmps104
 go_wp2
 simp only [M64.maskN x hx, M64.maskN y hy, M64.divN, M64.mulN, M64.addN, M64.wrapN _ bd, M64.wrapN _ bb', M64.wrapN _ bt, M64.maskN _ bt, M64.wrapN _ bc', M64.wrapN _ bw, M64.wrapN _ ba', M64.wrapN _ bh1, M64.wrapN _ bh, M64.wrapM (x * y)]
 rw [hhi]
 go_ret2
 exact ⟨rfl, rfl⟩
theorem znn (x y : Nat) (w : World) :
  (callFunc 105 #[.int .u64 (x : Int), .int .u64 (y : Int), .int .u64 0]).run Tryz.prog w =
   .ok (.value (.tuple #[.int .u64 (((x + y) % 18446744073709551616 : Nat) : Int), .int .u64 (((x + y) / 18446744073709551616 : Nat) : Int)])) w := by
 rw [run_callFunc_extern Tryz.func105 (by kernel_rfl) (by kernel_rfl) (by kernel_rfl) (e := add64Entry) (by kernel_rfl), run_add64 x y 0 (by omega) (by omega) (by omega) (by omega)]
 simp only [Result.andThen]
 congr 5 <;> omega
theorem zgr : zeT Tryz.prog 136 2 := ⟨_, Tryz.underlying136, rfl, by kernel_rfl⟩
theorem zwX : zcy Tryz.prog 136 .u64 2 := by unfold zcy; kernel_rfl
def hlN (v : Nat) (i : Nat) : Nat := if i = 0 then v / 18446744073709551616 else v % 18446744073709551616
theorem zq1 (x y : Int) : Tryz.prog.built 136 [(0, .int .u64 x), (1, .int .u64 y)] = some (arr .u64 2 fun i => if i = 0 then x else y) := by kernel_rfl
theorem zk9 (v a b : Nat) (ha : a < 18446744073709551616) (hb : b < 18446744073709551616) (hv : v + a * b < 340282366920938463463374607431768211456) (w : World) :
  Calls Tryz.prog 103 #[.agg (arr .u64 2 fun i => ((hlN v i : Nat) : Int)), .int .u64 a, .int .u64 b] w fun e w' => e = .returned (.agg (arr .u64 2 fun i => ((hlN (v + a * b) i : Nat) : Int))) ∧ Below w.heap.size w w' := by
 obtain ⟨p, hp⟩ : ∃ p, p = a * b := ⟨_, rfl⟩
 rw [← hp] at hv ⊢
 have Hp := Lib.hid hp
 clear hp
 go_enter Tryz.func103, Tryz.ntmps103
 obtain ⟨g0, g1, hz, hb0⟩ := zcb w (.cells (arr .u64 2 fun i => ((hlN v i : Nat) : Int)) 136) (.cells (arr .u64 2 fun _ => 0) 136)
 go_upto_region 1 with (refine zae rfl rfl zwX ?_)
 generalize (w.alloc (.cells (arr .u64 2 fun i => ((hlN v i : Nat) : Int)) 136)).alloc (.cells (arr .u64 2 fun _ => 0) 136) = wa at *
 (try simp only [Act.put, jA, jB, jC])
 go_wp2_with (go_at_call 104; fail)
 refine (znm a b ha hb _).mono ?_
 rintro e w1 ⟨rfl, rfl⟩
 rw [← Hp.out]
 obtain ⟨ph, hph⟩ : ∃ x, x = p / 18446744073709551616 := ⟨_, rfl⟩
 obtain ⟨pl, hpl⟩ : ∃ x, x = p % 18446744073709551616 := ⟨_, rfl⟩
 obtain ⟨vh, hvh⟩ : ∃ x, x = v / 18446744073709551616 := ⟨_, rfl⟩
 obtain ⟨vl, hvl⟩ : ∃ x, x = v % 18446744073709551616 := ⟨_, rfl⟩
 obtain ⟨so, hso⟩ : ∃ x, x = (pl + vl) / 18446744073709551616 := ⟨_, rfl⟩
 obtain ⟨sl, hsl⟩ : ∃ x, x = (pl + vl) % 18446744073709551616 := ⟨_, rfl⟩
 have c0 : wa.cell? ⟨w.heap.size, 0, none⟩ = some (.int .u64 (vh : Int)) := by rw [hvh]; exact zaj g0 0 (by omega)
 have c1 : wa.cell? ⟨w.heap.size, 1, none⟩ = some (.int .u64 (vl : Int)) := by rw [hvl]; exact zaj g0 1 (by omega)
 have ra := znn pl vl
 rw [← hso, ← hsl] at ra
 rw [← hph, ← hpl]
 have e0 : sl = (v + p) % 18446744073709551616 := by omega
 have e1 : vh + ph + so = (v + p) / 18446744073709551616 := by omega
 have b1 : vh + ph + so < 18446744073709551616 := by omega
 have E0 := Lib.hid e0
 have E1 := Lib.hid e1
 clear e0 e1 hph hpl hvh hvl hso hsl
 go_wp2_with (first | (refine zhQ rfl rfl (by simp [Act.eval, Act.put]) (zq1 _ _) ?_) | (refine zac (f' := fun i => if i = 0 then ((vh : Int) + ph + so) else (sl : Int)) rfl rfl rfl rfl zgr g1 ?_))
 refine bodyPost_ret (zaw rfl rfl zgr (zan g1)) rfl ⟨?_, zam hb0 (by omega) _⟩
 rw [zcd (f := fun i => ((hlN (v + p) i : Nat) : Int)) (g := fun i => if i = 0 then ((vh : Int) + ph + so) else (sl : Int)) (fun i _ => by
  unfold hlN
  split
  ·rw [← E1.out]; omega
  ·rw [← E0.out])]
end
section
def pN : Nat := 57896044618658097711785492504343953926634992332820282019728792003956564819949
theorem zbh (X : Nat → Nat) : zbV X 5 = X 0 + X 1 * 2251799813685248 + X 2 * 5070602400912917605986812821504 + X 3 * 11417981541647679048466287755595961091061972992 + X 4 * 25711008708143844408671393477458601640355247900524685364822016 := by
 simp [zbV]
theorem zvq (F : Nat → Nat) : ovN F 1 = F 0 / 2251799813685248 ∧ ovN F 2 = (F 1 + ovN F 1) / 2251799813685248 ∧ ovN F 3 = (F 2 + ovN F 2) / 2251799813685248 ∧ ovN F 4 = (F 3 + ovN F 3) / 2251799813685248 ∧ ovN F 5 = (F 4 + ovN F 4) / 2251799813685248 := by
 refine ⟨?_, rfl, rfl, rfl, rfl⟩
 show (F 0 + 0) / 2251799813685248 = _
 rw [Nat.add_zero]
theorem zvr (F : Nat → Nat) : loN F 0 = F 0 % 2251799813685248 ∧ loN F 1 = (F 1 + ovN F 1) % 2251799813685248 ∧ loN F 2 = (F 2 + ovN F 2) % 2251799813685248 ∧ loN F 3 = (F 3 + ovN F 3) % 2251799813685248 ∧ loN F 4 = (F 4 + ovN F 4) % 2251799813685248 := by
 refine ⟨?_, rfl, rfl, rfl, rfl⟩
 show (F 0 + 0) % 2251799813685248 = _
 rw [Nat.add_zero]
theorem zsR (F : Nat → Nat) : zbV (loN F) 5 + ovN F 5 * 57896044618658097711785492504343953926634992332820282019728792003956564819968 = zbV F 5 := by
 obtain ⟨o1, o2, o3, o4, o5⟩ := zvq F
 obtain ⟨l0, l1, l2, l3, l4⟩ := zvr F
 rw [zbh, zbh, l0, l1, l2, l3, l4]
 generalize ovN F 5 = u5 at *
 generalize ovN F 4 = u4 at *
 generalize ovN F 3 = u3 at *
 generalize ovN F 2 = u2 at *
 generalize ovN F 1 = u1 at *
 generalize F 0 = a0 at *
 generalize F 1 = a1 at *
 generalize F 2 = a2 at *
 generalize F 3 = a3 at *
 generalize F 4 = a4 at *
 omega
theorem zjh (F : Nat → Nat) : zbV (zdq F) 5 + ovN F 5 * pN = zbV F 5 := by
 have h := zsR F
 rw [zbh] at h
 rw [zbh]
 have c0 : zdq F 0 = loN F 0 + 19 * ovN F 5 := rfl
 have c1 : zdq F 1 = loN F 1 := rfl
 have c2 : zdq F 2 = loN F 2 := rfl
 have c3 : zdq F 3 = loN F 3 := rfl
 have c4 : zdq F 4 = loN F 4 := rfl
 rw [c0, c1, c2, c3, c4]
 unfold pN
 omega
theorem zvs (F : Nat → Nat) : quN F 1 = (F 0 + 19) / 2251799813685248 ∧ quN F 2 = (F 1 + quN F 1) / 2251799813685248 ∧ quN F 3 = (F 2 + quN F 2) / 2251799813685248 ∧ quN F 4 = (F 3 + quN F 3) / 2251799813685248 ∧ quN F 5 = (F 4 + quN F 4) / 2251799813685248 := ⟨rfl, rfl, rfl, rfl, rfl⟩
theorem zAb (G : Nat → Nat) : quN G 5 = (zbV G 5 + 19) / 57896044618658097711785492504343953926634992332820282019728792003956564819968 := by
 obtain ⟨o1, o2, o3, o4, o5⟩ := zvs G
 rw [zbh]
 generalize quN G 5 = u5 at *
 generalize quN G 4 = u4 at *
 generalize quN G 3 = u3 at *
 generalize quN G 2 = u2 at *
 generalize quN G 1 = u1 at *
 generalize G 0 = a0 at *
 generalize G 1 = a1 at *
 generalize G 2 = a2 at *
 generalize G 3 = a3 at *
 generalize G 4 = a4 at *
 omega
theorem zAc (G : Nat → Nat) (h : zbV G 5 < 2 * pN) : zbV (loN (upN G)) 5 = zbV G 5 % pN := by
 have h1 := zsR (upN G)
 have h2 := zAb G
 have h3 : zbV (upN G) 5 = zbV G 5 + 19 * quN G 5 := by
  rw [zbh, zbh]
  have c0 : upN G 0 = G 0 + 19 * quN G 5 := rfl
  have c1 : upN G 1 = G 1 := rfl
  have c2 : upN G 2 = G 2 := rfl
  have c3 : upN G 3 = G 3 := rfl
  have c4 : upN G 4 = G 4 := rfl
  rw [c0, c1, c2, c3, c4]
  omega
 have h4 : zbV (loN (upN G)) 5 < 2 ^ (51 * 5) := zhD _ 5 (fun i _ => Nat.mod_lt _ (by omega)) 5 (jV _)
 have h5 : (2 : Nat) ^ (51 * 5) = 57896044618658097711785492504343953926634992332820282019728792003956564819968 := by decide
 rw [h5] at h4
 generalize zbV (loN (upN G)) 5 = r at *
 generalize ovN (upN G) 5 = o at *
 generalize zbV (upN G) 5 = s at *
 generalize quN G 5 = q at *
 generalize zbV G 5 = v at *
 unfold pN at *
 by_cases hv : v < 57896044618658097711785492504343953926634992332820282019728792003956564819949
 ·rw [Nat.mod_eq_of_lt hv]
  have hq : q = 0 := by omega
  subst hq
  omega
 ·have hm : v % 57896044618658097711785492504343953926634992332820282019728792003956564819949 = v - 57896044618658097711785492504343953926634992332820282019728792003956564819949 := by
   rw [Nat.mod_eq_sub_mod (by omega), Nat.mod_eq_of_lt (by omega)]
  have hq : q = 1 := by omega
  subst hq
  rw [hm]
  have ho : o = 1 := by omega
  subst ho
  omega
theorem zAd (F : Nat → Nat) (hF : ∀ i, i < 5 → F i < 9223372036854775808) : zbV (zdq (zdq F)) 5 < 2 * pN := by
 have a0 := zdr (zdq F) (fun i hi => by have := zdr F hF i hi; omega) 0 (by omega)
 have a1 := zdr (zdq F) (fun i hi => by have := zdr F hF i hi; omega) 1 (by omega)
 have a2 := zdr (zdq F) (fun i hi => by have := zdr F hF i hi; omega) 2 (by omega)
 have a3 := zdr (zdq F) (fun i hi => by have := zdr F hF i hi; omega) 3 (by omega)
 have a4 := zdr (zdq F) (fun i hi => by have := zdr F hF i hi; omega) 4 (by omega)
 rw [zbh]
 unfold pN
 omega
theorem zsS (F : Nat → Nat) (hF : ∀ i, i < 5 → F i < 9223372036854775808) : zbV (zeu F) 5 = zbV F 5 % pN := by
 show zbV (loN (upN (zdq (zdq F)))) 5 = _
 rw [zAc _ (zAd F hF)]
 have h1 := zjh F
 have h2 := zjh (zdq F)
 rw [← h1, ← h2, Nat.add_mul_mod_self_right, Nat.add_mul_mod_self_right]
end
section
theorem zji (b c : Nat → Nat) : ∀ k, (∀ i, i < k → b i = c i) → kvN b k = kvN c k
 | 0, _ => rfl
 | k + 1, h => by rw [zd9, zd9, zji b c k (fun i hi => h i (by omega)), h k (by omega)]
theorem zpG (v : Nat) : ∀ k, kvN (zbj v) k = v % 2 ^ (8 * k)
 | 0 => by unfold kvN; rw [Nat.mul_zero, Nat.pow_zero, Nat.mod_one]
 | k + 1 => by
  rw [zd9, zpG v k, show 8 * (k + 1) = 8 * k + 8 from by omega, Nat.pow_add, Nat.mod_mul]
  unfold zbj
  rw [Nat.mul_comm (v / 2 ^ (8 * k) % 256)]
def zA7 (v i : Nat) : Nat := v / 2 ^ (51 * i) % 2251799813685248
theorem zyh (v : Nat) : zbV (zA7 v) 5 = v % 57896044618658097711785492504343953926634992332820282019728792003956564819968 := by
 rw [zbh]
 unfold zA7
 rw [show (2 : Nat) ^ (51 * 0) = 1 from by decide, show (2 : Nat) ^ (51 * 1) = 2251799813685248 from by decide, show (2 : Nat) ^ (51 * 2) = 5070602400912917605986812821504 from by decide, show (2 : Nat) ^ (51 * 3) = 11417981541647679048466287755595961091061972992 from by decide, show (2 : Nat) ^ (51 * 4) = 25711008708143844408671393477458601640355247900524685364822016 from by decide]
 omega
theorem zyi (b : Nat → Nat) (i : Nat) : ofN b i = zA7 (kvN b 32) i := rfl
end
section
def zcx (F G : Nat → Nat) (n c : Nat) : Nat := if (n / 5 + n % 5) % 5 = c then F (n / 5) * (if 5 ≤ n / 5 + n % 5 then 19 * G (n % 5) else G (n % 5)) else 0
def zea (F G : Nat → Nat) : Nat → Nat → Nat
 | 0, _ => 0
 | n + 1, c => zea F G n c + zcx F G n c
theorem zjj (F G : Nat → Nat) (n c : Nat) : zea F G (n + 1) c = zea F G n c + zcx F G n c := rfl
theorem zyj (F G : Nat → Nat) (hF : ∀ i, i < 5 → F i < 4503599627370496) (hG : ∀ i, i < 5 → G i < 4503599627370496) (n c : Nat) (hn : n < 25) :
  zcx F G n c ≤ 385365782469381738054997774434304 := by
 unfold zcx
 have f := hF (n / 5) (by omega)
 have g := hG (n % 5) (by omega)
 split
 ·have : F (n / 5) * (if 5 ≤ n / 5 + n % 5 then 19 * G (n % 5) else G (n % 5)) ≤ 4503599627370496 * (19 * 4503599627370496) := Nat.mul_le_mul (by omega) (by split <;> omega)
  omega
 ·omega
theorem zsT (F G : Nat → Nat) (hF : ∀ i, i < 5 → F i < 4503599627370496) (hG : ∀ i, i < 5 → G i < 4503599627370496) (c : Nat) : ∀ n, n ≤ 25 → zea F G n c ≤ n * 385365782469381738054997774434304
 | 0, _ => by unfold zea; omega
 | n + 1, h => by
  have := zsT F G hF hG c n (by omega)
  have := zyj F G hF hG n c (by omega)
  rw [zjj]; omega
theorem zvt (a b0 b1 b2 b3 b4 c1 c2 c3 c4 : Nat) : a * (b0 + b1 * c1 + b2 * c2 + b3 * c3 + b4 * c4) = a * b0 + a * b1 * c1 + a * b2 * c2 + a * b3 * c3 + a * b4 * c4 := by
 simp only [Nat.mul_add, Nat.mul_assoc]
theorem ziy (a c b0 b1 b2 b3 b4 c1 c2 c3 c4 : Nat) : a * c * (b0 + b1 * c1 + b2 * c2 + b3 * c3 + b4 * c4) = a * b0 * c + a * b1 * (c * c1) + a * b2 * (c * c2) + a * b3 * (c * c3) + a * b4 * (c * c4) := by
 rw [Nat.mul_add, Nat.mul_add, Nat.mul_add, Nat.mul_add, Nat.mul_mul_mul_comm a c b1, Nat.mul_mul_mul_comm a c b2, Nat.mul_mul_mul_comm a c b3, Nat.mul_mul_mul_comm a c b4, Nat.mul_right_comm a c b0]
theorem zyk (F G : Nat → Nat) : ∃ q, zbV F 5 * zbV G 5 = zbV (zea F G 25) 5 + q * pN := by
 refine ⟨?_, ?_⟩
 ·exact (F 1 * G 4 + F 2 * G 3 + F 3 * G 2 + F 4 * G 1) + (F 2 * G 4 + F 3 * G 3 + F 4 * G 2) * 2251799813685248 + (F 3 * G 4 + F 4 * G 3) * 5070602400912917605986812821504 + (F 4 * G 4) * 11417981541647679048466287755595961091061972992
 ·rw [zbh, zbh, zbh]
  have e : ∀ c, zea F G 25 c = zcx F G 0 c + zcx F G 1 c + zcx F G 2 c + zcx F G 3 c + zcx F G 4 c + zcx F G 5 c + zcx F G 6 c + zcx F G 7 c + zcx F G 8 c + zcx F G 9 c + zcx F G 10 c + zcx F G 11 c + zcx F G 12 c + zcx F G 13 c + zcx F G 14 c + zcx F G 15 c + zcx F G 16 c + zcx F G 17 c + zcx F G 18 c + zcx F G 19 c + zcx F G 20 c + zcx F G 21 c + zcx F G 22 c + zcx F G 23 c + zcx F G 24 c := by
   intro c; simp only [zea]; omega
  have e0 : zea F G 25 0 = F 0 * G 0 + 19 * (F 1 * G 4 + F 2 * G 3 + F 3 * G 2 + F 4 * G 1) := by rw [e]; simp [zcx]; simp only [Nat.mul_left_comm _ 19 _]; omega
  have e1 : zea F G 25 1 = F 0 * G 1 + F 1 * G 0 + 19 * (F 2 * G 4 + F 3 * G 3 + F 4 * G 2) := by rw [e]; simp [zcx]; simp only [Nat.mul_left_comm _ 19 _]; omega
  have e2 : zea F G 25 2 = F 0 * G 2 + F 1 * G 1 + F 2 * G 0 + 19 * (F 3 * G 4 + F 4 * G 3) := by rw [e]; simp [zcx]; simp only [Nat.mul_left_comm _ 19 _]; omega
  have e3 : zea F G 25 3 = F 0 * G 3 + F 1 * G 2 + F 2 * G 1 + F 3 * G 0 + 19 * (F 4 * G 4) := by rw [e]; simp [zcx, Nat.mul_left_comm _ 19 _]
  have e4 : zea F G 25 4 = F 0 * G 4 + F 1 * G 3 + F 2 * G 2 + F 3 * G 1 + F 4 * G 0 := by rw [e]; simp [zcx]
  rw [e0, e1, e2, e3, e4]
  unfold pN
  rw [Nat.add_mul, Nat.add_mul, Nat.add_mul, Nat.add_mul, zvt, ziy, ziy, ziy, ziy]
  omega
attribute [local irreducible] zea
def zjk (V : Nat → Nat) (i : Nat) : Nat := if i = 0 then (19 * ovN V 5 + loN V 0) % 2251799813685248 else if i = 1 then loN V 1 + (19 * ovN V 5 + loN V 0) / 2251799813685248 else loN V i
theorem zvu (V : Nat → Nat) : zbV (zjk V) 5 + ovN V 5 * pN = zbV V 5 := by
 have h := zsR V
 rw [zbh] at h
 rw [zbh, ← h]
 unfold zjk pN
 simp only [if_true, show (1 : Nat) ≠ 0 from by omega, show (2 : Nat) ≠ 0 from by omega, show (2 : Nat) ≠ 1 from by omega, show (3 : Nat) ≠ 0 from by omega, show (3 : Nat) ≠ 1 from by omega, show (4 : Nat) ≠ 0 from by omega, show (4 : Nat) ≠ 1 from by omega, if_false]
 omega
theorem zsU (V : Nat → Nat) (hV : ∀ i, i < 5 → V i < 10384593717069655257060992658440192) : ∀ m, m ≤ 5 → ovN V m < 9223372036854775808
 | 0, _ => by unfold ovN; omega
 | m + 1, h => by
  have := zsU V hV m (by omega)
  have := hV m (by omega)
  rw [zg6]
  omega
theorem zsV (V : Nat → Nat) (hV : ∀ i, i < 5 → V i < 10384593717069655257060992658440192) (i : Nat) (_hi : i < 5) : zjk V i < 9223372036854775808 := by
 have := zsU V hV 5 (by omega)
 have l : ∀ m, loN V m < 2251799813685248 := fun m => Nat.mod_lt _ (by omega)
 have := l 0
 have := l 1
 have := l i
 unfold zjk
 split
 ·omega
 ·split <;> omega
theorem zwY (F G : Nat → Nat) (hF : ∀ i, i < 5 → F i < 4503599627370496) (hG : ∀ i, i < 5 → G i < 4503599627370496) (n c : Nat) (hn : n ≤ 25) : zea F G n c < 10384593717069655257060992658440192 := by
 have := zsT F G hF hG c n hn
 omega
def zbG (F G : Nat → Nat) (i : Nat) : Nat := zdq (zjk (zea F G 25)) i
theorem zvv (F G : Nat → Nat) : zbV (zbG F G) 5 % pN = zbV F 5 * zbV G 5 % pN := by
 obtain ⟨q, hq⟩ := zyk F G
 have h1 := zjh (zjk (zea F G 25))
 have h2 := zvu (zea F G 25)
 have e : zbV (zbG F G) 5 = zbV (zdq (zjk (zea F G 25))) 5 := rfl
 rw [e, hq, ← h2, ← h1]
 rw [Nat.add_mul_mod_self_right, Nat.add_mul_mod_self_right, Nat.add_mul_mod_self_right]
theorem zev (F G : Nat → Nat) (hF : okF F 5) (hG : okF G 5) : okF (zbG F G) 5 := fun i hi => by
 have := zdr (zjk (zea F G 25)) (fun i hi => zsV _ (fun c hc => zwY F G hF hG 25 c (by omega)) i hi) i hi
 show zdq _ i < _
 omega
def zq2 (i : Nat) : Nat := if i = 0 then 2251799813685229 else 2251799813685247
def zcR (F G : Nat → Nat) (i : Nat) : Nat := F i + (4 * zq2 i - G i)
theorem zsW (F G : Nat → Nat) (hF : okF F 5) (i : Nat) (hi : i < 5) : zcR F G i < 9223372036854775808 := by
 have := hF i hi
 unfold zcR zq2
 split <;> omega
theorem zvw (F G : Nat → Nat) (hG : okF G 5) : zbV (zcR F G) 5 + zbV G 5 = zbV F 5 + 4 * pN := by
 rw [zbh, zbh, zbh]
 have := hG 0 (by omega); have := hG 1 (by omega); have := hG 2 (by omega); have := hG 3 (by omega); have := hG 4 (by omega)
 unfold zcR zq2 pN
 simp only [if_true, show (1 : Nat) ≠ 0 from by omega, show (2 : Nat) ≠ 0 from by omega, show (3 : Nat) ≠ 0 from by omega, show (4 : Nat) ≠ 0 from by omega, if_false]
 omega
theorem zym (F G : Nat → Nat) (hG : okF G 5) : (zbV (zdq (zcR F G)) 5 + zbV G 5) % pN = zbV F 5 % pN := by
 have h1 := zjh (zcR F G)
 have h2 := zvw F G hG
 have e : zbV (zdq (zcR F G)) 5 + zbV G 5 + ovN (zcR F G) 5 * pN = zbV F 5 + 4 * pN := by omega
 rw [← Nat.add_mul_mod_self_right _ (ovN (zcR F G) 5), e, Nat.add_mul_mod_self_right]
theorem zyn (F G : Nat → Nat) : zbV (zdq fun i => F i + G i) 5 % pN = (zbV F 5 + zbV G 5) % pN := by
 have h1 := zjh (fun i => F i + G i)
 have e : zbV (fun i => F i + G i) 5 = zbV F 5 + zbV G 5 := by rw [zbh, zbh, zbh]; omega
 rw [← e, ← h1, Nat.add_mul_mod_self_right]
theorem zwZ (F : Nat → Nat) (hF : ∀ i, i < 5 → F i < 9223372036854775808) : okF (zdq F) 5 := fun i hi => by
 have := zdr F hF i hi
 omega
end
section
open Go.RowKit
attribute [local irreducible] zea zeu zbj
theorem zyo : zcy Tryz.prog 137 .u64 10 := by unfold zcy; kernel_rfl
theorem zyp : zeT Tryz.prog 137 10 := ⟨_, Tryz.underlying137, rfl, by kernel_rfl⟩
def zj6 (V : Nat → Nat) (i : Nat) : Nat := hlN (V (i / 2)) (i % 2)
theorem zoF (V : Nat → Nat) (c off j : Nat) (ho : off = c * 2) (hj : j < 2) : zj6 V (off + j) = hlN (V c) j := by
 unfold zj6
 rw [show (off + j) / 2 = c from by omega, show (off + j) % 2 = j from by omega]
theorem zpH (F G : Nat → Nat) (n c off v : Nat) (ho : off = c * 2) (hc : (n / 5 + n % 5) % 5 = c) (hv : v = zea F G n c + F (n / 5) * (if 5 ≤ n / 5 + n % 5 then 19 * G (n % 5) else G (n % 5))) (i : Nat) :
  zcU (fun i => ((zj6 (zea F G n) i : Nat) : Int)) off 2 (fun j => ((hlN v j : Nat) : Int)) i = ((zj6 (zea F G (n + 1)) i : Nat) : Int) := by
 unfold zcU
 by_cases h : off ≤ i ∧ i < off + 2
 ·rw [if_pos h]
  unfold zj6
  rw [show i / 2 = c from by omega, show i % 2 = i - off from by omega, zjj, hv]
  unfold zcx
  rw [if_pos hc]
 ·rw [if_neg h]
  unfold zj6
  rw [zjj]
  unfold zcx
  rw [if_neg (by omega), Nat.add_zero]
theorem zsX (hi lo : Nat) (h : hi < 1125899906842624) (hl : lo < 18446744073709551616) : bits .or .u64 ((hi : Int) * 8192) ((lo : Int) / 2251799813685248) = ((hi * 8192 + lo / 2251799813685248 : Nat) : Int) := by
 have h1 := bits_or_u64_nat (hi * 8192) (lo / 2251799813685248) (by omega) (by omega)
 have e : hi * 8192 ||| lo / 2251799813685248 = hi * 8192 + lo / 2251799813685248 := by
  have := zsI (lo / 2251799813685248) hi 13 (by omega)
  rw [Nat.or_comm, show (8192 : Nat) = 2 ^ 13 from rfl, this, Nat.add_comm]
 rw [e] at h1
 rw [← h1]
 congr 1
theorem zjm (F G : Nat → Nat) (hF : okF F 5) (hG : okF G 5) (w : World) :
  Calls Tryz.prog 75 #[.agg (arr .u64 5 fun i => ((F i : Nat) : Int)), .agg (arr .u64 5 fun i => ((G i : Nat) : Int))] w fun e w' => e = .returned (.agg (arr .u64 5 fun k => ((zbG F G k : Nat) : Int))) ∧ Below w.heap.size w w' := by
 go_enter Tryz.func75, Tryz.ntmps75
 obtain ⟨h0, h1, h2, hsz, hb⟩ := zdb w (.cells (arr .u64 5 fun i => ((F i : Nat) : Int)) 69) (.cells (arr .u64 5 fun i => ((G i : Nat) : Int)) 69) (.cells (arr .u64 5 fun _ => 0) 69)
 go_upto_region 1 with (refine zae rfl rfl zga ?_)
 generalize ((w.alloc (.cells (arr .u64 5 fun i => ((F i : Nat) : Int)) 69)).alloc (.cells (arr .u64 5 fun i => ((G i : Nat) : Int)) 69)).alloc (.cells (arr .u64 5 fun _ => 0) 69) = wa at *
 (try simp only [Act.put, jA, jB, jC])
 obtain ⟨h3, hz3, bl⟩ := zb6 wa (.cells (arr .u64 10 fun _ => 0) 137)
 go_upto_region 2 with (refine zae rfl rfl zyo ?_)
 replace h0 := zaa bl (by omega) h0
 replace h1 := zaa bl (by omega) h1
 replace h2 := zaa bl (by omega) h2
 replace hb := hb.trans (bl.mono (by omega))
 rw [hsz] at h3 ⊢
 generalize wa.alloc (.cells (arr .u64 10 fun _ => 0) 137) = wb at *
 clear hz3 bl hsz
 (try simp only [Act.put, jA, jB, jC])
 go_wp2_with (refine zab rfl rfl rfl zbc h0 ?_)
 have hF' := Lib.hid hF
 have hG' := Lib.hid hG
 have al := Lib.hid (zwY F G hF hG)
 clear hF hG
 go_loopg [18] 5 (fun n i wr => ∃ m : Nat, m + n = 5 ∧ i = .int .i64 m ∧ wr.heap[w.heap.size + 1]? = some (.cells (arr .u64 5 fun i => ((G i : Nat) : Int)) 69 (0, 0)) ∧ wr.heap[w.heap.size + 1 + 1]? = some (.cells (arr .u64 5 fun _ => 0) 69 (0, 0)) ∧
  wr.heap[w.heap.size + 3]? = some (.cells (arr .u64 10 fun i => ((zj6 (zea F G (5 * m)) i : Nat) : Int)) 137 (0, 0)) ∧ Below w.heap.size w wr)
 case atStart => exact ⟨0, rfl, rfl, h1, h2, zaf h3 (fun i _ => by unfold zj6 hlN zea; split <;> rfl), hb⟩
 case round =>
  clear h0 h1 h2 h3 hb
  obtain ⟨m, hm, rfl, h1, h2, h3, hB⟩ := hrel
  obtain ⟨go1, rfl⟩ : ∃ x, x = gk := ⟨_, rfl⟩
  have hm' := Lib.hid hm
  clear hm
  by_cases hlt : m < 5
  ·go_wp2_with (first | (refine zaR rfl rfl Tryz.underlying69 Tryz.underlying67 rfl zjd rfl rfl (by omega) (by omega) (by omega) ?_) | (refine zab rfl rfl rfl zbc h1 ?_))
   go_loopg [23] 5 (fun n i wr => ∃ j : Nat, j + n = 5 ∧ i = .int .i64 j ∧ wr.heap[w.heap.size + 1]? = some (.cells (arr .u64 5 fun i => ((G i : Nat) : Int)) 69 (0, 0)) ∧ wr.heap[w.heap.size + 1 + 1]? = some (.cells (arr .u64 5 fun _ => 0) 69 (0, 0)) ∧
    wr.heap[w.heap.size + 3]? = some (.cells (arr .u64 10 fun i => ((zj6 (zea F G (5 * m + j)) i : Nat) : Int)) 137 (0, 0)) ∧ Below w.heap.size w wr)
   case atStart => exact ⟨0, rfl, rfl, h1, h2, h3, hB⟩
   case round =>
    clear h1 h2 h3 hB
    obtain ⟨j, hj, rfl, h1, h2, h3, hB⟩ := hrel
    have hj' := Lib.hid hj
    clear hj
    by_cases hlj : j < 5
    ·have fb := hF'.out m hlt
     have gb := hG'.out j hlj
     by_cases hge : 5 ≤ m + j
     ·have vb := al.out (5 * m + j) (m + j - 5) (by omega)
      have pb : F m * (19 * G j) ≤ 4503599627370496 * (19 * 4503599627370496) := Nat.mul_le_mul (by omega) (by omega)
      go_wp2_with (first | (refine zaR rfl rfl Tryz.underlying69 Tryz.underlying67 rfl zjd rfl rfl (by omega) (by omega) (by omega) ?_) | (refine zbx (off := (m + j - 5) * 2) (fun i => ((hlN (zea F G (5 * m + j) (m + j - 5)) i : Nat) : Int)) rfl rfl rfl zgr h3 (by omega) (fun i hi => by rw [zoF _ (m + j - 5) _ i rfl hi]) ?_) | (go_at_call 103; fail))
      rw [show (19 * ((G j : Nat) : Int)) = ((19 * G j : Nat) : Int) from by omega]
      refine (zk9 (zea F G (5 * m + j) (m + j - 5)) (F m) (19 * G j) (by omega) (by omega) (by omega) _).mono ?_
      rintro e w4 ⟨rfl, b4⟩
      replace h1 := zaa b4 (jM h1) h1
      replace h2 := zaa b4 (jM h2) h2
      replace h3 := zaa b4 (jM h3) h3
      replace hB := hB.trans (b4.mono hB.size)
      clear b4
      go_wp2_with (refine zcm rfl rfl rfl rfl zgr h3 (by omega) ?_)
      go_roundg (gk - 1)
      case measure => have := hj'.out; omega
      case rel =>
       have hj'' := hj'.out
       have d1 : (5 * m + j) / 5 = m := by omega
       have d2 : (5 * m + j) % 5 = j := by omega
       exact ⟨j + 1, by omega, by go_num, zad h1 (by omega), zad h2 (by omega), zaf (zan h3) (fun i _ => zpH F G (5 * m + j) (m + j - 5) _ _ rfl (by rw [d1, d2]; omega) (by rw [d1, d2, if_pos hge]) i), zam hB (by omega) _⟩
     ·have vb := al.out (5 * m + j) (m + j) (by omega)
      have pb : F m * (G j) ≤ 4503599627370496 * (19 * 4503599627370496) := Nat.mul_le_mul (by omega) (by omega)
      go_wp2_with (first | (refine zaR rfl rfl Tryz.underlying69 Tryz.underlying67 rfl zjd rfl rfl (by omega) (by omega) (by omega) ?_) | (refine zbx (off := (m + j) * 2) (fun i => ((hlN (zea F G (5 * m + j) (m + j)) i : Nat) : Int)) rfl rfl rfl zgr h3 (by omega) (fun i hi => by rw [zoF _ (m + j) _ i rfl hi]) ?_) | (go_at_call 103; fail))
      refine (zk9 (zea F G (5 * m + j) (m + j)) (F m) (G j) (by omega) (by omega) (by omega) _).mono ?_
      rintro e w4 ⟨rfl, b4⟩
      replace h1 := zaa b4 (jM h1) h1
      replace h2 := zaa b4 (jM h2) h2
      replace h3 := zaa b4 (jM h3) h3
      replace hB := hB.trans (b4.mono hB.size)
      clear b4
      go_wp2_with (refine zcm rfl rfl rfl rfl zgr h3 (by omega) ?_)
      go_roundg (gk - 1)
      case measure => have := hj'.out; omega
      case rel =>
       have hj'' := hj'.out
       have d1 : (5 * m + j) / 5 = m := by omega
       have d2 : (5 * m + j) % 5 = j := by omega
       exact ⟨j + 1, by omega, by go_num, zad h1 (by omega), zad h2 (by omega), zaf (zan h3) (fun i _ => zpH F G (5 * m + j) (m + j) _ _ rfl (by rw [d1, d2]; omega) (by rw [d1, d2, if_neg hge]) i), zam hB (by omega) _⟩
    ·obtain rfl : j = 5 := by have := hj'.out; omega
     go_wp2
     go_roundg (go1 - 1)
     case measure => have := hm'.out; omega
     case rel =>
      have hm'' := hm'.out
      exact ⟨m + 1, by omega, by go_num, h1, h2, h3, hB⟩
  ·obtain rfl : m = 5 := by have := hm'.out; omega
   have vl : ∀ c, c < 5 → zea F G 25 c < 10384593717069655257060992658440192 := fun c _ => al.out 25 c (by omega)
   have h3' : wr.heap[w.heap.size + 3]? = some (.cells (arr .u64 10 fun i => ((zj6 (zea F G 25) i : Nat) : Int)) 137 (0, 0)) := h3
   have ob := zsU (zea F G 25) vl
   obtain ⟨V, hV⟩ : ∃ V, V = zea F G 25 := ⟨_, rfl⟩
   rw [← hV] at vl h3' ob
   have hV' := Lib.hid hV
   clear h3 al hm' hV
   go_wp2_with (refine zab rfl rfl rfl zyp h3' ?_)
   have vl' := Lib.hid vl
   have ob' := Lib.hid ob
   clear h3' vl ob h1
   go_loopg [11, 47] 5 (fun n o i wr => ∃ m : Nat, m + n = 5 ∧ i = .int .i64 m ∧ o = .int .u64 ((ovN V m : Nat) : Int) ∧ wr.heap[w.heap.size + 1 + 1]? = some (.cells (arr .u64 5 fun i => ((if i < m then loN V i else 0 : Nat) : Int)) 69 (0, 0)) ∧ Below w.heap.size w wr)
   case atStart => exact ⟨0, rfl, rfl, (by unfold ovN; rfl), zaf h2 (fun i _ => by rw [if_neg (Nat.not_lt_zero i)]; rfl), hB⟩
   case round =>
    clear h2 hB
    obtain ⟨m, hm, rfl, rfl, h2, hB⟩ := hrel
    have hm' := Lib.hid hm
    clear hm
    by_cases hlt : m < 5
    ·have vb := vl'.out m hlt
     have ob := ob'.out m (by omega)
     obtain ⟨ga, hza, bla⟩ := zb6 wr (.cells (arr .u64 2 fun _ => 0) 136)
     go_upto_region 18 with (first | (refine zfB rfl rfl Tryz.underlying137 zgr rfl rfl (by omega) (by omega) (by omega) (fun i => ((hlN (V m) i : Nat) : Int)) (fun i hi => by rw [zoF V m _ i (by omega) hi]) ?_) | (refine zae rfl rfl zwX ?_) | (refine zac rfl rfl rfl rfl zgr ga ?_))
     have q13 := zan (c' := arr .u64 2 fun i => ((hlN (V m) i : Nat) : Int)) ga
     have l2 := jM h2
     replace h2 := zad (g := wr.heap.size) (c' := arr .u64 2 fun i => ((hlN (V m) i : Nat) : Int)) (zaa bla l2 h2) (Nat.ne_of_lt l2)
     have lB := hB.size
     replace hB := zam (hB.trans (bla.mono hB.size)) hB.size (arr .u64 2 fun i => ((hlN (V m) i : Nat) : Int))
     clear ga hza bla
     generalize (wr.alloc (.cells (arr .u64 2 fun _ => 0) 136)).setRow wr.heap.size (arr .u64 2 fun i => ((hlN (V m) i : Nat) : Int)) = wq at *
     generalize wr.heap.size = BW at *
     (try simp only [Act.put, jA, jB, jC])
     go_wp2_with (first | (refine zab rfl rfl rfl zgr q13 ?_) | (go_at_call 103; fail))
     refine (zk9 (V m) (ovN V m) 1 (by omega) (by omega) (by omega) _).mono ?_
     rintro e w4 ⟨rfl, b4⟩
     rw [Nat.mul_one]
     replace h2 := zaa b4 (jM h2) h2
     replace q13 := zaa b4 (jM q13) q13
     replace hB := hB.trans (b4.mono hB.size)
     clear b4
     go_upto_region 19 with (refine zac rfl rfl rfl rfl zgr q13 ?_)
     replace h2 := zad (g := BW) (c' := arr .u64 2 fun i => ((hlN (V m + ovN V m) i : Nat) : Int)) h2 (Nat.ne_of_lt l2)
     replace hB := zam hB lB (arr .u64 2 fun i => ((hlN (V m + ovN V m) i : Nat) : Int))
     replace q13 := zan (c' := arr .u64 2 fun i => ((hlN (V m + ovN V m) i : Nat) : Int)) q13
     generalize w4.setRow BW (arr .u64 2 fun i => ((hlN (V m + ovN V m) i : Nat) : Int)) = w5 at *
     (try simp only [Act.put, jA, jB, jC])
     obtain ⟨hi, hhi⟩ : ∃ x, x = (V m + ovN V m) / 18446744073709551616 := ⟨_, rfl⟩
     obtain ⟨lo, hlo⟩ : ∃ x, x = (V m + ovN V m) % 18446744073709551616 := ⟨_, rfl⟩
     have c0 : w5.cell? ⟨BW, 0, none⟩ = some (.int .u64 (hi : Int)) := by rw [hhi]; exact zaj q13 0 (by omega)
     have c1 : w5.cell? ⟨BW, 1, none⟩ = some (.int .u64 (lo : Int)) := by rw [hlo]; exact zaj q13 1 (by omega)
     have am := zjg lo (by omega)
     have hib : hi < 1125899906842624 := by omega
     have lob : lo < 18446744073709551616 := by omega
     have hhi' := Lib.hid hhi
     have hlo' := Lib.hid hlo
     clear hhi hlo vb
     have l13 := jM q13
     have c2 := zaj h2 m hlt
     have fz := zaH h2 m
     have orf := zsX hi lo hib lob
     obtain ⟨ov1, ho1⟩ : ∃ x, x = hi * 8192 + lo / 2251799813685248 := ⟨_, rfl⟩
     rw [← ho1] at orf
     have ho1' := Lib.hid ho1
     clear ho1
     go_region
     go_wp2
     go_roundg (gk - 1)
     case measure => have := hm'.out; omega
     case rel =>
      have hm'' := hm'.out
      have e1 := hhi'.out
      have e2 := hlo'.out
      have e3 := ho1'.out
      refine ⟨m + 1, by omega, by go_num, ?_, zaf (zaL h2 m _) (fun i _ => ?_), (hB.setCell (by show w.heap.size ≤ w.heap.size + 1 + 1; omega) _).drew⟩
      ·rw [zg6, e3, e1, e2]; congr 2; omega
      ·unfold upd
       by_cases h : i = m
       ·rw [if_pos h, h, if_pos (by omega)]
        unfold loN
        omega
       ·rw [if_neg h]
        dsimp only
        by_cases h2 : i < m
        ·rw [if_pos h2, if_pos (by omega)]
        ·rw [if_neg h2, if_neg (by omega)]
    ·obtain rfl : m = 5 := by have := hm'.out; omega
     have ob := ob'.out 5 (by omega)
     have fl := Lib.hid (zsV V vl'.out)
     replace h2 := zaf (f' := fun i => ((loN V i : Nat) : Int)) h2 (fun i hi => by rw [if_pos hi])
     have lb0 : loN V 0 < 2251799813685248 := Nat.mod_lt _ (by omega)
     have lb1 : loN V 1 < 2251799813685248 := Nat.mod_lt _ (by omega)
     obtain ⟨ov, hov⟩ : ∃ x, x = ovN V 5 := ⟨_, rfl⟩
     rw [← hov] at ob ⊢
     have hov' := Lib.hid hov
     clear hov
     go_wp2_with (go_at_call 104; fail)
     refine (znm ov 19 (by omega) (by omega) _).mono ?_
     rintro e w4 ⟨rfl, rfl⟩
     obtain ⟨mh, hmh⟩ : ∃ x, x = ov * 19 / 18446744073709551616 := ⟨_, rfl⟩
     obtain ⟨ml, hml⟩ : ∃ x, x = ov * 19 % 18446744073709551616 := ⟨_, rfl⟩
     obtain ⟨lz, hlz⟩ : ∃ x, x = loN V 0 := ⟨_, rfl⟩
     have c0 : wr.cell? ⟨w.heap.size + 1 + 1, 0, none⟩ = some (.int .u64 (lz : Int)) := by rw [hlz]; exact zaj h2 0 (by omega)
     have c1 := zaj h2 1 (by omega)
     have fz0 := zaH h2 0
     have fz1 := zaH h2 1
     rw [← hlz] at lb0
     rw [← hmh, ← hml]
     have ra := znn ml lz
     obtain ⟨al, hal⟩ : ∃ x, x = (ml + lz) % 18446744073709551616 := ⟨_, rfl⟩
     obtain ⟨ac, hac⟩ : ∃ x, x = (ml + lz) / 18446744073709551616 := ⟨_, rfl⟩
     rw [← hal, ← hac] at ra
     have am := zjg al (by omega)
     have hs : mh + ac < 1125899906842624 := by omega
     have orf := zsX (mh + ac) al hs (by omega)
     rw [Int.natCast_add] at orf
     obtain ⟨rr, hrr⟩ : ∃ x, x = (mh + ac) * 8192 + al / 2251799813685248 := ⟨_, rfl⟩
     rw [← hrr] at orf
     have rb : rr < 1125899906842624 := by omega
     have alb : al < 18446744073709551616 := by omega
     have t0 : al % 2251799813685248 = (19 * ov + lz) % 2251799813685248 := by omega
     have t1 : rr = (19 * ov + lz) / 2251799813685248 := by omega
     have T0 := Lib.hid t0
     have T1 := Lib.hid t1
     have HLZ := Lib.hid hlz
     clear hlz hmh hml hal hac hrr t0 t1
     go_upto_region 25 with (fail)
     have k2 := zaf (f' := fun i => ((zjk V i : Nat) : Int)) (zaL (zaL h2 0 (((al : Nat) : Int) % 2251799813685248)) 1 (((loN V 1 : Nat) : Int) + ((rr : Nat) : Int))) (fun i _ => by
      have e0 := T0.out
      have e1 := T1.out
      rw [HLZ.out, hov'.out] at e0 e1
      unfold upd zjk
      by_cases h1 : i = 1
      ·rw [if_pos h1, if_neg (by omega), if_pos h1, e1]; omega
      ·rw [if_neg h1, if_neg h1]
       by_cases h0 : i = 0
       ·rw [if_pos h0, if_pos h0, ← e0]; omega
       ·rw [if_neg h0, if_neg h0])
     have lB : w.heap.size ≤ w.heap.size + 1 + 1 := by omega
     have hBk := (hB.setCell (p := ⟨w.heap.size + 1 + 1, 0, none⟩) lB (.int .u64 (((al : Nat) : Int) % 2251799813685248))).setCell (p := ⟨w.heap.size + 1 + 1, 1, none⟩) lB (.int .u64 (((loN V 1 : Nat) : Int) + ((rr : Nat) : Int)))
     clear c0 c1 fz0 fz1 h2 hB
     go_wp2_with (first | (refine zab rfl rfl rfl zbc k2 ?_) | (go_at_call 98; fail))
     refine (zfS (zjk V) fl.out _).mono ?_
     rintro e w4 ⟨rfl, b4⟩
     have e2 := zaa b4 (jM k2) k2
     have hBe := hBk.trans (b4.mono hBk.size)
     go_wp2_with (refine zac rfl rfl rfl rfl zbc e2 ?_)
     refine bodyPost_ret (zaw rfl rfl zbc (zan e2)) rfl ⟨?_, zam hBe (by omega) _⟩
     rw [hV'.out]
     rfl
end
section
open Go.RowKit
attribute [local irreducible] zea zeu zbj zbG zdq zcR
def zq3 (F G H : Nat → Nat) (i : Nat) : Nat := if okF F 5 ∧ okF G 5 then H i else 0
def mulN (F G : Nat → Nat) : Nat → Nat := zq3 F G (zbG F G)
def zA8 (F G : Nat → Nat) : Nat → Nat := zq3 F G (zdq (zcR F G))
theorem zg8 {F G : Nat → Nat} (h : okF F 5 ∧ okF G 5) (H : Nat → Nat) : zq3 F G H = H := by funext i; unfold zq3; rw [if_pos h]
theorem zpI {F G : Nat → Nat} (h : ¬ (okF F 5 ∧ okF G 5)) (H : Nat → Nat) : zq3 F G H = fun _ => 0 := by funext i; unfold zq3; rw [if_neg h]
theorem zyq (F G : Nat → Nat) (hF : ∀ i, i < 5 → F i < 18446744073709551616) (hG : ∀ i, i < 5 → G i < 18446744073709551616) (w : World) :
  Calls Tryz.prog 70 #[.agg (arr .u64 5 fun i => ((F i : Nat) : Int)), .agg (arr .u64 5 fun i => ((G i : Nat) : Int))] w fun e w' => e = .returned (.tuple #[.agg (arr .u64 5 fun k => ((mulN F G k : Nat) : Int)), .int .i64 (if okF F 5 ∧ okF G 5 then 0 else 1)]) ∧ Below w.heap.size w w' := by
 go_enter Tryz.func70, Tryz.ntmps70
 obtain ⟨h0, h1, h2, hsz, hb⟩ := zdb w (.cells (arr .u64 5 fun i => ((F i : Nat) : Int)) 69) (.cells (arr .u64 5 fun i => ((G i : Nat) : Int)) 69) (.cells (arr .u64 5 fun _ => 0) 69)
 go_upto_region 1 with (refine zae rfl rfl zga ?_)
 generalize ((w.alloc (.cells (arr .u64 5 fun i => ((F i : Nat) : Int)) 69)).alloc (.cells (arr .u64 5 fun i => ((G i : Nat) : Int)) 69)).alloc (.cells (arr .u64 5 fun _ => 0) 69) = wa at *
 (try simp only [Act.put, jA, jB, jC])
 obtain ⟨g3, hz2, bl⟩ := zb6 wa (.cells (arr .u64 10 fun i => ((zbW F G i : Nat) : Int)) 69)
 rw [hsz] at g3
 go_wp2_with (first | (refine zab rfl rfl rfl zbc h0 ?_) | (refine zab rfl rfl rfl zbc h1 ?_) | (refine zcK rfl rfl Tryz.underlying131 (by simp [Act.eval, Act.put]) (zjf F G) ?_) | (go_at_call 72; fail))
 refine (zhB 2 10 rfl (by omega) (zbW F G) (fun i hi => zoC F G _ hF hG i hi) _ _ _ g3).mono ?_
 rintro e w2 ⟨rfl, b2⟩
 have b3 := bl.trans (b2.mono (by omega))
 have q0 := zaa b3 (by omega) h0
 have q1 := zaa b3 (by omega) h1
 have q2 := zaa b3 (by omega) h2
 have hB := hb.trans (b3.mono (by omega))
 clear b2 b3 bl g3 h0 h1 h2 hb hz2 hsz
 by_cases hq : okF F 5 ∧ okF G 5
 ·rw [show decide (okF (zbW F G) 10) = true from decide_eq_true ((zhC F G).2 hq)]
  have hq' := Lib.hid hq
  go_wp2_with (first | (refine zab rfl rfl rfl zbc q0 ?_) | (refine zab rfl rfl rfl zbc q1 ?_) | (go_at_call 75; fail))
  refine (zjm F G hq'.out.1 hq'.out.2 _).mono ?_
  rintro e w4 ⟨rfl, b4⟩
  have e2 := zaa b4 (jM q2) q2
  have hBe := hB.trans (b4.mono hB.size)
  go_wp2_with (refine zac rfl rfl rfl rfl zbc e2 ?_)
  refine bodyPost_ret (za6 rfl rfl rfl zbc (zan e2)) rfl ⟨?_, zam hBe (by omega) _⟩
  unfold mulN
  rw [zg8 hq'.out]
  first | rfl | (rw [if_pos hq'.out]; rfl)
 ·rw [show decide (okF (zbW F G) 10) = false from decide_eq_false fun h => hq ((zhC F G).1 h)]
  go_wp2_with (first | (refine za8 rfl (zaJ rfl (by simp [Act.eval, Act.put]) zfk) ?_) | (refine zac rfl rfl rfl rfl zbc q2 ?_))
  refine bodyPost_ret (za6 rfl rfl rfl zbc (zan q2)) rfl ⟨?_, zam hB (by omega) _⟩
  unfold mulN
  rw [zpI hq]
  first | rfl | (rw [if_neg hq]; rfl)
theorem zno (F G : Nat → Nat) (m : Nat) (h : G m < 4503599627370496) : ((F m : Nat) : Int) + (4 * ((zq2 m : Nat) : Int) - ((G m : Nat) : Int)) = ((zcR F G m : Nat) : Int) := by
 unfold zcR zq2
 split <;> omega
theorem zyr (F G : Nat → Nat) (hF : ∀ i, i < 5 → F i < 18446744073709551616) (hG : ∀ i, i < 5 → G i < 18446744073709551616) (w : World) :
  Calls Tryz.prog 69 #[.agg (arr .u64 5 fun i => ((F i : Nat) : Int)), .agg (arr .u64 5 fun i => ((G i : Nat) : Int))] w fun e w' => e = .returned (.tuple #[.agg (arr .u64 5 fun k => ((zA8 F G k : Nat) : Int)), .int .i64 (if okF F 5 ∧ okF G 5 then 0 else 1)]) ∧ Below w.heap.size w w' := by
 go_enter Tryz.func69, Tryz.ntmps69
 obtain ⟨h0, h1, h2, hsz, hb⟩ := zdb w (.cells (arr .u64 5 fun i => ((F i : Nat) : Int)) 69) (.cells (arr .u64 5 fun i => ((G i : Nat) : Int)) 69) (.cells (arr .u64 5 fun _ => 0) 69)
 go_upto_region 1 with (refine zae rfl rfl zga ?_)
 generalize ((w.alloc (.cells (arr .u64 5 fun i => ((F i : Nat) : Int)) 69)).alloc (.cells (arr .u64 5 fun i => ((G i : Nat) : Int)) 69)).alloc (.cells (arr .u64 5 fun _ => 0) 69) = wa at *
 (try simp only [Act.put, jA, jB, jC])
 obtain ⟨g3, hz2, bl⟩ := zb6 wa (.cells (arr .u64 10 fun i => ((zbW F G i : Nat) : Int)) 69)
 rw [hsz] at g3
 go_wp2_with (first | (refine zab rfl rfl rfl zbc h0 ?_) | (refine zab rfl rfl rfl zbc h1 ?_) | (refine zcK rfl rfl Tryz.underlying131 (by simp [Act.eval, Act.put]) (zjf F G) ?_) | (go_at_call 72; fail))
 refine (zhB 2 10 rfl (by omega) (zbW F G) (fun i hi => zoC F G _ hF hG i hi) _ _ _ g3).mono ?_
 rintro e w2 ⟨rfl, b2⟩
 have b3 := bl.trans (b2.mono (by omega))
 have q0 := zaa b3 (by omega) h0
 have q1 := zaa b3 (by omega) h1
 have q2 := zaa b3 (by omega) h2
 have hB := hb.trans (b3.mono (by omega))
 clear b2 b3 bl g3 h0 h1 h2 hb hz2 hsz
 by_cases hq : okF F 5 ∧ okF G 5
 ·rw [show decide (okF (zbW F G) 10) = true from decide_eq_true ((zhC F G).2 hq)]
  have hq' := Lib.hid hq
  go_wp2
  go_loopg [14] 5 (fun n i wr => ∃ m : Nat, m + n = 5 ∧ i = .int .i64 m ∧ wr.heap[w.heap.size]? = some (.cells (arr .u64 5 fun i => ((if i < m then zcR F G i else F i : Nat) : Int)) 69 (0, 0)) ∧
   wr.heap[w.heap.size + 1]? = some (.cells (arr .u64 5 fun i => ((G i : Nat) : Int)) 69 (0, 0)) ∧ wr.heap[w.heap.size + 1 + 1]? = some (.cells (arr .u64 5 fun _ => 0) 69 (0, 0)) ∧ Below w.heap.size w wr)
  case atStart => exact ⟨0, rfl, rfl, zaf q0 (fun i _ => by rw [if_neg (Nat.not_lt_zero i)]), q1, q2, hB⟩
  case round =>
   clear q0 q1 q2 hB
   obtain ⟨m, hm, rfl, q0, q1, q2, hB⟩ := hrel
   have hm' := Lib.hid hm
   clear hm
   by_cases hlt : m < 5
   ·have f1 := hq'.out.1 m hlt
    have f2 := hq'.out.2 m hlt
    have c0 := zaj q0 m hlt
    have c1 := zaj q1 m hlt
    have fz := zaH q0 m
    simp only [Nat.lt_irrefl, if_false] at c0
    have dc := zno F G m f2
    by_cases h0 : m = 0
    all_goals
     first | (have hm0 : ((m : Int) == 0) = true := by simp [h0]) | (have hm0 : ((m : Int) == 0) = false := by simp [h0])
     have H0 := Lib.hid h0
     clear h0 dc
     go_wp2
     refine zax 11 (by kernel_rfl) (by kernel_rfl) ?_
     (simp only [jH, jI, jF, jG])
     repeat (refine wpStill_step (fun K hK => ?_); go_simp; (try (simp only [↓IntWalk.iteOmega]; go_simp)); (try go_bits); refine hK _ ?_; clear hK K)
     refine wpStill_nil ?_
     go_wp2
     go_roundg (gk - 1)
     case measure => have := hm'.out; omega
     case rel =>
      have hm'' := hm'.out
      have h0 := H0.out
      have dc := zno F G m f2
      unfold zq2 at dc
      first | rw [if_pos h0] at dc | rw [if_neg h0] at dc
      refine ⟨m + 1, by omega, by go_num, zaf (zaL q0 m _) (fun i _ => ?_), zar q1 _ _ (by omega), zar q2 _ _ (by omega), (hB.setCell (jV _) _).drew⟩
      unfold upd
      by_cases h : i = m
      ·rw [if_pos h, h, if_pos (by omega), ← dc]; omega
      ·rw [if_neg h]
       dsimp only
       by_cases h2 : i < m
       ·rw [if_pos h2, if_pos (by omega)]
       ·rw [if_neg h2, if_neg (by omega)]
   ·obtain rfl : m = 5 := by have := hm'.out; omega
    have p0 := zaf (f' := fun i => ((zcR F G i : Nat) : Int)) q0 (fun i hi => by rw [if_pos hi])
    clear q0
    go_wp2_with (first | (refine zab rfl rfl rfl zbc p0 ?_) | (go_at_call 98; fail))
    refine (zfS (zcR F G) (fun i hi => zsW F G hq'.out.1 i hi) _).mono ?_
    rintro e w4 ⟨rfl, b4⟩
    have e2 := zaa b4 (jM q2) q2
    have hBe := hB.trans (b4.mono hB.size)
    go_wp2_with (refine zac rfl rfl rfl rfl zbc e2 ?_)
    refine bodyPost_ret (za6 rfl rfl rfl zbc (zan e2)) rfl ⟨?_, zam hBe (by omega) _⟩
    unfold zA8
    rw [zg8 hq'.out]
    first | rfl | (rw [if_pos hq'.out]; rfl)
 ·rw [show decide (okF (zbW F G) 10) = false from decide_eq_false fun h => hq ((zhC F G).1 h)]
  go_wp2_with (first | (refine za8 rfl (zaJ rfl (by simp [Act.eval, Act.put]) zfk) ?_) | (refine zac rfl rfl rfl rfl zbc q2 ?_))
  refine bodyPost_ret (za6 rfl rfl rfl zbc (zan q2)) rfl ⟨?_, zam hB (by omega) _⟩
  unfold zA8
  rw [zpI hq]
  first | rfl | (rw [if_neg hq]; rfl)
end
section
open Go.RowKit
attribute [local irreducible] zea zeu zbj zbG zdq zcR
def sqN (F : Nat → Nat) : Nat → Nat → Nat
 | 0 => F
 | n + 1 => zbG (sqN F n) (sqN F n)
theorem zjn (F : Nat → Nat) (hF : okF F 5) : ∀ n, okF (sqN F n) 5
 | 0 => hF
 | n + 1 => zev _ _ (zjn F hF n) (zjn F hF n)
theorem zpJ (F : Nat → Nat) (n : Nat) : sqN F (n + 1) = zbG (sqN F n) (sqN F n) := rfl
attribute [local irreducible] sqN
theorem zgb (F : Nat → Nat) (hF : okF F 5) (N : Nat) (hN : N < 1000) (w : World) :
  Calls Tryz.prog 76 #[.agg (arr .u64 5 fun i => ((F i : Nat) : Int)), .int .i64 N] w fun e w' => e = .returned (.agg (arr .u64 5 fun k => ((sqN F N k : Nat) : Int))) ∧ Below w.heap.size w w' := by
 go_enter Tryz.func76, Tryz.ntmps76
 obtain ⟨h0, h1, hsz, hb⟩ := zcb w (.cells (arr .u64 5 fun i => ((F i : Nat) : Int)) 69) (.cells (arr .u64 5 fun _ => 0) 69)
 go_upto_region 1 with (refine zae rfl rfl zga ?_)
 generalize (w.alloc (.cells (arr .u64 5 fun i => ((F i : Nat) : Int)) 69)).alloc (.cells (arr .u64 5 fun _ => 0) 69) = wa at *
 (try simp only [Act.put, jA, jB, jC])
 simp only [World.size_alloc]
 have hF' := Lib.hid hF
 clear hF hsz
 go_wp2
 go_loopg [6] N (fun n i wr => ∃ m : Nat, m + n = N ∧ i = .int .i64 m ∧ wr.heap[w.heap.size]? = some (.cells (arr .u64 5 fun i => ((sqN F m i : Nat) : Int)) 69 (0, 0)) ∧
  wr.heap[w.heap.size + 1]? = some (.cells (arr .u64 5 fun _ => 0) 69 (0, 0)) ∧ Below w.heap.size w wr)
 case atStart => exact ⟨0, by omega, rfl, (by unfold sqN; exact h0), h1, hb⟩
 case round =>
  clear h0 h1 hb
  obtain ⟨m, hm, rfl, h0, h1, hB⟩ := hrel
  have hm' := Lib.hid hm
  clear hm
  by_cases hlt : m < N
  ·have ok := Lib.hid (zjn F hF'.out m)
   go_wp2_with (first | (refine zab rfl rfl rfl zbc h0 ?_) | (go_at_call 75; fail))
   refine (zjm (sqN F m) (sqN F m) ok.out ok.out _).mono ?_
   rintro e w4 ⟨rfl, b4⟩
   replace h0 := zaa b4 (jM h0) h0
   replace h1 := zaa b4 (jM h1) h1
   replace hB := hB.trans (b4.mono hB.size)
   clear b4
   go_wp2_with (refine zac rfl rfl rfl rfl zbc h0 ?_)
   go_roundg (gk - 1)
   case measure => have := hm'.out; omega
   case rel =>
    have hm'' := hm'.out
    exact ⟨m + 1, by omega, by go_num, (by rw [zpJ]; exact zan h0), zad h1 (by omega), zam hB (jV _) _⟩
  ·obtain rfl : m = N := by have := hm'.out; omega
   go_wp2_with (first | (refine zab rfl rfl rfl zbc h0 ?_) | (refine zac rfl rfl rfl rfl zbc h1 ?_))
   exact bodyPost_ret (zaw rfl rfl zbc (zan h1)) rfl ⟨rfl, zam hB (by omega) _⟩
def zeP (X : Nat → Nat) (n : Nat) (Y : Nat → Nat) : Nat → Nat := zbG (sqN X n) Y
theorem zfm (X Y : Nat → Nat) (n : Nat) (hX : okF X 5) (hY : okF Y 5) : okF (zeP X n Y) 5 := zev _ _ (zjn X hX n) hY
theorem zeb (X Y : Nat → Nat) (hX : okF X 5) (hY : okF Y 5) (N : Nat) (hN : N < 1000) (w : World) :
  Calls Tryz.prog 74 #[.agg (arr .u64 5 fun i => ((X i : Nat) : Int)), .int .i64 N, .agg (arr .u64 5 fun i => ((Y i : Nat) : Int))] w fun e w' => e = .returned (.agg (arr .u64 5 fun k => ((zeP X N Y k : Nat) : Int))) ∧ Below w.heap.size w w' := by
 go_enter Tryz.func74, Tryz.ntmps74
 obtain ⟨h0, h1, h2, hsz, hb⟩ := zdb w (.cells (arr .u64 5 fun i => ((X i : Nat) : Int)) 69) (.cells (arr .u64 5 fun i => ((Y i : Nat) : Int)) 69) (.cells (arr .u64 5 fun _ => 0) 69)
 go_upto_region 1 with (refine zae rfl rfl zga ?_)
 generalize ((w.alloc (.cells (arr .u64 5 fun i => ((X i : Nat) : Int)) 69)).alloc (.cells (arr .u64 5 fun i => ((Y i : Nat) : Int)) 69)).alloc (.cells (arr .u64 5 fun _ => 0) 69) = wa at *
 (try simp only [Act.put, jA, jB, jC])
 simp only [World.size_alloc]
 refine zcW 5 [Is (.agg (arr .u64 5 fun i => ((X i : Nat) : Int))), Is (.int .i64 N), Is (.agg (arr .u64 5 fun k => ((sqN X N k : Nat) : Int))), Is (.agg (arr .u64 5 fun i => ((Y i : Nat) : Int))), Is (.agg (arr .u64 5 fun k => ((zeP X N Y k : Nat) : Int)))]
  [[], [], [0, 1], [], [2, 3]] (by kernel_rfl) (by kernel_rfl) rfl (zaG (zaF _) (zaG (zaF _) (zaG (zaF _) (zaG (zaF _) (zaG (zaF _) zi0))))) ?_ ?_
 ·(simp only [jH, jI, jF, jG, List.zip_cons_cons, List.zip_nil_left, List.zip_nil_right, zdZ, zfO, zcD, zbA, zbQ, jD, jE, List.range_succ, List.range_zero, List.nil_append, List.cons_append, Act.put, jA, jB, jC])
  refine ⟨?_, ?_, ?_, ?_, ?_, trivial⟩
  ·intro x0 x1 x2 x3 x4 w' hb'
   exact zbs rfl rfl rfl zbc (zaa hb' (jM (w := wa) h0) h0) rfl
  ·intro x0 x1 x2 x3 x4 w' hb'
   exact zgY rfl rfl rfl
  ·intro x0 x1 x2 x3 x4 w' hb' e0 e1
   unfold Is at e0 e1
   subst e0 e1
   refine zaS rfl (fun K hK => ?_)
   go_simp
   refine (zgb X hX N hN _).mono ?_
   rintro e w4 ⟨rfl, b4⟩
   exact hK _ _ b4 rfl
  ·intro x0 x1 x2 x3 x4 w' hb'
   exact zbs rfl rfl rfl zbc (zaa hb' (jM (w := wa) h1) h1) rfl
  ·intro x0 x1 x2 x3 x4 w' hb' e0 e1
   unfold Is at e0 e1
   subst e0 e1
   refine zaS rfl (fun K hK => ?_)
   go_simp
   refine (zjm _ Y (zjn X hX N) hY _).mono ?_
   rintro e w4 ⟨rfl, b4⟩
   exact hK _ _ b4 rfl
 ·(simp only [jH, jI, jF, jG, List.zip_cons_cons, List.zip_nil_left, List.zip_nil_right, zdZ, zfO, zcD, zbA, zbQ, jD, jE, List.range_succ, List.range_zero, List.nil_append, List.cons_append, Act.put, jA, jB, jC])
  intro x0 x1 x2 x3 x4 w' hb' e0 e1 e2 e3 e4
  unfold Is at e0 e1 e2 e3 e4
  subst e0 e1 e2 e3 e4
  replace h2 := zaa hb' (jM (w := wa) h2) h2
  have hB := (hb.drew).trans (hb'.mono hb.size)
  go_wp2_with (refine zac rfl rfl rfl rfl zbc h2 ?_)
  exact bodyPost_ret (zaw rfl rfl zbc (zan h2)) rfl ⟨rfl, zam hB (by omega) _⟩
end
section
open Go.RowKit
attribute [local irreducible] zea zeu zbj zbG zdq zcR sqN
def zsY (F H : Nat → Nat) (i : Nat) : Nat := if okF F 5 then H i else 0
theorem znp {F : Nat → Nat} (h : okF F 5) (H : Nat → Nat) : zsY F H = H := by funext i; unfold zsY; rw [if_pos h]
theorem zvx {F : Nat → Nat} (h : ¬ okF F 5) (H : Nat → Nat) : zsY F H = fun _ => 0 := by funext i; unfold zsY; rw [if_neg h]
def zjo (F : Nat → Nat) : Nat → Nat := sqN F 1
def zfU (F : Nat → Nat) : Nat → Nat := zeP (zjo F) 2 F
def zcL (F : Nat → Nat) : Nat → Nat := zbG (zfU F) (zjo F)
def zdU (F : Nat → Nat) : Nat → Nat := zbG (sqN (zcL F) 1) (zfU F)
def zg9 (F : Nat → Nat) : Nat → Nat := zeP (zdU F) 5 (zdU F)
def zds (F : Nat → Nat) : Nat → Nat := zeP (zg9 F) 10 (zg9 F)
def zfV (F : Nat → Nat) : Nat → Nat := zeP (zds F) 20 (zds F)
def zdt (F : Nat → Nat) : Nat → Nat := zeP (zfV F) 10 (zg9 F)
def zcF (F : Nat → Nat) : Nat → Nat := zeP (zdt F) 50 (zdt F)
def zfn (F : Nat → Nat) : Nat → Nat := zeP (zcF F) 100 (zcF F)
def zew (F : Nat → Nat) : Nat → Nat := zeP (zfn F) 50 (zdt F)
def zeH (F : Nat → Nat) : Nat → Nat := zeP (zew F) 5 (zcL F)
theorem zpK {F : Nat → Nat} (h : okF F 5) : okF (zjo F) 5 := zjn F h 1
theorem zma {F : Nat → Nat} (h : okF F 5) : okF (zfU F) 5 := zfm _ _ _ (zpK h) h
theorem zfW {F : Nat → Nat} (h : okF F 5) : okF (zcL F) 5 := zev _ _ (zma h) (zpK h)
theorem zmb {F : Nat → Nat} (h : okF F 5) : okF (zdU F) 5 := zev _ _ (zjn _ (zfW h) 1) (zma h)
theorem zkr {F : Nat → Nat} (h : okF F 5) : okF (zg9 F) 5 := zfm _ _ _ (zmb h) (zmb h)
theorem zha {F : Nat → Nat} (h : okF F 5) : okF (zds F) 5 := zfm _ _ _ (zkr h) (zkr h)
theorem zpL {F : Nat → Nat} (h : okF F 5) : okF (zfV F) 5 := zfm _ _ _ (zha h) (zha h)
theorem zgc {F : Nat → Nat} (h : okF F 5) : okF (zdt F) 5 := zfm _ _ _ (zpL h) (zkr h)
theorem zgd {F : Nat → Nat} (h : okF F 5) : okF (zcF F) 5 := zfm _ _ _ (zgc h) (zgc h)
theorem znq {F : Nat → Nat} (h : okF F 5) : okF (zfn F) 5 := zfm _ _ _ (zgd h) (zgd h)
theorem zsZ {F : Nat → Nat} (h : okF F 5) : okF (zew F) 5 := zfm _ _ _ (znq h) (zgc h)
theorem zpM {F : Nat → Nat} (h : okF F 5) : okF (zeH F) 5 := zfm _ _ _ (zsZ h) (zfW h)
attribute [local irreducible] zjo zfU zcL zdU zg9 zds zfV zdt zcF zfn zew zeP
def zw0 (F : Nat → Nat) (n : Int) (w : World) (e : Ending) (w' : World) : Prop :=
 (if okF F 5 ∧ 0 ≤ n ∧ n ≤ 300 then e = .returned (.tuple #[.agg (arr .u64 5 fun k => ((sqN F n.toNat k : Nat) : Int)), .int .i64 0]) else e = .returned (.tuple #[.agg (arr .u64 5 fun _ => 0), .int .i64 1])) ∧ Below w.heap.size w w'
theorem zq4 (F : Nat → Nat) (hF : ∀ i, i < 5 → F i < 18446744073709551616) (n : Int) (hn : -9223372036854775808 ≤ n ∧ n < 9223372036854775808) (w : World) :
  Calls Tryz.prog 71 #[.agg (arr .u64 5 fun i => ((F i : Nat) : Int)), .int .i64 n] w (zw0 F n w) := by
 go_enter Tryz.func71, Tryz.ntmps71
 obtain ⟨h0, h1, hsz, hb⟩ := zcb w (.cells (arr .u64 5 fun i => ((F i : Nat) : Int)) 69) (.cells (arr .u64 5 fun _ => 0) 69)
 go_upto_region 1 with (refine zae rfl rfl zga ?_)
 generalize (w.alloc (.cells (arr .u64 5 fun i => ((F i : Nat) : Int)) 69)).alloc (.cells (arr .u64 5 fun _ => 0) 69) = wa at *
 (try simp only [Act.put, jA, jB, jC])
 try simp only [World.size_alloc]
 obtain ⟨g3, hz2, bl⟩ := zb6 wa (.cells (arr .u64 5 fun i => ((F i : Nat) : Int)) 69)
 rw [hsz] at g3
 go_wp2_with (first | (refine zab rfl rfl rfl zbc h0 ?_) | (refine zcK rfl rfl Tryz.underlying131 (by simp [Act.eval, Act.put]) (zje fun i => ((F i : Nat) : Int)) ?_) | (go_at_call 72; fail))
 refine (zhB 1 5 rfl (by omega) F hF _ _ _ g3).mono ?_
 rintro e w2 ⟨rfl, b2⟩
 have b3 := bl.trans (b2.mono (by omega))
 replace h0 := zaa b3 (by omega) h0
 replace h1 := zaa b3 (by omega) h1
 replace hb := hb.trans (b3.mono (by omega))
 clear b2 b3 bl g3 hz2 hsz
 by_cases hq : okF F 5
 ·rw [show decide (okF F 5) = true from decide_eq_true hq]
  have hq' := Lib.hid hq
  by_cases h2 : n < 0
  ·go_wp2_with (first | (refine za8 rfl (zaJ rfl (by simp [Act.eval, Act.put]) zfk) ?_) | (refine zac rfl rfl rfl rfl zbc h1 ?_))
   refine bodyPost_ret (za6 rfl rfl rfl zbc (zan h1)) rfl ⟨?_, zam hb (by omega) _⟩
   rw [if_neg (by omega)]; rfl
  ·by_cases h3 : 300 < n
   ·go_wp2_with (first | (refine za8 rfl (zaJ rfl (by simp [Act.eval, Act.put]) zfk) ?_) | (refine zac rfl rfl rfl rfl zbc h1 ?_))
    refine bodyPost_ret (za6 rfl rfl rfl zbc (zan h1)) rfl ⟨?_, zam hb (by omega) _⟩
    rw [if_neg (by omega)]; rfl
   ·obtain ⟨m, rfl⟩ := Int.eq_ofNat_of_zero_le (show 0 ≤ n by omega)
    go_wp2_with (first | (refine zab rfl rfl rfl zbc h0 ?_) | (go_at_call 76; fail))
    refine (zgb F hq'.out m (by omega) _).mono ?_
    rintro e w4 ⟨rfl, b4⟩
    replace h1 := zaa b4 (jM h1) h1
    replace hb := hb.trans (b4.mono hb.size)
    go_wp2_with (refine zac rfl rfl rfl rfl zbc h1 ?_)
    refine bodyPost_ret (za6 rfl rfl rfl zbc (zan h1)) rfl ⟨?_, zam hb (by omega) _⟩
    rw [if_pos ⟨hq'.out, by omega, by omega⟩]; rfl
 ·rw [show decide (okF F 5) = false from decide_eq_false hq]
  go_wp2_with (first | (refine za8 rfl (zaJ rfl (by simp [Act.eval, Act.put]) zfk) ?_) | (refine zac rfl rfl rfl rfl zbc h1 ?_))
  refine bodyPost_ret (za6 rfl rfl rfl zbc (zan h1)) rfl ⟨?_, zam hb (by omega) _⟩
  rw [if_neg (fun h => hq h.1)]; rfl
theorem zq5 (F : Nat → Nat) (hF : okF F 5) (n : Nat) (hn : n ≤ 300) (w : World) :
  Calls Tryz.prog 71 #[.agg (arr .u64 5 fun i => ((F i : Nat) : Int)), .int .i64 n] w fun e w' => e = .returned (.tuple #[.agg (arr .u64 5 fun k => ((sqN F n k : Nat) : Int)), .int .i64 0]) ∧ Below w.heap.size w w' :=
 (zq4 F (fun i hi => by have := hF i hi; omega) n (by omega) w).mono fun e w' h => by
  unfold zw0 at h
  rw [if_pos ⟨hF, by omega, by omega⟩] at h
  exact h
theorem zq6 (F : Nat → Nat) (hF : ∀ i, i < 5 → F i < 18446744073709551616) (w : World) :
  Calls Tryz.prog 51 #[.agg (arr .u64 5 fun i => ((F i : Nat) : Int))] w fun e w' => e = .returned (.tuple #[.agg (arr .u64 5 fun k => ((zsY F (zeH F) k : Nat) : Int)), .int .i64 (if okF F 5 then 0 else 1)]) ∧ Below w.heap.size w w' := by
 go_enter Tryz.func51, Tryz.ntmps51
 obtain ⟨h0, h1, hsz, hb⟩ := zcb w (.cells (arr .u64 5 fun i => ((F i : Nat) : Int)) 69) (.cells (arr .u64 5 fun _ => 0) 69)
 go_upto_region 1 with (refine zae rfl rfl zga ?_)
 generalize (w.alloc (.cells (arr .u64 5 fun i => ((F i : Nat) : Int)) 69)).alloc (.cells (arr .u64 5 fun _ => 0) 69) = wa at *
 (try simp only [Act.put, jA, jB, jC])
 try simp only [World.size_alloc]
 obtain ⟨g3, hz2, bl⟩ := zb6 wa (.cells (arr .u64 5 fun i => ((F i : Nat) : Int)) 69)
 rw [hsz] at g3
 go_wp2_with (first | (refine zab rfl rfl rfl zbc h0 ?_) | (refine zcK rfl rfl Tryz.underlying131 (by simp [Act.eval, Act.put]) (zje fun i => ((F i : Nat) : Int)) ?_) | (go_at_call 72; fail))
 refine (zhB 1 5 rfl (by omega) F hF _ _ _ g3).mono ?_
 rintro e w2 ⟨rfl, b2⟩
 have b3 := bl.trans (b2.mono (by omega))
 replace h0 := zaa b3 (by omega) h0
 replace h1 := zaa b3 (by omega) h1
 replace hb := hb.trans (b3.mono (by omega))
 clear b2 b3 bl g3 hz2 hsz
 by_cases hq : okF F 5
 ·rw [show decide (okF F 5) = true from decide_eq_true hq]
  have hq' := Lib.hid hq
  clear hq
  go_wp2_with (first | (refine zab rfl rfl rfl zbc h0 ?_) | (go_at_call 76; fail))
  refine (zgb F hq'.out 1 (by omega) _).mono ?_
  rintro e w4 ⟨rfl, b4⟩
  replace h0 := zaa b4 (jM h0) h0
  replace h1 := zaa b4 (jM h1) h1
  replace hb := hb.trans (b4.mono hb.size)
  clear b4
  rw [show (fun k => ((sqN F 1 k : Nat) : Int)) = fun k => ((zjo F k : Nat) : Int) from by unfold zjo; rfl]
  go_upto_region 5 with (refine zay rfl rfl rfl rfl zga zbc rfl rfl ?_; intro w8 g2 b8 hs8)
  have l0 := jM h1
  replace h0 := zaa b8 (jM h0) h0
  replace h1 := zaa b8 (jM h1) h1
  replace hb := hb.trans (b8.mono hb.size)
  clear b8 hs8
  obtain ⟨Bg2, hBg2⟩ : ∃ B, B = w4.heap.size := ⟨_, rfl⟩
  rw [← hBg2] at l0 g2 ⊢
  clear hBg2
  (try simp only [Act.put, jA, jB, jC])
  go_wp2_with (first | (refine zab rfl rfl rfl zbc g2 ?_) | (refine zab rfl rfl rfl zbc h0 ?_) | (go_at_call 74; fail))
  refine (zeb (zjo F) F (zpK hq'.out) hq'.out 2 (by omega) _).mono ?_
  rintro e w4 ⟨rfl, b4⟩
  replace h0 := zaa b4 (jM h0) h0
  replace h1 := zaa b4 (jM h1) h1
  replace g2 := zaa b4 (jM g2) g2
  replace hb := hb.trans (b4.mono hb.size)
  clear b4
  rw [show (fun k => ((zeP (zjo F) 2 F k : Nat) : Int)) = fun k => ((zfU F k : Nat) : Int) from by unfold zfU; rfl]
  go_upto_region 6 with (refine zay rfl rfl rfl rfl zga zbc rfl rfl ?_; intro w8 g9 b8 hs8)
  have l0 := jM h1
  replace h0 := zaa b8 (jM h0) h0
  replace h1 := zaa b8 (jM h1) h1
  replace g2 := zaa b8 (jM g2) g2
  replace hb := hb.trans (b8.mono hb.size)
  clear b8 hs8
  obtain ⟨Bg9, hBg9⟩ : ∃ B, B = w4.heap.size := ⟨_, rfl⟩
  rw [← hBg9] at l0 g9 ⊢
  clear hBg9
  (try simp only [Act.put, jA, jB, jC])
  go_wp2_with (first | (refine zab rfl rfl rfl zbc g9 ?_) | (refine zab rfl rfl rfl zbc g2 ?_) | (go_at_call 75; fail))
  refine (zjm (zfU F) (zjo F) (zma hq'.out) (zpK hq'.out) _).mono ?_
  rintro e w4 ⟨rfl, b4⟩
  replace h0 := zaa b4 (jM h0) h0
  replace h1 := zaa b4 (jM h1) h1
  replace g2 := zaa b4 (jM g2) g2
  replace g9 := zaa b4 (jM g9) g9
  replace hb := hb.trans (b4.mono hb.size)
  clear b4
  rw [show (fun k => ((zbG (zfU F) (zjo F) k : Nat) : Int)) = fun k => ((zcL F k : Nat) : Int) from by unfold zcL; rfl]
  go_upto_region 7 with (refine zay rfl rfl rfl rfl zga zbc rfl rfl ?_; intro w8 g11 b8 hs8)
  have l0 := jM h1
  replace h0 := zaa b8 (jM h0) h0
  replace h1 := zaa b8 (jM h1) h1
  replace g2 := zaa b8 (jM g2) g2
  replace g9 := zaa b8 (jM g9) g9
  replace hb := hb.trans (b8.mono hb.size)
  clear b8 hs8
  obtain ⟨Bg11, hBg11⟩ : ∃ B, B = w4.heap.size := ⟨_, rfl⟩
  rw [← hBg11] at l0 g11 ⊢
  clear hBg11
  (try simp only [Act.put, jA, jB, jC])
  clear h0 g2
  have ho := hb.size
  obtain ⟨wq, rfl⟩ : ∃ x, x = w8 := ⟨_, rfl⟩
  refine zcW 5 [Is (.agg (arr .u64 5 fun k => ((zcL F k : Nat) : Int))), Is (.agg (arr .u64 5 fun k => ((sqN (zcL F) 1 k : Nat) : Int))), Is (.agg (arr .u64 5 fun k => ((zfU F k : Nat) : Int))), Is (.agg (arr .u64 5 fun k => ((zdU F k : Nat) : Int))), zi1 wq.heap.size (.cells (arr .u64 5 fun _ => 0) 69)] [[], [0], [], [1, 2], []] (by kernel_rfl) (by kernel_rfl) rfl (zaG (zaF _) (zaG (zaF _) (zaG (zaF _) (zaG (zaF _) (zaG (zcX _ _) zi0))))) ?_ ?_
  ·(simp only [jH, jI, jF, jG, List.zip_cons_cons, List.zip_nil_left, List.zip_nil_right, zdZ, zfO, zcD, zbA, zbQ, jD, jE, List.range_succ, List.range_zero, List.nil_append, List.cons_append, Act.put, jA, jB, jC])
   refine ⟨?_, ?_, ?_, ?_, ?_, trivial⟩
   ·intro x0 x1 x2 x3 x4 w' hb' 
    exact zbs rfl rfl rfl zbc (zaa hb' (jM (w := wq) g11) g11) rfl
   ·intro x0 x1 x2 x3 x4 w' hb' e0
    unfold Is at e0
    subst e0
    refine zaS rfl (fun K hK => ?_)
    go_simp
    refine (zgb (zcL F) (zfW hq'.out) 1 (by omega) _).mono ?_
    rintro e w4 ⟨rfl, b4⟩
    exact hK _ _ b4 (by unfold Is; rfl)
   ·intro x0 x1 x2 x3 x4 w' hb' 
    exact zbs rfl rfl rfl zbc (zaa hb' (jM (w := wq) g9) g9) rfl
   ·intro x0 x1 x2 x3 x4 w' hb' e0 e1
    unfold Is at e0 e1
    subst e0 e1
    refine zaS rfl (fun K hK => ?_)
    go_simp
    refine (zjm (sqN (zcL F) 1) (zfU F) (zjn _ (zfW hq'.out) 1) (zma hq'.out) _).mono ?_
    rintro e w4 ⟨rfl, b4⟩
    exact hK _ _ b4 (by unfold Is zdU; rfl)
   ·intro x0 x1 x2 x3 x4 w' hb' 
    exact zgp rfl rfl zga ⟨_, rfl, hb'.size, heap_alloc_new _ _⟩
  ·(simp only [jH, jI, jF, jG, List.zip_cons_cons, List.zip_nil_left, List.zip_nil_right, zdZ, zfO, zcD, zbA, zbQ, jD, jE, List.range_succ, List.range_zero, List.nil_append, List.cons_append, Act.put, jA, jB, jC])
   rintro x0 x1 x2 x3 x4 w5 hb' e0 e1 e2 e3 e4
   unfold Is at e0 e1 e2 e3
   subst e0 e1 e2 e3
   obtain ⟨Bg5, rfl, lB, g5⟩ := e4
   replace lB : wq.heap.size ≤ Bg5 := lB
   replace hb := (hb.drew).trans (hb'.mono hb.size)
   have l_h1 := jT (jM (w := wq) h1) lB
   replace h1 := zaa hb' (jM (w := wq) h1) h1
   have l_g9 := jT (jM (w := wq) g9) lB
   replace g9 := zaa hb' (jM (w := wq) g9) g9
   have l_g11 := jT (jM (w := wq) g11) lB
   replace g11 := zaa hb' (jM (w := wq) g11) g11
   go_upto_region 8 with (refine zac rfl rfl rfl rfl zbc g5 ?_)
   replace h1 := zad (g := Bg5) (c' := arr .u64 5 fun k => ((zdU F k : Nat) : Int)) h1 (Nat.ne_of_lt l_h1)
   replace g9 := zad (g := Bg5) (c' := arr .u64 5 fun k => ((zdU F k : Nat) : Int)) g9 (Nat.ne_of_lt l_g9)
   replace g11 := zad (g := Bg5) (c' := arr .u64 5 fun k => ((zdU F k : Nat) : Int)) g11 (Nat.ne_of_lt l_g11)
   replace g5 := zan (c' := arr .u64 5 fun k => ((zdU F k : Nat) : Int)) g5
   replace hb := zam (g := Bg5) hb (jU ho lB) (arr .u64 5 fun k => ((zdU F k : Nat) : Int))
   generalize w5.setRow Bg5 (arr .u64 5 fun k => ((zdU F k : Nat) : Int)) = w6 at *
   clear l_h1 l_g9 l_g11 lB ho hb'
   (try simp only [Act.put, jA, jB, jC])
   clear g9
   go_wp2_with (first | (refine zab rfl rfl rfl zbc g5 ?_) | (go_at_call 74; fail))
   refine (zeb (zdU F) (zdU F) (zmb hq'.out) (zmb hq'.out) 5 (by omega) _).mono ?_
   rintro e w4 ⟨rfl, b4⟩
   replace h1 := zaa b4 (jM h1) h1
   replace g11 := zaa b4 (jM g11) g11
   replace g5 := zaa b4 (jM g5) g5
   replace hb := hb.trans (b4.mono hb.size)
   clear b4
   rw [show (fun k => ((zeP (zdU F) 5 (zdU F) k : Nat) : Int)) = fun k => ((zg9 F k : Nat) : Int) from by unfold zg9; rfl]
   go_upto_region 9 with (refine zay rfl rfl rfl rfl zga zbc rfl rfl ?_; intro w8 g10 b8 hs8)
   have l0 := jM h1
   replace h1 := zaa b8 (jM h1) h1
   replace g11 := zaa b8 (jM g11) g11
   replace g5 := zaa b8 (jM g5) g5
   replace hb := hb.trans (b8.mono hb.size)
   clear b8 hs8
   obtain ⟨Bg10, hBg10⟩ : ∃ B, B = w4.heap.size := ⟨_, rfl⟩
   rw [← hBg10] at l0 g10 ⊢
   clear hBg10
   (try simp only [Act.put, jA, jB, jC])
   clear g5
   go_wp2_with (first | (refine zab rfl rfl rfl zbc g10 ?_) | (go_at_call 74; fail))
   refine (zeb (zg9 F) (zg9 F) (zkr hq'.out) (zkr hq'.out) 10 (by omega) _).mono ?_
   rintro e w4 ⟨rfl, b4⟩
   replace h1 := zaa b4 (jM h1) h1
   replace g11 := zaa b4 (jM g11) g11
   replace g10 := zaa b4 (jM g10) g10
   replace hb := hb.trans (b4.mono hb.size)
   clear b4
   rw [show (fun k => ((zeP (zg9 F) 10 (zg9 F) k : Nat) : Int)) = fun k => ((zds F k : Nat) : Int) from by unfold zds; rfl]
   go_upto_region 10 with (refine zay rfl rfl rfl rfl zga zbc rfl rfl ?_; intro w8 g20 b8 hs8)
   have l0 := jM h1
   replace h1 := zaa b8 (jM h1) h1
   replace g11 := zaa b8 (jM g11) g11
   replace g10 := zaa b8 (jM g10) g10
   replace hb := hb.trans (b8.mono hb.size)
   clear b8 hs8
   obtain ⟨Bg20, hBg20⟩ : ∃ B, B = w4.heap.size := ⟨_, rfl⟩
   rw [← hBg20] at l0 g20 ⊢
   clear hBg20
   (try simp only [Act.put, jA, jB, jC])
   go_wp2_with (first | (refine zab rfl rfl rfl zbc g20 ?_) | (go_at_call 74; fail))
   refine (zeb (zds F) (zds F) (zha hq'.out) (zha hq'.out) 20 (by omega) _).mono ?_
   rintro e w4 ⟨rfl, b4⟩
   replace h1 := zaa b4 (jM h1) h1
   replace g11 := zaa b4 (jM g11) g11
   replace g10 := zaa b4 (jM g10) g10
   replace g20 := zaa b4 (jM g20) g20
   replace hb := hb.trans (b4.mono hb.size)
   clear b4
   rw [show (fun k => ((zeP (zds F) 20 (zds F) k : Nat) : Int)) = fun k => ((zfV F k : Nat) : Int) from by unfold zfV; rfl]
   go_upto_region 11 with (refine zay rfl rfl rfl rfl zga zbc rfl rfl ?_; intro w8 g40 b8 hs8)
   have l0 := jM h1
   replace h1 := zaa b8 (jM h1) h1
   replace g11 := zaa b8 (jM g11) g11
   replace g10 := zaa b8 (jM g10) g10
   replace g20 := zaa b8 (jM g20) g20
   replace hb := hb.trans (b8.mono hb.size)
   clear b8 hs8
   obtain ⟨Bg40, hBg40⟩ : ∃ B, B = w4.heap.size := ⟨_, rfl⟩
   rw [← hBg40] at l0 g40 ⊢
   clear hBg40
   (try simp only [Act.put, jA, jB, jC])
   clear g20
   go_wp2_with (first | (refine zab rfl rfl rfl zbc g10 ?_) | (refine zab rfl rfl rfl zbc g40 ?_) | (go_at_call 74; fail))
   refine (zeb (zfV F) (zg9 F) (zpL hq'.out) (zkr hq'.out) 10 (by omega) _).mono ?_
   rintro e w4 ⟨rfl, b4⟩
   replace h1 := zaa b4 (jM h1) h1
   replace g11 := zaa b4 (jM g11) g11
   replace g10 := zaa b4 (jM g10) g10
   replace g40 := zaa b4 (jM g40) g40
   replace hb := hb.trans (b4.mono hb.size)
   clear b4
   rw [show (fun k => ((zeP (zfV F) 10 (zg9 F) k : Nat) : Int)) = fun k => ((zdt F k : Nat) : Int) from by unfold zdt; rfl]
   go_upto_region 12 with (refine zay rfl rfl rfl rfl zga zbc rfl rfl ?_; intro w8 g50 b8 hs8)
   have l0 := jM h1
   replace h1 := zaa b8 (jM h1) h1
   replace g11 := zaa b8 (jM g11) g11
   replace g10 := zaa b8 (jM g10) g10
   replace g40 := zaa b8 (jM g40) g40
   replace hb := hb.trans (b8.mono hb.size)
   clear b8 hs8
   obtain ⟨Bg50, hBg50⟩ : ∃ B, B = w4.heap.size := ⟨_, rfl⟩
   rw [← hBg50] at l0 g50 ⊢
   clear hBg50
   (try simp only [Act.put, jA, jB, jC])
   clear g40 g10
   go_wp2_with (first | (refine zab rfl rfl rfl zbc g50 ?_) | (go_at_call 74; fail))
   refine (zeb (zdt F) (zdt F) (zgc hq'.out) (zgc hq'.out) 50 (by omega) _).mono ?_
   rintro e w4 ⟨rfl, b4⟩
   replace h1 := zaa b4 (jM h1) h1
   replace g11 := zaa b4 (jM g11) g11
   replace g50 := zaa b4 (jM g50) g50
   replace hb := hb.trans (b4.mono hb.size)
   clear b4
   rw [show (fun k => ((zeP (zdt F) 50 (zdt F) k : Nat) : Int)) = fun k => ((zcF F k : Nat) : Int) from by unfold zcF; rfl]
   go_upto_region 13 with (refine zay rfl rfl rfl rfl zga zbc rfl rfl ?_; intro w8 g100 b8 hs8)
   have l0 := jM h1
   replace h1 := zaa b8 (jM h1) h1
   replace g11 := zaa b8 (jM g11) g11
   replace g50 := zaa b8 (jM g50) g50
   replace hb := hb.trans (b8.mono hb.size)
   clear b8 hs8
   obtain ⟨Bg100, hBg100⟩ : ∃ B, B = w4.heap.size := ⟨_, rfl⟩
   rw [← hBg100] at l0 g100 ⊢
   clear hBg100
   (try simp only [Act.put, jA, jB, jC])
   have ho := hb.size
   obtain ⟨wq, rfl⟩ : ∃ x, x = w8 := ⟨_, rfl⟩
   refine zcW 8 [Is (.func (.func 74) #[] #[]), Is (.func (.func 74) #[] #[]), Is (.agg (arr .u64 5 fun k => ((zcF F k : Nat) : Int))), Is (.agg (arr .u64 5 fun k => ((zcF F k : Nat) : Int))), Is (.agg (arr .u64 5 fun k => ((zfn F k : Nat) : Int))), Is (.agg (arr .u64 5 fun k => ((zdt F k : Nat) : Int))), Is (.agg (arr .u64 5 fun k => ((zew F k : Nat) : Int))), zi1 wq.heap.size (.cells (arr .u64 5 fun _ => 0) 69)] [[], [], [], [], [1, 2, 3], [], [0, 4, 5], []] (by kernel_rfl) (by kernel_rfl) rfl (zaG (zaF _) (zaG (zaF _) (zaG (zaF _) (zaG (zaF _) (zaG (zaF _) (zaG (zaF _) (zaG (zaF _) (zaG (zcX _ _) zi0)))))))) ?_ ?_
   ·(simp only [jH, jI, jF, jG, List.zip_cons_cons, List.zip_nil_left, List.zip_nil_right, zdZ, zfO, zcD, zbA, zbQ, jD, jE, List.range_succ, List.range_zero, List.nil_append, List.cons_append, Act.put, jA, jB, jC])
    refine ⟨?_, ?_, ?_, ?_, ?_, ?_, ?_, ?_, trivial⟩
    ·intro x0 x1 x2 x3 x4 x5 x6 x7 w' hb' 
     exact zgY rfl rfl rfl
    ·intro x0 x1 x2 x3 x4 x5 x6 x7 w' hb' 
     exact zgY rfl rfl rfl
    ·intro x0 x1 x2 x3 x4 x5 x6 x7 w' hb' 
     exact zbs rfl rfl rfl zbc (zaa hb' (jM (w := wq) g100) g100) rfl
    ·intro x0 x1 x2 x3 x4 x5 x6 x7 w' hb' 
     exact zbs rfl rfl rfl zbc (zaa hb' (jM (w := wq) g100) g100) rfl
    ·intro x0 x1 x2 x3 x4 x5 x6 x7 w' hb' e0 e1 e2
     unfold Is at e0 e1 e2
     subst e0 e1 e2
     refine zaS rfl (fun K hK => ?_)
     go_simp
     refine (zeb (zcF F) (zcF F) (zgd hq'.out) (zgd hq'.out) 100 (by omega) _).mono ?_
     rintro e w4 ⟨rfl, b4⟩
     exact hK _ _ b4 (by unfold Is zfn; rfl)
    ·intro x0 x1 x2 x3 x4 x5 x6 x7 w' hb' 
     exact zbs rfl rfl rfl zbc (zaa hb' (jM (w := wq) g50) g50) rfl
    ·intro x0 x1 x2 x3 x4 x5 x6 x7 w' hb' e0 e1 e2
     unfold Is at e0 e1 e2
     subst e0 e1 e2
     refine zaS rfl (fun K hK => ?_)
     go_simp
     refine (zeb (zfn F) (zdt F) (znq hq'.out) (zgc hq'.out) 50 (by omega) _).mono ?_
     rintro e w4 ⟨rfl, b4⟩
     exact hK _ _ b4 (by unfold Is zew; rfl)
    ·intro x0 x1 x2 x3 x4 x5 x6 x7 w' hb' 
     exact zgp rfl rfl zga ⟨_, rfl, hb'.size, heap_alloc_new _ _⟩
   ·(simp only [jH, jI, jF, jG, List.zip_cons_cons, List.zip_nil_left, List.zip_nil_right, zdZ, zfO, zcD, zbA, zbQ, jD, jE, List.range_succ, List.range_zero, List.nil_append, List.cons_append, Act.put, jA, jB, jC])
    rintro x0 x1 x2 x3 x4 x5 x6 x7 w5 hb' e0 e1 e2 e3 e4 e5 e6 e7
    unfold Is at e0 e1 e2 e3 e4 e5 e6
    subst e0 e1 e2 e3 e4 e5 e6
    obtain ⟨Bgm, rfl, lB, gm⟩ := e7
    replace lB : wq.heap.size ≤ Bgm := lB
    replace hb := (hb.drew).trans (hb'.mono hb.size)
    have l_h1 := jT (jM (w := wq) h1) lB
    replace h1 := zaa hb' (jM (w := wq) h1) h1
    have l_g11 := jT (jM (w := wq) g11) lB
    replace g11 := zaa hb' (jM (w := wq) g11) g11
    have l_g50 := jT (jM (w := wq) g50) lB
    replace g50 := zaa hb' (jM (w := wq) g50) g50
    have l_g100 := jT (jM (w := wq) g100) lB
    replace g100 := zaa hb' (jM (w := wq) g100) g100
    go_upto_region 14 with (refine zac rfl rfl rfl rfl zbc gm ?_)
    replace h1 := zad (g := Bgm) (c' := arr .u64 5 fun k => ((zew F k : Nat) : Int)) h1 (Nat.ne_of_lt l_h1)
    replace g11 := zad (g := Bgm) (c' := arr .u64 5 fun k => ((zew F k : Nat) : Int)) g11 (Nat.ne_of_lt l_g11)
    replace g50 := zad (g := Bgm) (c' := arr .u64 5 fun k => ((zew F k : Nat) : Int)) g50 (Nat.ne_of_lt l_g50)
    replace g100 := zad (g := Bgm) (c' := arr .u64 5 fun k => ((zew F k : Nat) : Int)) g100 (Nat.ne_of_lt l_g100)
    replace gm := zan (c' := arr .u64 5 fun k => ((zew F k : Nat) : Int)) gm
    replace hb := zam (g := Bgm) hb (jU ho lB) (arr .u64 5 fun k => ((zew F k : Nat) : Int))
    generalize w5.setRow Bgm (arr .u64 5 fun k => ((zew F k : Nat) : Int)) = w6 at *
    clear l_h1 l_g11 l_g50 l_g100 lB ho hb'
    (try simp only [Act.put, jA, jB, jC])
    clear g50 g100
    go_wp2_with (first | (refine zab rfl rfl rfl zbc g11 ?_) | (refine zab rfl rfl rfl zbc gm ?_) | (go_at_call 74; fail))
    refine (zeb (zew F) (zcL F) (zsZ hq'.out) (zfW hq'.out) 5 (by omega) _).mono ?_
    rintro e w4 ⟨rfl, b4⟩
    replace h1 := zaa b4 (jM h1) h1
    replace g11 := zaa b4 (jM g11) g11
    replace gm := zaa b4 (jM gm) gm
    replace hb := hb.trans (b4.mono hb.size)
    clear b4
    rw [show (fun k => ((zeP (zew F) 5 (zcL F) k : Nat) : Int)) = fun k => ((zeH F k : Nat) : Int) from by unfold zeH; rfl]
    go_wp2_with (refine zac rfl rfl rfl rfl zbc h1 ?_)
    refine bodyPost_ret (za6 rfl rfl rfl zbc (zan h1)) rfl ⟨?_, zam hb (by omega) _⟩
    rw [znp hq'.out]
    first | rfl | (rw [if_pos hq'.out]; rfl)
 ·rw [show decide (okF F 5) = false from decide_eq_false hq]
  go_wp2_with (first | (refine za8 rfl (zaJ rfl (by simp [Act.eval, Act.put]) zfk) ?_) | (refine zac rfl rfl rfl rfl zbc h1 ?_))
  refine bodyPost_ret (za6 rfl rfl rfl zbc (zan h1)) rfl ⟨?_, zam hb (by omega) _⟩
  rw [zvx hq]
  first | rfl | (rw [if_neg hq]; rfl)
end
section
open Go.RowKit
def k0 (i : Nat) : Nat := if i = 0 then 236 else if i = 31 then 127 else 255
def k1 (i : Nat) : Nat := if i = 0 then 235 else if i = 31 then 127 else 255
def f0 (i : Nat) : Nat := if i = 0 then 2251799813685228 else 2251799813685247
def f1 (i : Nat) : Nat := if i = 0 then 2251799813685227 else 2251799813685247
attribute [local irreducible] zeu zbV zbj zbY addN zdq ofN kvN k0 k1 f0 f1
end
section
open Go.RowKit
theorem zs0 (F : Nat → Nat) (hF : okF F 5) (k : Nat) : zbY F k = zbj (zbV (zeu F) 5) k := by unfold zbY; rw [if_pos hF]
def zht (k : Nat → Nat) (i : Nat) : Nat := if i = 31 then k 31 % 128 else k i
theorem zs1 (k : Nat → Nat) : okF (ofN k) 5 := fun i _ => by have : ofN k i < 2251799813685248 := Nat.mod_lt _ (by omega); omega
end
section
open Go.RowKit
attribute [local irreducible] zea zbj zbG zdq zcR sqN
def zb1 (X : Nat → Nat) (v : Nat) : Prop := okF X 5 ∧ zbV X 5 % pN = v % pN
def zij (F G : Nat → Nat) : Nat → Nat := zdq fun i => F i + G i
def zik (F G : Nat → Nat) : Nat → Nat := zdq (zcR F G)
theorem zks {F G : Nat → Nat} (hF : okF F 5) (hG : okF G 5) : okF (zij F G) 5 := zwZ _ fun i hi => by have := hF i hi; have := hG i hi; show F i + G i < _; omega
theorem zjp {F G : Nat → Nat} (hF : okF F 5) : okF (zik F G) 5 := zwZ _ fun i hi => zsW F G hF i hi
theorem zvy {F G : Nat → Nat} {a b : Nat} (hF : zb1 F a) (hG : zb1 G b) : zb1 (zij F G) (a + b) :=
 ⟨zks hF.1 hG.1, by unfold zij; rw [zyn, Nat.add_mod, hF.2, hG.2, ← Nat.add_mod]⟩
theorem zjq {F G : Nat → Nat} {a b : Nat} (hF : zb1 F a) (hG : zb1 G b) : zb1 (zbG F G) (a * b) :=
 ⟨zev F G hF.1 hG.1, by rw [zvv, Nat.mul_mod, hF.2, hG.2, ← Nat.mul_mod]⟩
theorem zvz {F G : Nat → Nat} {a b c : Nat} (hF : zb1 F a) (hG : zb1 G b) (h : (c + b) % pN = a % pN) : zb1 (zik F G) c := by
 refine ⟨zjp hF.1, ?_⟩
 have h1 := zym F G hG.1
 have e : zbV (zik F G) 5 = zbV (zdq (zcR F G)) 5 := rfl
 rw [e]
 generalize zbV (zdq (zcR F G)) 5 = x at *
 have h2 : (x + b) % pN = (c + b) % pN := by
  rw [h, ← hF.2, ← h1, Nat.add_mod, ← hG.2, ← Nat.add_mod]
 generalize hp : pN = p at h2 ⊢
 have hp0 : 0 < p := by rw [← hp]; unfold pN; omega
 clear h1 e h hF hG
 have h3 : (x + b + (p - b % p)) % p = (c + b + (p - b % p)) % p := by rw [Nat.add_mod, h2, ← Nat.add_mod]
 have e1 : ∀ y, (y + b + (p - b % p)) % p = y % p := by
  intro y
  have hb := Nat.div_add_mod b p
  have hl := Nat.mod_lt b hp0
  have : y + b + (p - b % p) = y + p * (b / p + 1) := by rw [Nat.mul_add]; omega
  rw [this, Nat.add_mul_mod_self_left]
 rwa [e1, e1] at h3
theorem zmc {F : Nat → Nat} {a : Nat} (hF : zb1 F a) : ∀ n, zb1 (sqN F n) (a ^ 2 ^ n)
 | 0 => by unfold sqN; simpa using hF
 | n + 1 => by
  rw [zpJ, Nat.pow_succ, Nat.mul_two, Nat.pow_add]
  exact zjq (zmc hF n) (zmc hF n)
def zci (x : Nat) (i : Nat) : Nat := if i = 0 then x else 0
theorem zw1 {x : Nat} (h : x < 4503599627370496) : okF (zci x) 5 := fun i _ => by unfold zci; split <;> omega
theorem zys (x : Nat) : zbV (zci x) 5 = x := by rw [zbh]; unfold zci; simp
theorem zfo {x : Nat} (h : x < 4503599627370496) : zb1 (zci x) x := ⟨zw1 h, by rw [zys]⟩
theorem zjr (x : Nat) : Tryz.prog.built 69 [(0, .int .u64 (x : Int))] = some (arr .u64 5 fun i => ((zci x i : Nat) : Int)) := by kernel_rfl
theorem znr : Tryz.prog.built 69 [] = some (arr .u64 5 fun i => ((zci 0 i : Nat) : Int)) := by kernel_rfl
attribute [local irreducible] zij zik zci zbV
theorem zhX {F : Nat → Nat} (hF : okF F 5) (i : Nat) (hi : i < 5) : F i < 18446744073709551616 := by have := hF i hi; omega
theorem zyt (F G : Nat → Nat) (hF : okF F 5) (hG : okF G 5) (w : World) : Calls Tryz.prog 68 #[.agg (arr .u64 5 fun i => ((F i : Nat) : Int)), .agg (arr .u64 5 fun i => ((G i : Nat) : Int))] w fun e w' => e = .returned (.tuple #[.agg (arr .u64 5 fun k => ((zij F G k : Nat) : Int)), .int .i64 0]) ∧ Below w.heap.size w w' :=
 (zyg F G (zhX hF) (zhX hG) w).mono fun e w' h => by
  rw [if_pos ⟨hF, hG⟩] at h
  rw [show (arr .u64 5 fun k => ((zij F G k : Nat) : Int)) = arr .u64 5 fun k => ((addN F G k : Nat) : Int) from zcd fun k _ => by unfold addN zij; rw [if_pos ⟨hF, hG⟩]]
  exact h
theorem zyu (F G : Nat → Nat) (hF : okF F 5) (hG : okF G 5) (w : World) : Calls Tryz.prog 70 #[.agg (arr .u64 5 fun i => ((F i : Nat) : Int)), .agg (arr .u64 5 fun i => ((G i : Nat) : Int))] w fun e w' => e = .returned (.tuple #[.agg (arr .u64 5 fun k => ((zbG F G k : Nat) : Int)), .int .i64 0]) ∧ Below w.heap.size w w' :=
 (zyq F G (zhX hF) (zhX hG) w).mono fun e w' h => by
  rw [if_pos ⟨hF, hG⟩] at h
  unfold mulN at h
  rw [zg8 ⟨hF, hG⟩] at h
  exact h
theorem zyv (F G : Nat → Nat) (hF : okF F 5) (hG : okF G 5) (w : World) : Calls Tryz.prog 69 #[.agg (arr .u64 5 fun i => ((F i : Nat) : Int)), .agg (arr .u64 5 fun i => ((G i : Nat) : Int))] w fun e w' => e = .returned (.tuple #[.agg (arr .u64 5 fun k => ((zik F G k : Nat) : Int)), .int .i64 0]) ∧ Below w.heap.size w w' :=
 (zyr F G (zhX hF) (zhX hG) w).mono fun e w' h => by
  rw [if_pos ⟨hF, hG⟩] at h
  unfold zA8 at h
  rw [zg8 ⟨hF, hG⟩] at h
  rw [show (fun k => ((zik F G k : Nat) : Int)) = fun k => ((zdq (zcR F G) k : Nat) : Int) from by unfold zik; rfl]
  exact h
theorem zkt (F : Nat → Nat) (hF : okF F 5) (w : World) : Calls Tryz.prog 51 #[.agg (arr .u64 5 fun i => ((F i : Nat) : Int))] w fun e w' => e = .returned (.tuple #[.agg (arr .u64 5 fun k => ((zeH F k : Nat) : Int)), .int .i64 0]) ∧ Below w.heap.size w w' :=
 (zq6 F (zhX hF) w).mono fun e w' h => by
  rw [if_pos hF, znp hF] at h
  exact h
end
end Go.Proofs.YtfolbgiekbimpaaGreatDoor
