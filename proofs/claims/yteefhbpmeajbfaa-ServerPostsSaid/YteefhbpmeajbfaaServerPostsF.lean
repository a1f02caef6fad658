/- The walk of the reference's reader: a commit's parts. The walks of layer 16: what any bytes are, by the reference. The walks of layer 22: whether two servers are the same; the reference's functions. -/
import Derived.Test.YteefhbpmeajbfaaServerPostsE
import Derived.WalkKit
import Derived.WalkSpells
import Derived.WalkLawsBesides
import Derived.Deep.QuietTactic
import Derived.BigQuiet
import Derived.StillTailTactics
import Derived.Lib.Hide
import Derived.Deep.LoopGhost
import Derived.Outline
import Derived.Deep.DeepFit
import Derived.Deep.RegionHeld3
import Derived.Deep.RegionLaw
import Derived.OrdersHeld
import Derived.Laws.StructEq
import Derived.Maps.AppendAt
import Derived.Deep.AppendLies
import Derived.Deep.Draws
import Derived.Laws.OwnMore
import Derived.Laws.AppendOwnNone
import Derived.OwnWalk
import Derived.Below
import Derived.Deep.Cut
import Derived.Deep.CutBlock
import Derived.Deep.CutRange
import Derived.DataElems
import Derived.Great.BuildSlice
import Derived.Laws.Entries
import Derived.Laws.Tables
import Derived.SizedLaws
import Derived.Lib.SliceRun
import Derived.Laws.Small
import Derived.Great.Walk
import Derived.Test.YteefhbpmeajbfaaRows
import Derived.Laws.IdiomStrings
import Derived.Lib.Tables
import Derived.Lib.BitFns
import Derived.Laws.Bits64b
namespace Go.Proofs.Yteefhbpmeajbfaa.CanB
set_option linter.unusedSimpArgs false
set_option linter.unusedVariables false
open Go.RowKit
attribute [local irreducible] beL beK
set_option maxRecDepth 100000 in
theorem act_all (a : Act) (hd : a.defers = []) (h : a.tmps.size = 151) : ∃ x : Nat → Value, a = ⟨#[x 0, x 1, x 2, x 3, x 4, x 5, x 6, x 7, x 8, x 9, x 10, x 11, x 12, x 13, x 14, x 15, x 16, x 17, x 18, x 19, x 20, x 21, x 22, x 23, x 24, x 25, x 26, x 27, x 28, x 29, x 30, x 31, x 32, x 33, x 34, x 35, x 36, x 37, x 38, x 39, x 40, x 41, x 42, x 43, x 44, x 45, x 46, x 47, x 48, x 49, x 50, x 51, x 52, x 53, x 54, x 55, x 56, x 57, x 58, x 59, x 60, x 61, x 62, x 63, x 64, x 65, x 66, x 67, x 68, x 69, x 70, x 71, x 72, x 73, x 74, x 75, x 76, x 77, x 78, x 79, x 80, x 81, x 82, x 83, x 84, x 85, x 86, x 87, x 88, x 89, x 90, x 91, x 92, x 93, x 94, x 95, x 96, x 97, x 98, x 99, x 100, x 101, x 102, x 103, x 104, x 105, x 106, x 107, x 108, x 109, x 110, x 111, x 112, x 113, x 114, x 115, x 116, x 117, x 118, x 119, x 120, x 121, x 122, x 123, x 124, x 125, x 126, x 127, x 128, x 129, x 130, x 131, x 132, x 133, x 134, x 135, x 136, x 137, x 138, x 139, x 140, x 141, x 142, x 143, x 144, x 145, x 146, x 147, x 148, x 149, x 150], []⟩ := by
  obtain ⟨t, d⟩ := a
  dsimp only at h hd
  subst hd
  refine ⟨fun i => t.getD i undef, ?_⟩
  have e : t = ((List.range 151).map fun i => t.getD i undef).toArray := by
    refine Array.ext (by simp [h]) fun i h1 h2 => ?_
    simp [h1]
  exact congrArg (fun t => (⟨t, []⟩ : Act)) e
section
variable {P : Program} {o : Oper} {a : Act} {w : World} {K : Act → World → Prop} {Q : Exit → Act → World → Prop}
theorem oper_bslice {t e len : Nat} {parts : Array (Nat × Operand)} {c : Array Value} {l : List (Nat × Value)} (ho : o.op = .buildSlice t len parts) (hu : P.underlying t = some (.slice e)) (hl : (parts.map fun (i, x) => (i, a.eval x)).toList = l) (hb : P.builtSlice e len l = some c)
    (h : K (a.put o.dst (.slice (some ⟨w.heap.size, 0, none⟩) len len)) (w.alloc (.cells c e))) : o.wp P a w K Q := by
  subst hl
  unfold Program.builtSlice at hb
  cases hie : P.info? e with
  | none => simp [hie] at hb
  | some ie =>
    simp only [hie] at hb
    cases hz : ie.zero with
    | none => simp [hz] at hb
    | some z =>
      simp only [hz] at hb
      by_cases hc : len * ie.size > 2 ^ 24 ∨ len * ie.size = 0
      · simp [hc] at hb
      · rw [if_neg hc] at hb
        exact wp_buildSlice t e len parts ho c ie z hu hie hz (fun h' => hc (Or.inl h')) (fun h' => hc (Or.inr h')) hb h
theorem oper_append_el {t e : TypeId} {sz by_ : Nat} {s x : Operand} (ho : o.op = .call { callee := .builtin .append, args := #[s, x], argTypes := #[t, t] })
    (hT : ElT P t e sz by_) (h0 : 0 < sz) {base n b : Nat} {v : Value} {xs : List Value} {f : Nat → Value} (hs : a.eval s = v) (hx : a.eval x = .slice (some ⟨b, 0, none⟩) 1 1) (hown : w.ownsRow base e sz v n xs) (hb : w.heap[b]? = some (.cells (arrV sz f) e (0, 0))) (h1 : ∀ i, i < sz → (f i).oneCell' = true)
    (hn : n + 1 ≤ 70368744177664) (hby : (n + 1) * by_ ≤ 140737488355328) (hbase : base ≤ w.heap.size)
    (h : ∀ v' w', w'.ownsRow base e sz v' (n + 1) (xs ++ (arrV sz f).toList) → (∀ k, k < w.heap.size → v.ownBlock ≠ some k → w'.heap[k]? = w.heap[k]?) → (w'.os = w.os ∧ w'.tape = w.tape ∧ w'.output = w.output ∧ w.heap.size ≤ w'.heap.size) → K (a.put o.dst v') w') : o.wp P a w K Q := by
  obtain ⟨v', w', hrun, h2, h3, h4⟩ := run_append_el (P := P) (ty := o.type) hT h0 hown hb h1 hn hby hbase
  unfold Oper.wp execOp
  simp only [ho, resolve, invoke, builtin, Sem.run_bind, Sem.run_pure, Result.andThen_ok, List.map_toArray, List.map_cons, List.map_nil, hs, hx, hrun]
  exact h v' w' h2 (fun k hk hne => h3.block k hk (fun e => hne e.symm)) ⟨h3.os, h3.tape, h3.output, h3.size⟩
end
theorem own_no {base sz n q : Nat} {w : World} {e t : TypeId} {v : Value} {xs : List Value} {c : Array Value} {fr : Nat × Nat} (h : w.ownsRow base e sz v n xs) (hq : w.heap[q]? = some (.cells c t fr)) (hne : e ≠ t) : v.ownBlock ≠ some q := by
  intro hb
  rcases h.2 with ⟨rfl, _⟩ | ⟨b, cap, cur, rfl, _, hh, _⟩
  · cases hb
  · have : b = q := by injection hb
    subst this
    rw [hq] at hh
    injection hh with hh
    injection hh with _ ht
    exact hne ht.symm
theorem keep_at {q g : Nat} {w w' : World} (h : But g w w') (hl : q < w.heap.size) (hne : q ≠ g) : Keep (fun b => b = q) w w' := fun b hb => by subst hb; exact h.block _ hl hne
theorem upd_upd (f : Nat → Value) (i : Nat) (a b : Value) : upd (upd f i a) i b = upd f i b := by
  funext j
  unfold upd
  by_cases h : j = i
  · rw [if_pos h, if_pos h]
  · rw [if_neg h, if_neg h, if_neg h]
theorem row_as {w : World} {q : Nat} {c c' : Array Value} {t : TypeId} {fr : Nat × Nat} (h : w.heap[q]? = some (.cells c t fr)) (e : c = c') : w.heap[q]? = some (.cells c' t fr) := e ▸ h
theorem rdr_kept {B g : Nat} {s : Rs} {w w' : World} {b : Option Nat} (h : Rdr w B g s) (hk : ∀ k, k < w.heap.size → b ≠ some k → w'.heap[k]? = w.heap[k]?) (hb : ∀ k, b = some k → g < k) : Rdr w' B g s := by
  obtain ⟨A, n, c, e⟩ := h
  have hl := lt_of_block e.row
  have ho : ∀ k, k < g → w'.heap[k]? = w.heap[k]? := fun k hk' => hk k (by omega) (fun e => absurd (hb k e) (by omega))
  have hB : ∀ p : Addr, p.block < g → w'.cell? p = w.cell? p := fun p hp => by unfold World.cell?; rw [ho p.block hp]
  exact ⟨A, n, c, (hk g hl (fun e => absurd (hb g e) (by omega))).trans e.row, e.low, e.txt.keep fun p hp => hB p (Nat.lt_of_lt_of_le hp e.low), e.cap, e.len, e.byt⟩
/-- A commit whose parts lie in blocks of other types than commits. -/
def ComSt (w : World) (c : Com) : Prop := ∀ w' : World, (∀ (b : Nat) (cs : Array Value) (t : TypeId) (fr : Nat × Nat), w.heap[b]? = some (.cells cs t fr) → t ≠ 40 → w'.heap[b]? = w.heap[b]?) → ComOk w' w'.heap.size c
theorem ComSt.ok {w : World} {c : Com} (h : ComSt w c) : ComOk w w.heap.size c := h w fun _ _ _ _ _ _ => rfl
theorem ComSt.after {w w' : World} {c : Com} (h : ComSt w c) (hb : Below w.heap.size w w') : ComSt w' c := fun w2 hk => h w2 fun b cs t fr hb' ht => by
  have e := hb.block b (lt_of_block hb')
  rw [← e]
  exact hk b cs t fr (e.trans hb') ht
theorem ComSt.setRow {w : World} {c : Com} {q : Nat} {cs cs' : Array Value} {fr : Nat × Nat} (h : ComSt w c) (hq : w.heap[q]? = some (.cells cs 40 fr)) : ComOk (w.setRow q cs') (w.setRow q cs').heap.size c := h _ fun b cs2 t fr2 hb ht => setRow_other _ _ _ _ (by
  rintro rfl
  rw [hq] at hb
  injection hb with hb
  injection hb with _ e
  exact ht e.symm)
theorem built_prop : Try.prog.built 79 [] = some (arrV 34 (propV 0 0 fun _ => 0)) := by kernel_rfl
theorem built_step : Try.prog.built 84 [] = some (arrV 3 (stepV 0 0 none 0 0)) := by kernel_rfl
theorem UInt : Try.prog.underlying 3 = some (.int .i64) := Try.underlying3
theorem FTStep2 : FieldT Try.prog 84 2 := ⟨_, _, 0, Try.underlying84, rfl, by kernel_rfl⟩
theorem FTCom5 : FieldT Try.prog 40 5 := ⟨_, _, 0, Try.underlying40, rfl, by kernel_rfl⟩
theorem FTCom6 : FieldT Try.prog 40 6 := ⟨_, _, 0, Try.underlying40, rfl, by kernel_rfl⟩
theorem propRow (kd id : Nat) (k : Nat → Nat) : arrV 34 (patch (upd (upd (propV 0 0 fun _ => 0) 0 (.int .i64 (kd : Int))) 1 (.int .i64 (id : Int))) 2 32 fun i => .int .u8 ((k i : Nat) : Int)) = arrV 34 (propF ⟨kd, id, k⟩) := arrV_ext fun i hi => by
  unfold patch upd propF propV
  by_cases h0 : i = 0
  · subst h0; rfl
  · by_cases h1 : i = 1
    · subst h1; rfl
    · rw [if_pos (by omega), if_neg h0, if_neg h1]
section
variable {W w w5 : World} {v : Value} {base base' sz sz' n n' g q B : Nat} {e e' : TypeId} {v' : Value} {xs xs' : List Value}
theorem add_at {c : Array Value} {t : TypeId} {fr : Nat × Nat} (rk : W.ownsRow base e sz v n xs) (hk : ∀ k, k < W.heap.size → v.ownBlock ≠ some k → w5.heap[k]? = W.heap[k]?) (hq : W.heap[q]? = some (.cells c t fr)) (hne : e ≠ t) : w5.heap[q]? = some (.cells c t fr) :=
  (hk q (lt_of_block hq) (own_no rk hq hne)).trans hq
theorem add_row (rk : W.ownsRow base e sz v n xs) (hk : ∀ k, k < W.heap.size → v.ownBlock ≠ some k → w5.heap[k]? = W.heap[k]?) (h : W.ownsRow base' e' sz' v' n' xs') (hne : e' ≠ e) : w5.ownsRow base' e' sz' v' n' xs' := own_kept h rk hne hk
theorem add_rdr {s : Rs} (rk : W.ownsRow base e sz v n xs) (hk : ∀ k, k < W.heap.size → v.ownBlock ≠ some k → w5.heap[k]? = W.heap[k]?) (he : Rdr W B g s) (hg : g < base) : Rdr w5 B g s := rdr_kept he hk fun k hk' => Nat.lt_of_lt_of_le hg (own_lo rk k hk')
theorem add_but (rk : W.ownsRow base e sz v n xs) (hk : ∀ k, k < W.heap.size → v.ownBlock ≠ some k → w5.heap[k]? = W.heap[k]?) (hm : w5.os = W.os ∧ w5.tape = W.tape ∧ w5.output = W.output ∧ W.heap.size ≤ w5.heap.size) (hb : But g w W) (hlo : w.heap.size ≤ base) : But g w w5 :=
  hb.kept hk hm fun k hk' => Nat.le_trans hlo (own_lo rk k hk')
theorem alloc_at (W : World) (o : Obj) (k : Nat) (h : k < W.heap.size) : (W.alloc o).heap[k]? = W.heap[k]? := Below.heap_alloc _ _ _ h
theorem hm_alloc {o : Obj} (h : w5.os = (W.alloc o).os ∧ w5.tape = (W.alloc o).tape ∧ w5.output = (W.alloc o).output ∧ (W.alloc o).heap.size ≤ w5.heap.size) : w5.os = W.os ∧ w5.tape = W.tape ∧ w5.output = W.output ∧ W.heap.size ≤ w5.heap.size := by
  have b : Below W.heap.size W (W.alloc o) := (Below.refl _ _).alloc (Nat.le_refl _) _
  exact ⟨h.1.trans b.os, h.2.1.trans b.tape, h.2.2.1.trans b.output, Nat.le_trans b.size h.2.2.2⟩
end
theorem stepRow (a b : Int) (A : Option Addr) (n c : Nat) (A' : Option Addr) (n' c' : Nat) : arrV 3 (upd (stepV a b A n c) 2 (.slice A' n' c')) = arrV 3 (stepV a b A' n' c') := arrV_ext fun i hi => by
  have : i = 0 ∨ i = 1 ∨ i = 2 := by omega
  rcases this with rfl | rfl | rfl <;> rfl
theorem sendsP_snoc : ∀ (l : List PStep) (x : PStep), sendsP (l ++ [x]) = sendsP l + x.sd.length
  | [], x => by show x.sd.length + 0 = 0 + x.sd.length; omega
  | y :: l, x => by
    have := sendsP_snoc l x
    show y.sd.length + sendsP (l ++ [x]) = y.sd.length + sendsP l + x.sd.length
    omega
set_option maxRecDepth 100000 in
set_option maxHeartbeats 20000000 in
theorem rdCom {B : Nat} (g : Nat) (s1 : Rs) (w : World) (h : Rdr w B g s1) :
    Calls Try.prog 89 #[.pointer (some ⟨g, 0, none⟩)] w fun e w' => ∃ a : At, e = .returned (.agg (arrV 70 (comV (comOf (comP s1).1 a) (comP s1).1.tag))) ∧ ComSt w' (comOf (comP s1).1 a) ∧ Rdr w' B g (comP s1).2 ∧ But g w w' := by
  obtain ⟨ep, s2, E1⟩ := pair_of (numP 8 s1)
  obtain ⟨by_, s3, E2⟩ := pair_of (numP 4 s2)
  obtain ⟨pn, s4, E3⟩ := pair_of (numP 2 s3)
  obtain ⟨props, s5, E4⟩ := pair_of (itemsP propP pn s4)
  obtain ⟨pt, s6, E5⟩ := pair_of (keyP s5)
  obtain ⟨sn, s7, E6⟩ := pair_of (numP 2 s6)
  obtain ⟨steps, s8, E7⟩ := pair_of (itemsP stepP' sn s7)
  obtain ⟨new, s9, E8⟩ := pair_of (itemsP keyP steps.length s8)
  obtain ⟨boxes, s10, E9⟩ := pair_of (itemsP boxP (sendsP steps) s9)
  obtain ⟨tag, s11, E10⟩ := pair_of (keyP s10)
  rw [comP_is E1 E2 E3 E4 E5 E6 E7 E8 E9 E10]
  have hsl : steps.length ≤ sn := by
    have := items_len stepP' sn s7
    rw [E7] at this
    exact this
  have hgl := h.lt
  have hBg := h.low
  go_enter Try.func89, Try.ntmps89
  go_upto_region 2 with (first | (refine wpList_valg rfl (run_built0 rfl built_cm) ?_) | (refine wpList_newV rfl rfl rfl rfl ZVCm RTCom rfl rfl (fun _ _ => noCm_one _) ?_; intro w0 hq b0 hz0) | (refine wpList_alloc_v rfl rfl ZVCm ?_))
  have h2 := heap_alloc_new w (.cells (arrV 70 noCm) 40)
  have hb0 : Below w.heap.size w (w.alloc (.cells (arrV 70 noCm) 40)) := (Below.refl _ _).alloc (Nat.le_refl _) _
  replace h2 := keep_below b0 (lt_of_block h2) h2
  have hb : But g w w0 := But.of_below (hb0.trans (b0.mono hb0.size))
  have he : Rdr w0 B g s1 := h.after (hb0.trans (b0.mono hb0.size))
  rw [World.size_alloc] at hq
  clear hb0 b0 hz0 h
  have hqq : w.heap.size < w.heap.size + 1 := by omega
  (try simp only [Act.put, List.setIfInBounds_toArray, List.set_cons_zero, List.set_cons_succ])
  simp only [World.size_alloc]
  obtain ⟨q, hqe⟩ : ∃ q, w.heap.size + 1 = q := ⟨_, rfl⟩
  rw [hqe] at hq hqq ⊢
  go_upto_region 3 with (go_at_call 88; have lt0 := he.lt8 E1; (with_reducible refine (rdNum8 he E1).mono ?_); rintro e w2 ⟨rfl, he2, hb2⟩; have hq2 := hb2.keep hq (by omega); have h22 := hb2.keep h2 (by omega); have c2 := cell_arrV hq2 0 (by omega); have f2 := frozen_of_row w2 q 0 _ _ hq2)
  replace he := he2.setAt (q := q) (by omega) (by omega) 0 (.int .u64 (ep : Int))
  replace hb := (hb.trans hb2).setNew (q := q) (by omega) 0 (.int .u64 (ep : Int))
  replace hq := set_arrV (i := 0) hq2 (.int .u64 (ep : Int))
  replace h2 := (show (w2.setCell ⟨q, 0, none⟩ (.int .u64 (ep : Int))).heap[w.heap.size]? = _ from heap_setCell_other _ _ _ _ (show w.heap.size ≠ q by omega)).trans h22
  clear hq2 c2 f2 he2 hb2 h22
  generalize w2.setCell ⟨q, 0, none⟩ (.int .u64 (ep : Int)) = w5 at *
  clear w2
  (try simp only [Act.put, List.setIfInBounds_toArray, List.set_cons_zero, List.set_cons_succ])
  go_upto_region 4 with (go_at_call 88; have lt1 := he.lt4 E2; (with_reducible refine (rdNum4 he E2).mono ?_); rintro e w2 ⟨rfl, he2, hb2⟩; have hq2 := hb2.keep hq (by omega); have h22 := hb2.keep h2 (by omega); have c2 := cell_arrV hq2 1 (by omega); have f2 := frozen_of_row w2 q 1 _ _ hq2)
  replace he := he2.setAt (q := q) (by omega) (by omega) 1 (.int .i64 (by_ : Int))
  replace hb := (hb.trans hb2).setNew (q := q) (by omega) 1 (.int .i64 (by_ : Int))
  replace hq := set_arrV (i := 1) hq2 (.int .i64 (by_ : Int))
  replace h2 := (show (w2.setCell ⟨q, 1, none⟩ (.int .i64 (by_ : Int))).heap[w.heap.size]? = _ from heap_setCell_other _ _ _ _ (show w.heap.size ≠ q by omega)).trans h22
  clear hq2 c2 f2 he2 hb2 h22
  generalize w2.setCell ⟨q, 1, none⟩ (.int .i64 (by_ : Int)) = w6 at *
  clear w2
  (try simp only [Act.put, List.setIfInBounds_toArray, List.set_cons_zero, List.set_cons_succ])
  go_upto_region 5 with (go_at_call 88; have ltP := he.lt2 E3; (with_reducible refine (rdNum2 he E3).mono ?_); rintro e w2 ⟨rfl, he2, hb2⟩; have hq2 := hb2.keep hq (by omega); have h22 := hb2.keep h2 (by omega))
  replace he := he2
  replace hb := hb.trans hb2
  replace hq := hq2
  replace h2 := h22
  clear hq2 he2 hb2 h22
  generalize w2 = w7 at *
  (try simp only [Act.put, List.setIfInBounds_toArray, List.set_cons_zero, List.set_cons_succ])
  rename Act → World → Prop => K1
  rename ∀ (a : Act) (w : World), Code.wp Try.prog _ _ a w → K1 a w => hK1
  have KEY1 : ∀ (a' : Act) (wz : World), a'.defers = [] → a'.tmps.size = 151 → a'.tmps.getD 0 undef = .pointer (some ⟨g, 0, none⟩) → a'.tmps.getD 2 undef = .pointer (some ⟨w.heap.size, 0, none⟩) → a'.tmps.getD 3 undef = .pointer (some ⟨q, 0, none⟩) → ∀ (PA : Option Addr) (pc : Nat), Rdr wz B g s5 → wz.ownsRow w.heap.size 79 34 (.slice PA props.length pc) props.length (cellsOf 34 propF props) → wz.heap[q]? = some (.cells (arrV 70 (upd (upd (upd noCm 0 (.int .u64 (ep : Int))) 1 (.int .i64 (by_ : Int))) 2 (.slice PA props.length pc))) 40 (0, 0)) → wz.heap[w.heap.size]? = some (.cells (arrV 70 noCm) 40 (0, 0)) → But g w wz → K1 a' wz := by
    clear he hq h2 hb E1 E2 E3 E4
    intro a' wz hd hsz e0 e2 e3 PA pc he r1 hq h2 hb
    refine hK1 _ _ ?_
    clear hK1
    obtain ⟨x, rfl⟩ := act_all a' hd hsz
    replace e0 : x 0 = .pointer (some ⟨g, 0, none⟩) := e0
    replace e2 : x 2 = .pointer (some ⟨w.heap.size, 0, none⟩) := e2
    replace e3 : x 3 = .pointer (some ⟨q, 0, none⟩) := e3
    rw [e0, e2, e3]
    clear hd hsz e0 e2 e3
    go_upto_region 13 with (first | (go_at_call 109; (with_reducible refine (rdKeyE he E5).mono ?_); rintro e w2 ⟨rfl, he2, hb2⟩; have hq2 := hb2.keep hq (by omega); have h22 := hb2.keep h2 (by omega)) | (refine wpList_store_part (f' := fun i => ((pt i : Nat) : Int)) rfl rfl RTKey rfl rfl hq2 (by omega) ?_))
    replace r1 := Rdr.own hb2 he r1 (by decide)
    replace r1 := own_setRow (cs := (arrV 70 (patch (upd (upd (upd noCm 0 (.int .u64 (ep : Int))) 1 (.int .i64 (by_ : Int))) 2 (.slice PA props.length pc)) 3 32 fun i => .int .u8 ((pt i : Nat) : Int)))) r1 hq2 (by decide)
    replace he := he2.butAt (But.row1 (q := q) (arrV 70 (patch (upd (upd (upd noCm 0 (.int .u64 (ep : Int))) 1 (.int .i64 (by_ : Int))) 2 (.slice PA props.length pc)) 3 32 fun i => .int .u8 ((pt i : Nat) : Int)))) (by omega) (by omega)
    replace hb := (hb.trans hb2).newRow (q := q) (cs := arrV 70 (patch (upd (upd (upd noCm 0 (.int .u64 (ep : Int))) 1 (.int .i64 (by_ : Int))) 2 (.slice PA props.length pc)) 3 32 fun i => .int .u8 ((pt i : Nat) : Int))) (by omega)
    replace hq := row_self (c' := arrV 70 (patch (upd (upd (upd noCm 0 (.int .u64 (ep : Int))) 1 (.int .i64 (by_ : Int))) 2 (.slice PA props.length pc)) 3 32 fun i => .int .u8 ((pt i : Nat) : Int))) hq2
    replace h2 := (show (w2.setRow q (arrV 70 (patch (upd (upd (upd noCm 0 (.int .u64 (ep : Int))) 1 (.int .i64 (by_ : Int))) 2 (.slice PA props.length pc)) 3 32 fun i => .int .u8 ((pt i : Nat) : Int)))).heap[w.heap.size]? = _ from setRow_other _ _ _ _ (show w.heap.size ≠ q by omega)).trans h22
    clear hq2 he2 hb2 h22
    generalize w2.setRow q (arrV 70 (patch (upd (upd (upd noCm 0 (.int .u64 (ep : Int))) 1 (.int .i64 (by_ : Int))) 2 (.slice PA props.length pc)) 3 32 fun i => .int .u8 ((pt i : Nat) : Int))) = w9 at *
    clear w2
    (try simp only [Act.put, List.setIfInBounds_toArray, List.set_cons_zero, List.set_cons_succ])
    go_upto_region 14 with (fail)
    go_upto_region 15 with (go_at_call 88; have ltS := he.lt2 E6; (with_reducible refine (rdNum2 he E6).mono ?_); rintro e w2 ⟨rfl, he2, hb2⟩; have hq2 := hb2.keep hq (by omega); have h22 := hb2.keep h2 (by omega))
    replace r1 := Rdr.own hb2 he r1 (by decide)
    replace he := he2
    replace hb := hb.trans hb2
    replace hq := hq2
    replace h2 := h22
    clear hq2 he2 hb2 h22
    generalize w2 = wA at *
    (try simp only [Act.put, List.setIfInBounds_toArray, List.set_cons_zero, List.set_cons_succ])
    rename Act → World → Prop => K2
    rename ∀ (a : Act) (w : World), Code.wp Try.prog _ _ a w → K2 a w => hK2
    have KEY2 : ∀ (a' : Act) (wz : World), a'.defers = [] → a'.tmps.size = 151 → a'.tmps.getD 0 undef = .pointer (some ⟨g, 0, none⟩) → a'.tmps.getD 2 undef = .pointer (some ⟨w.heap.size, 0, none⟩) → a'.tmps.getD 3 undef = .pointer (some ⟨q, 0, none⟩) → a'.tmps.getD 6 undef = .int .i64 ((sendsP steps : Nat) : Int) → ∀ (SA : Option Addr) (sc : Nat) (ls : List StM), ls.map StM.p = steps → sendsP (ls.map StM.p) ≤ 4294967296 → Rdr wz B g s8 → wz.ownsRow w.heap.size 79 34 (.slice PA props.length pc) props.length (cellsOf 34 propF props) → wz.ownsRow w.heap.size 84 3 (.slice SA ls.length sc) ls.length (cellsOf 3 stepF ls) → (∀ x ∈ ls, StN wz w.heap.size x) → wz.heap[q]? = some (.cells (arrV 70 (upd (patch (upd (upd (upd noCm 0 (.int .u64 (ep : Int))) 1 (.int .i64 (by_ : Int))) 2 (.slice PA props.length pc)) 3 32 fun i => .int .u8 ((pt i : Nat) : Int)) 35 (.slice SA ls.length sc))) 40 (0, 0)) → wz.heap[w.heap.size]? = some (.cells (arrV 70 noCm) 40 (0, 0)) → But g w wz → K2 a' wz := by
      clear he r1 hq h2 hb E7
      intro a' wz hd hsz e0 e2 e3 e6 SA sc ls hls hsb he r1 r2 n2 hq h2 hb
      refine hK2 _ _ ?_
      clear hK2
      obtain ⟨x, rfl⟩ := act_all a' hd hsz
      replace e0 : x 0 = .pointer (some ⟨g, 0, none⟩) := e0
      replace e2 : x 2 = .pointer (some ⟨w.heap.size, 0, none⟩) := e2
      replace e3 : x 3 = .pointer (some ⟨q, 0, none⟩) := e3
      replace e6 : x 6 = .int .i64 ((sendsP steps : Nat) : Int) := e6
      rw [e0, e2, e3, e6]
      clear hd hsz e0 e2 e3 e6
      subst hls
      rw [List.length_map] at E8 hsl
      generalize hSD : sendsP (ls.map StM.p) = SD at *
      clear hSD
      go_upto_region 27 with (fail)
      rename Act → World → Prop => K3
      rename ∀ (a : Act) (w : World), Code.wp Try.prog _ _ a w → K3 a w => hK3
      have KEY3 : ∀ (a' : Act) (wz : World), a'.defers = [] → a'.tmps.size = 151 → a'.tmps.getD 0 undef = .pointer (some ⟨g, 0, none⟩) → a'.tmps.getD 2 undef = .pointer (some ⟨w.heap.size, 0, none⟩) → a'.tmps.getD 3 undef = .pointer (some ⟨q, 0, none⟩) → a'.tmps.getD 6 undef = .int .i64 ((SD : Nat) : Int) → ∀ (KA : Option Addr) (kc : Nat), Rdr wz B g s9 → wz.ownsRow w.heap.size 79 34 (.slice PA props.length pc) props.length (cellsOf 34 propF props) → wz.ownsRow w.heap.size 84 3 (.slice SA ls.length sc) ls.length (cellsOf 3 stepF ls) → (∀ x ∈ ls, StN wz w.heap.size x) → wz.ownsRow w.heap.size 36 32 (.slice KA new.length kc) new.length (cellsOf 32 keyF new) → wz.heap[q]? = some (.cells (arrV 70 (upd (upd (patch (upd (upd (upd noCm 0 (.int .u64 (ep : Int))) 1 (.int .i64 (by_ : Int))) 2 (.slice PA props.length pc)) 3 32 fun i => .int .u8 ((pt i : Nat) : Int)) 35 (.slice SA ls.length sc)) 36 (.slice KA new.length kc))) 40 (0, 0)) → wz.heap[w.heap.size]? = some (.cells (arrV 70 noCm) 40 (0, 0)) → But g w wz → K3 a' wz := by
        clear he r1 r2 n2 hq h2 hb E8
        intro a' wz hd hsz e0 e2 e3 e6 KA kc he r1 r2 n2 r3 hq h2 hb
        refine hK3 _ _ ?_
        clear hK3
        obtain ⟨x, rfl⟩ := act_all a' hd hsz
        replace e0 : x 0 = .pointer (some ⟨g, 0, none⟩) := e0
        replace e2 : x 2 = .pointer (some ⟨w.heap.size, 0, none⟩) := e2
        replace e3 : x 3 = .pointer (some ⟨q, 0, none⟩) := e3
        replace e6 : x 6 = .int .i64 ((SD : Nat) : Int) := e6
        rw [e0, e2, e3, e6]
        clear hd hsz e0 e2 e3 e6
        go_upto_region 30 with (fail)
        rename Act → World → Prop => K4
        rename ∀ (a : Act) (w : World), Code.wp Try.prog _ _ a w → K4 a w => hK4
        have KEY4 : ∀ (a' : Act) (wz : World), a'.defers = [] → a'.tmps.size = 151 → a'.tmps.getD 0 undef = .pointer (some ⟨g, 0, none⟩) → a'.tmps.getD 2 undef = .pointer (some ⟨w.heap.size, 0, none⟩) → a'.tmps.getD 3 undef = .pointer (some ⟨q, 0, none⟩) → ∀ (BA : Option Addr) (bc : Nat) (lb : List Pl), lb.map Pl.l = boxes → Rdr wz B g s10 → wz.ownsRow w.heap.size 79 34 (.slice PA props.length pc) props.length (cellsOf 34 propF props) → wz.ownsRow w.heap.size 84 3 (.slice SA ls.length sc) ls.length (cellsOf 3 stepF ls) → (∀ x ∈ ls, StN wz w.heap.size x) → wz.ownsRow w.heap.size 36 32 (.slice KA new.length kc) new.length (cellsOf 32 keyF new) → wz.ownsRow w.heap.size 23 1 (.slice BA lb.length bc) lb.length (cellsOf 1 plF lb) → (∀ x ∈ lb, PlN wz w.heap.size x) → wz.heap[q]? = some (.cells (arrV 70 (upd (upd (upd (patch (upd (upd (upd noCm 0 (.int .u64 (ep : Int))) 1 (.int .i64 (by_ : Int))) 2 (.slice PA props.length pc)) 3 32 fun i => .int .u8 ((pt i : Nat) : Int)) 35 (.slice SA ls.length sc)) 36 (.slice KA new.length kc)) 37 (.slice BA lb.length bc))) 40 (0, 0)) → wz.heap[w.heap.size]? = some (.cells (arrV 70 noCm) 40 (0, 0)) → But g w wz → K4 a' wz := by
          clear he r1 r2 n2 r3 hq h2 hb E9
          intro a' wz hd hsz e0 e2 e3 BA bc lb hlb he r1 r2 n2 r3 r4 n4 hq h2 hb
          refine hK4 _ _ ?_
          clear hK4
          obtain ⟨x, rfl⟩ := act_all a' hd hsz
          replace e0 : x 0 = .pointer (some ⟨g, 0, none⟩) := e0
          replace e2 : x 2 = .pointer (some ⟨w.heap.size, 0, none⟩) := e2
          replace e3 : x 3 = .pointer (some ⟨q, 0, none⟩) := e3
          rw [e0, e2, e3]
          clear hd hsz e0 e2 e3
          subst hlb
          go_upto_region 34 with (first | (go_at_call 109; (with_reducible refine (rdKeyE he E10).mono ?_); rintro e w2 ⟨rfl, he2, hb2⟩; have hq2 := hb2.keep hq (by omega); have h22 := hb2.keep h2 (by omega)) | (refine wpList_store_part (f' := fun i => ((tag i : Nat) : Int)) rfl rfl RTKey rfl rfl hq2 (by omega) ?_))
          replace r1 := Rdr.own hb2 he r1 (by decide)
          replace r1 := own_setRow (cs := (arrV 70 (patch (upd (upd (upd (patch (upd (upd (upd noCm 0 (.int .u64 (ep : Int))) 1 (.int .i64 (by_ : Int))) 2 (.slice PA props.length pc)) 3 32 fun i => .int .u8 ((pt i : Nat) : Int)) 35 (.slice SA ls.length sc)) 36 (.slice KA new.length kc)) 37 (.slice BA lb.length bc)) 38 32 fun i => .int .u8 ((tag i : Nat) : Int)))) r1 hq2 (by decide)
          replace r2 := Rdr.own hb2 he r2 (by decide)
          replace n2 := fun x hx => Rdr.own hb2 he (n2 x hx) (by decide)
          replace r2 := own_setRow (cs := (arrV 70 (patch (upd (upd (upd (patch (upd (upd (upd noCm 0 (.int .u64 (ep : Int))) 1 (.int .i64 (by_ : Int))) 2 (.slice PA props.length pc)) 3 32 fun i => .int .u8 ((pt i : Nat) : Int)) 35 (.slice SA ls.length sc)) 36 (.slice KA new.length kc)) 37 (.slice BA lb.length bc)) 38 32 fun i => .int .u8 ((tag i : Nat) : Int)))) r2 hq2 (by decide)
          replace n2 := fun x hx => own_setRow (cs := (arrV 70 (patch (upd (upd (upd (patch (upd (upd (upd noCm 0 (.int .u64 (ep : Int))) 1 (.int .i64 (by_ : Int))) 2 (.slice PA props.length pc)) 3 32 fun i => .int .u8 ((pt i : Nat) : Int)) 35 (.slice SA ls.length sc)) 36 (.slice KA new.length kc)) 37 (.slice BA lb.length bc)) 38 32 fun i => .int .u8 ((tag i : Nat) : Int)))) (n2 x hx) hq2 (by decide)
          replace r3 := Rdr.own hb2 he r3 (by decide)
          replace r3 := own_setRow (cs := (arrV 70 (patch (upd (upd (upd (patch (upd (upd (upd noCm 0 (.int .u64 (ep : Int))) 1 (.int .i64 (by_ : Int))) 2 (.slice PA props.length pc)) 3 32 fun i => .int .u8 ((pt i : Nat) : Int)) 35 (.slice SA ls.length sc)) 36 (.slice KA new.length kc)) 37 (.slice BA lb.length bc)) 38 32 fun i => .int .u8 ((tag i : Nat) : Int)))) r3 hq2 (by decide)
          replace r4 := Rdr.own hb2 he r4 (by decide)
          replace n4 := fun x hx => Rdr.own hb2 he (n4 x hx) (by decide)
          replace r4 := own_setRow (cs := (arrV 70 (patch (upd (upd (upd (patch (upd (upd (upd noCm 0 (.int .u64 (ep : Int))) 1 (.int .i64 (by_ : Int))) 2 (.slice PA props.length pc)) 3 32 fun i => .int .u8 ((pt i : Nat) : Int)) 35 (.slice SA ls.length sc)) 36 (.slice KA new.length kc)) 37 (.slice BA lb.length bc)) 38 32 fun i => .int .u8 ((tag i : Nat) : Int)))) r4 hq2 (by decide)
          replace n4 := fun x hx => own_setRow (cs := (arrV 70 (patch (upd (upd (upd (patch (upd (upd (upd noCm 0 (.int .u64 (ep : Int))) 1 (.int .i64 (by_ : Int))) 2 (.slice PA props.length pc)) 3 32 fun i => .int .u8 ((pt i : Nat) : Int)) 35 (.slice SA ls.length sc)) 36 (.slice KA new.length kc)) 37 (.slice BA lb.length bc)) 38 32 fun i => .int .u8 ((tag i : Nat) : Int)))) (n4 x hx) hq2 (by decide)
          replace he := he2.butAt (But.row1 (q := q) (arrV 70 (patch (upd (upd (upd (patch (upd (upd (upd noCm 0 (.int .u64 (ep : Int))) 1 (.int .i64 (by_ : Int))) 2 (.slice PA props.length pc)) 3 32 fun i => .int .u8 ((pt i : Nat) : Int)) 35 (.slice SA ls.length sc)) 36 (.slice KA new.length kc)) 37 (.slice BA lb.length bc)) 38 32 fun i => .int .u8 ((tag i : Nat) : Int)))) (by omega) (by omega)
          replace hb := (hb.trans hb2).newRow (q := q) (cs := arrV 70 (patch (upd (upd (upd (patch (upd (upd (upd noCm 0 (.int .u64 (ep : Int))) 1 (.int .i64 (by_ : Int))) 2 (.slice PA props.length pc)) 3 32 fun i => .int .u8 ((pt i : Nat) : Int)) 35 (.slice SA ls.length sc)) 36 (.slice KA new.length kc)) 37 (.slice BA lb.length bc)) 38 32 fun i => .int .u8 ((tag i : Nat) : Int))) (by omega)
          replace hq := row_self (c' := arrV 70 (patch (upd (upd (upd (patch (upd (upd (upd noCm 0 (.int .u64 (ep : Int))) 1 (.int .i64 (by_ : Int))) 2 (.slice PA props.length pc)) 3 32 fun i => .int .u8 ((pt i : Nat) : Int)) 35 (.slice SA ls.length sc)) 36 (.slice KA new.length kc)) 37 (.slice BA lb.length bc)) 38 32 fun i => .int .u8 ((tag i : Nat) : Int))) hq2
          replace h2 := (show (w2.setRow q (arrV 70 (patch (upd (upd (upd (patch (upd (upd (upd noCm 0 (.int .u64 (ep : Int))) 1 (.int .i64 (by_ : Int))) 2 (.slice PA props.length pc)) 3 32 fun i => .int .u8 ((pt i : Nat) : Int)) 35 (.slice SA ls.length sc)) 36 (.slice KA new.length kc)) 37 (.slice BA lb.length bc)) 38 32 fun i => .int .u8 ((tag i : Nat) : Int)))).heap[w.heap.size]? = _ from setRow_other _ _ _ _ (show w.heap.size ≠ q by omega)).trans h22
          clear hq2 he2 hb2 h22
          generalize w2.setRow q (arrV 70 (patch (upd (upd (upd (patch (upd (upd (upd noCm 0 (.int .u64 (ep : Int))) 1 (.int .i64 (by_ : Int))) 2 (.slice PA props.length pc)) 3 32 fun i => .int .u8 ((pt i : Nat) : Int)) 35 (.slice SA ls.length sc)) 36 (.slice KA new.length kc)) 37 (.slice BA lb.length bc)) 38 32 fun i => .int .u8 ((tag i : Nat) : Int))) = wv at *
          clear w2
          (try simp only [Act.put, List.setIfInBounds_toArray, List.set_cons_zero, List.set_cons_succ])
          replace hq := row_as (c' := arrV 70 (comV (comOf ⟨ep, by_, props, pt, ls.map StM.p, new, lb.map Pl.l, tag⟩ (atOf PA pc SA sc ls KA kc BA bc lb)) tag)) hq ((show _ = arrV 70 (fun j => if j = 35 then .slice SA ls.length sc else if j = 37 then .slice BA lb.length bc else comV (comOf ⟨ep, by_, props, pt, ls.map StM.p, new, lb.map Pl.l, tag⟩ (atOf PA pc SA sc ls KA kc BA bc lb)) tag j) by kernel_rfl).trans (arrV_ext fun j _ => by
            by_cases h5 : j = 35
            · rw [if_pos h5, h5]
              show _ = Value.slice SA (ls.map StM.p).length sc
              rw [List.length_map]
            · rw [if_neg h5]
              by_cases h7 : j = 37
              · rw [if_pos h7, h7]
                show _ = Value.slice BA (lb.map Pl.l).length bc
                rw [List.length_map]
              · rw [if_neg h7]))
          go_wp2_with (first | (refine wpList_load_all rfl rfl RTCom rfl hq ?_) | (refine wpList_store_v rfl rfl RTCom rfl rfl h2 (fun i _ => comV_one _ _ i) ?_))
          refine bodyPost_ret (results_v rfl rfl RTCom (row_self h2)) rfl ⟨(atOf PA pc SA sc ls KA kc BA bc lb), rfl, ?_, ?_, ?_⟩
          · exact fun w' hk => com_ok (ep := ep) (by_ := by_) (pt := pt) (tag := tag) (own_keep (own_setRow r1 h2 (by decide)) fun b c fr hb => hk b c _ fr hb (by decide)) (own_keep (own_setRow r2 h2 (by decide)) fun b c fr hb => hk b c _ fr hb (by decide)) (fun x hx => own_keep (own_setRow (n2 x hx) h2 (by decide)) fun b c fr hb => hk b c _ fr hb (by decide)) (own_keep (own_setRow r3 h2 (by decide)) fun b c fr hb => hk b c _ fr hb (by decide)) (own_keep (own_setRow r4 h2 (by decide)) fun b c fr hb => hk b c _ fr hb (by decide)) (fun x hx => own_keep (own_setRow (n4 x hx) h2 (by decide)) fun b c fr hb => hk b c _ fr hb (by decide))
          · exact he.butAt (But.row1 _) (by omega) (by omega)
          · exact hb.newRow (Nat.le_refl _)
        clear hK4
        replace KEY4 := Lib.hid KEY4
        go_loopg [6] SD (fun r x wr => ∃ (lb : List Pl) (s' : Rs) (BA : Option Addr) (bc : Nat), x = .int .i64 r ∧ r + lb.length ≤ SD ∧ itemsP boxP SD s9 = (lb.map Pl.l ++ (itemsP boxP r s').1, (itemsP boxP r s').2) ∧ Rdr wr B g s' ∧ wr.ownsRow w.heap.size 79 34 (.slice PA props.length pc) props.length (cellsOf 34 propF props) ∧ wr.ownsRow w.heap.size 84 3 (.slice SA ls.length sc) ls.length (cellsOf 3 stepF ls) ∧ (∀ x ∈ ls, StN wr w.heap.size x) ∧ wr.ownsRow w.heap.size 36 32 (.slice KA new.length kc) new.length (cellsOf 32 keyF new) ∧ wr.ownsRow w.heap.size 23 1 (.slice BA lb.length bc) lb.length (cellsOf 1 plF lb) ∧ (∀ x ∈ lb, PlN wr w.heap.size x) ∧ wr.heap[q]? = some (.cells (arrV 70 (upd (upd (upd (patch (upd (upd (upd noCm 0 (.int .u64 (ep : Int))) 1 (.int .i64 (by_ : Int))) 2 (.slice PA props.length pc)) 3 32 fun i => .int .u8 ((pt i : Nat) : Int)) 35 (.slice SA ls.length sc)) 36 (.slice KA new.length kc)) 37 (.slice BA lb.length bc))) 40 (0, 0)) ∧ wr.heap[w.heap.size]? = some (.cells (arrV 70 noCm) 40 (0, 0)) ∧ But g w wr)
        case atStart => exact ⟨[], s9, none, 0, rfl, Nat.le_refl _, rfl, he, r1, r2, n2, r3, ⟨rfl, .inl ⟨rfl, rfl⟩⟩, (fun x hx => by cases hx), row_as hq (by kernel_rfl), h2, hb⟩
        case round =>
          clear he r1 r2 n2 r3 hq h2 hb
          obtain ⟨lb, s', BA, bc, rfl, hr, hit, he, r1, r2, n2, r3, r4, n4, hq, h2, hb⟩ := hrel
          have HI := Lib.hid hit
          clear hit
          obtain ⟨A0, n0, c0, hE⟩ := he
          have c1 := hE.c1
          have he : Rdr wr B g s' := ⟨_, _, _, hE⟩
          clear hE
          have HFin := Lib.hid (show (gk = 0 ∨ s'.ov = true) → (lb.map Pl.l = boxes ∧ s' = s10) from fun hx => by
            have e := items_end HI.out hx
            rw [E9] at e
            injection e with e1 e2
            exact ⟨e1.symm, e2.symm⟩)
          by_cases h0 : gk = 0
          · subst h0
            obtain ⟨hlb, rfl⟩ := HFin.out (.inl rfl)
            clear HFin HI
            go_wp2
            exact KEY4.out _ _ rfl rfl rfl rfl rfl BA bc lb hlb he r1 r2 n2 r3 r4 n4 hq h2 hb
          · cases hov : s'.ov with
            | true =>
              rw [hov] at c1
              obtain ⟨hlb, rfl⟩ := HFin.out (.inr hov)
              clear HFin HI
              go_wp2
              exact KEY4.out _ _ rfl rfl rfl rfl rfl BA bc lb hlb he r1 r2 n2 r3 r4 n4 hq h2 hb
            | false =>
              rw [hov] at c1
              clear HFin KEY4
              obtain ⟨r, rfl⟩ : ∃ r, gk = r + 1 := ⟨gk - 1, by omega⟩
              obtain ⟨nb, u1, X1⟩ := pair_of (numP 2 s')
              obtain ⟨bl, u2, X2⟩ := pair_of (cutP nb u1)
              have EX := Lib.hid (boxP_is X1 X2)
              have ltb := he.lt2 X1
              have hqr := lt_of_block hq
              have hgr := he.lt
              go_upto_region 32 with (fail)
              have cq : wr.drew.cell? ⟨q, 37, none⟩ = some (.slice BA lb.length bc) := cell_arrV (show wr.drew.heap[q]? = _ from hq) 37 (by omega)
              have hqd : wr.drew.heap[q]? = _ := hq
              have hed := he.after (Below.refl _ _).drew
              (try simp only [Act.put, List.setIfInBounds_toArray, List.set_cons_zero, List.set_cons_succ])
              refine wp_region_can (fun b => b = q) 10 [(0, false), (1, false), (2, false), (3, false), (4, true), (5, false), (6, true), (7, true), (8, true), (9, false)] (by kernel_rfl) (by kernel_rfl) ?_
              (simp only [canOps, List.getElem?_cons_zero, List.getElem?_cons_succ, List.drop_succ_cons, List.drop_zero])
              iterate 4 (first | (refine wpCan_move rfl rfl (fun _ _ _ _ h => h) ?_; (simp only [Act.put, Act.eval, Array.getD_eq_getD_getElem?, List.getElem?_toArray, List.getElem?_cons_zero, List.getElem?_cons_succ, Option.getD_some, List.setIfInBounds_toArray, List.set_cons_zero, List.set_cons_succ])) | (refine wpCan_assign rfl rfl (fun _ _ _ _ h => h) ?_; (simp only [Act.put, Act.eval, Array.getD_eq_getD_getElem?, List.getElem?_toArray, List.getElem?_cons_zero, List.getElem?_cons_succ, Option.getD_some, List.setIfInBounds_toArray, List.set_cons_zero, List.set_cons_succ])) | (refine wpCan_nilCheck rfl rfl rfl (fun _ _ _ _ h => h) ?_; (simp only [Act.put, List.setIfInBounds_toArray, List.set_cons_zero, List.set_cons_succ])) | (refine wpCan_q rfl rfl (fun _ _ _ _ h => h) (by first | exact .bin rfl rfl rfl | exact .indexAddr rfl | exact .un rfl | exact .extract rfl | exact .index rfl | exact .field rfl | exact .slice rfl | exact .fieldT rfl FTCom6 | exact .load rfl rfl rfl hqd) (fun K hK => ?_); go_simp; (try (simp only [↓IntWalk.iteOmega]; go_simp)); (try go_bits); refine hK _ ?_; clear hK K))
              refine wpCan_e rfl (fun K hK => ?_)
              go_simp
              refine (rdNum2 hed X1).mono ?_
              rintro e w2 ⟨rfl, he2, hb2⟩
              refine hK _ _ (keep_at hb2 hqr (by omega)) ?_
              clear hK K
              (try simp only [Act.put, List.setIfInBounds_toArray, List.set_cons_zero, List.set_cons_succ])
              iterate 1 (first | (refine wpCan_move rfl rfl (fun _ _ _ _ h => h) ?_; (simp only [Act.put, Act.eval, Array.getD_eq_getD_getElem?, List.getElem?_toArray, List.getElem?_cons_zero, List.getElem?_cons_succ, Option.getD_some, List.setIfInBounds_toArray, List.set_cons_zero, List.set_cons_succ])) | (refine wpCan_assign rfl rfl (fun _ _ _ _ h => h) ?_; (simp only [Act.put, Act.eval, Array.getD_eq_getD_getElem?, List.getElem?_toArray, List.getElem?_cons_zero, List.getElem?_cons_succ, Option.getD_some, List.setIfInBounds_toArray, List.set_cons_zero, List.set_cons_succ])) | (refine wpCan_nilCheck rfl rfl rfl (fun _ _ _ _ h => h) ?_; (simp only [Act.put, List.setIfInBounds_toArray, List.set_cons_zero, List.set_cons_succ])) | (refine wpCan_q rfl rfl (fun _ _ _ _ h => h) (by first | exact .bin rfl rfl rfl | exact .indexAddr rfl | exact .un rfl | exact .extract rfl | exact .index rfl | exact .field rfl | exact .slice rfl | exact .conv rfl rfl UInt) (fun K hK => ?_); go_simp; (try (simp only [↓IntWalk.iteOmega]; go_simp)); (try go_bits); refine hK _ ?_; clear hK K))
              refine wpCan_e rfl (fun K hK => ?_)
              go_simp
              refine (rdCutE (by omega) he2 X2).mono ?_
              rintro e w3 ⟨Ab, cb, rfl, hob, he3, hb3⟩
              refine hK _ _ (keep_at hb3 (by have := hb2.size; have : wr.drew.heap.size = wr.heap.size := rfl; omega) (by omega)) ?_
              clear hK K
              (try simp only [Act.put, List.setIfInBounds_toArray, List.set_cons_zero, List.set_cons_succ])
              have hbt := hb2.trans hb3
              have hqW := hbt.keep hqd (by omega)
              have h2W := hbt.keep (show wr.drew.heap[w.heap.size]? = _ from h2) (by omega)
              have hbW := (hb.trans (But.of_below ((Below.refl wr.heap.size wr).drew))).trans hbt
              have r1W := Rdr.own hbt hed r1 (by decide)
              have r2W := Rdr.own hbt hed r2 (by decide)
              have n2W := fun x hx => Rdr.own hbt hed (n2 x hx) (by decide)
              have r3W := Rdr.own hbt hed r3 (by decide)
              have r4W := Rdr.own hbt hed r4 (by decide)
              have n4W := fun x hx => Rdr.own hbt hed (n4 x hx) (by decide)
              refine wpCan_e rfl (fun K hK => ?_)
              refine oper_bslice rfl Try.underlying22 (by simp [Act.eval, Act.put]) (BSBox ⟨bl, Ab, cb⟩) ?_
              refine hK _ _ (Keep.alloc _ _ (fun b hb => by subst hb; exact lt_of_block hqW)) ?_
              clear hK K
              (try simp only [Act.put, List.setIfInBounds_toArray, List.set_cons_zero, List.set_cons_succ])
              refine wpCan_e rfl (fun K hK => ?_)
              refine oper_append_el rfl ELBox (by omega) (by simp [Act.eval]) (by simp [Act.eval]) (World.ownsRow.alloc r4W _) (heap_alloc_new _ _) (fun i _ => rfl) (by omega) (by omega) (by have := hbW.size; simp; omega) ?_
              intro v5 w5 ho5 hk5 hm5
              have hk6 := fun k hk hne => (hk5 k (by simp; omega) hne).trans (alloc_at w3 _ k hk)
              have hm6 := hm_alloc hm5
              have hq5 := add_at r4W hk6 hqW (by decide)
              obtain ⟨A5, c5, rfl⟩ := own_slice ho5
              refine hK _ _ (fun b hb => by subst hb; exact hq5.trans ((alloc_at w3 _ _ (lt_of_block hqW)).trans hqW).symm) ?_
              clear hK K
              (try simp only [Act.put, List.setIfInBounds_toArray, List.set_cons_zero, List.set_cons_succ])
              iterate 1 (first | (refine wpCan_move rfl rfl (fun _ _ _ _ h => h) ?_; (simp only [Act.put, Act.eval, Array.getD_eq_getD_getElem?, List.getElem?_toArray, List.getElem?_cons_zero, List.getElem?_cons_succ, Option.getD_some, List.setIfInBounds_toArray, List.set_cons_zero, List.set_cons_succ])) | (refine wpCan_assign rfl rfl (fun _ _ _ _ h => h) ?_; (simp only [Act.put, Act.eval, Array.getD_eq_getD_getElem?, List.getElem?_toArray, List.getElem?_cons_zero, List.getElem?_cons_succ, Option.getD_some, List.setIfInBounds_toArray, List.set_cons_zero, List.set_cons_succ])) | (refine wpCan_nilCheck rfl rfl rfl (fun _ _ _ _ h => h) ?_; (simp only [Act.put, List.setIfInBounds_toArray, List.set_cons_zero, List.set_cons_succ])) | (refine wpCan_q rfl rfl (fun _ _ _ _ h => h) (by first | exact .bin rfl rfl rfl | exact .indexAddr rfl | exact .un rfl | exact .extract rfl | exact .index rfl | exact .field rfl | exact .slice rfl | exact .fieldT rfl FTCom6) (fun K hK => ?_); go_simp; (try (simp only [↓IntWalk.iteOmega]; go_simp)); (try go_bits); refine hK _ ?_; clear hK K))
              refine wpCan_nil ?_
              have h25 := add_at r4W hk6 h2W (by decide)
              have cq5 := cell_arrV hq5 37 (by omega)
              have fq5 := frozen_of_row w5 q 37 _ _ hq5
              clear cq hqd
              go_wp2
              go_roundg r
              case measure => omega
              case rel =>
                have hne : 23 ≠ 40 := by decide
                have n4' : ∀ x ∈ lb ++ [⟨bl, Ab, cb⟩], PlN w5 w.heap.size x := fun x hx => by
                  rcases List.mem_append.1 hx with h | h
                  · exact add_row r4W hk6 (n4W x h) (by decide)
                  · rw [List.mem_singleton.1 h]
                    exact add_row r4W hk6 (Own.mono hob (by have := hb2.size; have := hb.size; have : wr.drew.heap.size = wr.heap.size := rfl; omega)) (by decide)
                refine ⟨lb ++ [⟨bl, Ab, cb⟩], u2, A5, c5, by go_num, by simp; omega, ?_, (add_rdr r4W hk6 he3 hgl).setAt (by omega) (by omega) _ _, own_set (add_row r4W hk6 r1W (by decide)) hq5 (by decide), own_set (add_row r4W hk6 r2W (by decide)) hq5 (by decide), fun x hx => own_set (add_row r4W hk6 (n2W x hx) (by decide)) hq5 (by decide), own_set (add_row r4W hk6 r3W (by decide)) hq5 (by decide), ?_, fun x hx => own_set (n4' x hx) hq5 (by decide), ?_, (heap_setCell_other _ _ _ _ (show w.heap.size ≠ q by omega)).trans h25, (add_but r4W hk6 hm6 hbW (Nat.le_refl _)).setNew (by omega) _ _⟩
                · rw [List.map_append]
                  exact items_step HI.out hov EX.out
                · rw [List.length_append, cellsOf_snoc]
                  exact own_set ho5 hq5 (by decide)
                · rw [List.length_append]
                  exact row_as (set_arrV hq5 _) (congrArg (arrV 70) (upd_upd _ _ _ _))
      clear hK3
      replace KEY3 := Lib.hid KEY3
      go_loopg [10] ls.length (fun r x wr => ∃ (i : Nat) (lk : List (Nat → Nat)) (s' : Rs) (KA : Option Addr) (kc : Nat), x = .int .i64 i ∧ i + r = ls.length ∧ r + lk.length ≤ ls.length ∧ itemsP keyP ls.length s8 = (lk ++ (itemsP keyP r s').1, (itemsP keyP r s').2) ∧ Rdr wr B g s' ∧ wr.ownsRow w.heap.size 79 34 (.slice PA props.length pc) props.length (cellsOf 34 propF props) ∧ wr.ownsRow w.heap.size 84 3 (.slice SA ls.length sc) ls.length (cellsOf 3 stepF ls) ∧ (∀ x ∈ ls, StN wr w.heap.size x) ∧ wr.ownsRow w.heap.size 36 32 (.slice KA lk.length kc) lk.length (cellsOf 32 keyF lk) ∧ wr.heap[q]? = some (.cells (arrV 70 (upd (upd (patch (upd (upd (upd noCm 0 (.int .u64 (ep : Int))) 1 (.int .i64 (by_ : Int))) 2 (.slice PA props.length pc)) 3 32 fun i => .int .u8 ((pt i : Nat) : Int)) 35 (.slice SA ls.length sc)) 36 (.slice KA lk.length kc))) 40 (0, 0)) ∧ wr.heap[w.heap.size]? = some (.cells (arrV 70 noCm) 40 (0, 0)) ∧ But g w wr)
      case atStart => exact ⟨0, [], s8, none, 0, rfl, by omega, Nat.le_refl _, rfl, he, r1, r2, n2, ⟨rfl, .inl ⟨rfl, rfl⟩⟩, row_as hq (by kernel_rfl), h2, hb⟩
      case round =>
        clear he r1 r2 n2 hq h2 hb
        obtain ⟨i, lk, s', KA, kc, rfl, hir, hr, hit, he, r1, r2, n2, r3, hq, h2, hb⟩ := hrel
        have HI := Lib.hid hit
        clear hit
        obtain ⟨A0, n0, c0, hE⟩ := he
        have c1 := hE.c1
        have he : Rdr wr B g s' := ⟨_, _, _, hE⟩
        clear hE
        have HFin := Lib.hid (show (gk = 0 ∨ s'.ov = true) → (lk = new ∧ s' = s9) from fun hx => by
          have e := items_end HI.out hx
          rw [E8] at e
          injection e with e1 e2
          exact ⟨e1.symm, e2.symm⟩)
        have c35 : wr.cell? ⟨q, 35, none⟩ = some (.slice SA ls.length sc) := cell_arrV hq 35 (by omega)
        by_cases h0 : gk = 0
        · subst h0
          obtain ⟨rfl, rfl⟩ := HFin.out (.inl rfl)
          obtain rfl : i = ls.length := by omega
          clear HFin HI
          go_wp2
          exact KEY3.out _ _ rfl rfl rfl rfl rfl rfl KA kc he r1 r2 n2 r3 hq h2 hb
        · have hil : i < ls.length := by omega
          cases hov : s'.ov with
          | true =>
            rw [hov] at c1
            obtain ⟨rfl, rfl⟩ := HFin.out (.inr hov)
            clear HFin HI
            go_wp2
            exact KEY3.out _ _ rfl rfl rfl rfl rfl rfl KA kc he r1 r2 n2 r3 hq h2 hb
          | false =>
            rw [hov] at c1
            clear HFin KEY3
            obtain ⟨r, rfl⟩ : ∃ r, gk = r + 1 := ⟨gk - 1, by omega⟩
            obtain ⟨k, u1, X1⟩ := pair_of (keyP s')
            have EX := Lib.hid X1
            have hqr := lt_of_block hq
            have hgr := he.lt
            go_upto_region 29 with (fail)
            clear c35
            have cq : wr.drew.cell? ⟨q, 36, none⟩ = some (.slice KA lk.length kc) := cell_arrV (show wr.drew.heap[q]? = _ from hq) 36 (by omega)
            have hqd : wr.drew.heap[q]? = _ := hq
            have hed := he.after (Below.refl _ _).drew
            (try simp only [Act.put, List.setIfInBounds_toArray, List.set_cons_zero, List.set_cons_succ])
            refine wp_region_can (fun b => b = q) 7 [(0, false), (1, false), (2, false), (3, true), (4, true), (5, true), (6, false)] (by kernel_rfl) (by kernel_rfl) ?_
            (simp only [canOps, List.getElem?_cons_zero, List.getElem?_cons_succ, List.drop_succ_cons, List.drop_zero])
            iterate 3 (first | (refine wpCan_move rfl rfl (fun _ _ _ _ h => h) ?_; (simp only [Act.put, Act.eval, Array.getD_eq_getD_getElem?, List.getElem?_toArray, List.getElem?_cons_zero, List.getElem?_cons_succ, Option.getD_some, List.setIfInBounds_toArray, List.set_cons_zero, List.set_cons_succ])) | (refine wpCan_assign rfl rfl (fun _ _ _ _ h => h) ?_; (simp only [Act.put, Act.eval, Array.getD_eq_getD_getElem?, List.getElem?_toArray, List.getElem?_cons_zero, List.getElem?_cons_succ, Option.getD_some, List.setIfInBounds_toArray, List.set_cons_zero, List.set_cons_succ])) | (refine wpCan_nilCheck rfl rfl rfl (fun _ _ _ _ h => h) ?_; (simp only [Act.put, List.setIfInBounds_toArray, List.set_cons_zero, List.set_cons_succ])) | (refine wpCan_q rfl rfl (fun _ _ _ _ h => h) (by first | exact .bin rfl rfl rfl | exact .indexAddr rfl | exact .un rfl | exact .extract rfl | exact .index rfl | exact .field rfl | exact .slice rfl | exact .fieldT rfl FTCom5 | exact .load rfl rfl rfl hqd) (fun K hK => ?_); go_simp; (try (simp only [↓IntWalk.iteOmega]; go_simp)); (try go_bits); refine hK _ ?_; clear hK K))
            refine wpCan_e rfl (fun K hK => ?_)
            go_simp
            refine (rdKeyE hed X1).mono ?_
            rintro e w3 ⟨rfl, he3, hbt⟩
            refine hK _ _ (keep_at hbt hqr (by omega)) ?_
            clear hK K
            (try simp only [Act.put, List.setIfInBounds_toArray, List.set_cons_zero, List.set_cons_succ])
            have hqW := hbt.keep hqd (by omega)
            have h2W := hbt.keep (show wr.drew.heap[w.heap.size]? = _ from h2) (by omega)
            have hbW := (hb.trans (But.of_below ((Below.refl wr.heap.size wr).drew))).trans hbt
            have r1W := Rdr.own hbt hed r1 (by decide)
            have r2W := Rdr.own hbt hed r2 (by decide)
            have n2W := fun x hx => Rdr.own hbt hed (n2 x hx) (by decide)
            have r3W := Rdr.own hbt hed r3 (by decide)
            refine wpCan_e rfl (fun K hK => ?_)
            refine oper_bslice rfl Try.underlying38 (by simp [Act.eval, Act.put]) (BSKey k) ?_
            refine hK _ _ (Keep.alloc _ _ (fun b hb => by subst hb; exact lt_of_block hqW)) ?_
            clear hK K
            (try simp only [Act.put, List.setIfInBounds_toArray, List.set_cons_zero, List.set_cons_succ])
            refine wpCan_e rfl (fun K hK => ?_)
            refine oper_append_el rfl ELKey (by omega) (by simp [Act.eval]) (by simp [Act.eval]) (World.ownsRow.alloc r3W _) (heap_alloc_new _ _) (fun i _ => rfl) (by omega) (by omega) (by have := hbW.size; simp; omega) ?_
            intro v5 w5 ho5 hk5 hm5
            have hk6 := fun k hk hne => (hk5 k (by simp; omega) hne).trans (alloc_at w3 _ k hk)
            have hm6 := hm_alloc hm5
            have hq5 := add_at r3W hk6 hqW (by decide)
            obtain ⟨A5, c5, rfl⟩ := own_slice ho5
            refine hK _ _ (fun b hb => by subst hb; exact hq5.trans ((alloc_at w3 _ _ (lt_of_block hqW)).trans hqW).symm) ?_
            clear hK K
            (try simp only [Act.put, List.setIfInBounds_toArray, List.set_cons_zero, List.set_cons_succ])
            iterate 1 (first | (refine wpCan_move rfl rfl (fun _ _ _ _ h => h) ?_; (simp only [Act.put, Act.eval, Array.getD_eq_getD_getElem?, List.getElem?_toArray, List.getElem?_cons_zero, List.getElem?_cons_succ, Option.getD_some, List.setIfInBounds_toArray, List.set_cons_zero, List.set_cons_succ])) | (refine wpCan_assign rfl rfl (fun _ _ _ _ h => h) ?_; (simp only [Act.put, Act.eval, Array.getD_eq_getD_getElem?, List.getElem?_toArray, List.getElem?_cons_zero, List.getElem?_cons_succ, Option.getD_some, List.setIfInBounds_toArray, List.set_cons_zero, List.set_cons_succ])) | (refine wpCan_nilCheck rfl rfl rfl (fun _ _ _ _ h => h) ?_; (simp only [Act.put, List.setIfInBounds_toArray, List.set_cons_zero, List.set_cons_succ])) | (refine wpCan_q rfl rfl (fun _ _ _ _ h => h) (by first | exact .bin rfl rfl rfl | exact .indexAddr rfl | exact .un rfl | exact .extract rfl | exact .index rfl | exact .field rfl | exact .slice rfl | exact .fieldT rfl FTCom5) (fun K hK => ?_); go_simp; (try (simp only [↓IntWalk.iteOmega]; go_simp)); (try go_bits); refine hK _ ?_; clear hK K))
            refine wpCan_nil ?_
            have h25 := add_at r3W hk6 h2W (by decide)
            have cq5 := cell_arrV hq5 36 (by omega)
            have fq5 := frozen_of_row w5 q 36 _ _ hq5
            clear cq hqd
            go_wp2
            go_roundg r
            case measure => omega
            case rel =>
              refine ⟨i + 1, lk ++ [k], u1, A5, c5, by go_num, by omega, by simp; omega, items_step HI.out hov EX.out, (add_rdr r3W hk6 he3 hgl).setAt (by omega) (by omega) _ _, own_set (add_row r3W hk6 r1W (by decide)) hq5 (by decide), own_set (add_row r3W hk6 r2W (by decide)) hq5 (by decide), fun x hx => own_set (add_row r3W hk6 (n2W x hx) (by decide)) hq5 (by decide), ?_, ?_, (heap_setCell_other _ _ _ _ (show w.heap.size ≠ q by omega)).trans h25, (add_but r3W hk6 hm6 hbW (Nat.le_refl _)).setNew (by omega) _ _⟩
              · rw [List.length_append, cellsOf_snoc]
                exact own_set ho5 hq5 (by decide)
              · rw [List.length_append]
                exact row_as (set_arrV hq5 _) (congrArg (arrV 70) (upd_upd _ _ _ _))
    clear hK2
    replace KEY2 := Lib.hid KEY2
    go_loopg [6, 7] sn (fun r x6 x7 wr => ∃ (ls : List StM) (s' : Rs) (SA : Option Addr) (sc : Nat), x7 = .int .u64 r ∧ x6 = .int .i64 ((sendsP (ls.map StM.p) : Nat) : Int) ∧ r + ls.length ≤ sn ∧ sendsP (ls.map StM.p) ≤ 65536 * ls.length ∧ itemsP stepP' sn s7 = (ls.map StM.p ++ (itemsP stepP' r s').1, (itemsP stepP' r s').2) ∧ Rdr wr B g s' ∧ wr.ownsRow w.heap.size 79 34 (.slice PA props.length pc) props.length (cellsOf 34 propF props) ∧ wr.ownsRow w.heap.size 84 3 (.slice SA ls.length sc) ls.length (cellsOf 3 stepF ls) ∧ (∀ x ∈ ls, StN wr w.heap.size x) ∧ wr.heap[q]? = some (.cells (arrV 70 (upd (patch (upd (upd (upd noCm 0 (.int .u64 (ep : Int))) 1 (.int .i64 (by_ : Int))) 2 (.slice PA props.length pc)) 3 32 fun i => .int .u8 ((pt i : Nat) : Int)) 35 (.slice SA ls.length sc))) 40 (0, 0)) ∧ wr.heap[w.heap.size]? = some (.cells (arrV 70 noCm) 40 (0, 0)) ∧ But g w wr)
    case atStart => exact ⟨[], s7, none, 0, rfl, rfl, Nat.le_refl _, Nat.le_refl _, rfl, he, r1, ⟨rfl, .inl ⟨rfl, rfl⟩⟩, (fun x hx => by cases hx), row_as hq (by kernel_rfl), h2, hb⟩
    case round =>
      clear he r1 hq h2 hb
      obtain ⟨ls, s', SA, sc, rfl, rfl, hr, hsb, hit, he, r1, r2, n2, hq, h2, hb⟩ := hrel
      have HI := Lib.hid hit
      clear hit
      obtain ⟨A0, n0, c0, hE⟩ := he
      have c1 := hE.c1
      have he : Rdr wr B g s' := ⟨_, _, _, hE⟩
      clear hE
      have HFin := Lib.hid (show (gk = 0 ∨ s'.ov = true) → (ls.map StM.p = steps ∧ s' = s8) from fun hx => by
        have e := items_end HI.out hx
        rw [E7] at e
        injection e with e1 e2
        exact ⟨e1.symm, e2.symm⟩)
      have hrN : gk < 18446744073709551616 := by omega
      by_cases h0 : gk = 0
      · subst h0
        obtain ⟨hls, rfl⟩ := HFin.out (.inl rfl)
        clear HFin HI
        go_wp2
        exact KEY2.out _ _ rfl rfl rfl rfl rfl (by first | (rw [hls]; rfl) | rfl | (rw [← hls]; rfl)) SA sc ls hls (by omega) he r1 r2 n2 hq h2 hb
      · cases hov : s'.ov with
        | true =>
          rw [hov] at c1
          obtain ⟨hls, rfl⟩ := HFin.out (.inr hov)
          clear HFin HI
          go_wp2
          exact KEY2.out _ _ rfl rfl rfl rfl rfl (by first | (rw [hls]; rfl) | rfl | (rw [← hls]; rfl)) SA sc ls hls (by omega) he r1 r2 n2 hq h2 hb
        | false =>
          rw [hov] at c1
          clear HFin KEY2
          obtain ⟨r, rfl⟩ : ∃ r, gk = r + 1 := ⟨gk - 1, by omega⟩
          obtain ⟨wo, rfl⟩ : ∃ wo : World, wo = wr := ⟨_, rfl⟩
          obtain ⟨nd, u1, X1⟩ := pair_of (numP 2 s')
          obtain ⟨fr, u2, X2⟩ := pair_of (numP 2 u1)
          obtain ⟨nn, u3, X3⟩ := pair_of (numP 2 u2)
          obtain ⟨sd, u4, X4⟩ := pair_of (itemsP (numP 2) nn u3)
          have EX := Lib.hid (stepP_is X1 X2 X3 X4)
          have HE := Lib.hid he
          have hgr := he.lt
          have hqr := lt_of_block hq
          have h2r := lt_of_block h2
          generalize hSe : sendsP (ls.map StM.p) = Se at *
          go_upto_region 18 with (first | (refine wpList_valg rfl (run_built0 rfl built_step) ?_) | (refine wpList_newV rfl rfl rfl rfl ZVStep0 RTStep rfl rfl (fun _ _ => stepV_one _ _ _ _ _ _) ?_; intro wk hp bk hz))
          replace he := he.after bk
          have hbr : But g wo wk := But.of_below bk
          clear c1 bk hz
          (try simp only [Act.put, List.setIfInBounds_toArray, List.set_cons_zero, List.set_cons_succ])
          go_upto_region 19 with (go_at_call 88; have ltX1 := he.lt2 X1; (with_reducible refine (rdNum2 he X1).mono ?_); rintro e w2 ⟨rfl, he2, hb2⟩; have hp2 := hb2.keep hp (by omega); have c2 := cell_arrV hp2 0 (by omega); have f2 := frozen_of_row w2 wo.heap.size 0 _ _ hp2)
          replace he := he2.setAt (q := wo.heap.size) (by omega) (by omega) 0 (.int .i64 (nd : Int))
          replace hbr := (hbr.trans hb2).setNew (q := wo.heap.size) (Nat.le_refl _) 0 (.int .i64 (nd : Int))
          replace hp := set_arrV (i := 0) hp2 (.int .i64 (nd : Int))
          clear hp2 c2 f2 he2 hb2
          generalize w2.setCell ⟨wo.heap.size, 0, none⟩ (.int .i64 (nd : Int)) = wl at *
          clear w2
          (try simp only [Act.put, List.setIfInBounds_toArray, List.set_cons_zero, List.set_cons_succ])
          go_upto_region 20 with (go_at_call 88; have ltX2 := he.lt2 X2; (with_reducible refine (rdNum2 he X2).mono ?_); rintro e w2 ⟨rfl, he2, hb2⟩; have hp2 := hb2.keep hp (by omega); have c2 := cell_arrV hp2 1 (by omega); have f2 := frozen_of_row w2 wo.heap.size 1 _ _ hp2)
          replace he := he2.setAt (q := wo.heap.size) (by omega) (by omega) 1 (.int .i64 ((fr : Int) - 1))
          replace hbr := (hbr.trans hb2).setNew (q := wo.heap.size) (Nat.le_refl _) 1 (.int .i64 ((fr : Int) - 1))
          replace hp := set_arrV (i := 1) hp2 (.int .i64 ((fr : Int) - 1))
          clear hp2 c2 f2 he2 hb2
          generalize w2.setCell ⟨wo.heap.size, 1, none⟩ (.int .i64 ((fr : Int) - 1)) = wm at *
          clear w2
          (try simp only [Act.put, List.setIfInBounds_toArray, List.set_cons_zero, List.set_cons_succ])
          replace hp := row_as (c' := arrV 3 (stepV (nd : Int) ((fr : Int) - 1) none 0 0)) hp (by kernel_rfl)
          go_upto_region 21 with (go_at_call 88; have ltn := he.lt2 X3; (with_reducible refine (rdNum2 he X3).mono ?_); rintro e w2 ⟨rfl, he2, hb2⟩; have hp2 := hb2.keep hp (by omega))
          replace he := he2
          replace hbr := hbr.trans hb2
          replace hp := hp2
          clear he2 hb2 hp2
          (try simp only [Act.put, List.setIfInBounds_toArray, List.set_cons_zero, List.set_cons_succ])
          go_loopg [6, 9] nn (fun k x6 x9 wr => ∃ (d : List Nat) (s'' : Rs) (Ai : Option Addr) (ci : Nat), x9 = .int .u64 k ∧ x6 = .int .i64 ((Se + d.length : Nat) : Int) ∧ k + d.length ≤ nn ∧ itemsP (numP 2) nn u3 = (d ++ (itemsP (numP 2) k s'').1, (itemsP (numP 2) k s'').2) ∧ Rdr wr B g s'' ∧ wr.ownsRow wo.heap.size 3 1 (.slice Ai d.length ci) d.length (cellsOf 1 intF d) ∧ wr.heap[wo.heap.size]? = some (.cells (arrV 3 (stepV (nd : Int) ((fr : Int) - 1) Ai d.length ci)) 84 (0, 0)) ∧ But g wo wr)
          case atStart => exact ⟨[], u3, none, 0, rfl, rfl, Nat.le_refl _, rfl, he, ⟨rfl, .inl ⟨rfl, rfl⟩⟩, hp, hbr⟩
          case round =>
            clear he hp hbr
            obtain ⟨d, v', Ai, ci, rfl, rfl, hr2, hit2, he, ri, hp, hbr⟩ := hrel
            have HI2 := Lib.hid hit2
            clear hit2
            obtain ⟨A0, n0, c0, hE⟩ := he
            have c1 := hE.c1
            have he : Rdr wr B g v' := ⟨_, _, _, hE⟩
            clear hE
            have hkN : gk < 18446744073709551616 := by omega
            have HFin2 := Lib.hid (show (gk = 0 ∨ v'.ov = true) → (d = sd ∧ v' = u4) from fun hx => by
              have e := items_end HI2.out hx
              rw [X4] at e
              injection e with e1 e2
              exact ⟨e1.symm, e2.symm⟩)
            by_cases h02 : gk = 0
            · subst h02
              obtain ⟨rfl, rfl⟩ := HFin2.out (.inl rfl)
              clear HFin2 HI2
              have hqW := hbr.keep hq (by omega)
              have h2W := hbr.keep h2 (by omega)
              have cq : wr.cell? ⟨q, 35, none⟩ = some (.slice SA ls.length sc) := cell_arrV hqW 35 (by omega)
              have r1W := Rdr.own hbr HE.out r1 (by decide)
              have r2W := Rdr.own hbr HE.out r2 (by decide)
              have n2W := fun x hx => Rdr.own hbr HE.out (n2 x hx) (by decide)
              have hbW := hb.trans hbr
              replace hp : wr.heap[wo.heap.size]? = some (.cells (arrV 3 (stepF ⟨⟨nd, fr, d⟩, Ai, ci⟩)) 84 (0, 0)) := hp
              go_wp2_with (first | (refine wpList_load_all rfl rfl RTStep rfl hp ?_) | (refine wpList_add_el rfl rfl rfl rfl ELStep (by omega) (by simp [Act.eval, Act.put]) (BSStep ⟨⟨nd, fr, d⟩, Ai, ci⟩) rfl rfl r2W (fun i _ => stepF_one _ i) (by omega) (by omega) (by have := hbW.size; omega) ?_; intro v5 w5 ho5 hk6 hm6 hw5; obtain ⟨A5, c5, rfl⟩ := own_slice ho5; have hq5 := add_at r2W hk6 hqW (by decide); have cq5 := cell_arrV hq5 35 (by omega); have fq5 := frozen_of_row w5 q 35 _ _ hq5))
              go_roundg r
              case measure => omega
              case rel =>
                have h25 := add_at r2W hk6 h2W (by decide)
                have hsd := sendsP_snoc (ls.map StM.p) ⟨nd, fr, d⟩
                rw [hSe] at hsd
                refine ⟨ls ++ [⟨⟨nd, fr, d⟩, Ai, ci⟩], v', A5, c5, by go_num, ?_, by simp; omega, ?_, ?_, (add_rdr r2W hk6 he hgl).setAt (by omega) (by omega) _ _, own_set (add_row r2W hk6 r1W (by decide)) hq5 (by decide), ?_, ?_, ?_, (heap_setCell_other _ _ _ _ (show w.heap.size ≠ q by omega)).trans h25, (add_but r2W hk6 hm6 hbW (Nat.le_refl _)).setNew (by omega) _ _⟩
                · rw [List.map_append]
                  exact congrArg (fun z : Nat => Value.int .i64 (z : Int)) hsd.symm
                · rw [List.map_append, List.length_append]
                  show sendsP (ls.map StM.p ++ [⟨nd, fr, d⟩]) ≤ _
                  rw [hsd]
                  simp
                  omega
                · rw [List.map_append]
                  exact items_step HI.out hov EX.out
                · rw [List.length_append, cellsOf_snoc]
                  exact own_set ho5 hq5 (by decide)
                · intro x hx
                  rcases List.mem_append.1 hx with h | h
                  · exact own_set (add_row r2W hk6 (n2W x h) (by decide)) hq5 (by decide)
                  · rw [List.mem_singleton.1 h]
                    exact own_set (add_row r2W hk6 (own_mono ri (by have := hb.size; omega)) (by decide)) hq5 (by decide)
                · rw [List.length_append]
                  exact row_as (set_arrV hq5 _) (congrArg (arrV 70) (upd_upd _ _ _ _))
            · cases hov2 : v'.ov with
              | true =>
                rw [hov2] at c1
                obtain ⟨rfl, rfl⟩ := HFin2.out (.inr hov2)
                clear HFin2 HI2
                have hqW := hbr.keep hq (by omega)
                have h2W := hbr.keep h2 (by omega)
                have cq : wr.cell? ⟨q, 35, none⟩ = some (.slice SA ls.length sc) := cell_arrV hqW 35 (by omega)
                have r1W := Rdr.own hbr HE.out r1 (by decide)
                have r2W := Rdr.own hbr HE.out r2 (by decide)
                have n2W := fun x hx => Rdr.own hbr HE.out (n2 x hx) (by decide)
                have hbW := hb.trans hbr
                replace hp : wr.heap[wo.heap.size]? = some (.cells (arrV 3 (stepF ⟨⟨nd, fr, d⟩, Ai, ci⟩)) 84 (0, 0)) := hp
                go_wp2_with (first | (refine wpList_load_all rfl rfl RTStep rfl hp ?_) | (refine wpList_add_el rfl rfl rfl rfl ELStep (by omega) (by simp [Act.eval, Act.put]) (BSStep ⟨⟨nd, fr, d⟩, Ai, ci⟩) rfl rfl r2W (fun i _ => stepF_one _ i) (by omega) (by omega) (by have := hbW.size; omega) ?_; intro v5 w5 ho5 hk6 hm6 hw5; obtain ⟨A5, c5, rfl⟩ := own_slice ho5; have hq5 := add_at r2W hk6 hqW (by decide); have cq5 := cell_arrV hq5 35 (by omega); have fq5 := frozen_of_row w5 q 35 _ _ hq5))
                go_roundg r
                case measure => omega
                case rel =>
                  have h25 := add_at r2W hk6 h2W (by decide)
                  have hsd := sendsP_snoc (ls.map StM.p) ⟨nd, fr, d⟩
                  rw [hSe] at hsd
                  refine ⟨ls ++ [⟨⟨nd, fr, d⟩, Ai, ci⟩], v', A5, c5, by go_num, ?_, by simp; omega, ?_, ?_, (add_rdr r2W hk6 he hgl).setAt (by omega) (by omega) _ _, own_set (add_row r2W hk6 r1W (by decide)) hq5 (by decide), ?_, ?_, ?_, (heap_setCell_other _ _ _ _ (show w.heap.size ≠ q by omega)).trans h25, (add_but r2W hk6 hm6 hbW (Nat.le_refl _)).setNew (by omega) _ _⟩
                  · rw [List.map_append]
                    exact congrArg (fun z : Nat => Value.int .i64 (z : Int)) hsd.symm
                  · rw [List.map_append, List.length_append]
                    show sendsP (ls.map StM.p ++ [⟨nd, fr, d⟩]) ≤ _
                    rw [hsd]
                    simp
                    omega
                  · rw [List.map_append]
                    exact items_step HI.out hov EX.out
                  · rw [List.length_append, cellsOf_snoc]
                    exact own_set ho5 hq5 (by decide)
                  · intro x hx
                    rcases List.mem_append.1 hx with h | h
                    · exact own_set (add_row r2W hk6 (n2W x h) (by decide)) hq5 (by decide)
                    · rw [List.mem_singleton.1 h]
                      exact own_set (add_row r2W hk6 (own_mono ri (by have := hb.size; omega)) (by decide)) hq5 (by decide)
                  · rw [List.length_append]
                    exact row_as (set_arrV hq5 _) (congrArg (arrV 70) (upd_upd _ _ _ _))
              | false =>
                rw [hov2] at c1
                clear HFin2
                obtain ⟨r2', rfl⟩ : ∃ r2', gk = r2' + 1 := ⟨gk - 1, by omega⟩
                obtain ⟨z, v2, XZ⟩ := pair_of (numP 2 v')
                have ltz := he.lt2 XZ
                have hpl := lt_of_block hp
                go_upto_region 23 with (fail)
                have cp : wr.drew.cell? ⟨wo.heap.size, 2, none⟩ = some (.slice Ai d.length ci) := cell_arrV (show wr.drew.heap[wo.heap.size]? = _ from hp) 2 (by omega)
                have hpd : wr.drew.heap[wo.heap.size]? = _ := hp
                have hed := he.after (Below.refl _ _).drew
                (try simp only [Act.put, List.setIfInBounds_toArray, List.set_cons_zero, List.set_cons_succ])
                refine wp_region_can (fun b => b = wo.heap.size) 8 [(0, false), (1, false), (2, false), (3, true), (4, false), (5, true), (6, true), (7, false)] (by kernel_rfl) (by kernel_rfl) ?_
                (simp only [canOps, List.getElem?_cons_zero, List.getElem?_cons_succ, List.drop_succ_cons, List.drop_zero])
                iterate 3 (first | (refine wpCan_move rfl rfl (fun _ _ _ _ h => h) ?_; (simp only [Act.put, Act.eval, Array.getD_eq_getD_getElem?, List.getElem?_toArray, List.getElem?_cons_zero, List.getElem?_cons_succ, Option.getD_some, List.setIfInBounds_toArray, List.set_cons_zero, List.set_cons_succ])) | (refine wpCan_assign rfl rfl (fun _ _ _ _ h => h) ?_; (simp only [Act.put, Act.eval, Array.getD_eq_getD_getElem?, List.getElem?_toArray, List.getElem?_cons_zero, List.getElem?_cons_succ, Option.getD_some, List.setIfInBounds_toArray, List.set_cons_zero, List.set_cons_succ])) | (refine wpCan_nilCheck rfl rfl rfl (fun _ _ _ _ h => h) ?_; (simp only [Act.put, List.setIfInBounds_toArray, List.set_cons_zero, List.set_cons_succ])) | (refine wpCan_q rfl rfl (fun _ _ _ _ h => h) (by first | exact .bin rfl rfl rfl | exact .indexAddr rfl | exact .un rfl | exact .extract rfl | exact .index rfl | exact .field rfl | exact .slice rfl | exact .fieldT rfl FTStep2 | exact .load rfl rfl rfl hpd) (fun K hK => ?_); go_simp; (try (simp only [↓IntWalk.iteOmega]; go_simp)); (try go_bits); refine hK _ ?_; clear hK K))
                refine wpCan_e rfl (fun K hK => ?_)
                go_simp
                refine (rdNum2 hed XZ).mono ?_
                rintro e w3 ⟨rfl, he3, hbt⟩
                refine hK _ _ (keep_at hbt hpl (by omega)) ?_
                clear hK K
                (try simp only [Act.put, List.setIfInBounds_toArray, List.set_cons_zero, List.set_cons_succ])
                iterate 1 (first | (refine wpCan_move rfl rfl (fun _ _ _ _ h => h) ?_; (simp only [Act.put, Act.eval, Array.getD_eq_getD_getElem?, List.getElem?_toArray, List.getElem?_cons_zero, List.getElem?_cons_succ, Option.getD_some, List.setIfInBounds_toArray, List.set_cons_zero, List.set_cons_succ])) | (refine wpCan_assign rfl rfl (fun _ _ _ _ h => h) ?_; (simp only [Act.put, Act.eval, Array.getD_eq_getD_getElem?, List.getElem?_toArray, List.getElem?_cons_zero, List.getElem?_cons_succ, Option.getD_some, List.setIfInBounds_toArray, List.set_cons_zero, List.set_cons_succ])) | (refine wpCan_nilCheck rfl rfl rfl (fun _ _ _ _ h => h) ?_; (simp only [Act.put, List.setIfInBounds_toArray, List.set_cons_zero, List.set_cons_succ])) | (refine wpCan_q rfl rfl (fun _ _ _ _ h => h) (by first | exact .bin rfl rfl rfl | exact .indexAddr rfl | exact .un rfl | exact .extract rfl | exact .index rfl | exact .field rfl | exact .slice rfl | exact .conv rfl rfl UInt) (fun K hK => ?_); go_simp; (try (simp only [↓IntWalk.iteOmega]; go_simp)); (try go_bits); refine hK _ ?_; clear hK K))
                have hqW := hbt.keep hpd (by omega)
                have hbW := (hbr.trans (But.of_below ((Below.refl wr.heap.size wr).drew))).trans hbt
                have riW := Rdr.own hbt hed ri (by decide)
                refine wpCan_e rfl (fun K hK => ?_)
                refine oper_bslice rfl Try.underlying24 (by simp [Act.eval, Act.put]) (BSInt z) ?_
                refine hK _ _ (Keep.alloc _ _ (fun b hb => by subst hb; exact lt_of_block hqW)) ?_
                clear hK K
                (try simp only [Act.put, List.setIfInBounds_toArray, List.set_cons_zero, List.set_cons_succ])
                refine wpCan_e rfl (fun K hK => ?_)
                refine oper_append_el rfl ELInt (by omega) (by simp [Act.eval]) (by simp [Act.eval]) (World.ownsRow.alloc riW _) (heap_alloc_new _ _) (fun i _ => rfl) (by omega) (by omega) (by have := hbW.size; simp; omega) ?_
                intro v5 w5 ho5 hk5 hm5
                have hk6 := fun k hk hne => (hk5 k (by simp; omega) hne).trans (alloc_at w3 _ k hk)
                have hm6 := hm_alloc hm5
                have hq5 := add_at riW hk6 hqW (by decide)
                obtain ⟨A5, c5, rfl⟩ := own_slice ho5
                refine hK _ _ (fun b hb => by subst hb; exact hq5.trans ((alloc_at w3 _ _ (lt_of_block hqW)).trans hqW).symm) ?_
                clear hK K
                (try simp only [Act.put, List.setIfInBounds_toArray, List.set_cons_zero, List.set_cons_succ])
                iterate 1 (first | (refine wpCan_move rfl rfl (fun _ _ _ _ h => h) ?_; (simp only [Act.put, Act.eval, Array.getD_eq_getD_getElem?, List.getElem?_toArray, List.getElem?_cons_zero, List.getElem?_cons_succ, Option.getD_some, List.setIfInBounds_toArray, List.set_cons_zero, List.set_cons_succ])) | (refine wpCan_assign rfl rfl (fun _ _ _ _ h => h) ?_; (simp only [Act.put, Act.eval, Array.getD_eq_getD_getElem?, List.getElem?_toArray, List.getElem?_cons_zero, List.getElem?_cons_succ, Option.getD_some, List.setIfInBounds_toArray, List.set_cons_zero, List.set_cons_succ])) | (refine wpCan_nilCheck rfl rfl rfl (fun _ _ _ _ h => h) ?_; (simp only [Act.put, List.setIfInBounds_toArray, List.set_cons_zero, List.set_cons_succ])) | (refine wpCan_q rfl rfl (fun _ _ _ _ h => h) (by first | exact .bin rfl rfl rfl | exact .indexAddr rfl | exact .un rfl | exact .extract rfl | exact .index rfl | exact .field rfl | exact .slice rfl | exact .fieldT rfl FTStep2) (fun K hK => ?_); go_simp; (try (simp only [↓IntWalk.iteOmega]; go_simp)); (try go_bits); refine hK _ ?_; clear hK K))
                refine wpCan_nil ?_
                have cq5 := cell_arrV hq5 2 (by omega)
                have fq5 := frozen_of_row w5 wo.heap.size 2 _ _ hq5
                clear cp hpd
                go_wp2
                go_roundg r2'
                case measure => omega
                case rel =>
                  refine ⟨d ++ [z], v2, A5, c5, by go_num, ?_, by simp; omega, items_step HI2.out hov2 XZ, (add_rdr riW hk6 he3 hgr).setAt (by omega) (by omega) _ _, ?_, ?_, (add_but riW hk6 hm6 hbW (Nat.le_refl _)).setNew (Nat.le_refl _) _ _⟩
                  · rw [List.length_append]
                    go_num
                  · rw [List.length_append, cellsOf_snoc]
                    exact own_set ho5 hq5 (by decide)
                  · rw [List.length_append]
                    exact row_as (set_arrV hq5 _) (stepRow _ _ _ _ _ _ _ _)
  clear hK1
  replace KEY1 := Lib.hid KEY1
  go_loopg [4] pn (fun r x wr => ∃ (lp : List PProp) (s' : Rs) (PA : Option Addr) (pc : Nat), x = .int .u64 r ∧ r + lp.length ≤ pn ∧ itemsP propP pn s4 = (lp ++ (itemsP propP r s').1, (itemsP propP r s').2) ∧ Rdr wr B g s' ∧ wr.ownsRow w.heap.size 79 34 (.slice PA lp.length pc) lp.length (cellsOf 34 propF lp) ∧ wr.heap[q]? = some (.cells (arrV 70 (upd (upd (upd noCm 0 (.int .u64 (ep : Int))) 1 (.int .i64 (by_ : Int))) 2 (.slice PA lp.length pc))) 40 (0, 0)) ∧ wr.heap[w.heap.size]? = some (.cells (arrV 70 noCm) 40 (0, 0)) ∧ But g w wr)
  case atStart => exact ⟨[], s4, none, 0, rfl, Nat.le_refl _, rfl, he, ⟨rfl, .inl ⟨rfl, rfl⟩⟩, row_as hq (by kernel_rfl), h2, hb⟩
  case round =>
    clear he hq h2 hb
    obtain ⟨lp, s', PA, pc, rfl, hr, hit, he, r1, hq, h2, hb⟩ := hrel
    have HI := Lib.hid hit
    clear hit
    obtain ⟨A0, n0, c0, hE⟩ := he
    have c1 := hE.c1
    have he : Rdr wr B g s' := ⟨_, _, _, hE⟩
    clear hE
    have HFin := Lib.hid (show (gk = 0 ∨ s'.ov = true) → (lp = props ∧ s' = s5) from fun hx => by
      have e := items_end HI.out hx
      rw [E4] at e
      injection e with e1 e2
      exact ⟨e1.symm, e2.symm⟩)
    have hrN : gk < 18446744073709551616 := by omega
    by_cases h0 : gk = 0
    · subst h0
      obtain ⟨rfl, rfl⟩ := HFin.out (.inl rfl)
      clear HFin HI
      go_wp2
      exact KEY1.out _ _ rfl rfl rfl rfl rfl PA pc he r1 hq h2 hb
    · cases hov : s'.ov with
      | true =>
        rw [hov] at c1
        obtain ⟨rfl, rfl⟩ := HFin.out (.inr hov)
        clear HFin HI
        go_wp2
        exact KEY1.out _ _ rfl rfl rfl rfl rfl PA pc he r1 hq h2 hb
      | false =>
        rw [hov] at c1
        clear HFin KEY1
        obtain ⟨r, rfl⟩ : ∃ r, gk = r + 1 := ⟨gk - 1, by omega⟩
        obtain ⟨kd, u1, X1⟩ := pair_of (numP 1 s')
        obtain ⟨id, u2, X2⟩ := pair_of (numP 4 u1)
        obtain ⟨k, u3, X3⟩ := pair_of (keyP u2)
        have EX := Lib.hid (propP_is X1 X2 X3)
        have HE := Lib.hid he
        have hgr := he.lt
        have hqr := lt_of_block hq
        have h2r := lt_of_block h2
        go_upto_region 8 with (first | (refine wpList_valg rfl (run_built0 rfl built_prop) ?_) | (refine wpList_newV rfl rfl rfl rfl ZVProp0 RTProp rfl rfl (fun _ _ => propV_one _ _ _ _) ?_; intro wk hp bk hz))
        replace he := he.after bk
        have hbr : But g wr wk := But.of_below bk
        clear c1 bk hz
        (try simp only [Act.put, List.setIfInBounds_toArray, List.set_cons_zero, List.set_cons_succ])
        go_upto_region 9 with (go_at_call 88; have ltX1 := he.lt1 X1; (with_reducible refine (rdNum1 he X1).mono ?_); rintro e w2 ⟨rfl, he2, hb2⟩; have hp2 := hb2.keep hp (by omega); have c2 := cell_arrV hp2 0 (by omega); have f2 := frozen_of_row w2 wr.heap.size 0 _ _ hp2)
        replace he := he2.setAt (q := wr.heap.size) (by omega) (by omega) 0 (.int .i64 (kd : Int))
        replace hbr := (hbr.trans hb2).setNew (q := wr.heap.size) (Nat.le_refl _) 0 (.int .i64 (kd : Int))
        replace hp := set_arrV (i := 0) hp2 (.int .i64 (kd : Int))
        clear hp2 c2 f2 he2 hb2
        generalize w2.setCell ⟨wr.heap.size, 0, none⟩ (.int .i64 (kd : Int)) = wl at *
        clear w2
        (try simp only [Act.put, List.setIfInBounds_toArray, List.set_cons_zero, List.set_cons_succ])
        go_upto_region 10 with (go_at_call 88; have ltX2 := he.lt4 X2; (with_reducible refine (rdNum4 he X2).mono ?_); rintro e w2 ⟨rfl, he2, hb2⟩; have hp2 := hb2.keep hp (by omega); have c2 := cell_arrV hp2 1 (by omega); have f2 := frozen_of_row w2 wr.heap.size 1 _ _ hp2)
        replace he := he2.setAt (q := wr.heap.size) (by omega) (by omega) 1 (.int .i64 (id : Int))
        replace hbr := (hbr.trans hb2).setNew (q := wr.heap.size) (Nat.le_refl _) 1 (.int .i64 (id : Int))
        replace hp := set_arrV (i := 1) hp2 (.int .i64 (id : Int))
        clear hp2 c2 f2 he2 hb2
        generalize w2.setCell ⟨wr.heap.size, 1, none⟩ (.int .i64 (id : Int)) = wm at *
        clear w2
        (try simp only [Act.put, List.setIfInBounds_toArray, List.set_cons_zero, List.set_cons_succ])
        go_upto_region 11 with (first | (go_at_call 109; (with_reducible refine (rdKeyE he X3).mono ?_); rintro e w2 ⟨rfl, he2, hb2⟩; have hp2 := hb2.keep hp (by omega)) | (refine wpList_store_part (f' := fun i => ((k i : Nat) : Int)) rfl rfl RTKey rfl rfl hp2 (by omega) ?_))
        rw [propRow]
        have hp5 := row_self (c' := arrV 34 (propF ⟨kd, id, k⟩)) hp2
        replace he := he2.butAt (But.row1 (q := wr.heap.size) (arrV 34 (propF ⟨kd, id, k⟩))) (by omega) (by omega)
        replace hbr := (hbr.trans hb2).newRow (q := wr.heap.size) (cs := arrV 34 (propF ⟨kd, id, k⟩)) (Nat.le_refl _)
        clear hp hp2 he2 hb2
        generalize w2.setRow wr.heap.size (arrV 34 (propF ⟨kd, id, k⟩)) = wn at *
        clear w2
        (try simp only [Act.put, List.setIfInBounds_toArray, List.set_cons_zero, List.set_cons_succ])
        have hqW := hbr.keep hq (by omega)
        have h2W := hbr.keep h2 (by omega)
        have cq : wn.cell? ⟨q, 2, none⟩ = some (.slice PA lp.length pc) := cell_arrV hqW 2 (by omega)
        have r1W := Rdr.own hbr HE.out r1 (by decide)
        have hbW := hb.trans hbr
        go_wp2_with (first | (refine wpList_load_all rfl rfl RTProp rfl hp5 ?_) | (refine wpList_add_el rfl rfl rfl rfl ELProp (by omega) (by simp [Act.eval, Act.put]) (BSProp ⟨kd, id, k⟩) rfl rfl r1W (fun i _ => propF_one _ i) (by omega) (by omega) (by have := hbW.size; omega) ?_; intro v5 w5 ho5 hk6 hm6 hw5; obtain ⟨A5, c5, rfl⟩ := own_slice ho5; have hq5 := add_at r1W hk6 hqW (by decide); have cq5 := cell_arrV hq5 2 (by omega); have fq5 := frozen_of_row w5 q 2 _ _ hq5))
        go_roundg r
        case measure => omega
        case rel =>
          have h25 := add_at r1W hk6 h2W (by decide)
          refine ⟨lp ++ [⟨kd, id, k⟩], u3, A5, c5, by go_num, by simp; omega, items_step HI.out hov EX.out, (add_rdr r1W hk6 he hgl).setAt (by omega) (by omega) _ _, ?_, ?_, (heap_setCell_other _ _ _ _ (show w.heap.size ≠ q by omega)).trans h25, (add_but r1W hk6 hm6 hbW (Nat.le_refl _)).setNew (by omega) _ _⟩
          · rw [List.length_append, cellsOf_snoc]
            exact own_set ho5 hq5 (by decide)
          · rw [List.length_append]
            exact row_as (set_arrV hq5 _) (congrArg (arrV 70) (upd_upd _ _ _ _))
end Go.Proofs.Yteefhbpmeajbfaa.CanB
namespace Go.Proofs.Yteefhbpmeajbfaa
set_option linter.unusedSimpArgs false
set_option linter.unusedVariables false
open Go.RowKit
attribute [local irreducible] beL beK
theorem Src.rdr {w : World} {B : Nat} {A : Option Addr} {n c : Nat} {l : List Nat} (h : Src w B A n c l) : Rdr (w.alloc (.cells #[.slice A n c, .bool false] 130)) B w.heap.size ⟨l, false⟩ :=
  ⟨A, n, c, heap_alloc_new w _, h.low, h.txt.below' ((Below.refl _ _).alloc (Nat.le_refl _) _) h.low, h.cap, h.len, h.byt⟩
theorem restP_no {s : Rs} (h : s.ov = true) : restP s = ([], ⟨s.l, true⟩) := by
  unfold restP cutP
  rw [if_pos (.inl h)]
theorem restP_yes {s : Rs} (h : s.ov = false) : restP s = (s.l, ⟨[], false⟩) := by
  unfold restP cutP
  rw [if_neg (by rw [h]; simp)]
  simp
def frQ (k : Nat) (s1 : Rs) : PFr × Int := if k = 3 then frK (frP s1) else (noFr, 3)
def wlQ (k : Nat) (s1 : Rs) : PWl × Int := if k = 2 then wlK (wlP s1) else (noWl, 3)
def cmQ (k : Nat) (s1 : Rs) : PCom × Int := if k = 1 then cmK (comP s1) else (noCom, 3)
theorem RmayFrameP {p : PFr} {A : Option Addr} {c : Nat} {w : World} : Calls Try.prog 93 #[.agg (arrV 4 (frF p A c))] w fun e w' => e = .returned (.bool (decide (MayF (p.ep : Int) (p.frm : Int) (p.gen : Int) p.box.length))) ∧ Below w.heap.size w w' := RmayFrame_any (p.ep : Int) (p.frm : Int) (p.gen : Int) A p.box.length c w
theorem RmayWelcomeP {p : PWl} {A : Nat → Option Addr} {c : Nat → Nat} {w : World} : Calls Try.prog 92 #[.agg (arrV 4 (wlG p.tw p.tx A c 3))] w fun e w' => e = .returned (.bool (decide (MayW (p.tw : Int) p.c.length p.t.length p.b.length))) ∧ Below w.heap.size w w' := RmayWelcome_any (p.tw : Int) (A 0) p.c.length (c 0) (A 1) p.t.length (c 1) (A 2) p.b.length (c 2) w
def rC (c1 c2 c3 : Nat) (j : Nat) : Nat := if j = 0 then c1 else if j = 1 then c2 else c3
set_option maxRecDepth 100000 in
set_option maxHeartbeats 4000000 in
theorem RReadFrame_long (A : Option Addr) (n c : Nat) (l : List Nat) (w : World) (h : Src w w.heap.size A n c l) (hn : 1048576 < n) :
    Calls Try.prog 57 #[.slice A n c] w (FrPost w (noFr, 4)) := by
  have hn2 := h.len
  go_enter Try.func57, Try.ntmps57
  go_upto_region 1 with (refine wpList_alloc_v rfl rfl ZVFr ?_)
  have hq0 := heap_alloc_new w (.cells (arrV 4 (frF noFr none 0)) 97)
  have hb0 : Below w.heap.size w (w.alloc (.cells (arrV 4 (frF noFr none 0)) 97)) := (Below.refl _ _).alloc (Nat.le_refl _) _
  refine wp_cut (fun x => x.heap[w.heap.size]? = some (.cells (arrV 4 (frF noFr none 0)) 97 (0, 0)) ∧ Below w.heap.size w x ∧ Src x w.heap.size A n c l ∧ w.heap.size < x.heap.size) ⟨hq0, hb0, ⟨hb0.size, h.txt.below hb0, h.cap, h.len, h.byt⟩, by simp⟩ ?_
  clear hq0 hb0 h
  rintro w1 ⟨h2, hb, hS, hlt⟩
  (try simp only [Act.put, List.setIfInBounds_toArray, List.set_cons_zero, List.set_cons_succ])
  go_wp2_with (first | (refine wpList_valg rfl (run_built0 rfl built_fr) ?_) | (refine wpList_store_v (f' := (frF noFr none 0)) rfl rfl RTFr rfl rfl h2 (fun i _ => frF_one _ _ _ i) ?_))
  refine bodyPost_ret (results_v_tmp rfl rfl rfl RTFr (row_self h2)) rfl ⟨none, 0, rfl, Own.nil_, row_below hb (Nat.le_refl _) _⟩
set_option maxRecDepth 100000 in
set_option maxHeartbeats 4000000 in
theorem RReadFrame_more (A : Option Addr) (n c : Nat) (l : List Nat) (w : World) (h : Src w w.heap.size A n c l) (hn : n ≤ 1048576) {k : Nat} {s1 : Rs} (hk : numP 1 ⟨l, false⟩ = (k, s1)) :
    Calls Try.prog 57 #[.slice A n c] w (FrPost w (frQ k s1)) := by
  obtain ⟨ep, s2, E1⟩ := pair_of (numP 8 s1)
  obtain ⟨fr, s3, E2⟩ := pair_of (numP 4 s2)
  obtain ⟨ge, s4, E3⟩ := pair_of (numP 8 s3)
  obtain ⟨bx, s5, E4⟩ := pair_of (restP s4)
  have EF := Lib.hid (frP_is E1 E2 E3 E4)
  have EP := Lib.hid (show frK (⟨ep, fr, ge, bx⟩, s5) = frK (frP s1) by rw [EF.out])
  have hk1 : k < 256 := h.eye.lt1 hk
  go_enter Try.func57, Try.ntmps57
  go_upto_region 1 with (refine wpList_alloc_v rfl rfl ZVFr ?_)
  have hq0 := heap_alloc_new w (.cells (arrV 4 (frF noFr none 0)) 97)
  have hb0 : Below w.heap.size w (w.alloc (.cells (arrV 4 (frF noFr none 0)) 97)) := (Below.refl _ _).alloc (Nat.le_refl _) _
  refine wp_cut (fun x => x.heap[w.heap.size]? = some (.cells (arrV 4 (frF noFr none 0)) 97 (0, 0)) ∧ Below w.heap.size w x ∧ Src x w.heap.size A n c l ∧ w.heap.size < x.heap.size) ⟨hq0, hb0, ⟨hb0.size, h.txt.below hb0, h.cap, h.len, h.byt⟩, by simp⟩ ?_
  clear hq0 hb0 h
  rintro w1 ⟨h2, hb, hS, hlt⟩
  (try simp only [Act.put, List.setIfInBounds_toArray, List.set_cons_zero, List.set_cons_succ])
  go_upto_region 4 with (fail)
  have he := hS.rdr
  have hb1 : Below w.heap.size w _ := hb.alloc hb.size (.cells #[.slice A n c, .bool false] 130)
  have h21 := keep_below ((Below.refl w1.heap.size w1).alloc (Nat.le_refl _) (.cells #[.slice A n c, .bool false] 130)) (lt_of_block h2) h2
  refine wp_cut (fun x => x.heap[w.heap.size]? = _ ∧ Below w.heap.size w x ∧ Rdr x w.heap.size w1.heap.size ⟨l, false⟩) ⟨h21, hb1, he⟩ ?_
  clear h21 hb1 he h2 hb hS
  rintro w3 ⟨h2, hb, he⟩
  generalize w1.heap.size = g at *
  (try simp only [Act.put, List.setIfInBounds_toArray, List.set_cons_zero, List.set_cons_succ])
  have hgl := he.lt
  go_upto_region 5 with (go_at_call 88; (with_reducible refine (rdNum1 he hk).mono ?_); rintro e w4 ⟨rfl, he2, hb2⟩)
  replace h2 := hb2.keep h2 (by omega)
  replace hb := hb.trans (hb2.below (B := w.heap.size) (by omega) hb.size)
  replace he := he2
  clear he2 hb2 hgl
  (try simp only [Act.put, List.setIfInBounds_toArray, List.set_cons_zero, List.set_cons_succ])
  have hg5 := he.lt
  go_upto_region 6 with (first | (refine wpList_valg rfl (run_built0 rfl built_fr) ?_) | (refine wpList_newV rfl rfl rfl rfl ZVFr RTFr rfl rfl (fun _ _ => frF_one _ _ _ _) ?_; intro w5 hq b5 hz5))
  replace h2 := keep_below b5 (lt_of_block h2) h2
  replace he := he.after b5
  replace hb := hb.trans (b5.mono hb.size)
  have hqg : g < w4.heap.size := hg5
  generalize w4.heap.size = q at *
  clear b5 hz5 hg5
  (try simp only [Act.put, List.setIfInBounds_toArray, List.set_cons_zero, List.set_cons_succ])
  go_upto_region 7 with (go_at_call 88; have lt0 := he.lt8 E1; (with_reducible refine (rdNum8 he E1).mono ?_); rintro e w2 ⟨rfl, he2, hb2⟩; have hq2 := hb2.keep hq (by omega); have h22 := hb2.keep h2 (by omega); have c2 := cell_arrV hq2 0 (by omega); have f2 := frozen_of_row w2 q 0 _ _ hq2)
  replace he := he2.setAt (q := q) (by omega) (by omega) 0 (.int .u64 (ep : Int))
  replace hb := (hb.trans (hb2.below (B := w.heap.size) (by omega) (by have := hb.size; omega))).setCell (p := ⟨q, 0, none⟩) (by show w.heap.size ≤ q; omega) (.int .u64 (ep : Int))
  replace hq := set_arrV (i := 0) hq2 (.int .u64 (ep : Int))
  replace h2 := (show (w2.setCell ⟨q, 0, none⟩ (.int .u64 (ep : Int))).heap[w.heap.size]? = _ from heap_setCell_other _ _ _ _ (show w.heap.size ≠ q by omega)).trans h22
  clear hq2 c2 f2 he2 hb2 h22
  generalize w2.setCell ⟨q, 0, none⟩ (.int .u64 (ep : Int)) = w6 at *
  clear w2
  (try simp only [Act.put, List.setIfInBounds_toArray, List.set_cons_zero, List.set_cons_succ])
  go_upto_region 8 with (go_at_call 88; have lt1 := he.lt4 E2; (with_reducible refine (rdNum4 he E2).mono ?_); rintro e w2 ⟨rfl, he2, hb2⟩; have hq2 := hb2.keep hq (by omega); have h22 := hb2.keep h2 (by omega); have c2 := cell_arrV hq2 1 (by omega); have f2 := frozen_of_row w2 q 1 _ _ hq2)
  replace he := he2.setAt (q := q) (by omega) (by omega) 1 (.int .i64 (fr : Int))
  replace hb := (hb.trans (hb2.below (B := w.heap.size) (by omega) (by have := hb.size; omega))).setCell (p := ⟨q, 1, none⟩) (by show w.heap.size ≤ q; omega) (.int .i64 (fr : Int))
  replace hq := set_arrV (i := 1) hq2 (.int .i64 (fr : Int))
  replace h2 := (show (w2.setCell ⟨q, 1, none⟩ (.int .i64 (fr : Int))).heap[w.heap.size]? = _ from heap_setCell_other _ _ _ _ (show w.heap.size ≠ q by omega)).trans h22
  clear hq2 c2 f2 he2 hb2 h22
  generalize w2.setCell ⟨q, 1, none⟩ (.int .i64 (fr : Int)) = w7 at *
  clear w2
  (try simp only [Act.put, List.setIfInBounds_toArray, List.set_cons_zero, List.set_cons_succ])
  go_upto_region 9 with (go_at_call 88; have lt2 := he.lt8 E3; (with_reducible refine (rdNum8 he E3).mono ?_); rintro e w2 ⟨rfl, he2, hb2⟩; have hq2 := hb2.keep hq (by omega); have h22 := hb2.keep h2 (by omega); have c2 := cell_arrV hq2 2 (by omega); have f2 := frozen_of_row w2 q 2 _ _ hq2)
  replace he := he2.setAt (q := q) (by omega) (by omega) 2 (.int .u64 (ge : Int))
  replace hb := (hb.trans (hb2.below (B := w.heap.size) (by omega) (by have := hb.size; omega))).setCell (p := ⟨q, 2, none⟩) (by show w.heap.size ≤ q; omega) (.int .u64 (ge : Int))
  replace hq := set_arrV (i := 2) hq2 (.int .u64 (ge : Int))
  replace h2 := (show (w2.setCell ⟨q, 2, none⟩ (.int .u64 (ge : Int))).heap[w.heap.size]? = _ from heap_setCell_other _ _ _ _ (show w.heap.size ≠ q by omega)).trans h22
  clear hq2 c2 f2 he2 hb2 h22
  generalize w2.setCell ⟨q, 2, none⟩ (.int .u64 (ge : Int)) = w8 at *
  clear w2
  (try simp only [Act.put, List.setIfInBounds_toArray, List.set_cons_zero, List.set_cons_succ])
  have hgq := he.lt
  obtain ⟨A4, n4, c4, hE⟩ := he
  have cc0 := hE.c0
  have ht4 : Txt w8 w8.heap.size A4 n4 c4 s4.l := hE.txt.more hb.size
  have hl4 := hE.len
  go_upto_region 10 with (go_at_call 53; (with_reducible refine (Copy_any A4 n4 c4 _ _ ht4 hl4).mono ?_); rintro e w2 ⟨v, rfl, ho, b9⟩; obtain ⟨A5, c5, rfl, -⟩ := ho.txt; have hq2 := keep_below b9 (lt_of_block hq) hq; have h22 := keep_below b9 (lt_of_block h2) h2; have c3 := cell_arrV hq2 3 (by omega); have f3 := frozen_of_row w2 q 3 _ _ hq2)
  have he2 : Rdr w2 w.heap.size g s4 := ⟨_, _, _, hE.after b9⟩
  replace he := he2.setAt (q := q) (by omega) (by omega) 3 (.slice A5 s4.l.length c5)
  replace ho := (ho.mono hb.size).setCell (p := ⟨q, 3, none⟩) (own_ne ho hq2 (by decide)) (.slice A5 s4.l.length c5)
  replace hb := (hb.trans (b9.mono hb.size)).setCell (p := ⟨q, 3, none⟩) (by show w.heap.size ≤ q; omega) (.slice A5 s4.l.length c5)
  replace hq := set_arrV (i := 3) hq2 (.slice A5 s4.l.length c5)
  replace h2 := (show (w2.setCell ⟨q, 3, none⟩ (.slice A5 s4.l.length c5)).heap[w.heap.size]? = _ from heap_setCell_other _ _ _ _ (show w.heap.size ≠ q by omega)).trans h22
  rw [show (arrV 4 (upd (upd (upd (upd (frF noFr none 0) 0 (.int .u64 (ep : Int))) 1 (.int .i64 (fr : Int))) 2 (.int .u64 (ge : Int))) 3 (.slice A5 s4.l.length c5))) = arrV 4 (frF ⟨ep, fr, ge, s4.l⟩ A5 c5) from rfl] at hq
  clear hq2 c3 f3 he2 b9 h22 cc0 ht4 hE hl4
  generalize w2.setCell ⟨q, 3, none⟩ (.slice A5 s4.l.length c5) = wa at *
  clear w2
  (try simp only [Act.put, List.setIfInBounds_toArray, List.set_cons_zero, List.set_cons_succ])
  obtain ⟨A6, n6, c6, hE⟩ := he
  have c1 := hE.c1
  have HO := Lib.hid ho
  clear hE E1 E2 E3
  cases hov : s4.ov with
  | true =>
    rw [hov] at c1
    have EK := Lib.hid (show frQ k s1 = (noFr, 3) by
      unfold frQ
      rw [← EP.out]
      rw [restP_no hov] at E4
      injection E4 with e1 e2
      subst e2
      split
      · exact if_neg (fun h => by cases h.1)
      · rfl)
    go_wp2_with (first | (refine wpList_valg rfl (run_built0 rfl built_fr) ?_) | (refine wpList_store_v (f' := (frF noFr none 0)) rfl rfl RTFr rfl rfl h2 (fun i _ => frF_one _ _ _ i) ?_))
    rw [EK.out]
    refine bodyPost_ret (results_v_tmp rfl rfl rfl RTFr (row_self h2)) rfl ⟨none, 0, rfl, Own.nil_, row_below hb (Nat.le_refl _) _⟩
  | false =>
    rw [hov] at c1
    by_cases hk3 : k = 3
    · subst hk3
      rw [restP_yes hov] at E4
      injection E4 with e1 e2
      subst e1 e2
      by_cases hm : MayF (ep : Int) (fr : Int) (ge : Int) s4.l.length
      · have HM := Lib.hid (decide_eq_true hm)
        have EK := Lib.hid (show frQ 3 s1 = (⟨ep, fr, ge, s4.l⟩, 0) by
          unfold frQ
          rw [← EP.out, if_pos rfl]
          exact if_pos ⟨rfl, hm⟩)
        clear hm
        go_wp2_with (first | (refine wpList_valg rfl (run_op_load_v rfl RTFr rfl hq) ?_) | (go_at_call 93; (with_reducible refine (RmayFrameP (p := ⟨ep, fr, ge, s4.l⟩)).mono ?_); rintro e w9 ⟨rfl, hb9⟩; rw [HM.out]; have hq9 := keep_below hb9 (lt_of_block hq) hq; have h29 := keep_below hb9 (lt_of_block h2) h2) | (refine wpList_load_all rfl rfl RTFr rfl hq9 ?_) | (refine wpList_store_v rfl rfl RTFr rfl rfl h29 (fun i _ => frF_one _ _ _ i) ?_))
        refine bodyPost_ret (results_v_tmp rfl rfl rfl RTFr (row_self h29)) rfl ?_
        rw [EK.out]
        have ho9 := HO.out.below hb9 (fun k hk => (HO.out.lt k hk).2)
        exact ⟨A5, c5, rfl, own_setR ho9 h29 (by decide), row_below (hb.trans (hb9.mono hb.size)) (Nat.le_refl _) _⟩
      · have HM := Lib.hid (decide_eq_false hm)
        have EK := Lib.hid (show frQ 3 s1 = (noFr, 3) by
          unfold frQ
          rw [← EP.out, if_pos rfl]
          exact if_neg (fun h => hm h.2))
        clear hm
        go_wp2_with (first | (refine wpList_valg rfl (run_op_load_v rfl RTFr rfl hq) ?_) | (go_at_call 93; (with_reducible refine (RmayFrameP (p := ⟨ep, fr, ge, s4.l⟩)).mono ?_); rintro e w9 ⟨rfl, hb9⟩; rw [HM.out]; have h29 := keep_below hb9 (lt_of_block h2) h2) | (refine wpList_valg rfl (run_built0 rfl built_fr) ?_) | (refine wpList_store_v (f' := (frF noFr none 0)) rfl rfl RTFr rfl rfl h29 (fun i _ => frF_one _ _ _ i) ?_))
        rw [EK.out]
        refine bodyPost_ret (results_v_tmp rfl rfl rfl RTFr (row_self h29)) rfl ⟨none, 0, rfl, Own.nil_, row_below (hb.trans (hb9.mono hb.size)) (Nat.le_refl _) _⟩
    · have hk3n : decide ((k : Int) = 3) = false := decide_eq_false (by omega)
      have EK := Lib.hid (show frQ k s1 = (noFr, 3) from if_neg hk3)
      go_wp2_with (first | (refine wpList_valg rfl (run_built0 rfl built_fr) ?_) | (refine wpList_store_v (f' := (frF noFr none 0)) rfl rfl RTFr rfl rfl h2 (fun i _ => frF_one _ _ _ i) ?_))
      rw [EK.out]
      refine bodyPost_ret (results_v_tmp rfl rfl rfl RTFr (row_self h2)) rfl ⟨none, 0, rfl, Own.nil_, row_below hb (Nat.le_refl _) _⟩
theorem RReadFrame_any (A : Option Addr) (n c : Nat) (l : List Nat) (w : World) (h : Src w w.heap.size A n c l) :
    Calls Try.prog 57 #[.slice A n c] w (FrPost w (frV l)) := by
  have hl := h.txt.len
  by_cases hn : 1048576 < n
  · rw [frV_long (by omega)]
    exact RReadFrame_long A n c l w h hn
  · obtain ⟨k, s1, hk⟩ := pair_of (numP 1 ⟨l, false⟩)
    have := RReadFrame_more A n c l w h (by omega) hk
    by_cases hne : k = 3
    · subst hne
      rw [frV_more (by omega) hk]
      exact this
    · rw [frV_kind (by omega) hk hne]
      rw [show frQ k s1 = (noFr, 3) from if_neg hne] at this
      exact this
set_option maxRecDepth 100000 in
set_option maxHeartbeats 4000000 in
theorem RReadWelcome_long (A : Option Addr) (n c : Nat) (l : List Nat) (w : World) (h : Src w w.heap.size A n c l) (hn : 1048576 < n) :
    Calls Try.prog 56 #[.slice A n c] w (WlPost w (noWl, 4)) := by
  have hn2 := h.len
  go_enter Try.func56, Try.ntmps56
  go_upto_region 1 with (refine wpList_alloc_v rfl rfl ZVWl ?_)
  have hq0 := heap_alloc_new w (.cells (arrV 4 (wlG 0 noTx noA noC 0)) 93)
  have hb0 : Below w.heap.size w (w.alloc (.cells (arrV 4 (wlG 0 noTx noA noC 0)) 93)) := (Below.refl _ _).alloc (Nat.le_refl _) _
  refine wp_cut (fun x => x.heap[w.heap.size]? = some (.cells (arrV 4 (wlG 0 noTx noA noC 0)) 93 (0, 0)) ∧ Below w.heap.size w x ∧ Src x w.heap.size A n c l ∧ w.heap.size < x.heap.size) ⟨hq0, hb0, ⟨hb0.size, h.txt.below hb0, h.cap, h.len, h.byt⟩, by simp⟩ ?_
  clear hq0 hb0 h
  rintro w1 ⟨h2, hb, hS, hlt⟩
  (try simp only [Act.put, List.setIfInBounds_toArray, List.set_cons_zero, List.set_cons_succ])
  go_wp2_with (first | (refine wpList_valg rfl (run_built0 rfl built_wl) ?_) | (refine wpList_store_v (f' := (wlG 0 noTx noA noC 0)) rfl rfl RTWl rfl rfl h2 (fun i _ => wlG_one _ _ _ _ _ i) ?_))
  refine bodyPost_ret (results_v_tmp rfl rfl rfl RTWl (row_self h2)) rfl ⟨noA, noC, rfl, noWl_own _ _, row_below hb (Nat.le_refl _) _⟩
set_option maxRecDepth 100000 in
set_option maxHeartbeats 4000000 in
theorem RReadWelcome_more (A : Option Addr) (n c : Nat) (l : List Nat) (w : World) (h : Src w w.heap.size A n c l) (hn : n ≤ 1048576) {k : Nat} {s1 : Rs} (hk : numP 1 ⟨l, false⟩ = (k, s1)) :
    Calls Try.prog 56 #[.slice A n c] w (WlPost w (wlQ k s1)) := by
  obtain ⟨tw, s2, E1⟩ := pair_of (numP 4 s1)
  obtain ⟨n0, s3, X0⟩ := pair_of (numP 4 s2)
  obtain ⟨t0, s4, Y0⟩ := pair_of (cutP n0 s3)
  obtain ⟨n1, s5, X1⟩ := pair_of (numP 4 s4)
  obtain ⟨t1, s6, Y1⟩ := pair_of (cutP n1 s5)
  obtain ⟨n2, s7, X2⟩ := pair_of (numP 4 s6)
  obtain ⟨t2, s8, Y2⟩ := pair_of (cutP n2 s7)
  have EF := Lib.hid (wlP_is E1 (txP_is X0 Y0) (txP_is X1 Y1) (txP_is X2 Y2))
  have EP := Lib.hid (show wlK (⟨tw, t0, t1, t2⟩, s8) = wlK (wlP s1) by rw [EF.out])
  have hk1 : k < 256 := h.eye.lt1 hk
  go_enter Try.func56, Try.ntmps56
  go_upto_region 1 with (refine wpList_alloc_v rfl rfl ZVWl ?_)
  have hq0 := heap_alloc_new w (.cells (arrV 4 (wlG 0 noTx noA noC 0)) 93)
  have hb0 : Below w.heap.size w (w.alloc (.cells (arrV 4 (wlG 0 noTx noA noC 0)) 93)) := (Below.refl _ _).alloc (Nat.le_refl _) _
  refine wp_cut (fun x => x.heap[w.heap.size]? = some (.cells (arrV 4 (wlG 0 noTx noA noC 0)) 93 (0, 0)) ∧ Below w.heap.size w x ∧ Src x w.heap.size A n c l ∧ w.heap.size < x.heap.size) ⟨hq0, hb0, ⟨hb0.size, h.txt.below hb0, h.cap, h.len, h.byt⟩, by simp⟩ ?_
  clear hq0 hb0 h
  rintro w1 ⟨h2, hb, hS, hlt⟩
  (try simp only [Act.put, List.setIfInBounds_toArray, List.set_cons_zero, List.set_cons_succ])
  go_upto_region 4 with (fail)
  have he := hS.rdr
  have hb1 : Below w.heap.size w _ := hb.alloc hb.size (.cells #[.slice A n c, .bool false] 130)
  have h21 := keep_below ((Below.refl w1.heap.size w1).alloc (Nat.le_refl _) (.cells #[.slice A n c, .bool false] 130)) (lt_of_block h2) h2
  refine wp_cut (fun x => x.heap[w.heap.size]? = _ ∧ Below w.heap.size w x ∧ Rdr x w.heap.size w1.heap.size ⟨l, false⟩) ⟨h21, hb1, he⟩ ?_
  clear h21 hb1 he h2 hb hS
  rintro w3 ⟨h2, hb, he⟩
  generalize w1.heap.size = g at *
  (try simp only [Act.put, List.setIfInBounds_toArray, List.set_cons_zero, List.set_cons_succ])
  have hgl := he.lt
  go_upto_region 5 with (go_at_call 88; (with_reducible refine (rdNum1 he hk).mono ?_); rintro e w4 ⟨rfl, he2, hb2⟩)
  replace h2 := hb2.keep h2 (by omega)
  replace hb := hb.trans (hb2.below (B := w.heap.size) (by omega) hb.size)
  replace he := he2
  clear he2 hb2 hgl
  (try simp only [Act.put, List.setIfInBounds_toArray, List.set_cons_zero, List.set_cons_succ])
  have hg5 := he.lt
  go_upto_region 6 with (first | (refine wpList_valg rfl (run_built0 rfl built_wl) ?_) | (refine wpList_newV rfl rfl rfl rfl ZVWl RTWl rfl rfl (fun _ _ => wlG_one _ _ _ _ _ _) ?_; intro w5 hq b5 hz5))
  replace h2 := keep_below b5 (lt_of_block h2) h2
  replace he := he.after b5
  replace hb := hb.trans (b5.mono hb.size)
  have hqg : g < w4.heap.size := hg5
  generalize w4.heap.size = q at *
  clear b5 hz5 hg5
  (try simp only [Act.put, List.setIfInBounds_toArray, List.set_cons_zero, List.set_cons_succ])
  go_upto_region 7 with (go_at_call 88; have lt0 := he.lt4 E1; (with_reducible refine (rdNum4 he E1).mono ?_); rintro e w2 ⟨rfl, he2, hb2⟩; have hq2 := hb2.keep hq (by omega); have h22 := hb2.keep h2 (by omega); have c2 := cell_arrV hq2 0 (by omega); have f2 := frozen_of_row w2 q 0 _ _ hq2)
  replace he := he2.setAt (q := q) (by omega) (by omega) 0 (.int .i64 (tw : Int))
  replace hb := (hb.trans (hb2.below (B := w.heap.size) (by omega) (by have := hb.size; omega))).setCell (p := ⟨q, 0, none⟩) (by show w.heap.size ≤ q; omega) (.int .i64 (tw : Int))
  replace hq := set_arrV (i := 0) hq2 (.int .i64 (tw : Int))
  replace h2 := (show (w2.setCell ⟨q, 0, none⟩ (.int .i64 (tw : Int))).heap[w.heap.size]? = _ from heap_setCell_other _ _ _ _ (show w.heap.size ≠ q by omega)).trans h22
  clear hq2 c2 f2 he2 hb2 h22
  generalize w2.setCell ⟨q, 0, none⟩ (.int .i64 (tw : Int)) = w6 at *
  clear w2
  (try simp only [Act.put, List.setIfInBounds_toArray, List.set_cons_zero, List.set_cons_succ])
  go_upto_region 8 with (first | (go_at_call 88; have ltn0 := he.lt4 X0; (with_reducible refine (rdNum4 he X0).mono ?_); rintro e w9 ⟨rfl, hea, hba⟩) | (go_at_call 91; (with_reducible refine (rdCutE (by omega) hea Y0).mono ?_); rintro e w2 ⟨A0, z0, rfl, ho, he2, hbb⟩; have hb2 := hba.trans hbb; have hq2 := hb2.keep hq (by omega); have h22 := hb2.keep h2 (by omega); have c2 := cell_arrV hq2 1 (by omega); have f2 := frozen_of_row w2 q 1 _ _ hq2))
  have o0 := (ho.mono (show w.heap.size ≤ w9.heap.size by have := hb.size; have := hba.size; omega)).setCell (p := ⟨q, 1, none⟩) (own_ne ho hq2 (by decide)) (.slice A0 t0.length z0)
  clear hea hba hbb ho
  replace he := he2.setAt (q := q) (by omega) (by omega) 1 (.slice A0 t0.length z0)
  replace hb := (hb.trans (hb2.below (B := w.heap.size) (by omega) (by have := hb.size; omega))).setCell (p := ⟨q, 1, none⟩) (by show w.heap.size ≤ q; omega) (.slice A0 t0.length z0)
  replace hq := set_arrV (i := 1) hq2 (.slice A0 t0.length z0)
  replace h2 := (show (w2.setCell ⟨q, 1, none⟩ (.slice A0 t0.length z0)).heap[w.heap.size]? = _ from heap_setCell_other _ _ _ _ (show w.heap.size ≠ q by omega)).trans h22
  clear hq2 c2 f2 he2 hb2 h22
  generalize w2.setCell ⟨q, 1, none⟩ (.slice A0 t0.length z0) = w7 at *
  clear w2
  (try simp only [Act.put, List.setIfInBounds_toArray, List.set_cons_zero, List.set_cons_succ])
  go_upto_region 9 with (first | (go_at_call 88; have ltn1 := he.lt4 X1; (with_reducible refine (rdNum4 he X1).mono ?_); rintro e w9 ⟨rfl, hea, hba⟩) | (go_at_call 91; (with_reducible refine (rdCutE (by omega) hea Y1).mono ?_); rintro e w2 ⟨A1, z1, rfl, ho, he2, hbb⟩; have hb2 := hba.trans hbb; have hq2 := hb2.keep hq (by omega); have h22 := hb2.keep h2 (by omega); have c2 := cell_arrV hq2 2 (by omega); have f2 := frozen_of_row w2 q 2 _ _ hq2))
  replace o0 : Own w2 w.heap.size 5 (.slice A0 t0.length z0) t0 := Rdr.own hb2 he o0 (by decide)
  replace o0 := o0.setCell (p := ⟨q, 2, none⟩) (own_ne o0 hq2 (by decide)) (.slice A1 t1.length z1)
  have o1 := (ho.mono (show w.heap.size ≤ w9.heap.size by have := hb.size; have := hba.size; omega)).setCell (p := ⟨q, 2, none⟩) (own_ne ho hq2 (by decide)) (.slice A1 t1.length z1)
  clear hea hba hbb ho
  replace he := he2.setAt (q := q) (by omega) (by omega) 2 (.slice A1 t1.length z1)
  replace hb := (hb.trans (hb2.below (B := w.heap.size) (by omega) (by have := hb.size; omega))).setCell (p := ⟨q, 2, none⟩) (by show w.heap.size ≤ q; omega) (.slice A1 t1.length z1)
  replace hq := set_arrV (i := 2) hq2 (.slice A1 t1.length z1)
  replace h2 := (show (w2.setCell ⟨q, 2, none⟩ (.slice A1 t1.length z1)).heap[w.heap.size]? = _ from heap_setCell_other _ _ _ _ (show w.heap.size ≠ q by omega)).trans h22
  clear hq2 c2 f2 he2 hb2 h22
  generalize w2.setCell ⟨q, 2, none⟩ (.slice A1 t1.length z1) = w8 at *
  clear w2
  (try simp only [Act.put, List.setIfInBounds_toArray, List.set_cons_zero, List.set_cons_succ])
  go_upto_region 10 with (first | (go_at_call 88; have ltn2 := he.lt4 X2; (with_reducible refine (rdNum4 he X2).mono ?_); rintro e w9 ⟨rfl, hea, hba⟩) | (go_at_call 91; (with_reducible refine (rdCutE (by omega) hea Y2).mono ?_); rintro e w2 ⟨A2, z2, rfl, ho, he2, hbb⟩; have hb2 := hba.trans hbb; have hq2 := hb2.keep hq (by omega); have h22 := hb2.keep h2 (by omega); have c2 := cell_arrV hq2 3 (by omega); have f2 := frozen_of_row w2 q 3 _ _ hq2))
  replace o0 : Own w2 w.heap.size 5 (.slice A0 t0.length z0) t0 := Rdr.own hb2 he o0 (by decide)
  replace o0 := o0.setCell (p := ⟨q, 3, none⟩) (own_ne o0 hq2 (by decide)) (.slice A2 t2.length z2)
  replace o1 : Own w2 w.heap.size 5 (.slice A1 t1.length z1) t1 := Rdr.own hb2 he o1 (by decide)
  replace o1 := o1.setCell (p := ⟨q, 3, none⟩) (own_ne o1 hq2 (by decide)) (.slice A2 t2.length z2)
  have o2 := (ho.mono (show w.heap.size ≤ w9.heap.size by have := hb.size; have := hba.size; omega)).setCell (p := ⟨q, 3, none⟩) (own_ne ho hq2 (by decide)) (.slice A2 t2.length z2)
  clear hea hba hbb ho
  replace he := he2.setAt (q := q) (by omega) (by omega) 3 (.slice A2 t2.length z2)
  replace hb := (hb.trans (hb2.below (B := w.heap.size) (by omega) (by have := hb.size; omega))).setCell (p := ⟨q, 3, none⟩) (by show w.heap.size ≤ q; omega) (.slice A2 t2.length z2)
  replace hq := set_arrV (i := 3) hq2 (.slice A2 t2.length z2)
  replace h2 := (show (w2.setCell ⟨q, 3, none⟩ (.slice A2 t2.length z2)).heap[w.heap.size]? = _ from heap_setCell_other _ _ _ _ (show w.heap.size ≠ q by omega)).trans h22
  clear hq2 c2 f2 he2 hb2 h22
  generalize w2.setCell ⟨q, 3, none⟩ (.slice A2 t2.length z2) = wa at *
  clear w2
  (try simp only [Act.put, List.setIfInBounds_toArray, List.set_cons_zero, List.set_cons_succ])
  replace hq : wa.heap[q]? = some (.cells (arrV 4 (wlG tw (⟨tw, t0, t1, t2⟩ : PWl).tx (wA A0 A1 A2) (rC z0 z1 z2) 3)) 93 (0, 0)) := hq
  obtain ⟨A6, n6, c6, hE⟩ := he
  have d0 := hE.c0
  have d1 := hE.c1
  have hn6 : s8.l.length = n6 := hE.txt.len
  have HO : ∀ j, j < 3 → Own wa w.heap.size 5 (.slice (wA A0 A1 A2 j) ((⟨tw, t0, t1, t2⟩ : PWl).tx j).length (rC z0 z1 z2 j)) ((⟨tw, t0, t1, t2⟩ : PWl).tx j) := fun j hj => by
    have : j = 0 ∨ j = 1 ∨ j = 2 := by omega
    rcases this with rfl | rfl | rfl
    · exact o0
    · exact o1
    · exact o2
  replace HO := Lib.hid HO
  clear hE E1 X0 Y0 X1 Y1 X2 Y2 o0 o1 o2
  cases hov : s8.ov with
  | true =>
    rw [hov] at d1
    have EK := Lib.hid (show wlQ k s1 = (noWl, 3) by
      unfold wlQ
      rw [← EP.out]
      split
      · exact if_neg (fun h => by rw [hov] at h; cases h.1)
      · rfl)
    go_wp2_with (first | (refine wpList_valg rfl (run_built0 rfl built_wl) ?_) | (refine wpList_store_v (f' := (wlG 0 noTx noA noC 0)) rfl rfl RTWl rfl rfl h2 (fun i _ => wlG_one _ _ _ _ _ i) ?_))
    rw [EK.out]
    refine bodyPost_ret (results_v_tmp rfl rfl rfl RTWl (row_self h2)) rfl ⟨noA, noC, rfl, noWl_own _ _, row_below hb (Nat.le_refl _) _⟩
  | false =>
    rw [hov] at d1
    by_cases hk3 : k = 2
    · subst hk3
      by_cases h0 : 0 < n6
      · have EK := Lib.hid (show wlQ 2 s1 = (noWl, 3) by
          unfold wlQ
          rw [← EP.out, if_pos rfl]
          exact if_neg (fun h => by have h1 : s8.l.length = 0 := h.2.1; omega))
        go_wp2_with (first | (refine wpList_valg rfl (run_built0 rfl built_wl) ?_) | (refine wpList_store_v (f' := (wlG 0 noTx noA noC 0)) rfl rfl RTWl rfl rfl h2 (fun i _ => wlG_one _ _ _ _ _ i) ?_))
        rw [EK.out]
        refine bodyPost_ret (results_v_tmp rfl rfl rfl RTWl (row_self h2)) rfl ⟨noA, noC, rfl, noWl_own _ _, row_below hb (Nat.le_refl _) _⟩
      · by_cases hm : MayW (tw : Int) t0.length t1.length t2.length
        · have HM := Lib.hid (decide_eq_true hm)
          have EK := Lib.hid (show wlQ 2 s1 = (⟨tw, t0, t1, t2⟩, 0) by
            unfold wlQ
            rw [← EP.out, if_pos rfl]
            exact if_pos ⟨hov, by show s8.l.length = 0; omega, hm⟩)
          clear hm
          go_wp2_with (first | (refine wpList_valg rfl (run_op_load_v rfl RTWl rfl hq) ?_) | (go_at_call 92; (with_reducible refine (RmayWelcomeP (p := ⟨tw, t0, t1, t2⟩)).mono ?_); rintro e w9 ⟨rfl, hb9⟩; rw [HM.out]; have hq9 := keep_below hb9 (lt_of_block hq) hq; have h29 := keep_below hb9 (lt_of_block h2) h2) | (refine wpList_load_all rfl rfl RTWl rfl hq9 ?_) | (refine wpList_store_v rfl rfl RTWl rfl rfl h29 (fun i _ => wlG_one _ _ _ _ _ i) ?_))
          refine bodyPost_ret (results_v_tmp rfl rfl rfl RTWl (row_self h29)) rfl ?_
          rw [EK.out]
          exact ⟨wA A0 A1 A2, rC z0 z1 z2, rfl, fun j hj => own_setR ((HO.out j hj).below hb9 (fun k hk => ((HO.out j hj).lt k hk).2)) h29 (by decide), row_below (hb.trans (hb9.mono hb.size)) (Nat.le_refl _) _⟩
        · have HM := Lib.hid (decide_eq_false hm)
          have EK := Lib.hid (show wlQ 2 s1 = (noWl, 3) by
            unfold wlQ
            rw [← EP.out, if_pos rfl]
            exact if_neg (fun h => hm h.2.2))
          clear hm
          go_wp2_with (first | (refine wpList_valg rfl (run_op_load_v rfl RTWl rfl hq) ?_) | (go_at_call 92; (with_reducible refine (RmayWelcomeP (p := ⟨tw, t0, t1, t2⟩)).mono ?_); rintro e w9 ⟨rfl, hb9⟩; rw [HM.out]; have h29 := keep_below hb9 (lt_of_block h2) h2) | (refine wpList_valg rfl (run_built0 rfl built_wl) ?_) | (refine wpList_store_v (f' := (wlG 0 noTx noA noC 0)) rfl rfl RTWl rfl rfl h29 (fun i _ => wlG_one _ _ _ _ _ i) ?_))
          rw [EK.out]
          refine bodyPost_ret (results_v_tmp rfl rfl rfl RTWl (row_self h29)) rfl ⟨noA, noC, rfl, noWl_own _ _, row_below (hb.trans (hb9.mono hb.size)) (Nat.le_refl _) _⟩
    · have hk3n : decide ((k : Int) = 2) = false := decide_eq_false (by omega)
      have EK := Lib.hid (show wlQ k s1 = (noWl, 3) from if_neg hk3)
      go_wp2_with (first | (refine wpList_valg rfl (run_built0 rfl built_wl) ?_) | (refine wpList_store_v (f' := (wlG 0 noTx noA noC 0)) rfl rfl RTWl rfl rfl h2 (fun i _ => wlG_one _ _ _ _ _ i) ?_))
      rw [EK.out]
      refine bodyPost_ret (results_v_tmp rfl rfl rfl RTWl (row_self h2)) rfl ⟨noA, noC, rfl, noWl_own _ _, row_below hb (Nat.le_refl _) _⟩
theorem RReadWelcome_any (A : Option Addr) (n c : Nat) (l : List Nat) (w : World) (h : Src w w.heap.size A n c l) :
    Calls Try.prog 56 #[.slice A n c] w (WlPost w (wlV l)) := by
  have hl := h.txt.len
  by_cases hn : 1048576 < n
  · rw [wlV_long (by omega)]
    exact RReadWelcome_long A n c l w h hn
  · obtain ⟨k, s1, hk⟩ := pair_of (numP 1 ⟨l, false⟩)
    have := RReadWelcome_more A n c l w h (by omega) hk
    by_cases hne : k = 2
    · subst hne
      rw [wlV_more (by omega) hk]
      exact this
    · rw [wlV_kind (by omega) hk hne]
      rw [show wlQ k s1 = (noWl, 3) from if_neg hne] at this
      exact this
set_option maxRecDepth 100000 in
set_option maxHeartbeats 4000000 in
theorem RReadCommit_long (A : Option Addr) (n c : Nat) (l : List Nat) (w : World) (h : Src w w.heap.size A n c l) (hn : 1048576 < n) :
    Calls Try.prog 55 #[.slice A n c] w (CmPost w (noCom, 4)) := by
  have hn2 := h.len
  go_enter Try.func55, Try.ntmps55
  go_upto_region 1 with (refine wpList_alloc_v rfl rfl ZVCm ?_)
  have hq0 := heap_alloc_new w (.cells (arrV 70 noCm) 40)
  have hb0 : Below w.heap.size w (w.alloc (.cells (arrV 70 noCm) 40)) := (Below.refl _ _).alloc (Nat.le_refl _) _
  refine wp_cut (fun x => x.heap[w.heap.size]? = some (.cells (arrV 70 noCm) 40 (0, 0)) ∧ Below w.heap.size w x ∧ Src x w.heap.size A n c l ∧ w.heap.size < x.heap.size) ⟨hq0, hb0, ⟨hb0.size, h.txt.below hb0, h.cap, h.len, h.byt⟩, by simp⟩ ?_
  clear hq0 hb0 h
  rintro w1 ⟨h2, hb, hS, hlt⟩
  (try simp only [Act.put, List.setIfInBounds_toArray, List.set_cons_zero, List.set_cons_succ])
  go_wp2_with (first | (refine wpList_valg rfl (run_built0 rfl built_cm) ?_) | (refine wpList_store_v (f' := noCm) rfl rfl RTCom rfl rfl h2 (fun i _ => noCm_one i) ?_))
  refine bodyPost_ret (results_v_tmp rfl rfl rfl RTCom (row_self h2)) rfl ⟨noAt, rfl, no_ok _ _, row_below hb (Nat.le_refl _) _⟩
theorem rdComE {B g : Nat} {s s' : Rs} {p : PCom} {w : World} (h : Rdr w B g s) (hE : comP s = (p, s')) :
    Calls Try.prog 89 #[.pointer (some ⟨g, 0, none⟩)] w fun e w' => ∃ a : At, e = .returned (.agg (arrV 70 (comV (comOf p a) p.tag))) ∧ CanB.ComSt w' (comOf p a) ∧ Rdr w' B g s' ∧ But g w w' := by
  have := CanB.rdCom g s w h
  rw [hE] at this
  exact this
set_option maxRecDepth 100000 in
set_option maxHeartbeats 4000000 in
theorem RReadCommit_more (A : Option Addr) (n c : Nat) (l : List Nat) (w : World) (h : Src w w.heap.size A n c l) (hn : n ≤ 1000000) {k : Nat} {s1 : Rs} (hk : numP 1 ⟨l, false⟩ = (k, s1)) :
    Calls Try.prog 55 #[.slice A n c] w (CmPost w (cmQ k s1)) := by
  have hL1 := num_left 1 hk
  have hLn : l.length = n := h.txt.len
  dsimp only at hL1
  obtain ⟨p, s2, EC⟩ := pair_of (comP s1)
  have hmid : ∀ a, MidC (comOf p a) := fun a => mid_of p a (by
    have := sl_com.all s1
    rw [EC] at this
    dsimp only at this
    omega)
  have hbyt := h.byt
  have hred : s2.ov = false → k = 1 → l = [1] ++ (p.L ++ s2.l) := fun ho h1 => by
    subst h1
    have r := kind_read 1 hbyt (by decide) (by rw [hk])
    rw [hk] at r
    have q := rw_com.read s1 (fun y hy => hbyt y (by rw [r.1]; simp [hy])) (by rw [EC]; exact ho)
    rw [EC] at q
    rw [← q.1]
    exact r.1
  have HR := Lib.hid hred
  have EK0 := Lib.hid (show cmK (p, s2) = cmK (comP s1) by rw [EC])
  have HT := Lib.hid h
  clear hred hL1 hLn
  have hk1 : k < 256 := h.eye.lt1 hk
  go_enter Try.func55, Try.ntmps55
  go_upto_region 1 with (refine wpList_alloc_v rfl rfl ZVCm ?_)
  have hq0 := heap_alloc_new w (.cells (arrV 70 noCm) 40)
  have hb0 : Below w.heap.size w (w.alloc (.cells (arrV 70 noCm) 40)) := (Below.refl _ _).alloc (Nat.le_refl _) _
  refine wp_cut (fun x => x.heap[w.heap.size]? = some (.cells (arrV 70 noCm) 40 (0, 0)) ∧ Below w.heap.size w x ∧ Src x w.heap.size A n c l ∧ w.heap.size < x.heap.size) ⟨hq0, hb0, ⟨hb0.size, h.txt.below hb0, h.cap, h.len, h.byt⟩, by simp⟩ ?_
  clear hq0 hb0 h
  rintro w1 ⟨h2, hb, hS, hlt⟩
  (try simp only [Act.put, List.setIfInBounds_toArray, List.set_cons_zero, List.set_cons_succ])
  go_upto_region 4 with (fail)
  have he := hS.rdr
  have hb1 : Below w.heap.size w _ := hb.alloc hb.size (.cells #[.slice A n c, .bool false] 130)
  have h21 := keep_below ((Below.refl w1.heap.size w1).alloc (Nat.le_refl _) (.cells #[.slice A n c, .bool false] 130)) (lt_of_block h2) h2
  refine wp_cut (fun x => x.heap[w.heap.size]? = _ ∧ Below w.heap.size w x ∧ Rdr x w.heap.size w1.heap.size ⟨l, false⟩) ⟨h21, hb1, he⟩ ?_
  clear h21 hb1 he h2 hb hS
  rintro w3 ⟨h2, hb, he⟩
  generalize w1.heap.size = g at *
  (try simp only [Act.put, List.setIfInBounds_toArray, List.set_cons_zero, List.set_cons_succ])
  have hgl := he.lt
  go_upto_region 5 with (go_at_call 88; (with_reducible refine (rdNum1 he hk).mono ?_); rintro e w4 ⟨rfl, he2, hb2⟩)
  replace h2 := hb2.keep h2 (by omega)
  replace hb := hb.trans (hb2.below (B := w.heap.size) (by omega) hb.size)
  replace he := he2
  clear he2 hb2 hgl
  (try simp only [Act.put, List.setIfInBounds_toArray, List.set_cons_zero, List.set_cons_succ])
  have hgq := he.lt
  go_upto_region 6 with (first | (go_at_call 89; (with_reducible refine (rdComE he EC).mono ?_); rintro e w5 ⟨a, rfl, hok, he5, hb5⟩) | (refine wpList_newV rfl rfl rfl rfl ZVCm RTCom rfl rfl (fun _ _ => comV_one _ _ _) ?_; intro w6 hq b6 hz6))
  replace h2 := keep_below b6 (by have := hb5.size; have := lt_of_block h2; omega) (hb5.keep h2 (by omega))
  replace hb := hb.trans (hb5.below (B := w.heap.size) (by omega) hb.size)
  replace hb := hb.trans (b6.mono hb.size)
  replace he := he5.after b6
  replace hok := hok.after b6
  replace hqg : w.heap.size < w5.heap.size := by have := hb5.size; have := lt_of_block h2; have := b6.size; omega
  generalize w5.heap.size = q at *
  clear he5 hb5 b6 hz6 hgq
  have HM := Lib.hid (hmid a)
  have hk0 := hok.ok
  (try simp only [Act.put, List.setIfInBounds_toArray, List.set_cons_zero, List.set_cons_succ])
  go_upto_region 7 with (first | (refine wpList_load_all rfl rfl RTCom rfl hq ?_) | (go_at_call 90; (with_reducible refine (RWriteCommit_any (comOf p a) p.tag _ _ hk0 (Nat.le_refl _) HM.out).mono ?_); rintro e w7 ⟨A4, n4, c4, rfl, o4, b7⟩))
  replace h2 := keep_below b7 (lt_of_block h2) h2
  replace hq := keep_below b7 (lt_of_block hq) hq
  replace hb := hb.trans (b7.mono hb.size)
  replace he := he.after b7
  replace hok := hok.after b7
  have t4 := o4.text
  have ht := HT.out.at_ hb
  clear b7 hk0 o4 hmid
  (try simp only [Act.put, List.setIfInBounds_toArray, List.set_cons_zero, List.set_cons_succ])
  obtain ⟨A6, n6, c6, hE⟩ := he
  have d1 := hE.c1
  clear hE
  cases hov : s2.ov with
  | true =>
    rw [hov] at d1
    have EK := Lib.hid (show cmQ k s1 = (noCom, 3) by
      unfold cmQ
      rw [← EK0.out]
      split
      · exact if_neg (fun h => by rw [hov] at h; cases h.1)
      · rfl)
    go_wp2_with (first | (refine wpList_valg rfl (run_built0 rfl built_cm) ?_) | (refine wpList_store_v (f' := noCm) rfl rfl RTCom rfl rfl h2 (fun i _ => noCm_one i) ?_))
    rw [EK.out]
    refine bodyPost_ret (results_v_tmp rfl rfl rfl RTCom (row_self h2)) rfl ⟨noAt, rfl, no_ok _ _, row_below hb (Nat.le_refl _) _⟩
  | false =>
    rw [hov] at d1
    by_cases hk3 : k = 1
    · subst hk3
      by_cases hm : OkP p
      · have HX := Lib.hid (chk_yes ((ok_at p a).2 hm))
        have hlT : lT (comOf p a) p.tag = [1] ++ p.L := by
          unfold lT
          rw [if_pos ((ok_at p a).2 hm), com_L]
        have hl := HR.out hov rfl
        have HB4 := Lib.hid (show ∀ x ∈ lT (comOf p a) p.tag, x < 256 from fun x hx => by
          rw [hlT] at hx
          refine hbyt x ?_
          rw [hl, ← List.append_assoc]
          exact List.mem_append.2 (.inl hx))
        have HB := Lib.hid (show ∀ x ∈ l, x < 256 from hbyt)
        rw [HX.out]
        by_cases h0 : s2.l.length = 0
        · have HS := Lib.hid (show decide (lT (comOf p a) p.tag = l) = true from decide_eq_true (by
            rw [hlT]
            have e0 : s2.l = [] := List.eq_nil_of_length_eq_zero h0
            rw [e0, List.append_nil] at hl
            exact hl.symm))
          have EK := Lib.hid (show cmQ 1 s1 = (p, 0) by
            unfold cmQ
            rw [← EK0.out, if_pos rfl]
            exact if_pos ⟨hov, h0, hm⟩)
          clear hm hl hlT h0 HR hbyt
          have hT := ht.txt
          go_wp2_with (first | (go_at_call 41; (with_reducible refine (Same_txt A4 n4 c4 _ A n c l _ _ t4 hT HB4.out HB.out).mono ?_); rintro e w9 ⟨rfl, rfl⟩; rw [HS.out]) | (refine wpList_load_all rfl rfl RTCom rfl hq ?_) | (refine wpList_store_v rfl rfl RTCom rfl rfl h2 (fun i _ => comV_one _ _ i) ?_))
          refine bodyPost_ret (results_v_tmp rfl rfl rfl RTCom (row_self h2)) rfl ?_
          rw [EK.out]
          exact ⟨a, rfl, hok.setRow h2, row_below hb (Nat.le_refl _) _⟩
        · have HS := Lib.hid (show decide (lT (comOf p a) p.tag = l) = false from decide_eq_false (by
            rw [hlT]
            intro e
            rw [hl] at e
            have := congrArg List.length e
            simp at this
            exact h0 (by rw [this]; rfl)))
          have EK := Lib.hid (show cmQ 1 s1 = (noCom, 3) by
            unfold cmQ
            rw [← EK0.out, if_pos rfl]
            exact if_neg (fun h => h0 h.2.1))
          clear hm hl hlT h0 HR hbyt
          have hT := ht.txt
          go_wp2_with (first | (go_at_call 41; (with_reducible refine (Same_txt A4 n4 c4 _ A n c l _ _ t4 hT HB4.out HB.out).mono ?_); rintro e w9 ⟨rfl, rfl⟩; rw [HS.out]) | (refine wpList_valg rfl (run_built0 rfl built_cm) ?_) | (refine wpList_store_v (f' := noCm) rfl rfl RTCom rfl rfl h2 (fun i _ => noCm_one i) ?_))
          rw [EK.out]
          refine bodyPost_ret (results_v_tmp rfl rfl rfl RTCom (row_self h2)) rfl ⟨noAt, rfl, no_ok _ _, row_below hb (Nat.le_refl _) _⟩
      · have HX := Lib.hid (chk_no (fun h => hm ((ok_at p a).1 h)))
        have EK := Lib.hid (show cmQ 1 s1 = (noCom, 3) by
          unfold cmQ
          rw [← EK0.out, if_pos rfl]
          exact if_neg (fun h => hm h.2.2))
        rw [HX.out]
        go_wp2_with (first | (refine wpList_valg rfl (run_built0 rfl built_cm) ?_) | (refine wpList_store_v (f' := noCm) rfl rfl RTCom rfl rfl h2 (fun i _ => noCm_one i) ?_))
        rw [EK.out]
        refine bodyPost_ret (results_v_tmp rfl rfl rfl RTCom (row_self h2)) rfl ⟨noAt, rfl, no_ok _ _, row_below hb (Nat.le_refl _) _⟩
    · have hk3n : decide ((k : Int) = 1) = false := decide_eq_false (by omega)
      have EK := Lib.hid (show cmQ k s1 = (noCom, 3) from if_neg hk3)
      go_wp2_with (first | (refine wpList_valg rfl (run_built0 rfl built_cm) ?_) | (refine wpList_store_v (f' := noCm) rfl rfl RTCom rfl rfl h2 (fun i _ => noCm_one i) ?_))
      rw [EK.out]
      refine bodyPost_ret (results_v_tmp rfl rfl rfl RTCom (row_self h2)) rfl ⟨noAt, rfl, no_ok _ _, row_below hb (Nat.le_refl _) _⟩
/-- A text as short as those that are played, or too long. -/
theorem RReadCommit_any (A : Option Addr) (n c : Nat) (l : List Nat) (w : World) (h : Src w w.heap.size A n c l) (hs : n ≤ 4000 ∨ 1048576 < n) :
    Calls Try.prog 55 #[.slice A n c] w (CmPost w (cmV l)) := by
  have hl := h.txt.len
  rcases hs with hn | hn
  · obtain ⟨k, s1, hk⟩ := pair_of (numP 1 ⟨l, false⟩)
    have := RReadCommit_more A n c l w h (by omega) hk
    by_cases hne : k = 1
    · subst hne
      rw [cmV_more (by omega) hk]
      exact this
    · rw [cmV_kind (by omega) hk hne]
      rw [show cmQ k s1 = (noCom, 3) from if_neg hne] at this
      exact this
  · rw [cmV_long (by omega)]
    exact RReadCommit_long A n c l w h hn
end Go.Proofs.Yteefhbpmeajbfaa
namespace Go.Proofs.Yteefhbpmeajbfaa
set_option linter.unusedSimpArgs false
set_option linter.unusedVariables false
open Go.RowKit
attribute [local irreducible] farB oddB cmV wlV frV
theorem bytesEqual_sep {X : List Nat} {w0 : World} {A A' : Option Addr} {c c' : Nat} {l l' : List Nat} (hX : ∀ k ∈ X, k < w0.heap.size) (h : St (TxF A c l) w0 X) (h' : St (TxF A' c' l') w0 X) :
    Calls Try.prog 60 #[.slice A l.length c, .slice A' l'.length c'] w0 fun e w' => e = .returned (.bool (decide (l = l'))) ∧ w0 = w' := by
  have e1 := run_bytes_string (P := Try.prog) (dst := 9) BT Try.underlying9 h.now.txt h.now.byt
  have e2 := run_bytes_string (P := Try.prog) (dst := 9) BT Try.underlying9 h'.now.txt h'.now.byt
  have hl := h.now.byt
  have hl' := h'.now.byt
  clear h h'
  go_enter Try.func60, Try.ntmps60
  go_wp2
  go_ret
  refine ⟨?_, rfl⟩
  show Ending.returned (Value.bool _) = Ending.returned (Value.bool _)
  rw [show (List.map UInt8.ofNat l == List.map UInt8.ofNat l') = decide (l = l') from by rw [Bool.eq_iff_iff, beq_iff_eq, decide_eq_true_eq, ofNat_inj hl hl']]
def sameB (a b : Srv) : Bool := decide (a.ep = b.ep ∧ a.nx = b.nx ∧ a.log = b.log ∧ a.wait = b.wait)
theorem ltr_eq (x1 x2 y1 y2 : Int) (xt yt : List Nat) : decide ((⟨x1, x2, xt⟩ : Ltr) = ⟨y1, y2, yt⟩) = ((x1 == y1) && (x2 == y2) && decide (xt = yt)) := by
  rw [Bool.eq_iff_iff]
  simp
  exact ⟨fun ⟨a, b, c⟩ => ⟨⟨a, b⟩, c⟩, fun ⟨⟨a, b⟩, c⟩ => ⟨a, b, c⟩⟩
theorem list_same {α : Type} [DecidableEq α] {xs ys : List α} (hl : xs.length = ys.length) (h : ∀ (i : Nat) x y, xs[i]? = some x → ys[i]? = some y → x = y) : xs = ys := by
  apply List.ext_getElem hl
  intro i h1 h2
  exact h i _ _ (List.getElem?_eq_getElem h1) (List.getElem?_eq_getElem h2)
set_option maxRecDepth 100000 in
set_option maxHeartbeats 4000000 in
theorem sameLetter_any {x1 x2 y1 y2 : Int} {xA yA : Option Addr} {xc yc : Nat} {xt yt : List Nat} {X : List Nat} {w0 : World} (hX : ∀ k ∈ X, k < w0.heap.size) (hx : St (TxF xA xc xt) w0 X) (hy : St (TxF yA yc yt) w0 X) :
    Calls Try.prog 62 #[.agg (ca [.one (.int .i64 x1), .one (.int .i64 x2), .one (.slice xA xt.length xc)]), .agg (ca [.one (.int .i64 y1), .one (.int .i64 y2), .one (.slice yA yt.length yc)])] w0 fun e w' => e = .returned (.bool (decide ((⟨x1, x2, xt⟩ : Ltr) = ⟨y1, y2, yt⟩))) ∧ Sep X [] w0 w' [] [] := by
  refine calls_env Try.ntmps62 Try.func62 rfl rfl fun a E => ?_; replace E : Env a _ [(0, _), (1, _)] := E
  have H : Sep X [] w0 w0 [] [(TxF xA xc xt), (TxF yA yc yt)] := Sep.start hX (List.forall_mem_cons.2 ⟨hx, List.forall_mem_cons.2 ⟨hy, fun _ h => by cases h⟩⟩)
  refine wp_seq_k fun K0 hK0 => ?_; refine S_region ?_; refine S_eff E rfl (fun K hK => ?_); refine eff_box E H rfl rfl rfl ?_; clear H; intro b2 w H _; refine hK _ _ ?_; clear hK K; refine S_put E rfl rfl ?_; clear E a; intro a E; refine S_eff E rfl (fun K hK => ?_); refine eff_box E H rfl rfl rfl ?_; clear H; intro b3 w H _; refine hK _ _ ?_; clear hK K; refine S_put E rfl rfl ?_; clear E a; intro a E; refine S_val E (pk_assign rfl rfl) rfl rfl rfl ?_; clear E a; intro a E; refine hK0 _ _ ?_; refine wp_seq_k fun K1 hK1 => ?_; refine S_region ?_; refine S_val E (pk_fieldAddr (off := 0) rfl rfl (by kernel_rfl)) rfl rfl rfl ?_; clear E a; intro a E; refine S_val E (pk_load1 H 1 rfl rfl rfl trivial rfl (by kernel_rfl)) rfl rfl rfl ?_; clear E a; intro a E; refine S_val E (pk_fieldAddr (off := 0) rfl rfl (by kernel_rfl)) rfl rfl rfl ?_; clear E a; intro a E
  refine S_val E (pk_load1 H 0 rfl rfl rfl trivial rfl (by kernel_rfl)) rfl rfl rfl ?_; clear E a; intro a E; refine S_val E (pk_int rfl rfl rfl rfl) rfl rfl rfl ?_; clear E a; intro a E; refine S_val E (pk_move rfl rfl) rfl rfl rfl ?_; clear E a; intro a E; refine env_split (d := 10) E rfl ?_ ?_
  · skip
    clear E; intro c10 E; refine S_val E (pk_fieldAddr (off := 1) rfl rfl (by kernel_rfl)) rfl rfl rfl ?_; clear E a; intro a E; refine S_val E (pk_load1 H 1 rfl rfl rfl trivial rfl (by kernel_rfl)) rfl rfl rfl ?_; clear E a; intro a E; refine S_val E (pk_fieldAddr (off := 1) rfl rfl (by kernel_rfl)) rfl rfl rfl ?_; clear E a; intro a E; refine S_val E (pk_load1 H 0 rfl rfl rfl trivial rfl (by kernel_rfl)) rfl rfl rfl ?_; clear E a; intro a E; refine S_val E (pk_int rfl rfl rfl rfl) rfl rfl rfl ?_; clear E a; intro a E; refine S_val E (pk_pick rfl rfl rfl) rfl rfl rfl ?_; clear E a; intro a E; refine S_val E (pk_move rfl rfl) rfl rfl rfl ?_; clear E a; intro a E; refine env_split (d := 17) E rfl ?_ ?_
    · skip
      clear E; intro c17 E; refine S_val E (pk_fieldAddr (off := 2) rfl rfl (by kernel_rfl)) rfl rfl rfl ?_; clear E a; intro a E; refine S_val E (pk_load1 H 1 rfl rfl rfl trivial rfl (by kernel_rfl)) rfl rfl rfl ?_; clear E a; intro a E; refine S_val E (pk_fieldAddr (off := 2) rfl rfl (by kernel_rfl)) rfl rfl rfl ?_; clear E a; intro a E; refine S_val E (pk_load1 H 0 rfl rfl rfl trivial rfl (by kernel_rfl)) rfl rfl rfl ?_; clear E a; intro a E; refine S_eff E rfl (fun K hK => ?_); refine eff_call E rfl rfl rfl (by kernel_rfl) ?_; refine (bytesEqual_sep H.xk (H.fact 0 rfl) (H.fact 1 rfl)).mono ?_; rintro e w ⟨rfl, rfl⟩; refine hK _ _ ?_; clear hK K; refine S_put E rfl rfl ?_; clear E a; intro a E; refine S_val E (pk_pick rfl rfl rfl) rfl rfl rfl ?_; clear E a; intro a E; refine S_val E (pk_assign rfl rfl) rfl rfl rfl ?_; clear E a; intro a E; refine hK1 _ _ ?_; refine wp_ret ?_
      repeat (first | refine then_ret ?_ | refine block_ret ?_)
      refine ret1 rfl E (resT rfl) ?_; refine ⟨?_, H.keepLR (L := []) (R := [])⟩
      rw [ltr_eq]
      simp_all
    · skip
      clear E; intro c17 E; refine S_skip E rfl rfl rfl ?_; clear E a; intro a E; refine S_skip E rfl rfl rfl ?_; clear E a; intro a E; refine S_skip E rfl rfl rfl ?_; clear E a; intro a E; refine S_skip E rfl rfl rfl ?_; clear E a; intro a E; refine S_skip E rfl rfl rfl ?_; clear E a; intro a E; refine S_val E (pk_pick rfl rfl rfl) rfl rfl rfl ?_; clear E a; intro a E; refine S_val E (pk_assign rfl rfl) rfl rfl rfl ?_; clear E a; intro a E; refine hK1 _ _ ?_; refine wp_ret ?_
      repeat (first | refine then_ret ?_ | refine block_ret ?_)
      refine ret1 rfl E (resT rfl) ?_; refine ⟨?_, H.keepLR (L := []) (R := [])⟩
      rw [ltr_eq]
      simp_all
  · skip
    clear E; intro c10 E; refine S_skip E rfl rfl rfl ?_; clear E a; intro a E; refine S_skip E rfl rfl rfl ?_; clear E a; intro a E; refine S_skip E rfl rfl rfl ?_; clear E a; intro a E; refine S_skip E rfl rfl rfl ?_; clear E a; intro a E; refine S_skip E rfl rfl rfl ?_; clear E a; intro a E; refine S_val E (pk_pick rfl rfl rfl) rfl rfl rfl ?_; clear E a; intro a E; refine S_val E (pk_move rfl rfl) rfl rfl rfl ?_; clear E a; intro a E; refine S_skip E rfl rfl rfl ?_; clear E a; intro a E; refine S_skip E rfl rfl rfl ?_; clear E a; intro a E; refine S_skip E rfl rfl rfl ?_; clear E a; intro a E; refine S_skip E rfl rfl rfl ?_; clear E a; intro a E; refine S_skip E rfl rfl rfl ?_; clear E a; intro a E; refine S_val E (pk_pick rfl rfl rfl) rfl rfl rfl ?_; clear E a; intro a E; refine S_val E (pk_assign rfl rfl) rfl rfl rfl ?_; clear E a; intro a E; refine hK1 _ _ ?_; refine wp_ret ?_
    repeat (first | refine then_ret ?_ | refine block_ret ?_)
    refine ret1 rfl E (resT rfl) ?_; refine ⟨?_, H.keepLR (L := []) (R := [])⟩
    rw [ltr_eq]
    simp_all
set_option maxRecDepth 100000 in
set_option maxHeartbeats 4000000 in
theorem EqTexts_any {A B : Option Addr} {c d : Nat} {xs ys : List (List Nat)} {m m2 : Nat → TextT.μ} {f : FuncId} (hf : fnB Try.prog f = true)
    (hp : ∀ (x y : (List Nat)) (mx my : TextT.μ) (X : List Nat) (w0 : World), (∀ k ∈ X, k < w0.heap.size) → St (TextT.nest x mx) w0 X → St (TextT.nest y my) w0 X → Calls Try.prog f (#[] ++ [.slice mx.1 x.length mx.2, .slice my.1 y.length my.2].toArray ++ #[]) w0 fun e w' => e = .returned (.bool (decide (x = y))) ∧ Sep X [] w0 w' [] []) {X : List Nat} {w0 : World} (hX : ∀ k ∈ X, k < w0.heap.size) (hL : St (LiF TextT A c xs m) w0 X) (hM : St (LiF TextT B d ys m2) w0 X) :
    Calls Try.prog 59 #[.slice A xs.length c, .slice B ys.length d, .func (.func f) #[] #[]] w0 fun e w' => e = .returned (.bool (decide (xs = ys))) ∧ Sep X [] w0 w' [] [] := by
  have hLb := hL.now.big
  have hMb := hM.now.big
  refine calls_env Try.ntmps59 Try.func59 rfl rfl fun a E => ?_; replace E : Env a _ [(0, _), (1, _), (2, _)] := E
  have H : Sep X [] w0 w0 [] [(LiF TextT A c xs m), (LiF TextT B d ys m2)] := Sep.start hX (List.forall_mem_cons.2 ⟨hL, List.forall_mem_cons.2 ⟨hM, fun _ h => by cases h⟩⟩)
  refine wp_seq_k fun K0 hK0 => ?_; refine S_region ?_; refine S_val E (pk_assign rfl rfl) rfl rfl rfl ?_; clear E a; intro a E; refine hK0 _ _ ?_; refine wp_seq_k fun K1 hK1 => ?_; refine wp_seq_k fun K2 hK2 => ?_; refine S_region ?_; refine S_val E (pk_move rfl rfl) rfl rfl rfl ?_; clear E a; intro a E; refine S_val E (pk_len rfl rfl (by kernel_rfl)) rfl rfl rfl ?_; clear E a; intro a E; refine S_val E (pk_move rfl rfl) rfl rfl rfl ?_; clear E a; intro a E; refine S_val E (pk_len rfl rfl (by kernel_rfl)) rfl rfl rfl ?_; clear E a; intro a E; refine S_val E (pk_int rfl rfl rfl rfl) rfl rfl rfl ?_; clear E a; intro a E; refine hK2 _ _ ?_; refine env_split (d := 14) E rfl ?_ ?_
  · skip
    clear E; intro c14 E
    have hne : xs ≠ ys := fun h => by
      have := congrArg List.length h
      simp only [bne_iff_ne, ne_eq] at c14
      omega
    refine S_then E rfl ?_; refine wp_seq_k fun K3 hK3 => ?_; refine S_region ?_; refine S_val E (pk_assign rfl rfl) rfl rfl rfl ?_; clear E a; intro a E; refine hK3 _ _ ?_; refine wp_ret ?_
    repeat (first | refine then_ret ?_ | refine block_ret ?_)
    refine ret1 rfl E (resT rfl) ?_
    exact ⟨by rw [decide_eq_false hne], H.keepLR (L := []) (R := [])⟩
  · skip
    clear E; intro c14 E
    have hlen : xs.length = ys.length := by
      simp only [bne_eq_false_iff_eq] at c14
      omega
    refine S_else E rfl ?_; refine wp_skip ?_; refine hK1 _ _ ?_; refine wp_seq_k fun K4 hK4 => ?_; refine wp_seq_k fun K5 hK5 => ?_; refine S_region ?_; refine S_val E (pk_move rfl rfl) rfl rfl rfl ?_; clear E a; intro a E; refine S_val E (pk_len rfl rfl (by kernel_rfl)) rfl rfl rfl ?_; clear E a; intro a E; refine S_val E (pk_move rfl rfl) rfl rfl rfl ?_; clear E a; intro a E; refine hK5 _ _ ?_; refine wp_block ?_; refine S_loopK (γ := Nat) [1, 2, 15, 16] (fun k => [(17, .int .i64 (k : Int))]) (fun k => k ≤ xs.length ∧ ∀ (i : Nat) x y, i < k → xs[i]? = some x → ys[i]? = some y → x = y) (fun k => xs.length - k) (0) E H (by repeat (first | exact trivial | refine ⟨rfl, ?_⟩)) (⟨Nat.zero_le _, fun i x y hi => absurd hi (Nat.not_lt_zero _)⟩) ?_; clear E H; intro k a w E H hφ; replace E : Env a _ [(17, _), (1, _), (2, _), (15, _), (16, _)] := E; replace H : Sep _ _ _ _ [] [_, _] := H
    refine wp_seq_k fun K6 hK6 => ?_; refine S_region ?_; refine S_val E (pk_int rfl rfl rfl rfl) rfl rfl rfl ?_; clear E a; intro a E; refine hK6 _ _ ?_; refine wp_seq_k fun K7 hK7 => ?_; refine env_split (d := 18) E rfl ?_ ?_
    · skip
      clear E; intro c18 E
      have hk : k < xs.length := by simpa using c18
      have hx0 : xs[k]? = some xs[k] := List.getElem?_eq_getElem hk
      have hy0 : ys[k]? = some (ys[k]'(by omega)) := List.getElem?_eq_getElem (by omega)
      refine S_then E rfl ?_; refine wp_skip ?_; refine hK7 _ _ ?_; refine wp_seq_k fun K8 hK8 => ?_; refine wp_block ?_; refine wp_seq_k fun K9 hK9 => ?_; refine S_region ?_; refine S_val E (pk_move rfl rfl) rfl rfl rfl ?_; clear E a; intro a E
      obtain ⟨ad20, hA20, hc20, hn20⟩ := LiF.get (A := A) (T := TextT) (i := k) (x := xs[k]) (by exact H.fact 0 rfl) hx0
      refine S_val E (pk_elA (sz := 1) hA20 rfl (by kernel_rfl) rfl rfl rfl (by omega)) rfl rfl rfl ?_; clear E a; intro a E
      replace H := (H.know hn20).know hc20
      clear hn20 hc20; replace H : Sep _ _ _ _ _ [_, _, _, _] := H; refine S_val E (pk_loadE1 (H.fact 0 rfl) (fun _ _ _ => trivial) rfl rfl rfl (by kernel_rfl)) rfl rfl rfl ?_; clear E a; intro a E; refine S_val E (pk_assign rfl rfl) rfl rfl rfl ?_; clear E a; intro a E; refine S_val E (pk_assign rfl rfl) rfl rfl rfl ?_; clear E a; intro a E; refine hK9 _ _ ?_; refine wp_seq_k fun K10 hK10 => ?_; refine S_region ?_; refine S_val E (pk_move rfl rfl) rfl rfl rfl ?_; clear E a; intro a E; refine S_val E (pk_move rfl rfl) rfl rfl rfl ?_; clear E a; intro a E
      obtain ⟨ad24, hA24, hc24, hn24⟩ := LiF.get (A := B) (T := TextT) (i := k) (x := ys[k]'(by omega)) (by exact H.fact 3 rfl) hy0
      refine S_val E (pk_elA (sz := 1) hA24 rfl (by kernel_rfl) rfl rfl rfl (by omega)) rfl rfl rfl ?_; clear E a; intro a E
      replace H := (H.know hn24).know hc24
      clear hn24 hc24; replace H : Sep _ _ _ _ _ [_, _, _, _, _, _] := H; refine S_val E (pk_loadE1 (H.fact 0 rfl) (fun _ _ _ => trivial) rfl rfl rfl (by kernel_rfl)) rfl rfl rfl ?_; clear E a; intro a E; refine S_val E (pk_assign rfl rfl) rfl rfl rfl ?_; clear E a; intro a E; refine hK10 _ _ ?_; refine wp_seq_k fun K11 hK11 => ?_; refine S_region ?_; refine S_val E (pk_move rfl rfl) rfl rfl rfl ?_; clear E a; intro a E; refine S_val E (pk_move rfl rfl) rfl rfl rfl ?_; clear E a; intro a E; refine S_val E (pk_move rfl rfl) rfl rfl rfl ?_; clear E a; intro a E; refine S_eff E rfl (fun K hK => ?_); refine eff_call E rfl rfl rfl hf ?_; refine (hp _ _ _ _ _ _ H.xk (H.fact 3 rfl) (H.fact 1 rfl)).mono ?_; rintro e w ⟨rfl, H1⟩
      replace H := H.call H1
      clear H1; replace H : Sep _ _ _ _ [] [_, _, _, _, _, _] := H; refine hK _ _ ?_; clear hK K; refine S_put E rfl rfl ?_; clear E a; intro a E; refine S_val E (pk_not rfl rfl) rfl rfl rfl ?_; clear E a; intro a E; refine hK11 _ _ ?_; refine env_split (d := 30) E rfl ?_ ?_
      · skip
        clear E; intro c30 E
        have hd : xs[k] ≠ ys[k]'(by omega) := by simpa using c30
        refine S_then E rfl ?_; refine wp_seq_k fun K12 hK12 => ?_; refine S_region ?_; refine S_val E (pk_assign rfl rfl) rfl rfl rfl ?_; clear E a; intro a E; refine hK12 _ _ ?_; refine wp_ret ?_
        repeat (first | refine then_ret ?_ | refine block_ret ?_)
        refine ret1 rfl E (resT rfl) ?_
        exact ⟨by rw [decide_eq_false fun h : xs = ys => hd (by subst h; rfl)], H.keepLR (L := []) (R := [])⟩
      · skip
        clear E; intro c30 E
        have hd : xs[k] = ys[k]'(by omega) := by simpa using c30
        refine S_else E rfl ?_; refine wp_skip ?_; refine hK8 _ _ ?_; refine S_region ?_; refine S_val E (pk_intw rfl rfl rfl rfl (wI64 (by omega) (by omega))) rfl rfl rfl ?_; clear E a; intro a E; refine S_val E (pk_move rfl rfl) rfl rfl rfl ?_; clear E a; intro a E; refine loop_end ?_
        exact ⟨k + 1, ⟨E.to (by repeat (first | exact trivial | refine ⟨rfl, ?_⟩)), H.pop.pop.pop.pop, ⟨by omega, fun i x y hi hx hy => by rcases Nat.lt_succ_iff_lt_or_eq.1 hi with h | h; exact hφ.2 i x y h hx hy; subst h; rw [hx0] at hx; rw [hy0] at hy; obtain rfl := Option.some.inj hx; obtain rfl := Option.some.inj hy; exact hd⟩⟩, by omega⟩
    · skip
      clear E; intro c18 E
      have hk : ¬ k < xs.length := by simpa using c18
      refine S_else E rfl ?_; refine wp_exit ?_
      repeat (first | refine then_exit ?_ | refine block_hit ?_ | refine block_miss (by decide) ?_)
      refine hK4 _ _ ?_; refine wp_seq_k fun K13 hK13 => ?_; refine S_region ?_; refine S_val E (pk_assign rfl rfl) rfl rfl rfl ?_; clear E a; intro a E; refine hK13 _ _ ?_; refine wp_ret ?_
      repeat (first | refine then_ret ?_ | refine block_ret ?_)
      refine ret1 rfl E (resT rfl) ?_
      exact ⟨by rw [decide_eq_true (list_same hlen fun i x y hx hy => hφ.2 i x y (by have := (List.getElem?_eq_some_iff.1 hx).1; omega) hx hy)], H.keepLR (L := []) (R := [])⟩
set_option maxRecDepth 100000 in
set_option maxHeartbeats 4000000 in
theorem EqLtrs_any {A B : Option Addr} {c d : Nat} {xs ys : List Ltr} {m m2 : Nat → LtrT.μ} {f : FuncId} (hf : fnB Try.prog f = true)
    (hp : ∀ (x y : Ltr) (mx my : LtrT.μ) (X : List Nat) (w0 : World), (∀ k ∈ X, k < w0.heap.size) → St (LtrT.nest x mx) w0 X → St (LtrT.nest y my) w0 X → Calls Try.prog f (#[] ++ [.agg (ca [.one (.int .i64 x.no), .one (.int .i64 x.rc), .one (.slice mx.1 x.text.length mx.2)]), .agg (ca [.one (.int .i64 y.no), .one (.int .i64 y.rc), .one (.slice my.1 y.text.length my.2)])].toArray ++ #[]) w0 fun e w' => e = .returned (.bool (decide (x = y))) ∧ Sep X [] w0 w' [] []) {X : List Nat} {w0 : World} (hX : ∀ k ∈ X, k < w0.heap.size) (hL : St (LiF LtrT A c xs m) w0 X) (hM : St (LiF LtrT B d ys m2) w0 X) :
    Calls Try.prog 61 #[.slice A xs.length c, .slice B ys.length d, .func (.func f) #[] #[]] w0 fun e w' => e = .returned (.bool (decide (xs = ys))) ∧ Sep X [] w0 w' [] [] := by
  have hLb := hL.now.big
  have hMb := hM.now.big
  refine calls_env Try.ntmps61 Try.func61 rfl rfl fun a E => ?_; replace E : Env a _ [(0, _), (1, _), (2, _)] := E
  have H : Sep X [] w0 w0 [] [(LiF LtrT A c xs m), (LiF LtrT B d ys m2)] := Sep.start hX (List.forall_mem_cons.2 ⟨hL, List.forall_mem_cons.2 ⟨hM, fun _ h => by cases h⟩⟩)
  refine wp_seq_k fun K0 hK0 => ?_; refine S_region ?_; refine S_val E (pk_assign rfl rfl) rfl rfl rfl ?_; clear E a; intro a E; refine hK0 _ _ ?_; refine wp_seq_k fun K1 hK1 => ?_; refine wp_seq_k fun K2 hK2 => ?_; refine S_region ?_; refine S_val E (pk_move rfl rfl) rfl rfl rfl ?_; clear E a; intro a E; refine S_val E (pk_len rfl rfl (by kernel_rfl)) rfl rfl rfl ?_; clear E a; intro a E; refine S_val E (pk_move rfl rfl) rfl rfl rfl ?_; clear E a; intro a E; refine S_val E (pk_len rfl rfl (by kernel_rfl)) rfl rfl rfl ?_; clear E a; intro a E; refine S_val E (pk_int rfl rfl rfl rfl) rfl rfl rfl ?_; clear E a; intro a E; refine hK2 _ _ ?_; refine env_split (d := 14) E rfl ?_ ?_
  · skip
    clear E; intro c14 E
    have hne : xs ≠ ys := fun h => by
      have := congrArg List.length h
      simp only [bne_iff_ne, ne_eq] at c14
      omega
    refine S_then E rfl ?_; refine wp_seq_k fun K3 hK3 => ?_; refine S_region ?_; refine S_val E (pk_assign rfl rfl) rfl rfl rfl ?_; clear E a; intro a E; refine hK3 _ _ ?_; refine wp_ret ?_
    repeat (first | refine then_ret ?_ | refine block_ret ?_)
    refine ret1 rfl E (resT rfl) ?_
    exact ⟨by rw [decide_eq_false hne], H.keepLR (L := []) (R := [])⟩
  · skip
    clear E; intro c14 E
    have hlen : xs.length = ys.length := by
      simp only [bne_eq_false_iff_eq] at c14
      omega
    refine S_else E rfl ?_; refine wp_skip ?_; refine hK1 _ _ ?_; refine wp_seq_k fun K4 hK4 => ?_; refine wp_seq_k fun K5 hK5 => ?_; refine S_region ?_; refine S_val E (pk_move rfl rfl) rfl rfl rfl ?_; clear E a; intro a E; refine S_val E (pk_len rfl rfl (by kernel_rfl)) rfl rfl rfl ?_; clear E a; intro a E; refine S_val E (pk_move rfl rfl) rfl rfl rfl ?_; clear E a; intro a E; refine hK5 _ _ ?_; refine wp_block ?_; refine S_loopK (γ := Nat) [1, 2, 15, 16] (fun k => [(17, .int .i64 (k : Int))]) (fun k => k ≤ xs.length ∧ ∀ (i : Nat) x y, i < k → xs[i]? = some x → ys[i]? = some y → x = y) (fun k => xs.length - k) (0) E H (by repeat (first | exact trivial | refine ⟨rfl, ?_⟩)) (⟨Nat.zero_le _, fun i x y hi => absurd hi (Nat.not_lt_zero _)⟩) ?_; clear E H; intro k a w E H hφ; replace E : Env a _ [(17, _), (1, _), (2, _), (15, _), (16, _)] := E; replace H : Sep _ _ _ _ [] [_, _] := H
    refine wp_seq_k fun K6 hK6 => ?_; refine S_region ?_; refine S_val E (pk_int rfl rfl rfl rfl) rfl rfl rfl ?_; clear E a; intro a E; refine hK6 _ _ ?_; refine wp_seq_k fun K7 hK7 => ?_; refine env_split (d := 18) E rfl ?_ ?_
    · skip
      clear E; intro c18 E
      have hk : k < xs.length := by simpa using c18
      have hx0 : xs[k]? = some xs[k] := List.getElem?_eq_getElem hk
      have hy0 : ys[k]? = some (ys[k]'(by omega)) := List.getElem?_eq_getElem (by omega)
      refine S_then E rfl ?_; refine wp_skip ?_; refine hK7 _ _ ?_; refine wp_seq_k fun K8 hK8 => ?_; refine wp_block ?_; refine wp_seq_k fun K9 hK9 => ?_; refine S_region ?_; refine S_val E (pk_move rfl rfl) rfl rfl rfl ?_; clear E a; intro a E
      obtain ⟨ad20, hA20, hc20, hn20⟩ := LiF.get (A := A) (T := LtrT) (i := k) (x := xs[k]) (by exact H.fact 0 rfl) hx0
      refine S_val E (pk_elA (sz := 3) hA20 rfl (by kernel_rfl) rfl rfl rfl (by omega)) rfl rfl rfl ?_; clear E a; intro a E
      replace H := (H.know hn20).know hc20
      clear hn20 hc20; replace H : Sep _ _ _ _ _ [_, _, _, _] := H; refine S_val E (pk_loadE (n := 3) (H.fact 0 rfl) (fun _ _ _ => trivial) rfl rfl rfl (by kernel_rfl)) rfl rfl rfl ?_; clear E a; intro a E; refine S_eff E rfl (fun K hK => ?_); refine eff_alloc (z := [.one (.int .i64 0), .one (.int .i64 0), .one (.slice none 0 0)]) H rfl (by kernel_rfl) ?_; clear H; intro b8 w H _; refine hK _ _ ?_; clear hK K; refine S_put E rfl rfl ?_; clear E a; intro a E; refine S_val E (pk_assign rfl rfl) rfl rfl rfl ?_; clear E a; intro a E; refine S_eff E rfl (fun K hK => ?_); refine eff_store 0 E H rfl rfl rfl rfl rfl (by repeat (first | exact trivial | refine ⟨rfl, ?_⟩ | refine ⟨fun _ _ => rfl, ?_⟩)) rfl (by kernel_rfl) rfl ?_; clear H; intro w H _; replace H : Sep _ _ _ _ [_] _ := H; refine hK _ _ ?_; clear hK K; refine S_put0 rfl ?_; refine hK9 _ _ ?_; refine wp_seq_k fun K10 hK10 => ?_
      refine S_region ?_; refine S_val E (pk_move rfl rfl) rfl rfl rfl ?_; clear E a; intro a E; refine S_val E (pk_move rfl rfl) rfl rfl rfl ?_; clear E a; intro a E
      obtain ⟨ad24, hA24, hc24, hn24⟩ := LiF.get (A := B) (T := LtrT) (i := k) (x := ys[k]'(by omega)) (by exact H.fact 3 rfl) hy0
      refine S_val E (pk_elA (sz := 3) hA24 rfl (by kernel_rfl) rfl rfl rfl (by omega)) rfl rfl rfl ?_; clear E a; intro a E
      replace H := (H.know hn24).know hc24
      clear hn24 hc24; replace H : Sep _ _ _ _ _ [_, _, _, _, _, _] := H; refine S_val E (pk_loadE (n := 3) (H.fact 0 rfl) (fun _ _ _ => trivial) rfl rfl rfl (by kernel_rfl)) rfl rfl rfl ?_; clear E a; intro a E; refine S_eff E rfl (fun K hK => ?_); refine eff_alloc (z := [.one (.int .i64 0), .one (.int .i64 0), .one (.slice none 0 0)]) H rfl (by kernel_rfl) ?_; clear H; intro b9 w H _; refine hK _ _ ?_; clear hK K; refine S_put E rfl rfl ?_; clear E a; intro a E; refine S_eff E rfl (fun K hK => ?_); refine eff_store 0 E H rfl rfl rfl rfl rfl (by repeat (first | exact trivial | refine ⟨rfl, ?_⟩ | refine ⟨fun _ _ => rfl, ?_⟩)) rfl (by kernel_rfl) rfl ?_; clear H; intro w H _; replace H : Sep _ _ _ _ [_, _] _ := H; refine hK _ _ ?_; clear hK K; refine S_put0 rfl ?_; refine hK10 _ _ ?_; refine wp_seq_k fun K11 hK11 => ?_; refine S_region ?_; refine S_val E (pk_move rfl rfl) rfl rfl rfl ?_
      clear E a; intro a E; refine S_val E (pk_load (n := 3) H 1 rfl rfl rfl trivial rfl (by kernel_rfl)) rfl rfl rfl ?_; clear E a; intro a E; refine S_val E (pk_load (n := 3) H 0 rfl rfl rfl trivial rfl (by kernel_rfl)) rfl rfl rfl ?_; clear E a; intro a E; refine S_eff E rfl (fun K hK => ?_); refine eff_call E rfl rfl rfl hf ?_; refine (hp _ _ _ _ _ _ H.xk (H.fact 3 rfl) (H.fact 1 rfl)).mono ?_; rintro e w ⟨rfl, H1⟩
      replace H := H.call H1
      clear H1; replace H : Sep _ _ _ _ [_, _] [_, _, _, _, _, _] := H; refine hK _ _ ?_; clear hK K; refine S_put E rfl rfl ?_; clear E a; intro a E; refine S_val E (pk_not rfl rfl) rfl rfl rfl ?_; clear E a; intro a E; refine hK11 _ _ ?_; refine env_split (d := 30) E rfl ?_ ?_
      · skip
        clear E; intro c30 E
        have hd : xs[k] ≠ ys[k]'(by omega) := by simpa using c30
        refine S_then E rfl ?_; refine wp_seq_k fun K12 hK12 => ?_; refine S_region ?_; refine S_val E (pk_assign rfl rfl) rfl rfl rfl ?_; clear E a; intro a E; refine hK12 _ _ ?_; refine wp_ret ?_
        repeat (first | refine then_ret ?_ | refine block_ret ?_)
        refine ret1 rfl E (resT rfl) ?_
        exact ⟨by rw [decide_eq_false fun h : xs = ys => hd (by subst h; rfl)], H.keepLR (L := []) (R := [])⟩
      · skip
        clear E; intro c30 E
        have hd : xs[k] = ys[k]'(by omega) := by simpa using c30
        refine S_else E rfl ?_; refine wp_skip ?_; refine hK8 _ _ ?_; refine S_region ?_; refine S_val E (pk_intw rfl rfl rfl rfl (wI64 (by omega) (by omega))) rfl rfl rfl ?_; clear E a; intro a E; refine S_val E (pk_move rfl rfl) rfl rfl rfl ?_; clear E a; intro a E; refine loop_end ?_
        exact ⟨k + 1, ⟨E.to (by repeat (first | exact trivial | refine ⟨rfl, ?_⟩)), H.popL.popL.pop.pop.pop.pop, ⟨by omega, fun i x y hi hx hy => by rcases Nat.lt_succ_iff_lt_or_eq.1 hi with h | h; exact hφ.2 i x y h hx hy; subst h; rw [hx0] at hx; rw [hy0] at hy; obtain rfl := Option.some.inj hx; obtain rfl := Option.some.inj hy; exact hd⟩⟩, by omega⟩
    · skip
      clear E; intro c18 E
      have hk : ¬ k < xs.length := by simpa using c18
      refine S_else E rfl ?_; refine wp_exit ?_
      repeat (first | refine then_exit ?_ | refine block_hit ?_ | refine block_miss (by decide) ?_)
      refine hK4 _ _ ?_; refine wp_seq_k fun K13 hK13 => ?_; refine S_region ?_; refine S_val E (pk_assign rfl rfl) rfl rfl rfl ?_; clear E a; intro a E; refine hK13 _ _ ?_; refine wp_ret ?_
      repeat (first | refine then_ret ?_ | refine block_ret ?_)
      refine ret1 rfl E (resT rfl) ?_
      exact ⟨by rw [decide_eq_true (list_same hlen fun i x y hx hy => hφ.2 i x y (by have := (List.getElem?_eq_some_iff.1 hx).1; omega) hx hy)], H.keepLR (L := []) (R := [])⟩
set_option maxRecDepth 100000 in
set_option maxHeartbeats 4000000 in
theorem Same_any {ep nx : Int} {LA WA : Option Addr} {lc wc : Nat} {log : List (List Nat)} {wait : List Ltr} {lm : Nat → TextT.μ} {wm : Nat → LtrT.μ} {ep2 nx2 : Int} {LA2 WA2 : Option Addr} {lc2 wc2 : Nat} {log2 : List (List Nat)} {wait2 : List Ltr} {lm2 : Nat → TextT.μ} {wm2 : Nat → LtrT.μ} {X : List Nat} {w0 : World} (hX : ∀ k ∈ X, k < w0.heap.size) (hL : St (LiF TextT LA lc log lm) w0 X) (hW : St (LiF LtrT WA wc wait wm) w0 X) (hL2 : St (LiF TextT LA2 lc2 log2 lm2) w0 X) (hW2 : St (LiF LtrT WA2 wc2 wait2 wm2) w0 X) :
    Calls Try.prog 22 #[.agg (ca [.one (.int .u64 ep), .one (.slice LA log.length lc), .one (.slice WA wait.length wc), .one (.int .i64 nx)]), .agg (ca [.one (.int .u64 ep2), .one (.slice LA2 log2.length lc2), .one (.slice WA2 wait2.length wc2), .one (.int .i64 nx2)])] w0 fun e w' => e = .returned (.bool (sameB ⟨ep, log, wait, nx⟩ ⟨ep2, log2, wait2, nx2⟩)) ∧ Sep X [] w0 w' [] [] := by
  refine calls_env Try.ntmps22 Try.func22 rfl rfl fun a E => ?_; replace E : Env a _ [(0, _), (1, _)] := E
  have H : Sep X [] w0 w0 [] [(LiF TextT LA lc log lm), (LiF LtrT WA wc wait wm), (LiF TextT LA2 lc2 log2 lm2), (LiF LtrT WA2 wc2 wait2 wm2)] := Sep.start hX (List.forall_mem_cons.2 ⟨hL, List.forall_mem_cons.2 ⟨hW, List.forall_mem_cons.2 ⟨hL2, List.forall_mem_cons.2 ⟨hW2, fun _ h => by cases h⟩⟩⟩⟩)
  refine wp_seq_k fun K0 hK0 => ?_; refine S_region ?_; refine S_eff E rfl (fun K hK => ?_); refine eff_box E H rfl rfl rfl ?_; clear H; intro b2 w H _; refine hK _ _ ?_; clear hK K; refine S_put E rfl rfl ?_; clear E a; intro a E; refine S_eff E rfl (fun K hK => ?_); refine eff_box E H rfl rfl rfl ?_; clear H; intro b3 w H _; refine hK _ _ ?_; clear hK K; refine S_put E rfl rfl ?_; clear E a; intro a E; refine S_val E (pk_assign rfl rfl) rfl rfl rfl ?_; clear E a; intro a E; refine hK0 _ _ ?_; refine wp_seq_k fun K1 hK1 => ?_; refine S_region ?_; refine S_val E (pk_fieldAddr (off := 0) rfl rfl (by kernel_rfl)) rfl rfl rfl ?_; clear E a; intro a E; refine S_val E (pk_load1 H 1 rfl rfl rfl trivial rfl (by kernel_rfl)) rfl rfl rfl ?_; clear E a; intro a E; refine S_val E (pk_fieldAddr (off := 0) rfl rfl (by kernel_rfl)) rfl rfl rfl ?_; clear E a; intro a E
  refine S_val E (pk_load1 H 0 rfl rfl rfl trivial rfl (by kernel_rfl)) rfl rfl rfl ?_; clear E a; intro a E; refine S_val E (pk_int rfl rfl rfl rfl) rfl rfl rfl ?_; clear E a; intro a E; refine S_val E (pk_move rfl rfl) rfl rfl rfl ?_; clear E a; intro a E; refine env_split (d := 10) E rfl ?_ ?_
  · skip
    clear E; intro c10 E; refine S_val E (pk_fieldAddr (off := 3) rfl rfl (by kernel_rfl)) rfl rfl rfl ?_; clear E a; intro a E; refine S_val E (pk_load1 H 1 rfl rfl rfl trivial rfl (by kernel_rfl)) rfl rfl rfl ?_; clear E a; intro a E; refine S_val E (pk_fieldAddr (off := 3) rfl rfl (by kernel_rfl)) rfl rfl rfl ?_; clear E a; intro a E; refine S_val E (pk_load1 H 0 rfl rfl rfl trivial rfl (by kernel_rfl)) rfl rfl rfl ?_; clear E a; intro a E; refine S_val E (pk_int rfl rfl rfl rfl) rfl rfl rfl ?_; clear E a; intro a E; refine S_val E (pk_pick rfl rfl rfl) rfl rfl rfl ?_; clear E a; intro a E; refine S_val E (pk_move rfl rfl) rfl rfl rfl ?_; clear E a; intro a E; refine env_split (d := 17) E rfl ?_ ?_
    · skip
      clear E; intro c17 E; refine S_val E (pk_fieldAddr (off := 1) rfl rfl (by kernel_rfl)) rfl rfl rfl ?_; clear E a; intro a E; refine S_val E (pk_load1 H 1 rfl rfl rfl trivial rfl (by kernel_rfl)) rfl rfl rfl ?_; clear E a; intro a E; refine S_val E (pk_fieldAddr (off := 1) rfl rfl (by kernel_rfl)) rfl rfl rfl ?_; clear E a; intro a E; refine S_val E (pk_load1 H 0 rfl rfl rfl trivial rfl (by kernel_rfl)) rfl rfl rfl ?_; clear E a; intro a E; refine S_eff E rfl (fun K hK => ?_); refine eff_call E rfl rfl rfl (by kernel_rfl) ?_; refine (EqTexts_any (f := 60) (by kernel_rfl) (fun x y mx my X w0 hX h1 h2 => (bytesEqual_sep hX h1 h2).mono fun e w ⟨h3, h4⟩ => ⟨h3, h4 ▸ Sep.start hX (fun _ h => by cases h)⟩) H.xk (H.fact 0 rfl) (H.fact 2 rfl)).mono ?_; rintro e w ⟨rfl, H1⟩
      replace H := H.call H1
      clear H1; replace H : Sep _ _ _ _ [_, _] [_, _, _, _] := H; refine hK _ _ ?_; clear hK K; refine S_put E rfl rfl ?_; clear E a; intro a E; refine S_val E (pk_pick rfl rfl rfl) rfl rfl rfl ?_; clear E a; intro a E; refine S_val E (pk_move rfl rfl) rfl rfl rfl ?_; clear E a; intro a E; refine env_split (d := 24) E rfl ?_ ?_
      · skip
        clear E; intro c24 E; refine S_val E (pk_fieldAddr (off := 2) rfl rfl (by kernel_rfl)) rfl rfl rfl ?_; clear E a; intro a E; refine S_val E (pk_load1 H 1 rfl rfl rfl trivial rfl (by kernel_rfl)) rfl rfl rfl ?_; clear E a; intro a E; refine S_val E (pk_fieldAddr (off := 2) rfl rfl (by kernel_rfl)) rfl rfl rfl ?_; clear E a; intro a E; refine S_val E (pk_load1 H 0 rfl rfl rfl trivial rfl (by kernel_rfl)) rfl rfl rfl ?_; clear E a; intro a E; refine S_eff E rfl (fun K hK => ?_); refine eff_call E rfl rfl rfl (by kernel_rfl) ?_; refine (EqLtrs_any (f := 62) (by kernel_rfl) (fun x y mx my X w0 hX h1 h2 => sameLetter_any hX h1 h2) H.xk (H.fact 1 rfl) (H.fact 3 rfl)).mono ?_; rintro e w ⟨rfl, H1⟩
        replace H := H.call H1
        clear H1; replace H : Sep _ _ _ _ [_, _] [_, _, _, _] := H; refine hK _ _ ?_; clear hK K; refine S_put E rfl rfl ?_; clear E a; intro a E; refine S_val E (pk_pick rfl rfl rfl) rfl rfl rfl ?_; clear E a; intro a E; refine S_val E (pk_assign rfl rfl) rfl rfl rfl ?_; clear E a; intro a E; refine hK1 _ _ ?_; refine wp_ret ?_
        repeat (first | refine then_ret ?_ | refine block_ret ?_)
        refine ret1 rfl E (resT rfl) ?_; refine ⟨?_, H.keepLR (L := []) (R := [])⟩
        unfold sameB
        simp_all
      · skip
        clear E; intro c24 E; refine S_skip E rfl rfl rfl ?_; clear E a; intro a E; refine S_skip E rfl rfl rfl ?_; clear E a; intro a E; refine S_skip E rfl rfl rfl ?_; clear E a; intro a E; refine S_skip E rfl rfl rfl ?_; clear E a; intro a E; refine S_skip E rfl rfl rfl ?_; clear E a; intro a E; refine S_val E (pk_pick rfl rfl rfl) rfl rfl rfl ?_; clear E a; intro a E; refine S_val E (pk_assign rfl rfl) rfl rfl rfl ?_; clear E a; intro a E; refine hK1 _ _ ?_; refine wp_ret ?_
        repeat (first | refine then_ret ?_ | refine block_ret ?_)
        refine ret1 rfl E (resT rfl) ?_; refine ⟨?_, H.keepLR (L := []) (R := [])⟩
        unfold sameB
        simp_all
    · skip
      clear E; intro c17 E; refine S_skip E rfl rfl rfl ?_; clear E a; intro a E; refine S_skip E rfl rfl rfl ?_; clear E a; intro a E; refine S_skip E rfl rfl rfl ?_; clear E a; intro a E; refine S_skip E rfl rfl rfl ?_; clear E a; intro a E; refine S_skip E rfl rfl rfl ?_; clear E a; intro a E; refine S_val E (pk_pick rfl rfl rfl) rfl rfl rfl ?_; clear E a; intro a E; refine S_val E (pk_move rfl rfl) rfl rfl rfl ?_; clear E a; intro a E; refine S_skip E rfl rfl rfl ?_; clear E a; intro a E; refine S_skip E rfl rfl rfl ?_; clear E a; intro a E; refine S_skip E rfl rfl rfl ?_; clear E a; intro a E; refine S_skip E rfl rfl rfl ?_; clear E a; intro a E; refine S_skip E rfl rfl rfl ?_; clear E a; intro a E; refine S_val E (pk_pick rfl rfl rfl) rfl rfl rfl ?_; clear E a; intro a E; refine S_val E (pk_assign rfl rfl) rfl rfl rfl ?_; clear E a; intro a E; refine hK1 _ _ ?_; refine wp_ret ?_
      repeat (first | refine then_ret ?_ | refine block_ret ?_)
      refine ret1 rfl E (resT rfl) ?_; refine ⟨?_, H.keepLR (L := []) (R := [])⟩
      unfold sameB
      simp_all
  · skip
    clear E; intro c10 E; refine S_skip E rfl rfl rfl ?_; clear E a; intro a E; refine S_skip E rfl rfl rfl ?_; clear E a; intro a E; refine S_skip E rfl rfl rfl ?_; clear E a; intro a E; refine S_skip E rfl rfl rfl ?_; clear E a; intro a E; refine S_skip E rfl rfl rfl ?_; clear E a; intro a E; refine S_val E (pk_pick rfl rfl rfl) rfl rfl rfl ?_; clear E a; intro a E; refine S_val E (pk_move rfl rfl) rfl rfl rfl ?_; clear E a; intro a E; refine S_skip E rfl rfl rfl ?_; clear E a; intro a E; refine S_skip E rfl rfl rfl ?_; clear E a; intro a E; refine S_skip E rfl rfl rfl ?_; clear E a; intro a E; refine S_skip E rfl rfl rfl ?_; clear E a; intro a E; refine S_skip E rfl rfl rfl ?_; clear E a; intro a E; refine S_val E (pk_pick rfl rfl rfl) rfl rfl rfl ?_; clear E a; intro a E; refine S_val E (pk_move rfl rfl) rfl rfl rfl ?_; clear E a; intro a E; refine S_skip E rfl rfl rfl ?_; clear E a
    intro a E; refine S_skip E rfl rfl rfl ?_; clear E a; intro a E; refine S_skip E rfl rfl rfl ?_; clear E a; intro a E; refine S_skip E rfl rfl rfl ?_; clear E a; intro a E; refine S_skip E rfl rfl rfl ?_; clear E a; intro a E; refine S_val E (pk_pick rfl rfl rfl) rfl rfl rfl ?_; clear E a; intro a E; refine S_val E (pk_assign rfl rfl) rfl rfl rfl ?_; clear E a; intro a E; refine hK1 _ _ ?_; refine wp_ret ?_
    repeat (first | refine then_ret ?_ | refine block_ret ?_)
    refine ret1 rfl E (resT rfl) ?_; refine ⟨?_, H.keepLR (L := []) (R := [])⟩
    unfold sameB
    simp_all
end Go.Proofs.Yteefhbpmeajbfaa
