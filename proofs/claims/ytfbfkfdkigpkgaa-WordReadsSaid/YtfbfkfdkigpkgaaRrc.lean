/- The walk of the reference's reader: a commit's parts. -/
import Derived.Test.YtfbfkfdkigpkgaaRrd
import Derived.Test.YtfbfkfdkigpkgaaCap
namespace Go.Proofs.Ytfbfkfdkigpkgaa.CanB
set_option linter.unusedSimpArgs false
set_option linter.unusedVariables false
open Go.RowKit
attribute [local irreducible] beL beK

set_option maxRecDepth 100000 in
theorem act_all (a : Act) (hd : a.defers = []) (h : a.tmps.size = 151) : ∃ x : Nat → Value, a = ⟨#[x 0, x 1, x 2, x 3, x 4, x 5, x 6, x 7, x 8, x 9, x 10, x 11, x 12, x 13, x 14, x 15, x 16, x 17, x 18, x 19, x 20, x 21, x 22, x 23, x 24, x 25, x 26, x 27, x 28, x 29, x 30, x 31, x 32, x 33, x 34, x 35, x 36, x 37, x 38, x 39, x 40, x 41, x 42, x 43, x 44, x 45, x 46, x 47, x 48, x 49, x 50, x 51, x 52, x 53, x 54, x 55, x 56, x 57, x 58, x 59, x 60, x 61, x 62, x 63, x 64, x 65, x 66, x 67, x 68, x 69, x 70, x 71, x 72, x 73, x 74, x 75, x 76, x 77, x 78, x 79, x 80, x 81, x 82, x 83, x 84, x 85, x 86, x 87, x 88, x 89, x 90, x 91, x 92, x 93, x 94, x 95, x 96, x 97, x 98, x 99, x 100, x 101, x 102, x 103, x 104, x 105, x 106, x 107, x 108, x 109, x 110, x 111, x 112, x 113, x 114, x 115, x 116, x 117, x 118, x 119, x 120, x 121, x 122, x 123, x 124, x 125, x 126, x 127, x 128, x 129, x 130, x 131, x 132, x 133, x 134, x 135, x 136, x 137, x 138, x 139, x 140, x 141, x 142, x 143, x 144, x 145, x 146, x 147, x 148, x 149, x 150], []⟩ := by
  obtain ⟨t, d⟩ := a
  dsimp only at h hd
  subst hd
  refine ⟨fun i => t.getD i undef, ?_⟩
  have e : t = ((List.range 151).map fun i => t.getD i undef).toArray := by
    refine Array.ext (by simp [h]) fun i h1 h2 => ?_
    simp [h1]
  exact congrArg (fun t => (⟨t, []⟩ : Act)) e
section
variable {P : Program} {o : Oper} {a : Act} {w : World} {K : Act → World → Prop} {Q : Exit → Act → World → Prop}
theorem oper_bslice {t e len : Nat} {parts : Array (Nat × Operand)} {c : Array Value} {l : List (Nat × Value)} (ho : o.op = .buildSlice t len parts) (hu : P.underlying t = some (.slice e)) (hl : (parts.map fun (i, x) => (i, a.eval x)).toList = l) (hb : P.builtSlice e len l = some c)
    (h : K (a.put o.dst (.slice (some ⟨w.heap.size, 0, none⟩) len len)) (w.alloc (.cells c e))) : o.wp P a w K Q := by
  subst hl
  unfold Program.builtSlice at hb
  cases hie : P.info? e with
  | none => simp [hie] at hb
  | some ie =>
    simp only [hie] at hb
    cases hz : ie.zero with
    | none => simp [hz] at hb
    | some z =>
      simp only [hz] at hb
      by_cases hc : len * ie.size > 2 ^ 24 ∨ len * ie.size = 0
      · simp [hc] at hb
      · rw [if_neg hc] at hb
        exact wp_buildSlice t e len parts ho c ie z hu hie hz (fun h' => hc (Or.inl h')) (fun h' => hc (Or.inr h')) hb h
theorem oper_append_el {t e : TypeId} {sz by_ : Nat} {s x : Operand} (ho : o.op = .call { callee := .builtin .append, args := #[s, x], argTypes := #[t, t] })
    (hT : ElT P t e sz by_) (h0 : 0 < sz) {base n b : Nat} {v : Value} {xs : List Value} {f : Nat → Value} (hs : a.eval s = v) (hx : a.eval x = .slice (some ⟨b, 0, none⟩) 1 1) (hown : w.ownsRow base e sz v n xs) (hb : w.heap[b]? = some (.cells (arrV sz f) e (0, 0))) (h1 : ∀ i, i < sz → (f i).oneCell' = true)
    (hn : n + 1 ≤ 70368744177664) (hby : (n + 1) * by_ ≤ 140737488355328) (hbase : base ≤ w.heap.size)
    (h : ∀ v' w', w'.ownsRow base e sz v' (n + 1) (xs ++ (arrV sz f).toList) → (∀ k, k < w.heap.size → v.ownBlock ≠ some k → w'.heap[k]? = w.heap[k]?) → (w'.os = w.os ∧ w'.tape = w.tape ∧ w'.output = w.output ∧ w.heap.size ≤ w'.heap.size) → K (a.put o.dst v') w') : o.wp P a w K Q := by
  obtain ⟨v', w', hrun, h2, h3, h4⟩ := run_append_el (P := P) (ty := o.type) hT h0 hown hb h1 hn hby hbase
  unfold Oper.wp execOp
  simp only [ho, resolve, invoke, builtin, Sem.run_bind, Sem.run_pure, Result.andThen_ok, List.map_toArray, List.map_cons, List.map_nil, hs, hx, hrun]
  exact h v' w' h2 (fun k hk hne => h3.block k hk (fun e => hne e.symm)) ⟨h3.os, h3.tape, h3.output, h3.size⟩
end
theorem own_no {base sz n q : Nat} {w : World} {e t : TypeId} {v : Value} {xs : List Value} {c : Array Value} {fr : Nat × Nat} (h : w.ownsRow base e sz v n xs) (hq : w.heap[q]? = some (.cells c t fr)) (hne : e ≠ t) : v.ownBlock ≠ some q := by
  intro hb
  rcases h.2 with ⟨rfl, _⟩ | ⟨b, cap, cur, rfl, _, hh, _⟩
  · cases hb
  · have : b = q := by injection hb
    subst this
    rw [hq] at hh
    injection hh with hh
    injection hh with _ ht
    exact hne ht.symm
theorem keep_at {q g : Nat} {w w' : World} (h : But g w w') (hl : q < w.heap.size) (hne : q ≠ g) : Keep (fun b => b = q) w w' := fun b hb => by subst hb; exact h.block _ hl hne
theorem upd_upd (f : Nat → Value) (i : Nat) (a b : Value) : upd (upd f i a) i b = upd f i b := by
  funext j
  unfold upd
  by_cases h : j = i
  · rw [if_pos h, if_pos h]
  · rw [if_neg h, if_neg h, if_neg h]
theorem row_as {w : World} {q : Nat} {c c' : Array Value} {t : TypeId} {fr : Nat × Nat} (h : w.heap[q]? = some (.cells c t fr)) (e : c = c') : w.heap[q]? = some (.cells c' t fr) := e ▸ h
theorem rdr_kept {B g : Nat} {s : Rs} {w w' : World} {b : Option Nat} (h : Rdr w B g s) (hk : ∀ k, k < w.heap.size → b ≠ some k → w'.heap[k]? = w.heap[k]?) (hb : ∀ k, b = some k → g < k) : Rdr w' B g s := by
  obtain ⟨A, n, c, e⟩ := h
  have hl := lt_of_block e.row
  have ho : ∀ k, k < g → w'.heap[k]? = w.heap[k]? := fun k hk' => hk k (by omega) (fun e => absurd (hb k e) (by omega))
  have hB : ∀ p : Addr, p.block < g → w'.cell? p = w.cell? p := fun p hp => by unfold World.cell?; rw [ho p.block hp]
  exact ⟨A, n, c, (hk g hl (fun e => absurd (hb g e) (by omega))).trans e.row, e.low, e.txt.keep fun p hp => hB p (Nat.lt_of_lt_of_le hp e.low), e.cap, e.len, e.byt⟩
/-- A commit whose parts lie in blocks of other types than commits. -/
def ComSt (w : World) (c : Com) : Prop := ∀ w' : World, (∀ (b : Nat) (cs : Array Value) (t : TypeId) (fr : Nat × Nat), w.heap[b]? = some (.cells cs t fr) → t ≠ 42 → w'.heap[b]? = w.heap[b]?) → ComOk w' w'.heap.size c
theorem ComSt.ok {w : World} {c : Com} (h : ComSt w c) : ComOk w w.heap.size c := h w fun _ _ _ _ _ _ => rfl
theorem ComSt.after {w w' : World} {c : Com} (h : ComSt w c) (hb : Below w.heap.size w w') : ComSt w' c := fun w2 hk => h w2 fun b cs t fr hb' ht => by
  have e := hb.block b (lt_of_block hb')
  rw [← e]
  exact hk b cs t fr (e.trans hb') ht
theorem ComSt.setRow {w : World} {c : Com} {q : Nat} {cs cs' : Array Value} {fr : Nat × Nat} (h : ComSt w c) (hq : w.heap[q]? = some (.cells cs 42 fr)) : ComOk (w.setRow q cs') (w.setRow q cs').heap.size c := h _ fun b cs2 t fr2 hb ht => setRow_other _ _ _ _ (by
  rintro rfl
  rw [hq] at hb
  injection hb with hb
  injection hb with _ e
  exact ht e.symm)
theorem built_prop : Try.prog.built 75 [] = some (arrV 34 (propV 0 0 fun _ => 0)) := by kernel_rfl
theorem built_step : Try.prog.built 71 [] = some (arrV 3 (stepV 0 0 none 0 0)) := by kernel_rfl
theorem UInt : Try.prog.underlying 3 = some (.int .i64) := Try.underlying3
theorem FTStep2 : FieldT Try.prog 71 2 := ⟨_, _, 0, Try.underlying71, rfl, by kernel_rfl⟩
theorem FTCom5 : FieldT Try.prog 42 5 := ⟨_, _, 0, Try.underlying42, rfl, by kernel_rfl⟩
theorem FTCom6 : FieldT Try.prog 42 6 := ⟨_, _, 0, Try.underlying42, rfl, by kernel_rfl⟩
theorem propRow (kd id : Nat) (k : Nat → Nat) : arrV 34 (patch (upd (upd (propV 0 0 fun _ => 0) 0 (.int .i64 (kd : Int))) 1 (.int .i64 (id : Int))) 2 32 fun i => .int .u8 ((k i : Nat) : Int)) = arrV 34 (propF ⟨kd, id, k⟩) := arrV_ext fun i hi => by
  unfold patch upd propF propV
  by_cases h0 : i = 0
  · subst h0; rfl
  · by_cases h1 : i = 1
    · subst h1; rfl
    · rw [if_pos (by omega), if_neg h0, if_neg h1]
section
variable {W w w5 : World} {v : Value} {base base' sz sz' n n' g q B : Nat} {e e' : TypeId} {v' : Value} {xs xs' : List Value}
theorem add_at {c : Array Value} {t : TypeId} {fr : Nat × Nat} (rk : W.ownsRow base e sz v n xs) (hk : ∀ k, k < W.heap.size → v.ownBlock ≠ some k → w5.heap[k]? = W.heap[k]?) (hq : W.heap[q]? = some (.cells c t fr)) (hne : e ≠ t) : w5.heap[q]? = some (.cells c t fr) :=
  (hk q (lt_of_block hq) (own_no rk hq hne)).trans hq
theorem add_row (rk : W.ownsRow base e sz v n xs) (hk : ∀ k, k < W.heap.size → v.ownBlock ≠ some k → w5.heap[k]? = W.heap[k]?) (h : W.ownsRow base' e' sz' v' n' xs') (hne : e' ≠ e) : w5.ownsRow base' e' sz' v' n' xs' := own_kept h rk hne hk
theorem add_rdr {s : Rs} (rk : W.ownsRow base e sz v n xs) (hk : ∀ k, k < W.heap.size → v.ownBlock ≠ some k → w5.heap[k]? = W.heap[k]?) (he : Rdr W B g s) (hg : g < base) : Rdr w5 B g s := rdr_kept he hk fun k hk' => Nat.lt_of_lt_of_le hg (own_lo rk k hk')
theorem add_but (rk : W.ownsRow base e sz v n xs) (hk : ∀ k, k < W.heap.size → v.ownBlock ≠ some k → w5.heap[k]? = W.heap[k]?) (hm : w5.os = W.os ∧ w5.tape = W.tape ∧ w5.output = W.output ∧ W.heap.size ≤ w5.heap.size) (hb : But g w W) (hlo : w.heap.size ≤ base) : But g w w5 :=
  hb.kept hk hm fun k hk' => Nat.le_trans hlo (own_lo rk k hk')
theorem alloc_at (W : World) (o : Obj) (k : Nat) (h : k < W.heap.size) : (W.alloc o).heap[k]? = W.heap[k]? := Below.heap_alloc _ _ _ h
theorem hm_alloc {o : Obj} (h : w5.os = (W.alloc o).os ∧ w5.tape = (W.alloc o).tape ∧ w5.output = (W.alloc o).output ∧ (W.alloc o).heap.size ≤ w5.heap.size) : w5.os = W.os ∧ w5.tape = W.tape ∧ w5.output = W.output ∧ W.heap.size ≤ w5.heap.size := by
  have b : Below W.heap.size W (W.alloc o) := (Below.refl _ _).alloc (Nat.le_refl _) _
  exact ⟨h.1.trans b.os, h.2.1.trans b.tape, h.2.2.1.trans b.output, Nat.le_trans b.size h.2.2.2⟩
end
theorem stepRow (a b : Int) (A : Option Addr) (n c : Nat) (A' : Option Addr) (n' c' : Nat) : arrV 3 (upd (stepV a b A n c) 2 (.slice A' n' c')) = arrV 3 (stepV a b A' n' c') := arrV_ext fun i hi => by
  have : i = 0 ∨ i = 1 ∨ i = 2 := by omega
  rcases this with rfl | rfl | rfl <;> rfl
theorem sendsP_snoc : ∀ (l : List PStep) (x : PStep), sendsP (l ++ [x]) = sendsP l + x.sd.length
  | [], x => by show x.sd.length + 0 = 0 + x.sd.length; omega
  | y :: l, x => by
    have := sendsP_snoc l x
    show y.sd.length + sendsP (l ++ [x]) = y.sd.length + sendsP l + x.sd.length
    omega
set_option maxRecDepth 100000 in
set_option maxHeartbeats 20000000 in
theorem rdCom {B : Nat} (g : Nat) (s1 : Rs) (w : World) (h : Rdr w B g s1) :
    Calls Try.prog 75 #[.pointer (some ⟨g, 0, none⟩)] w fun e w' => ∃ a : At, e = .returned (.agg (arrV 70 (comV (comOf (comP s1).1 a) (comP s1).1.tag))) ∧ ComSt w' (comOf (comP s1).1 a) ∧ Rdr w' B g (comP s1).2 ∧ But g w w' := by
  obtain ⟨ep, s2, E1⟩ := pair_of (numP 8 s1)
  obtain ⟨by_, s3, E2⟩ := pair_of (numP 4 s2)
  obtain ⟨pn, s4, E3⟩ := pair_of (numP 2 s3)
  obtain ⟨props, s5, E4⟩ := pair_of (itemsP propP pn s4)
  obtain ⟨pt, s6, E5⟩ := pair_of (keyP s5)
  obtain ⟨sn, s7, E6⟩ := pair_of (numP 2 s6)
  obtain ⟨steps, s8, E7⟩ := pair_of (itemsP stepP' sn s7)
  obtain ⟨new, s9, E8⟩ := pair_of (itemsP keyP steps.length s8)
  obtain ⟨boxes, s10, E9⟩ := pair_of (itemsP boxP (sendsP steps) s9)
  obtain ⟨tag, s11, E10⟩ := pair_of (keyP s10)
  rw [comP_is E1 E2 E3 E4 E5 E6 E7 E8 E9 E10]
  have hsl : steps.length ≤ sn := by
    have := items_len stepP' sn s7
    rw [E7] at this
    exact this
  have hgl := h.lt
  have hBg := h.low
  go_enter Try.func75, Try.ntmps75
  go_upto_region 2 with (first | (refine wpList_valg rfl (run_built0 rfl built_cm) ?_) | (refine wpList_newV rfl rfl rfl rfl ZVCm RTCom rfl rfl (fun _ _ => noCm_one _) ?_; intro w0 hq b0 hz0) | (refine wpList_alloc_v rfl rfl ZVCm ?_))
  have h2 := heap_alloc_new w (.cells (arrV 70 noCm) 42)
  have hb0 : Below w.heap.size w (w.alloc (.cells (arrV 70 noCm) 42)) := (Below.refl _ _).alloc (Nat.le_refl _) _
  replace h2 := keep_below b0 (lt_of_block h2) h2
  have hb : But g w w0 := But.of_below (hb0.trans (b0.mono hb0.size))
  have he : Rdr w0 B g s1 := h.after (hb0.trans (b0.mono hb0.size))
  rw [World.size_alloc] at hq
  clear hb0 b0 hz0 h
  have hqq : w.heap.size < w.heap.size + 1 := by omega
  (try simp only [Act.put, List.setIfInBounds_toArray, List.set_cons_zero, List.set_cons_succ])
  simp only [World.size_alloc]
  obtain ⟨q, hqe⟩ : ∃ q, w.heap.size + 1 = q := ⟨_, rfl⟩
  rw [hqe] at hq hqq ⊢
  go_upto_region 3 with (go_at_call 74; have lt0 := he.lt8 E1; (with_reducible refine (rdNum8 he E1).mono ?_); rintro e w2 ⟨rfl, he2, hb2⟩; have hq2 := hb2.keep hq (by omega); have h22 := hb2.keep h2 (by omega); have c2 := cell_arrV hq2 0 (by omega); have f2 := frozen_of_row w2 q 0 _ _ hq2)
  replace he := he2.setAt (q := q) (by omega) (by omega) 0 (.int .u64 (ep : Int))
  replace hb := (hb.trans hb2).setNew (q := q) (by omega) 0 (.int .u64 (ep : Int))
  replace hq := set_arrV (i := 0) hq2 (.int .u64 (ep : Int))
  replace h2 := (show (w2.setCell ⟨q, 0, none⟩ (.int .u64 (ep : Int))).heap[w.heap.size]? = _ from heap_setCell_other _ _ _ _ (show w.heap.size ≠ q by omega)).trans h22
  clear hq2 c2 f2 he2 hb2 h22
  generalize w2.setCell ⟨q, 0, none⟩ (.int .u64 (ep : Int)) = w5 at *
  clear w2
  (try simp only [Act.put, List.setIfInBounds_toArray, List.set_cons_zero, List.set_cons_succ])
  go_upto_region 4 with (go_at_call 74; have lt1 := he.lt4 E2; (with_reducible refine (rdNum4 he E2).mono ?_); rintro e w2 ⟨rfl, he2, hb2⟩; have hq2 := hb2.keep hq (by omega); have h22 := hb2.keep h2 (by omega); have c2 := cell_arrV hq2 1 (by omega); have f2 := frozen_of_row w2 q 1 _ _ hq2)
  replace he := he2.setAt (q := q) (by omega) (by omega) 1 (.int .i64 (by_ : Int))
  replace hb := (hb.trans hb2).setNew (q := q) (by omega) 1 (.int .i64 (by_ : Int))
  replace hq := set_arrV (i := 1) hq2 (.int .i64 (by_ : Int))
  replace h2 := (show (w2.setCell ⟨q, 1, none⟩ (.int .i64 (by_ : Int))).heap[w.heap.size]? = _ from heap_setCell_other _ _ _ _ (show w.heap.size ≠ q by omega)).trans h22
  clear hq2 c2 f2 he2 hb2 h22
  generalize w2.setCell ⟨q, 1, none⟩ (.int .i64 (by_ : Int)) = w6 at *
  clear w2
  (try simp only [Act.put, List.setIfInBounds_toArray, List.set_cons_zero, List.set_cons_succ])
  go_upto_region 5 with (go_at_call 74; have ltP := he.lt2 E3; (with_reducible refine (rdNum2 he E3).mono ?_); rintro e w2 ⟨rfl, he2, hb2⟩; have hq2 := hb2.keep hq (by omega); have h22 := hb2.keep h2 (by omega))
  replace he := he2
  replace hb := hb.trans hb2
  replace hq := hq2
  replace h2 := h22
  clear hq2 he2 hb2 h22
  generalize w2 = w7 at *
  (try simp only [Act.put, List.setIfInBounds_toArray, List.set_cons_zero, List.set_cons_succ])
  rename Act → World → Prop => K1
  rename ∀ (a : Act) (w : World), Code.wp Try.prog _ _ a w → K1 a w => hK1
  have KEY1 : ∀ (a' : Act) (wz : World), a'.defers = [] → a'.tmps.size = 151 → a'.tmps.getD 0 undef = .pointer (some ⟨g, 0, none⟩) → a'.tmps.getD 2 undef = .pointer (some ⟨w.heap.size, 0, none⟩) → a'.tmps.getD 3 undef = .pointer (some ⟨q, 0, none⟩) → ∀ (PA : Option Addr) (pc : Nat), Rdr wz B g s5 → wz.ownsRow w.heap.size 75 34 (.slice PA props.length pc) props.length (cellsOf 34 propF props) → wz.heap[q]? = some (.cells (arrV 70 (upd (upd (upd noCm 0 (.int .u64 (ep : Int))) 1 (.int .i64 (by_ : Int))) 2 (.slice PA props.length pc))) 42 (0, 0)) → wz.heap[w.heap.size]? = some (.cells (arrV 70 noCm) 42 (0, 0)) → But g w wz → K1 a' wz := by
    clear he hq h2 hb E1 E2 E3 E4
    intro a' wz hd hsz e0 e2 e3 PA pc he r1 hq h2 hb
    refine hK1 _ _ ?_
    clear hK1
    obtain ⟨x, rfl⟩ := act_all a' hd hsz
    replace e0 : x 0 = .pointer (some ⟨g, 0, none⟩) := e0
    replace e2 : x 2 = .pointer (some ⟨w.heap.size, 0, none⟩) := e2
    replace e3 : x 3 = .pointer (some ⟨q, 0, none⟩) := e3
    rw [e0, e2, e3]
    clear hd hsz e0 e2 e3
    go_upto_region 13 with (first | (go_at_call 94; (with_reducible refine (rdKeyE he E5).mono ?_); rintro e w2 ⟨rfl, he2, hb2⟩; have hq2 := hb2.keep hq (by omega); have h22 := hb2.keep h2 (by omega)) | (refine wpList_store_part (f' := fun i => ((pt i : Nat) : Int)) rfl rfl RTKey rfl rfl hq2 (by omega) ?_))
    replace r1 := Rdr.own hb2 he r1 (by decide)
    replace r1 := own_setRow (cs := (arrV 70 (patch (upd (upd (upd noCm 0 (.int .u64 (ep : Int))) 1 (.int .i64 (by_ : Int))) 2 (.slice PA props.length pc)) 3 32 fun i => .int .u8 ((pt i : Nat) : Int)))) r1 hq2 (by decide)
    replace he := he2.butAt (But.row1 (q := q) (arrV 70 (patch (upd (upd (upd noCm 0 (.int .u64 (ep : Int))) 1 (.int .i64 (by_ : Int))) 2 (.slice PA props.length pc)) 3 32 fun i => .int .u8 ((pt i : Nat) : Int)))) (by omega) (by omega)
    replace hb := (hb.trans hb2).newRow (q := q) (cs := arrV 70 (patch (upd (upd (upd noCm 0 (.int .u64 (ep : Int))) 1 (.int .i64 (by_ : Int))) 2 (.slice PA props.length pc)) 3 32 fun i => .int .u8 ((pt i : Nat) : Int))) (by omega)
    replace hq := row_self (c' := arrV 70 (patch (upd (upd (upd noCm 0 (.int .u64 (ep : Int))) 1 (.int .i64 (by_ : Int))) 2 (.slice PA props.length pc)) 3 32 fun i => .int .u8 ((pt i : Nat) : Int))) hq2
    replace h2 := (show (w2.setRow q (arrV 70 (patch (upd (upd (upd noCm 0 (.int .u64 (ep : Int))) 1 (.int .i64 (by_ : Int))) 2 (.slice PA props.length pc)) 3 32 fun i => .int .u8 ((pt i : Nat) : Int)))).heap[w.heap.size]? = _ from setRow_other _ _ _ _ (show w.heap.size ≠ q by omega)).trans h22
    clear hq2 he2 hb2 h22
    generalize w2.setRow q (arrV 70 (patch (upd (upd (upd noCm 0 (.int .u64 (ep : Int))) 1 (.int .i64 (by_ : Int))) 2 (.slice PA props.length pc)) 3 32 fun i => .int .u8 ((pt i : Nat) : Int))) = w9 at *
    clear w2
    (try simp only [Act.put, List.setIfInBounds_toArray, List.set_cons_zero, List.set_cons_succ])
    go_upto_region 14 with (fail)
    go_upto_region 15 with (go_at_call 74; have ltS := he.lt2 E6; (with_reducible refine (rdNum2 he E6).mono ?_); rintro e w2 ⟨rfl, he2, hb2⟩; have hq2 := hb2.keep hq (by omega); have h22 := hb2.keep h2 (by omega))
    replace r1 := Rdr.own hb2 he r1 (by decide)
    replace he := he2
    replace hb := hb.trans hb2
    replace hq := hq2
    replace h2 := h22
    clear hq2 he2 hb2 h22
    generalize w2 = wA at *
    (try simp only [Act.put, List.setIfInBounds_toArray, List.set_cons_zero, List.set_cons_succ])
    rename Act → World → Prop => K2
    rename ∀ (a : Act) (w : World), Code.wp Try.prog _ _ a w → K2 a w => hK2
    have KEY2 : ∀ (a' : Act) (wz : World), a'.defers = [] → a'.tmps.size = 151 → a'.tmps.getD 0 undef = .pointer (some ⟨g, 0, none⟩) → a'.tmps.getD 2 undef = .pointer (some ⟨w.heap.size, 0, none⟩) → a'.tmps.getD 3 undef = .pointer (some ⟨q, 0, none⟩) → a'.tmps.getD 6 undef = .int .i64 ((sendsP steps : Nat) : Int) → ∀ (SA : Option Addr) (sc : Nat) (ls : List StM), ls.map StM.p = steps → sendsP (ls.map StM.p) ≤ 4294967296 → Rdr wz B g s8 → wz.ownsRow w.heap.size 75 34 (.slice PA props.length pc) props.length (cellsOf 34 propF props) → wz.ownsRow w.heap.size 71 3 (.slice SA ls.length sc) ls.length (cellsOf 3 stepF ls) → (∀ x ∈ ls, StN wz w.heap.size x) → wz.heap[q]? = some (.cells (arrV 70 (upd (patch (upd (upd (upd noCm 0 (.int .u64 (ep : Int))) 1 (.int .i64 (by_ : Int))) 2 (.slice PA props.length pc)) 3 32 fun i => .int .u8 ((pt i : Nat) : Int)) 35 (.slice SA ls.length sc))) 42 (0, 0)) → wz.heap[w.heap.size]? = some (.cells (arrV 70 noCm) 42 (0, 0)) → But g w wz → K2 a' wz := by
      clear he r1 hq h2 hb E7
      intro a' wz hd hsz e0 e2 e3 e6 SA sc ls hls hsb he r1 r2 n2 hq h2 hb
      refine hK2 _ _ ?_
      clear hK2
      obtain ⟨x, rfl⟩ := act_all a' hd hsz
      replace e0 : x 0 = .pointer (some ⟨g, 0, none⟩) := e0
      replace e2 : x 2 = .pointer (some ⟨w.heap.size, 0, none⟩) := e2
      replace e3 : x 3 = .pointer (some ⟨q, 0, none⟩) := e3
      replace e6 : x 6 = .int .i64 ((sendsP steps : Nat) : Int) := e6
      rw [e0, e2, e3, e6]
      clear hd hsz e0 e2 e3 e6
      subst hls
      rw [List.length_map] at E8 hsl
      generalize hSD : sendsP (ls.map StM.p) = SD at *
      clear hSD
      go_upto_region 27 with (fail)
      rename Act → World → Prop => K3
      rename ∀ (a : Act) (w : World), Code.wp Try.prog _ _ a w → K3 a w => hK3
      have KEY3 : ∀ (a' : Act) (wz : World), a'.defers = [] → a'.tmps.size = 151 → a'.tmps.getD 0 undef = .pointer (some ⟨g, 0, none⟩) → a'.tmps.getD 2 undef = .pointer (some ⟨w.heap.size, 0, none⟩) → a'.tmps.getD 3 undef = .pointer (some ⟨q, 0, none⟩) → a'.tmps.getD 6 undef = .int .i64 ((SD : Nat) : Int) → ∀ (KA : Option Addr) (kc : Nat), Rdr wz B g s9 → wz.ownsRow w.heap.size 75 34 (.slice PA props.length pc) props.length (cellsOf 34 propF props) → wz.ownsRow w.heap.size 71 3 (.slice SA ls.length sc) ls.length (cellsOf 3 stepF ls) → (∀ x ∈ ls, StN wz w.heap.size x) → wz.ownsRow w.heap.size 37 32 (.slice KA new.length kc) new.length (cellsOf 32 keyF new) → wz.heap[q]? = some (.cells (arrV 70 (upd (upd (patch (upd (upd (upd noCm 0 (.int .u64 (ep : Int))) 1 (.int .i64 (by_ : Int))) 2 (.slice PA props.length pc)) 3 32 fun i => .int .u8 ((pt i : Nat) : Int)) 35 (.slice SA ls.length sc)) 36 (.slice KA new.length kc))) 42 (0, 0)) → wz.heap[w.heap.size]? = some (.cells (arrV 70 noCm) 42 (0, 0)) → But g w wz → K3 a' wz := by
        clear he r1 r2 n2 hq h2 hb E8
        intro a' wz hd hsz e0 e2 e3 e6 KA kc he r1 r2 n2 r3 hq h2 hb
        refine hK3 _ _ ?_
        clear hK3
        obtain ⟨x, rfl⟩ := act_all a' hd hsz
        replace e0 : x 0 = .pointer (some ⟨g, 0, none⟩) := e0
        replace e2 : x 2 = .pointer (some ⟨w.heap.size, 0, none⟩) := e2
        replace e3 : x 3 = .pointer (some ⟨q, 0, none⟩) := e3
        replace e6 : x 6 = .int .i64 ((SD : Nat) : Int) := e6
        rw [e0, e2, e3, e6]
        clear hd hsz e0 e2 e3 e6
        go_upto_region 30 with (fail)
        rename Act → World → Prop => K4
        rename ∀ (a : Act) (w : World), Code.wp Try.prog _ _ a w → K4 a w => hK4
        have KEY4 : ∀ (a' : Act) (wz : World), a'.defers = [] → a'.tmps.size = 151 → a'.tmps.getD 0 undef = .pointer (some ⟨g, 0, none⟩) → a'.tmps.getD 2 undef = .pointer (some ⟨w.heap.size, 0, none⟩) → a'.tmps.getD 3 undef = .pointer (some ⟨q, 0, none⟩) → ∀ (BA : Option Addr) (bc : Nat) (lb : List Pl), lb.map Pl.l = boxes → Rdr wz B g s10 → wz.ownsRow w.heap.size 75 34 (.slice PA props.length pc) props.length (cellsOf 34 propF props) → wz.ownsRow w.heap.size 71 3 (.slice SA ls.length sc) ls.length (cellsOf 3 stepF ls) → (∀ x ∈ ls, StN wz w.heap.size x) → wz.ownsRow w.heap.size 37 32 (.slice KA new.length kc) new.length (cellsOf 32 keyF new) → wz.ownsRow w.heap.size 22 1 (.slice BA lb.length bc) lb.length (cellsOf 1 plF lb) → (∀ x ∈ lb, PlN wz w.heap.size x) → wz.heap[q]? = some (.cells (arrV 70 (upd (upd (upd (patch (upd (upd (upd noCm 0 (.int .u64 (ep : Int))) 1 (.int .i64 (by_ : Int))) 2 (.slice PA props.length pc)) 3 32 fun i => .int .u8 ((pt i : Nat) : Int)) 35 (.slice SA ls.length sc)) 36 (.slice KA new.length kc)) 37 (.slice BA lb.length bc))) 42 (0, 0)) → wz.heap[w.heap.size]? = some (.cells (arrV 70 noCm) 42 (0, 0)) → But g w wz → K4 a' wz := by
          clear he r1 r2 n2 r3 hq h2 hb E9
          intro a' wz hd hsz e0 e2 e3 BA bc lb hlb he r1 r2 n2 r3 r4 n4 hq h2 hb
          refine hK4 _ _ ?_
          clear hK4
          obtain ⟨x, rfl⟩ := act_all a' hd hsz
          replace e0 : x 0 = .pointer (some ⟨g, 0, none⟩) := e0
          replace e2 : x 2 = .pointer (some ⟨w.heap.size, 0, none⟩) := e2
          replace e3 : x 3 = .pointer (some ⟨q, 0, none⟩) := e3
          rw [e0, e2, e3]
          clear hd hsz e0 e2 e3
          subst hlb
          go_upto_region 34 with (first | (go_at_call 94; (with_reducible refine (rdKeyE he E10).mono ?_); rintro e w2 ⟨rfl, he2, hb2⟩; have hq2 := hb2.keep hq (by omega); have h22 := hb2.keep h2 (by omega)) | (refine wpList_store_part (f' := fun i => ((tag i : Nat) : Int)) rfl rfl RTKey rfl rfl hq2 (by omega) ?_))
          replace r1 := Rdr.own hb2 he r1 (by decide)
          replace r1 := own_setRow (cs := (arrV 70 (patch (upd (upd (upd (patch (upd (upd (upd noCm 0 (.int .u64 (ep : Int))) 1 (.int .i64 (by_ : Int))) 2 (.slice PA props.length pc)) 3 32 fun i => .int .u8 ((pt i : Nat) : Int)) 35 (.slice SA ls.length sc)) 36 (.slice KA new.length kc)) 37 (.slice BA lb.length bc)) 38 32 fun i => .int .u8 ((tag i : Nat) : Int)))) r1 hq2 (by decide)
          replace r2 := Rdr.own hb2 he r2 (by decide)
          replace n2 := fun x hx => Rdr.own hb2 he (n2 x hx) (by decide)
          replace r2 := own_setRow (cs := (arrV 70 (patch (upd (upd (upd (patch (upd (upd (upd noCm 0 (.int .u64 (ep : Int))) 1 (.int .i64 (by_ : Int))) 2 (.slice PA props.length pc)) 3 32 fun i => .int .u8 ((pt i : Nat) : Int)) 35 (.slice SA ls.length sc)) 36 (.slice KA new.length kc)) 37 (.slice BA lb.length bc)) 38 32 fun i => .int .u8 ((tag i : Nat) : Int)))) r2 hq2 (by decide)
          replace n2 := fun x hx => own_setRow (cs := (arrV 70 (patch (upd (upd (upd (patch (upd (upd (upd noCm 0 (.int .u64 (ep : Int))) 1 (.int .i64 (by_ : Int))) 2 (.slice PA props.length pc)) 3 32 fun i => .int .u8 ((pt i : Nat) : Int)) 35 (.slice SA ls.length sc)) 36 (.slice KA new.length kc)) 37 (.slice BA lb.length bc)) 38 32 fun i => .int .u8 ((tag i : Nat) : Int)))) (n2 x hx) hq2 (by decide)
          replace r3 := Rdr.own hb2 he r3 (by decide)
          replace r3 := own_setRow (cs := (arrV 70 (patch (upd (upd (upd (patch (upd (upd (upd noCm 0 (.int .u64 (ep : Int))) 1 (.int .i64 (by_ : Int))) 2 (.slice PA props.length pc)) 3 32 fun i => .int .u8 ((pt i : Nat) : Int)) 35 (.slice SA ls.length sc)) 36 (.slice KA new.length kc)) 37 (.slice BA lb.length bc)) 38 32 fun i => .int .u8 ((tag i : Nat) : Int)))) r3 hq2 (by decide)
          replace r4 := Rdr.own hb2 he r4 (by decide)
          replace n4 := fun x hx => Rdr.own hb2 he (n4 x hx) (by decide)
          replace r4 := own_setRow (cs := (arrV 70 (patch (upd (upd (upd (patch (upd (upd (upd noCm 0 (.int .u64 (ep : Int))) 1 (.int .i64 (by_ : Int))) 2 (.slice PA props.length pc)) 3 32 fun i => .int .u8 ((pt i : Nat) : Int)) 35 (.slice SA ls.length sc)) 36 (.slice KA new.length kc)) 37 (.slice BA lb.length bc)) 38 32 fun i => .int .u8 ((tag i : Nat) : Int)))) r4 hq2 (by decide)
          replace n4 := fun x hx => own_setRow (cs := (arrV 70 (patch (upd (upd (upd (patch (upd (upd (upd noCm 0 (.int .u64 (ep : Int))) 1 (.int .i64 (by_ : Int))) 2 (.slice PA props.length pc)) 3 32 fun i => .int .u8 ((pt i : Nat) : Int)) 35 (.slice SA ls.length sc)) 36 (.slice KA new.length kc)) 37 (.slice BA lb.length bc)) 38 32 fun i => .int .u8 ((tag i : Nat) : Int)))) (n4 x hx) hq2 (by decide)
          replace he := he2.butAt (But.row1 (q := q) (arrV 70 (patch (upd (upd (upd (patch (upd (upd (upd noCm 0 (.int .u64 (ep : Int))) 1 (.int .i64 (by_ : Int))) 2 (.slice PA props.length pc)) 3 32 fun i => .int .u8 ((pt i : Nat) : Int)) 35 (.slice SA ls.length sc)) 36 (.slice KA new.length kc)) 37 (.slice BA lb.length bc)) 38 32 fun i => .int .u8 ((tag i : Nat) : Int)))) (by omega) (by omega)
          replace hb := (hb.trans hb2).newRow (q := q) (cs := arrV 70 (patch (upd (upd (upd (patch (upd (upd (upd noCm 0 (.int .u64 (ep : Int))) 1 (.int .i64 (by_ : Int))) 2 (.slice PA props.length pc)) 3 32 fun i => .int .u8 ((pt i : Nat) : Int)) 35 (.slice SA ls.length sc)) 36 (.slice KA new.length kc)) 37 (.slice BA lb.length bc)) 38 32 fun i => .int .u8 ((tag i : Nat) : Int))) (by omega)
          replace hq := row_self (c' := arrV 70 (patch (upd (upd (upd (patch (upd (upd (upd noCm 0 (.int .u64 (ep : Int))) 1 (.int .i64 (by_ : Int))) 2 (.slice PA props.length pc)) 3 32 fun i => .int .u8 ((pt i : Nat) : Int)) 35 (.slice SA ls.length sc)) 36 (.slice KA new.length kc)) 37 (.slice BA lb.length bc)) 38 32 fun i => .int .u8 ((tag i : Nat) : Int))) hq2
          replace h2 := (show (w2.setRow q (arrV 70 (patch (upd (upd (upd (patch (upd (upd (upd noCm 0 (.int .u64 (ep : Int))) 1 (.int .i64 (by_ : Int))) 2 (.slice PA props.length pc)) 3 32 fun i => .int .u8 ((pt i : Nat) : Int)) 35 (.slice SA ls.length sc)) 36 (.slice KA new.length kc)) 37 (.slice BA lb.length bc)) 38 32 fun i => .int .u8 ((tag i : Nat) : Int)))).heap[w.heap.size]? = _ from setRow_other _ _ _ _ (show w.heap.size ≠ q by omega)).trans h22
          clear hq2 he2 hb2 h22
          generalize w2.setRow q (arrV 70 (patch (upd (upd (upd (patch (upd (upd (upd noCm 0 (.int .u64 (ep : Int))) 1 (.int .i64 (by_ : Int))) 2 (.slice PA props.length pc)) 3 32 fun i => .int .u8 ((pt i : Nat) : Int)) 35 (.slice SA ls.length sc)) 36 (.slice KA new.length kc)) 37 (.slice BA lb.length bc)) 38 32 fun i => .int .u8 ((tag i : Nat) : Int))) = wv at *
          clear w2
          (try simp only [Act.put, List.setIfInBounds_toArray, List.set_cons_zero, List.set_cons_succ])
          replace hq := row_as (c' := arrV 70 (comV (comOf ⟨ep, by_, props, pt, ls.map StM.p, new, lb.map Pl.l, tag⟩ (atOf PA pc SA sc ls KA kc BA bc lb)) tag)) hq ((show _ = arrV 70 (fun j => if j = 35 then .slice SA ls.length sc else if j = 37 then .slice BA lb.length bc else comV (comOf ⟨ep, by_, props, pt, ls.map StM.p, new, lb.map Pl.l, tag⟩ (atOf PA pc SA sc ls KA kc BA bc lb)) tag j) by kernel_rfl).trans (arrV_ext fun j _ => by
            by_cases h5 : j = 35
            · rw [if_pos h5, h5]
              show _ = Value.slice SA (ls.map StM.p).length sc
              rw [List.length_map]
            · rw [if_neg h5]
              by_cases h7 : j = 37
              · rw [if_pos h7, h7]
                show _ = Value.slice BA (lb.map Pl.l).length bc
                rw [List.length_map]
              · rw [if_neg h7]))
          go_wp2_with (first | (refine wpList_load_all rfl rfl RTCom rfl hq ?_) | (refine wpList_store_v rfl rfl RTCom rfl rfl h2 (fun i _ => comV_one _ _ i) ?_))
          refine bodyPost_ret (results_v rfl rfl RTCom (row_self h2)) rfl ⟨(atOf PA pc SA sc ls KA kc BA bc lb), rfl, ?_, ?_, ?_⟩
          · exact fun w' hk => com_ok (ep := ep) (by_ := by_) (pt := pt) (tag := tag) (own_keep (own_setRow r1 h2 (by decide)) fun b c fr hb => hk b c _ fr hb (by decide)) (own_keep (own_setRow r2 h2 (by decide)) fun b c fr hb => hk b c _ fr hb (by decide)) (fun x hx => own_keep (own_setRow (n2 x hx) h2 (by decide)) fun b c fr hb => hk b c _ fr hb (by decide)) (own_keep (own_setRow r3 h2 (by decide)) fun b c fr hb => hk b c _ fr hb (by decide)) (own_keep (own_setRow r4 h2 (by decide)) fun b c fr hb => hk b c _ fr hb (by decide)) (fun x hx => own_keep (own_setRow (n4 x hx) h2 (by decide)) fun b c fr hb => hk b c _ fr hb (by decide))
          · exact he.butAt (But.row1 _) (by omega) (by omega)
          · exact hb.newRow (Nat.le_refl _)
        clear hK4
        replace KEY4 := Lib.hid KEY4
        go_loopg [6] SD (fun r x wr => ∃ (lb : List Pl) (s' : Rs) (BA : Option Addr) (bc : Nat), x = .int .i64 r ∧ r + lb.length ≤ SD ∧ itemsP boxP SD s9 = (lb.map Pl.l ++ (itemsP boxP r s').1, (itemsP boxP r s').2) ∧ Rdr wr B g s' ∧ wr.ownsRow w.heap.size 75 34 (.slice PA props.length pc) props.length (cellsOf 34 propF props) ∧ wr.ownsRow w.heap.size 71 3 (.slice SA ls.length sc) ls.length (cellsOf 3 stepF ls) ∧ (∀ x ∈ ls, StN wr w.heap.size x) ∧ wr.ownsRow w.heap.size 37 32 (.slice KA new.length kc) new.length (cellsOf 32 keyF new) ∧ wr.ownsRow w.heap.size 22 1 (.slice BA lb.length bc) lb.length (cellsOf 1 plF lb) ∧ (∀ x ∈ lb, PlN wr w.heap.size x) ∧ wr.heap[q]? = some (.cells (arrV 70 (upd (upd (upd (patch (upd (upd (upd noCm 0 (.int .u64 (ep : Int))) 1 (.int .i64 (by_ : Int))) 2 (.slice PA props.length pc)) 3 32 fun i => .int .u8 ((pt i : Nat) : Int)) 35 (.slice SA ls.length sc)) 36 (.slice KA new.length kc)) 37 (.slice BA lb.length bc))) 42 (0, 0)) ∧ wr.heap[w.heap.size]? = some (.cells (arrV 70 noCm) 42 (0, 0)) ∧ But g w wr)
        case atStart => exact ⟨[], s9, none, 0, rfl, Nat.le_refl _, rfl, he, r1, r2, n2, r3, ⟨rfl, .inl ⟨rfl, rfl⟩⟩, (fun x hx => by cases hx), row_as hq (by kernel_rfl), h2, hb⟩
        case round =>
          clear he r1 r2 n2 r3 hq h2 hb
          obtain ⟨lb, s', BA, bc, rfl, hr, hit, he, r1, r2, n2, r3, r4, n4, hq, h2, hb⟩ := hrel
          have HI := Lib.hid hit
          clear hit
          obtain ⟨A0, n0, c0, hE⟩ := he
          have c1 := hE.c1
          have he : Rdr wr B g s' := ⟨_, _, _, hE⟩
          clear hE
          have HFin := Lib.hid (show (gk = 0 ∨ s'.ov = true) → (lb.map Pl.l = boxes ∧ s' = s10) from fun hx => by
            have e := items_end HI.out hx
            rw [E9] at e
            injection e with e1 e2
            exact ⟨e1.symm, e2.symm⟩)
          by_cases h0 : gk = 0
          · subst h0
            obtain ⟨hlb, rfl⟩ := HFin.out (.inl rfl)
            clear HFin HI
            go_wp2
            exact KEY4.out _ _ rfl rfl rfl rfl rfl BA bc lb hlb he r1 r2 n2 r3 r4 n4 hq h2 hb
          · cases hov : s'.ov with
            | true =>
              rw [hov] at c1
              obtain ⟨hlb, rfl⟩ := HFin.out (.inr hov)
              clear HFin HI
              go_wp2
              exact KEY4.out _ _ rfl rfl rfl rfl rfl BA bc lb hlb he r1 r2 n2 r3 r4 n4 hq h2 hb
            | false =>
              rw [hov] at c1
              clear HFin KEY4
              obtain ⟨r, rfl⟩ : ∃ r, gk = r + 1 := ⟨gk - 1, by omega⟩
              obtain ⟨nb, u1, X1⟩ := pair_of (numP 2 s')
              obtain ⟨bl, u2, X2⟩ := pair_of (cutP nb u1)
              have EX := Lib.hid (boxP_is X1 X2)
              have ltb := he.lt2 X1
              have hqr := lt_of_block hq
              have hgr := he.lt
              go_upto_region 32 with (fail)
              have cq : wr.drew.cell? ⟨q, 37, none⟩ = some (.slice BA lb.length bc) := cell_arrV (show wr.drew.heap[q]? = _ from hq) 37 (by omega)
              have hqd : wr.drew.heap[q]? = _ := hq
              have hed := he.after (Below.refl _ _).drew
              (try simp only [Act.put, List.setIfInBounds_toArray, List.set_cons_zero, List.set_cons_succ])
              refine wp_region_can (fun b => b = q) 10 [(0, false), (1, false), (2, false), (3, false), (4, true), (5, false), (6, true), (7, true), (8, true), (9, false)] (by kernel_rfl) (by kernel_rfl) ?_
              (simp only [canOps, List.getElem?_cons_zero, List.getElem?_cons_succ, List.drop_succ_cons, List.drop_zero])
              iterate 4 (first | (refine wpCan_move rfl rfl (fun _ _ _ _ h => h) ?_; (simp only [Act.put, Act.eval, Array.getD_eq_getD_getElem?, List.getElem?_toArray, List.getElem?_cons_zero, List.getElem?_cons_succ, Option.getD_some, List.setIfInBounds_toArray, List.set_cons_zero, List.set_cons_succ])) | (refine wpCan_assign rfl rfl (fun _ _ _ _ h => h) ?_; (simp only [Act.put, Act.eval, Array.getD_eq_getD_getElem?, List.getElem?_toArray, List.getElem?_cons_zero, List.getElem?_cons_succ, Option.getD_some, List.setIfInBounds_toArray, List.set_cons_zero, List.set_cons_succ])) | (refine wpCan_nilCheck rfl rfl rfl (fun _ _ _ _ h => h) ?_; (simp only [Act.put, List.setIfInBounds_toArray, List.set_cons_zero, List.set_cons_succ])) | (refine wpCan_q rfl rfl (fun _ _ _ _ h => h) (by first | exact .bin rfl rfl rfl | exact .indexAddr rfl | exact .un rfl | exact .extract rfl | exact .index rfl | exact .field rfl | exact .slice rfl | exact .fieldT rfl FTCom6 | exact .load rfl rfl rfl hqd) (fun K hK => ?_); go_simp; (try (simp only [↓IntWalk.iteOmega]; go_simp)); (try go_bits); refine hK _ ?_; clear hK K))
              refine wpCan_e rfl (fun K hK => ?_)
              go_simp
              refine (rdNum2 hed X1).mono ?_
              rintro e w2 ⟨rfl, he2, hb2⟩
              refine hK _ _ (keep_at hb2 hqr (by omega)) ?_
              clear hK K
              (try simp only [Act.put, List.setIfInBounds_toArray, List.set_cons_zero, List.set_cons_succ])
              iterate 1 (first | (refine wpCan_move rfl rfl (fun _ _ _ _ h => h) ?_; (simp only [Act.put, Act.eval, Array.getD_eq_getD_getElem?, List.getElem?_toArray, List.getElem?_cons_zero, List.getElem?_cons_succ, Option.getD_some, List.setIfInBounds_toArray, List.set_cons_zero, List.set_cons_succ])) | (refine wpCan_assign rfl rfl (fun _ _ _ _ h => h) ?_; (simp only [Act.put, Act.eval, Array.getD_eq_getD_getElem?, List.getElem?_toArray, List.getElem?_cons_zero, List.getElem?_cons_succ, Option.getD_some, List.setIfInBounds_toArray, List.set_cons_zero, List.set_cons_succ])) | (refine wpCan_nilCheck rfl rfl rfl (fun _ _ _ _ h => h) ?_; (simp only [Act.put, List.setIfInBounds_toArray, List.set_cons_zero, List.set_cons_succ])) | (refine wpCan_q rfl rfl (fun _ _ _ _ h => h) (by first | exact .bin rfl rfl rfl | exact .indexAddr rfl | exact .un rfl | exact .extract rfl | exact .index rfl | exact .field rfl | exact .slice rfl | exact .conv rfl rfl UInt) (fun K hK => ?_); go_simp; (try (simp only [↓IntWalk.iteOmega]; go_simp)); (try go_bits); refine hK _ ?_; clear hK K))
              refine wpCan_e rfl (fun K hK => ?_)
              go_simp
              refine (rdCutE (by omega) he2 X2).mono ?_
              rintro e w3 ⟨Ab, cb, rfl, hob, he3, hb3⟩
              refine hK _ _ (keep_at hb3 (by have := hb2.size; have : wr.drew.heap.size = wr.heap.size := rfl; omega) (by omega)) ?_
              clear hK K
              (try simp only [Act.put, List.setIfInBounds_toArray, List.set_cons_zero, List.set_cons_succ])
              have hbt := hb2.trans hb3
              have hqW := hbt.keep hqd (by omega)
              have h2W := hbt.keep (show wr.drew.heap[w.heap.size]? = _ from h2) (by omega)
              have hbW := (hb.trans (But.of_below ((Below.refl wr.heap.size wr).drew))).trans hbt
              have r1W := Rdr.own hbt hed r1 (by decide)
              have r2W := Rdr.own hbt hed r2 (by decide)
              have n2W := fun x hx => Rdr.own hbt hed (n2 x hx) (by decide)
              have r3W := Rdr.own hbt hed r3 (by decide)
              have r4W := Rdr.own hbt hed r4 (by decide)
              have n4W := fun x hx => Rdr.own hbt hed (n4 x hx) (by decide)
              refine wpCan_e rfl (fun K hK => ?_)
              refine oper_bslice rfl Try.underlying40 (by simp [Act.eval, Act.put]) (BSBox ⟨bl, Ab, cb⟩) ?_
              refine hK _ _ (Keep.alloc _ _ (fun b hb => by subst hb; exact lt_of_block hqW)) ?_
              clear hK K
              (try simp only [Act.put, List.setIfInBounds_toArray, List.set_cons_zero, List.set_cons_succ])
              refine wpCan_e rfl (fun K hK => ?_)
              refine oper_append_el rfl ELBox (by omega) (by simp [Act.eval]) (by simp [Act.eval]) (World.ownsRow.alloc r4W _) (heap_alloc_new _ _) (fun i _ => rfl) (by omega) (by omega) (by have := hbW.size; simp; omega) ?_
              intro v5 w5 ho5 hk5 hm5
              have hk6 := fun k hk hne => (hk5 k (by simp; omega) hne).trans (alloc_at w3 _ k hk)
              have hm6 := hm_alloc hm5
              have hq5 := add_at r4W hk6 hqW (by decide)
              obtain ⟨A5, c5, rfl⟩ := own_slice ho5
              refine hK _ _ (fun b hb => by subst hb; exact hq5.trans ((alloc_at w3 _ _ (lt_of_block hqW)).trans hqW).symm) ?_
              clear hK K
              (try simp only [Act.put, List.setIfInBounds_toArray, List.set_cons_zero, List.set_cons_succ])
              iterate 1 (first | (refine wpCan_move rfl rfl (fun _ _ _ _ h => h) ?_; (simp only [Act.put, Act.eval, Array.getD_eq_getD_getElem?, List.getElem?_toArray, List.getElem?_cons_zero, List.getElem?_cons_succ, Option.getD_some, List.setIfInBounds_toArray, List.set_cons_zero, List.set_cons_succ])) | (refine wpCan_assign rfl rfl (fun _ _ _ _ h => h) ?_; (simp only [Act.put, Act.eval, Array.getD_eq_getD_getElem?, List.getElem?_toArray, List.getElem?_cons_zero, List.getElem?_cons_succ, Option.getD_some, List.setIfInBounds_toArray, List.set_cons_zero, List.set_cons_succ])) | (refine wpCan_nilCheck rfl rfl rfl (fun _ _ _ _ h => h) ?_; (simp only [Act.put, List.setIfInBounds_toArray, List.set_cons_zero, List.set_cons_succ])) | (refine wpCan_q rfl rfl (fun _ _ _ _ h => h) (by first | exact .bin rfl rfl rfl | exact .indexAddr rfl | exact .un rfl | exact .extract rfl | exact .index rfl | exact .field rfl | exact .slice rfl | exact .fieldT rfl FTCom6) (fun K hK => ?_); go_simp; (try (simp only [↓IntWalk.iteOmega]; go_simp)); (try go_bits); refine hK _ ?_; clear hK K))
              refine wpCan_nil ?_
              have h25 := add_at r4W hk6 h2W (by decide)
              have cq5 := cell_arrV hq5 37 (by omega)
              have fq5 := frozen_of_row w5 q 37 _ _ hq5
              clear cq hqd
              go_wp2
              go_roundg r
              case measure => omega
              case rel =>
                have hne : 22 ≠ 42 := by decide
                have n4' : ∀ x ∈ lb ++ [⟨bl, Ab, cb⟩], PlN w5 w.heap.size x := fun x hx => by
                  rcases List.mem_append.1 hx with h | h
                  · exact add_row r4W hk6 (n4W x h) (by decide)
                  · rw [List.mem_singleton.1 h]
                    exact add_row r4W hk6 (Own.mono hob (by have := hb2.size; have := hb.size; have : wr.drew.heap.size = wr.heap.size := rfl; omega)) (by decide)
                refine ⟨lb ++ [⟨bl, Ab, cb⟩], u2, A5, c5, by go_num, by simp; omega, ?_, (add_rdr r4W hk6 he3 hgl).setAt (by omega) (by omega) _ _, own_set (add_row r4W hk6 r1W (by decide)) hq5 (by decide), own_set (add_row r4W hk6 r2W (by decide)) hq5 (by decide), fun x hx => own_set (add_row r4W hk6 (n2W x hx) (by decide)) hq5 (by decide), own_set (add_row r4W hk6 r3W (by decide)) hq5 (by decide), ?_, fun x hx => own_set (n4' x hx) hq5 (by decide), ?_, (heap_setCell_other _ _ _ _ (show w.heap.size ≠ q by omega)).trans h25, (add_but r4W hk6 hm6 hbW (Nat.le_refl _)).setNew (by omega) _ _⟩
                · rw [List.map_append]
                  exact items_step HI.out hov EX.out
                · rw [List.length_append, cellsOf_snoc]
                  exact own_set ho5 hq5 (by decide)
                · rw [List.length_append]
                  exact row_as (set_arrV hq5 _) (congrArg (arrV 70) (upd_upd _ _ _ _))
      clear hK3
      replace KEY3 := Lib.hid KEY3
      go_loopg [10] ls.length (fun r x wr => ∃ (i : Nat) (lk : List (Nat → Nat)) (s' : Rs) (KA : Option Addr) (kc : Nat), x = .int .i64 i ∧ i + r = ls.length ∧ r + lk.length ≤ ls.length ∧ itemsP keyP ls.length s8 = (lk ++ (itemsP keyP r s').1, (itemsP keyP r s').2) ∧ Rdr wr B g s' ∧ wr.ownsRow w.heap.size 75 34 (.slice PA props.length pc) props.length (cellsOf 34 propF props) ∧ wr.ownsRow w.heap.size 71 3 (.slice SA ls.length sc) ls.length (cellsOf 3 stepF ls) ∧ (∀ x ∈ ls, StN wr w.heap.size x) ∧ wr.ownsRow w.heap.size 37 32 (.slice KA lk.length kc) lk.length (cellsOf 32 keyF lk) ∧ wr.heap[q]? = some (.cells (arrV 70 (upd (upd (patch (upd (upd (upd noCm 0 (.int .u64 (ep : Int))) 1 (.int .i64 (by_ : Int))) 2 (.slice PA props.length pc)) 3 32 fun i => .int .u8 ((pt i : Nat) : Int)) 35 (.slice SA ls.length sc)) 36 (.slice KA lk.length kc))) 42 (0, 0)) ∧ wr.heap[w.heap.size]? = some (.cells (arrV 70 noCm) 42 (0, 0)) ∧ But g w wr)
      case atStart => exact ⟨0, [], s8, none, 0, rfl, by omega, Nat.le_refl _, rfl, he, r1, r2, n2, ⟨rfl, .inl ⟨rfl, rfl⟩⟩, row_as hq (by kernel_rfl), h2, hb⟩
      case round =>
        clear he r1 r2 n2 hq h2 hb
        obtain ⟨i, lk, s', KA, kc, rfl, hir, hr, hit, he, r1, r2, n2, r3, hq, h2, hb⟩ := hrel
        have HI := Lib.hid hit
        clear hit
        obtain ⟨A0, n0, c0, hE⟩ := he
        have c1 := hE.c1
        have he : Rdr wr B g s' := ⟨_, _, _, hE⟩
        clear hE
        have HFin := Lib.hid (show (gk = 0 ∨ s'.ov = true) → (lk = new ∧ s' = s9) from fun hx => by
          have e := items_end HI.out hx
          rw [E8] at e
          injection e with e1 e2
          exact ⟨e1.symm, e2.symm⟩)
        have c35 : wr.cell? ⟨q, 35, none⟩ = some (.slice SA ls.length sc) := cell_arrV hq 35 (by omega)
        by_cases h0 : gk = 0
        · subst h0
          obtain ⟨rfl, rfl⟩ := HFin.out (.inl rfl)
          obtain rfl : i = ls.length := by omega
          clear HFin HI
          go_wp2
          exact KEY3.out _ _ rfl rfl rfl rfl rfl rfl KA kc he r1 r2 n2 r3 hq h2 hb
        · have hil : i < ls.length := by omega
          cases hov : s'.ov with
          | true =>
            rw [hov] at c1
            obtain ⟨rfl, rfl⟩ := HFin.out (.inr hov)
            clear HFin HI
            go_wp2
            exact KEY3.out _ _ rfl rfl rfl rfl rfl rfl KA kc he r1 r2 n2 r3 hq h2 hb
          | false =>
            rw [hov] at c1
            clear HFin KEY3
            obtain ⟨r, rfl⟩ : ∃ r, gk = r + 1 := ⟨gk - 1, by omega⟩
            obtain ⟨k, u1, X1⟩ := pair_of (keyP s')
            have EX := Lib.hid X1
            have hqr := lt_of_block hq
            have hgr := he.lt
            go_upto_region 29 with (fail)
            clear c35
            have cq : wr.drew.cell? ⟨q, 36, none⟩ = some (.slice KA lk.length kc) := cell_arrV (show wr.drew.heap[q]? = _ from hq) 36 (by omega)
            have hqd : wr.drew.heap[q]? = _ := hq
            have hed := he.after (Below.refl _ _).drew
            (try simp only [Act.put, List.setIfInBounds_toArray, List.set_cons_zero, List.set_cons_succ])
            refine wp_region_can (fun b => b = q) 7 [(0, false), (1, false), (2, false), (3, true), (4, true), (5, true), (6, false)] (by kernel_rfl) (by kernel_rfl) ?_
            (simp only [canOps, List.getElem?_cons_zero, List.getElem?_cons_succ, List.drop_succ_cons, List.drop_zero])
            iterate 3 (first | (refine wpCan_move rfl rfl (fun _ _ _ _ h => h) ?_; (simp only [Act.put, Act.eval, Array.getD_eq_getD_getElem?, List.getElem?_toArray, List.getElem?_cons_zero, List.getElem?_cons_succ, Option.getD_some, List.setIfInBounds_toArray, List.set_cons_zero, List.set_cons_succ])) | (refine wpCan_assign rfl rfl (fun _ _ _ _ h => h) ?_; (simp only [Act.put, Act.eval, Array.getD_eq_getD_getElem?, List.getElem?_toArray, List.getElem?_cons_zero, List.getElem?_cons_succ, Option.getD_some, List.setIfInBounds_toArray, List.set_cons_zero, List.set_cons_succ])) | (refine wpCan_nilCheck rfl rfl rfl (fun _ _ _ _ h => h) ?_; (simp only [Act.put, List.setIfInBounds_toArray, List.set_cons_zero, List.set_cons_succ])) | (refine wpCan_q rfl rfl (fun _ _ _ _ h => h) (by first | exact .bin rfl rfl rfl | exact .indexAddr rfl | exact .un rfl | exact .extract rfl | exact .index rfl | exact .field rfl | exact .slice rfl | exact .fieldT rfl FTCom5 | exact .load rfl rfl rfl hqd) (fun K hK => ?_); go_simp; (try (simp only [↓IntWalk.iteOmega]; go_simp)); (try go_bits); refine hK _ ?_; clear hK K))
            refine wpCan_e rfl (fun K hK => ?_)
            go_simp
            refine (rdKeyE hed X1).mono ?_
            rintro e w3 ⟨rfl, he3, hbt⟩
            refine hK _ _ (keep_at hbt hqr (by omega)) ?_
            clear hK K
            (try simp only [Act.put, List.setIfInBounds_toArray, List.set_cons_zero, List.set_cons_succ])
            have hqW := hbt.keep hqd (by omega)
            have h2W := hbt.keep (show wr.drew.heap[w.heap.size]? = _ from h2) (by omega)
            have hbW := (hb.trans (But.of_below ((Below.refl wr.heap.size wr).drew))).trans hbt
            have r1W := Rdr.own hbt hed r1 (by decide)
            have r2W := Rdr.own hbt hed r2 (by decide)
            have n2W := fun x hx => Rdr.own hbt hed (n2 x hx) (by decide)
            have r3W := Rdr.own hbt hed r3 (by decide)
            refine wpCan_e rfl (fun K hK => ?_)
            refine oper_bslice rfl Try.underlying39 (by simp [Act.eval, Act.put]) (BSKey k) ?_
            refine hK _ _ (Keep.alloc _ _ (fun b hb => by subst hb; exact lt_of_block hqW)) ?_
            clear hK K
            (try simp only [Act.put, List.setIfInBounds_toArray, List.set_cons_zero, List.set_cons_succ])
            refine wpCan_e rfl (fun K hK => ?_)
            refine oper_append_el rfl ELKey (by omega) (by simp [Act.eval]) (by simp [Act.eval]) (World.ownsRow.alloc r3W _) (heap_alloc_new _ _) (fun i _ => rfl) (by omega) (by omega) (by have := hbW.size; simp; omega) ?_
            intro v5 w5 ho5 hk5 hm5
            have hk6 := fun k hk hne => (hk5 k (by simp; omega) hne).trans (alloc_at w3 _ k hk)
            have hm6 := hm_alloc hm5
            have hq5 := add_at r3W hk6 hqW (by decide)
            obtain ⟨A5, c5, rfl⟩ := own_slice ho5
            refine hK _ _ (fun b hb => by subst hb; exact hq5.trans ((alloc_at w3 _ _ (lt_of_block hqW)).trans hqW).symm) ?_
            clear hK K
            (try simp only [Act.put, List.setIfInBounds_toArray, List.set_cons_zero, List.set_cons_succ])
            iterate 1 (first | (refine wpCan_move rfl rfl (fun _ _ _ _ h => h) ?_; (simp only [Act.put, Act.eval, Array.getD_eq_getD_getElem?, List.getElem?_toArray, List.getElem?_cons_zero, List.getElem?_cons_succ, Option.getD_some, List.setIfInBounds_toArray, List.set_cons_zero, List.set_cons_succ])) | (refine wpCan_assign rfl rfl (fun _ _ _ _ h => h) ?_; (simp only [Act.put, Act.eval, Array.getD_eq_getD_getElem?, List.getElem?_toArray, List.getElem?_cons_zero, List.getElem?_cons_succ, Option.getD_some, List.setIfInBounds_toArray, List.set_cons_zero, List.set_cons_succ])) | (refine wpCan_nilCheck rfl rfl rfl (fun _ _ _ _ h => h) ?_; (simp only [Act.put, List.setIfInBounds_toArray, List.set_cons_zero, List.set_cons_succ])) | (refine wpCan_q rfl rfl (fun _ _ _ _ h => h) (by first | exact .bin rfl rfl rfl | exact .indexAddr rfl | exact .un rfl | exact .extract rfl | exact .index rfl | exact .field rfl | exact .slice rfl | exact .fieldT rfl FTCom5) (fun K hK => ?_); go_simp; (try (simp only [↓IntWalk.iteOmega]; go_simp)); (try go_bits); refine hK _ ?_; clear hK K))
            refine wpCan_nil ?_
            have h25 := add_at r3W hk6 h2W (by decide)
            have cq5 := cell_arrV hq5 36 (by omega)
            have fq5 := frozen_of_row w5 q 36 _ _ hq5
            clear cq hqd
            go_wp2
            go_roundg r
            case measure => omega
            case rel =>
              refine ⟨i + 1, lk ++ [k], u1, A5, c5, by go_num, by omega, by simp; omega, items_step HI.out hov EX.out, (add_rdr r3W hk6 he3 hgl).setAt (by omega) (by omega) _ _, own_set (add_row r3W hk6 r1W (by decide)) hq5 (by decide), own_set (add_row r3W hk6 r2W (by decide)) hq5 (by decide), fun x hx => own_set (add_row r3W hk6 (n2W x hx) (by decide)) hq5 (by decide), ?_, ?_, (heap_setCell_other _ _ _ _ (show w.heap.size ≠ q by omega)).trans h25, (add_but r3W hk6 hm6 hbW (Nat.le_refl _)).setNew (by omega) _ _⟩
              · rw [List.length_append, cellsOf_snoc]
                exact own_set ho5 hq5 (by decide)
              · rw [List.length_append]
                exact row_as (set_arrV hq5 _) (congrArg (arrV 70) (upd_upd _ _ _ _))
    clear hK2
    replace KEY2 := Lib.hid KEY2
    go_loopg [6, 7] sn (fun r x6 x7 wr => ∃ (ls : List StM) (s' : Rs) (SA : Option Addr) (sc : Nat), x7 = .int .u64 r ∧ x6 = .int .i64 ((sendsP (ls.map StM.p) : Nat) : Int) ∧ r + ls.length ≤ sn ∧ sendsP (ls.map StM.p) ≤ 65536 * ls.length ∧ itemsP stepP' sn s7 = (ls.map StM.p ++ (itemsP stepP' r s').1, (itemsP stepP' r s').2) ∧ Rdr wr B g s' ∧ wr.ownsRow w.heap.size 75 34 (.slice PA props.length pc) props.length (cellsOf 34 propF props) ∧ wr.ownsRow w.heap.size 71 3 (.slice SA ls.length sc) ls.length (cellsOf 3 stepF ls) ∧ (∀ x ∈ ls, StN wr w.heap.size x) ∧ wr.heap[q]? = some (.cells (arrV 70 (upd (patch (upd (upd (upd noCm 0 (.int .u64 (ep : Int))) 1 (.int .i64 (by_ : Int))) 2 (.slice PA props.length pc)) 3 32 fun i => .int .u8 ((pt i : Nat) : Int)) 35 (.slice SA ls.length sc))) 42 (0, 0)) ∧ wr.heap[w.heap.size]? = some (.cells (arrV 70 noCm) 42 (0, 0)) ∧ But g w wr)
    case atStart => exact ⟨[], s7, none, 0, rfl, rfl, Nat.le_refl _, Nat.le_refl _, rfl, he, r1, ⟨rfl, .inl ⟨rfl, rfl⟩⟩, (fun x hx => by cases hx), row_as hq (by kernel_rfl), h2, hb⟩
    case round =>
      clear he r1 hq h2 hb
      obtain ⟨ls, s', SA, sc, rfl, rfl, hr, hsb, hit, he, r1, r2, n2, hq, h2, hb⟩ := hrel
      have HI := Lib.hid hit
      clear hit
      obtain ⟨A0, n0, c0, hE⟩ := he
      have c1 := hE.c1
      have he : Rdr wr B g s' := ⟨_, _, _, hE⟩
      clear hE
      have HFin := Lib.hid (show (gk = 0 ∨ s'.ov = true) → (ls.map StM.p = steps ∧ s' = s8) from fun hx => by
        have e := items_end HI.out hx
        rw [E7] at e
        injection e with e1 e2
        exact ⟨e1.symm, e2.symm⟩)
      have hrN : gk < 18446744073709551616 := by omega
      by_cases h0 : gk = 0
      · subst h0
        obtain ⟨hls, rfl⟩ := HFin.out (.inl rfl)
        clear HFin HI
        go_wp2
        exact KEY2.out _ _ rfl rfl rfl rfl rfl (by first | (rw [hls]; rfl) | rfl | (rw [← hls]; rfl)) SA sc ls hls (by omega) he r1 r2 n2 hq h2 hb
      · cases hov : s'.ov with
        | true =>
          rw [hov] at c1
          obtain ⟨hls, rfl⟩ := HFin.out (.inr hov)
          clear HFin HI
          go_wp2
          exact KEY2.out _ _ rfl rfl rfl rfl rfl (by first | (rw [hls]; rfl) | rfl | (rw [← hls]; rfl)) SA sc ls hls (by omega) he r1 r2 n2 hq h2 hb
        | false =>
          rw [hov] at c1
          clear HFin KEY2
          obtain ⟨r, rfl⟩ : ∃ r, gk = r + 1 := ⟨gk - 1, by omega⟩
          obtain ⟨wo, rfl⟩ : ∃ wo : World, wo = wr := ⟨_, rfl⟩
          obtain ⟨nd, u1, X1⟩ := pair_of (numP 2 s')
          obtain ⟨fr, u2, X2⟩ := pair_of (numP 2 u1)
          obtain ⟨nn, u3, X3⟩ := pair_of (numP 2 u2)
          obtain ⟨sd, u4, X4⟩ := pair_of (itemsP (numP 2) nn u3)
          have EX := Lib.hid (stepP_is X1 X2 X3 X4)
          have HE := Lib.hid he
          have hgr := he.lt
          have hqr := lt_of_block hq
          have h2r := lt_of_block h2
          generalize hSe : sendsP (ls.map StM.p) = Se at *
          go_upto_region 18 with (first | (refine wpList_valg rfl (run_built0 rfl built_step) ?_) | (refine wpList_newV rfl rfl rfl rfl ZVStep0 RTStep rfl rfl (fun _ _ => stepV_one _ _ _ _ _ _) ?_; intro wk hp bk hz))
          replace he := he.after bk
          have hbr : But g wo wk := But.of_below bk
          clear c1 bk hz
          (try simp only [Act.put, List.setIfInBounds_toArray, List.set_cons_zero, List.set_cons_succ])
          go_upto_region 19 with (go_at_call 74; have ltX1 := he.lt2 X1; (with_reducible refine (rdNum2 he X1).mono ?_); rintro e w2 ⟨rfl, he2, hb2⟩; have hp2 := hb2.keep hp (by omega); have c2 := cell_arrV hp2 0 (by omega); have f2 := frozen_of_row w2 wo.heap.size 0 _ _ hp2)
          replace he := he2.setAt (q := wo.heap.size) (by omega) (by omega) 0 (.int .i64 (nd : Int))
          replace hbr := (hbr.trans hb2).setNew (q := wo.heap.size) (Nat.le_refl _) 0 (.int .i64 (nd : Int))
          replace hp := set_arrV (i := 0) hp2 (.int .i64 (nd : Int))
          clear hp2 c2 f2 he2 hb2
          generalize w2.setCell ⟨wo.heap.size, 0, none⟩ (.int .i64 (nd : Int)) = wl at *
          clear w2
          (try simp only [Act.put, List.setIfInBounds_toArray, List.set_cons_zero, List.set_cons_succ])
          go_upto_region 20 with (go_at_call 74; have ltX2 := he.lt2 X2; (with_reducible refine (rdNum2 he X2).mono ?_); rintro e w2 ⟨rfl, he2, hb2⟩; have hp2 := hb2.keep hp (by omega); have c2 := cell_arrV hp2 1 (by omega); have f2 := frozen_of_row w2 wo.heap.size 1 _ _ hp2)
          replace he := he2.setAt (q := wo.heap.size) (by omega) (by omega) 1 (.int .i64 ((fr : Int) - 1))
          replace hbr := (hbr.trans hb2).setNew (q := wo.heap.size) (Nat.le_refl _) 1 (.int .i64 ((fr : Int) - 1))
          replace hp := set_arrV (i := 1) hp2 (.int .i64 ((fr : Int) - 1))
          clear hp2 c2 f2 he2 hb2
          generalize w2.setCell ⟨wo.heap.size, 1, none⟩ (.int .i64 ((fr : Int) - 1)) = wm at *
          clear w2
          (try simp only [Act.put, List.setIfInBounds_toArray, List.set_cons_zero, List.set_cons_succ])
          replace hp := row_as (c' := arrV 3 (stepV (nd : Int) ((fr : Int) - 1) none 0 0)) hp (by kernel_rfl)
          go_upto_region 21 with (go_at_call 74; have ltn := he.lt2 X3; (with_reducible refine (rdNum2 he X3).mono ?_); rintro e w2 ⟨rfl, he2, hb2⟩; have hp2 := hb2.keep hp (by omega))
          replace he := he2
          replace hbr := hbr.trans hb2
          replace hp := hp2
          clear he2 hb2 hp2
          (try simp only [Act.put, List.setIfInBounds_toArray, List.set_cons_zero, List.set_cons_succ])
          go_loopg [6, 9] nn (fun k x6 x9 wr => ∃ (d : List Nat) (s'' : Rs) (Ai : Option Addr) (ci : Nat), x9 = .int .u64 k ∧ x6 = .int .i64 ((Se + d.length : Nat) : Int) ∧ k + d.length ≤ nn ∧ itemsP (numP 2) nn u3 = (d ++ (itemsP (numP 2) k s'').1, (itemsP (numP 2) k s'').2) ∧ Rdr wr B g s'' ∧ wr.ownsRow wo.heap.size 3 1 (.slice Ai d.length ci) d.length (cellsOf 1 intF d) ∧ wr.heap[wo.heap.size]? = some (.cells (arrV 3 (stepV (nd : Int) ((fr : Int) - 1) Ai d.length ci)) 71 (0, 0)) ∧ But g wo wr)
          case atStart => exact ⟨[], u3, none, 0, rfl, rfl, Nat.le_refl _, rfl, he, ⟨rfl, .inl ⟨rfl, rfl⟩⟩, hp, hbr⟩
          case round =>
            clear he hp hbr
            obtain ⟨d, v', Ai, ci, rfl, rfl, hr2, hit2, he, ri, hp, hbr⟩ := hrel
            have HI2 := Lib.hid hit2
            clear hit2
            obtain ⟨A0, n0, c0, hE⟩ := he
            have c1 := hE.c1
            have he : Rdr wr B g v' := ⟨_, _, _, hE⟩
            clear hE
            have hkN : gk < 18446744073709551616 := by omega
            have HFin2 := Lib.hid (show (gk = 0 ∨ v'.ov = true) → (d = sd ∧ v' = u4) from fun hx => by
              have e := items_end HI2.out hx
              rw [X4] at e
              injection e with e1 e2
              exact ⟨e1.symm, e2.symm⟩)
            by_cases h02 : gk = 0
            · subst h02
              obtain ⟨rfl, rfl⟩ := HFin2.out (.inl rfl)
              clear HFin2 HI2
              have hqW := hbr.keep hq (by omega)
              have h2W := hbr.keep h2 (by omega)
              have cq : wr.cell? ⟨q, 35, none⟩ = some (.slice SA ls.length sc) := cell_arrV hqW 35 (by omega)
              have r1W := Rdr.own hbr HE.out r1 (by decide)
              have r2W := Rdr.own hbr HE.out r2 (by decide)
              have n2W := fun x hx => Rdr.own hbr HE.out (n2 x hx) (by decide)
              have hbW := hb.trans hbr
              replace hp : wr.heap[wo.heap.size]? = some (.cells (arrV 3 (stepF ⟨⟨nd, fr, d⟩, Ai, ci⟩)) 71 (0, 0)) := hp
              go_wp2_with (first | (refine wpList_load_all rfl rfl RTStep rfl hp ?_) | (refine wpList_add_el rfl rfl rfl rfl ELStep (by omega) (by simp [Act.eval, Act.put]) (BSStep ⟨⟨nd, fr, d⟩, Ai, ci⟩) rfl rfl r2W (fun i _ => stepF_one _ i) (by omega) (by omega) (by have := hbW.size; omega) ?_; intro v5 w5 ho5 hk6 hm6 hw5; obtain ⟨A5, c5, rfl⟩ := own_slice ho5; have hq5 := add_at r2W hk6 hqW (by decide); have cq5 := cell_arrV hq5 35 (by omega); have fq5 := frozen_of_row w5 q 35 _ _ hq5))
              go_roundg r
              case measure => omega
              case rel =>
                have h25 := add_at r2W hk6 h2W (by decide)
                have hsd := sendsP_snoc (ls.map StM.p) ⟨nd, fr, d⟩
                rw [hSe] at hsd
                refine ⟨ls ++ [⟨⟨nd, fr, d⟩, Ai, ci⟩], v', A5, c5, by go_num, ?_, by simp; omega, ?_, ?_, (add_rdr r2W hk6 he hgl).setAt (by omega) (by omega) _ _, own_set (add_row r2W hk6 r1W (by decide)) hq5 (by decide), ?_, ?_, ?_, (heap_setCell_other _ _ _ _ (show w.heap.size ≠ q by omega)).trans h25, (add_but r2W hk6 hm6 hbW (Nat.le_refl _)).setNew (by omega) _ _⟩
                · rw [List.map_append]
                  exact congrArg (fun z : Nat => Value.int .i64 (z : Int)) hsd.symm
                · rw [List.map_append, List.length_append]
                  show sendsP (ls.map StM.p ++ [⟨nd, fr, d⟩]) ≤ _
                  rw [hsd]
                  simp
                  omega
                · rw [List.map_append]
                  exact items_step HI.out hov EX.out
                · rw [List.length_append, cellsOf_snoc]
                  exact own_set ho5 hq5 (by decide)
                · intro x hx
                  rcases List.mem_append.1 hx with h | h
                  · exact own_set (add_row r2W hk6 (n2W x h) (by decide)) hq5 (by decide)
                  · rw [List.mem_singleton.1 h]
                    exact own_set (add_row r2W hk6 (own_mono ri (by have := hb.size; omega)) (by decide)) hq5 (by decide)
                · rw [List.length_append]
                  exact row_as (set_arrV hq5 _) (congrArg (arrV 70) (upd_upd _ _ _ _))
            · cases hov2 : v'.ov with
              | true =>
                rw [hov2] at c1
                obtain ⟨rfl, rfl⟩ := HFin2.out (.inr hov2)
                clear HFin2 HI2
                have hqW := hbr.keep hq (by omega)
                have h2W := hbr.keep h2 (by omega)
                have cq : wr.cell? ⟨q, 35, none⟩ = some (.slice SA ls.length sc) := cell_arrV hqW 35 (by omega)
                have r1W := Rdr.own hbr HE.out r1 (by decide)
                have r2W := Rdr.own hbr HE.out r2 (by decide)
                have n2W := fun x hx => Rdr.own hbr HE.out (n2 x hx) (by decide)
                have hbW := hb.trans hbr
                replace hp : wr.heap[wo.heap.size]? = some (.cells (arrV 3 (stepF ⟨⟨nd, fr, d⟩, Ai, ci⟩)) 71 (0, 0)) := hp
                go_wp2_with (first | (refine wpList_load_all rfl rfl RTStep rfl hp ?_) | (refine wpList_add_el rfl rfl rfl rfl ELStep (by omega) (by simp [Act.eval, Act.put]) (BSStep ⟨⟨nd, fr, d⟩, Ai, ci⟩) rfl rfl r2W (fun i _ => stepF_one _ i) (by omega) (by omega) (by have := hbW.size; omega) ?_; intro v5 w5 ho5 hk6 hm6 hw5; obtain ⟨A5, c5, rfl⟩ := own_slice ho5; have hq5 := add_at r2W hk6 hqW (by decide); have cq5 := cell_arrV hq5 35 (by omega); have fq5 := frozen_of_row w5 q 35 _ _ hq5))
                go_roundg r
                case measure => omega
                case rel =>
                  have h25 := add_at r2W hk6 h2W (by decide)
                  have hsd := sendsP_snoc (ls.map StM.p) ⟨nd, fr, d⟩
                  rw [hSe] at hsd
                  refine ⟨ls ++ [⟨⟨nd, fr, d⟩, Ai, ci⟩], v', A5, c5, by go_num, ?_, by simp; omega, ?_, ?_, (add_rdr r2W hk6 he hgl).setAt (by omega) (by omega) _ _, own_set (add_row r2W hk6 r1W (by decide)) hq5 (by decide), ?_, ?_, ?_, (heap_setCell_other _ _ _ _ (show w.heap.size ≠ q by omega)).trans h25, (add_but r2W hk6 hm6 hbW (Nat.le_refl _)).setNew (by omega) _ _⟩
                  · rw [List.map_append]
                    exact congrArg (fun z : Nat => Value.int .i64 (z : Int)) hsd.symm
                  · rw [List.map_append, List.length_append]
                    show sendsP (ls.map StM.p ++ [⟨nd, fr, d⟩]) ≤ _
                    rw [hsd]
                    simp
                    omega
                  · rw [List.map_append]
                    exact items_step HI.out hov EX.out
                  · rw [List.length_append, cellsOf_snoc]
                    exact own_set ho5 hq5 (by decide)
                  · intro x hx
                    rcases List.mem_append.1 hx with h | h
                    · exact own_set (add_row r2W hk6 (n2W x h) (by decide)) hq5 (by decide)
                    · rw [List.mem_singleton.1 h]
                      exact own_set (add_row r2W hk6 (own_mono ri (by have := hb.size; omega)) (by decide)) hq5 (by decide)
                  · rw [List.length_append]
                    exact row_as (set_arrV hq5 _) (congrArg (arrV 70) (upd_upd _ _ _ _))
              | false =>
                rw [hov2] at c1
                clear HFin2
                obtain ⟨r2', rfl⟩ : ∃ r2', gk = r2' + 1 := ⟨gk - 1, by omega⟩
                obtain ⟨z, v2, XZ⟩ := pair_of (numP 2 v')
                have ltz := he.lt2 XZ
                have hpl := lt_of_block hp
                go_upto_region 23 with (fail)
                have cp : wr.drew.cell? ⟨wo.heap.size, 2, none⟩ = some (.slice Ai d.length ci) := cell_arrV (show wr.drew.heap[wo.heap.size]? = _ from hp) 2 (by omega)
                have hpd : wr.drew.heap[wo.heap.size]? = _ := hp
                have hed := he.after (Below.refl _ _).drew
                (try simp only [Act.put, List.setIfInBounds_toArray, List.set_cons_zero, List.set_cons_succ])
                refine wp_region_can (fun b => b = wo.heap.size) 8 [(0, false), (1, false), (2, false), (3, true), (4, false), (5, true), (6, true), (7, false)] (by kernel_rfl) (by kernel_rfl) ?_
                (simp only [canOps, List.getElem?_cons_zero, List.getElem?_cons_succ, List.drop_succ_cons, List.drop_zero])
                iterate 3 (first | (refine wpCan_move rfl rfl (fun _ _ _ _ h => h) ?_; (simp only [Act.put, Act.eval, Array.getD_eq_getD_getElem?, List.getElem?_toArray, List.getElem?_cons_zero, List.getElem?_cons_succ, Option.getD_some, List.setIfInBounds_toArray, List.set_cons_zero, List.set_cons_succ])) | (refine wpCan_assign rfl rfl (fun _ _ _ _ h => h) ?_; (simp only [Act.put, Act.eval, Array.getD_eq_getD_getElem?, List.getElem?_toArray, List.getElem?_cons_zero, List.getElem?_cons_succ, Option.getD_some, List.setIfInBounds_toArray, List.set_cons_zero, List.set_cons_succ])) | (refine wpCan_nilCheck rfl rfl rfl (fun _ _ _ _ h => h) ?_; (simp only [Act.put, List.setIfInBounds_toArray, List.set_cons_zero, List.set_cons_succ])) | (refine wpCan_q rfl rfl (fun _ _ _ _ h => h) (by first | exact .bin rfl rfl rfl | exact .indexAddr rfl | exact .un rfl | exact .extract rfl | exact .index rfl | exact .field rfl | exact .slice rfl | exact .fieldT rfl FTStep2 | exact .load rfl rfl rfl hpd) (fun K hK => ?_); go_simp; (try (simp only [↓IntWalk.iteOmega]; go_simp)); (try go_bits); refine hK _ ?_; clear hK K))
                refine wpCan_e rfl (fun K hK => ?_)
                go_simp
                refine (rdNum2 hed XZ).mono ?_
                rintro e w3 ⟨rfl, he3, hbt⟩
                refine hK _ _ (keep_at hbt hpl (by omega)) ?_
                clear hK K
                (try simp only [Act.put, List.setIfInBounds_toArray, List.set_cons_zero, List.set_cons_succ])
                iterate 1 (first | (refine wpCan_move rfl rfl (fun _ _ _ _ h => h) ?_; (simp only [Act.put, Act.eval, Array.getD_eq_getD_getElem?, List.getElem?_toArray, List.getElem?_cons_zero, List.getElem?_cons_succ, Option.getD_some, List.setIfInBounds_toArray, List.set_cons_zero, List.set_cons_succ])) | (refine wpCan_assign rfl rfl (fun _ _ _ _ h => h) ?_; (simp only [Act.put, Act.eval, Array.getD_eq_getD_getElem?, List.getElem?_toArray, List.getElem?_cons_zero, List.getElem?_cons_succ, Option.getD_some, List.setIfInBounds_toArray, List.set_cons_zero, List.set_cons_succ])) | (refine wpCan_nilCheck rfl rfl rfl (fun _ _ _ _ h => h) ?_; (simp only [Act.put, List.setIfInBounds_toArray, List.set_cons_zero, List.set_cons_succ])) | (refine wpCan_q rfl rfl (fun _ _ _ _ h => h) (by first | exact .bin rfl rfl rfl | exact .indexAddr rfl | exact .un rfl | exact .extract rfl | exact .index rfl | exact .field rfl | exact .slice rfl | exact .conv rfl rfl UInt) (fun K hK => ?_); go_simp; (try (simp only [↓IntWalk.iteOmega]; go_simp)); (try go_bits); refine hK _ ?_; clear hK K))
                have hqW := hbt.keep hpd (by omega)
                have hbW := (hbr.trans (But.of_below ((Below.refl wr.heap.size wr).drew))).trans hbt
                have riW := Rdr.own hbt hed ri (by decide)
                refine wpCan_e rfl (fun K hK => ?_)
                refine oper_bslice rfl Try.underlying69 (by simp [Act.eval, Act.put]) (BSInt z) ?_
                refine hK _ _ (Keep.alloc _ _ (fun b hb => by subst hb; exact lt_of_block hqW)) ?_
                clear hK K
                (try simp only [Act.put, List.setIfInBounds_toArray, List.set_cons_zero, List.set_cons_succ])
                refine wpCan_e rfl (fun K hK => ?_)
                refine oper_append_el rfl ELInt (by omega) (by simp [Act.eval]) (by simp [Act.eval]) (World.ownsRow.alloc riW _) (heap_alloc_new _ _) (fun i _ => rfl) (by omega) (by omega) (by have := hbW.size; simp; omega) ?_
                intro v5 w5 ho5 hk5 hm5
                have hk6 := fun k hk hne => (hk5 k (by simp; omega) hne).trans (alloc_at w3 _ k hk)
                have hm6 := hm_alloc hm5
                have hq5 := add_at riW hk6 hqW (by decide)
                obtain ⟨A5, c5, rfl⟩ := own_slice ho5
                refine hK _ _ (fun b hb => by subst hb; exact hq5.trans ((alloc_at w3 _ _ (lt_of_block hqW)).trans hqW).symm) ?_
                clear hK K
                (try simp only [Act.put, List.setIfInBounds_toArray, List.set_cons_zero, List.set_cons_succ])
                iterate 1 (first | (refine wpCan_move rfl rfl (fun _ _ _ _ h => h) ?_; (simp only [Act.put, Act.eval, Array.getD_eq_getD_getElem?, List.getElem?_toArray, List.getElem?_cons_zero, List.getElem?_cons_succ, Option.getD_some, List.setIfInBounds_toArray, List.set_cons_zero, List.set_cons_succ])) | (refine wpCan_assign rfl rfl (fun _ _ _ _ h => h) ?_; (simp only [Act.put, Act.eval, Array.getD_eq_getD_getElem?, List.getElem?_toArray, List.getElem?_cons_zero, List.getElem?_cons_succ, Option.getD_some, List.setIfInBounds_toArray, List.set_cons_zero, List.set_cons_succ])) | (refine wpCan_nilCheck rfl rfl rfl (fun _ _ _ _ h => h) ?_; (simp only [Act.put, List.setIfInBounds_toArray, List.set_cons_zero, List.set_cons_succ])) | (refine wpCan_q rfl rfl (fun _ _ _ _ h => h) (by first | exact .bin rfl rfl rfl | exact .indexAddr rfl | exact .un rfl | exact .extract rfl | exact .index rfl | exact .field rfl | exact .slice rfl | exact .fieldT rfl FTStep2) (fun K hK => ?_); go_simp; (try (simp only [↓IntWalk.iteOmega]; go_simp)); (try go_bits); refine hK _ ?_; clear hK K))
                refine wpCan_nil ?_
                have cq5 := cell_arrV hq5 2 (by omega)
                have fq5 := frozen_of_row w5 wo.heap.size 2 _ _ hq5
                clear cp hpd
                go_wp2
                go_roundg r2'
                case measure => omega
                case rel =>
                  refine ⟨d ++ [z], v2, A5, c5, by go_num, ?_, by simp; omega, items_step HI2.out hov2 XZ, (add_rdr riW hk6 he3 hgr).setAt (by omega) (by omega) _ _, ?_, ?_, (add_but riW hk6 hm6 hbW (Nat.le_refl _)).setNew (Nat.le_refl _) _ _⟩
                  · rw [List.length_append]
                    go_num
                  · rw [List.length_append, cellsOf_snoc]
                    exact own_set ho5 hq5 (by decide)
                  · rw [List.length_append]
                    exact row_as (set_arrV hq5 _) (stepRow _ _ _ _ _ _ _ _)
  clear hK1
  replace KEY1 := Lib.hid KEY1
  go_loopg [4] pn (fun r x wr => ∃ (lp : List PProp) (s' : Rs) (PA : Option Addr) (pc : Nat), x = .int .u64 r ∧ r + lp.length ≤ pn ∧ itemsP propP pn s4 = (lp ++ (itemsP propP r s').1, (itemsP propP r s').2) ∧ Rdr wr B g s' ∧ wr.ownsRow w.heap.size 75 34 (.slice PA lp.length pc) lp.length (cellsOf 34 propF lp) ∧ wr.heap[q]? = some (.cells (arrV 70 (upd (upd (upd noCm 0 (.int .u64 (ep : Int))) 1 (.int .i64 (by_ : Int))) 2 (.slice PA lp.length pc))) 42 (0, 0)) ∧ wr.heap[w.heap.size]? = some (.cells (arrV 70 noCm) 42 (0, 0)) ∧ But g w wr)
  case atStart => exact ⟨[], s4, none, 0, rfl, Nat.le_refl _, rfl, he, ⟨rfl, .inl ⟨rfl, rfl⟩⟩, row_as hq (by kernel_rfl), h2, hb⟩
  case round =>
    clear he hq h2 hb
    obtain ⟨lp, s', PA, pc, rfl, hr, hit, he, r1, hq, h2, hb⟩ := hrel
    have HI := Lib.hid hit
    clear hit
    obtain ⟨A0, n0, c0, hE⟩ := he
    have c1 := hE.c1
    have he : Rdr wr B g s' := ⟨_, _, _, hE⟩
    clear hE
    have HFin := Lib.hid (show (gk = 0 ∨ s'.ov = true) → (lp = props ∧ s' = s5) from fun hx => by
      have e := items_end HI.out hx
      rw [E4] at e
      injection e with e1 e2
      exact ⟨e1.symm, e2.symm⟩)
    have hrN : gk < 18446744073709551616 := by omega
    by_cases h0 : gk = 0
    · subst h0
      obtain ⟨rfl, rfl⟩ := HFin.out (.inl rfl)
      clear HFin HI
      go_wp2
      exact KEY1.out _ _ rfl rfl rfl rfl rfl PA pc he r1 hq h2 hb
    · cases hov : s'.ov with
      | true =>
        rw [hov] at c1
        obtain ⟨rfl, rfl⟩ := HFin.out (.inr hov)
        clear HFin HI
        go_wp2
        exact KEY1.out _ _ rfl rfl rfl rfl rfl PA pc he r1 hq h2 hb
      | false =>
        rw [hov] at c1
        clear HFin KEY1
        obtain ⟨r, rfl⟩ : ∃ r, gk = r + 1 := ⟨gk - 1, by omega⟩
        obtain ⟨kd, u1, X1⟩ := pair_of (numP 1 s')
        obtain ⟨id, u2, X2⟩ := pair_of (numP 4 u1)
        obtain ⟨k, u3, X3⟩ := pair_of (keyP u2)
        have EX := Lib.hid (propP_is X1 X2 X3)
        have HE := Lib.hid he
        have hgr := he.lt
        have hqr := lt_of_block hq
        have h2r := lt_of_block h2
        go_upto_region 8 with (first | (refine wpList_valg rfl (run_built0 rfl built_prop) ?_) | (refine wpList_newV rfl rfl rfl rfl ZVProp0 RTProp rfl rfl (fun _ _ => propV_one _ _ _ _) ?_; intro wk hp bk hz))
        replace he := he.after bk
        have hbr : But g wr wk := But.of_below bk
        clear c1 bk hz
        (try simp only [Act.put, List.setIfInBounds_toArray, List.set_cons_zero, List.set_cons_succ])
        go_upto_region 9 with (go_at_call 74; have ltX1 := he.lt1 X1; (with_reducible refine (rdNum1 he X1).mono ?_); rintro e w2 ⟨rfl, he2, hb2⟩; have hp2 := hb2.keep hp (by omega); have c2 := cell_arrV hp2 0 (by omega); have f2 := frozen_of_row w2 wr.heap.size 0 _ _ hp2)
        replace he := he2.setAt (q := wr.heap.size) (by omega) (by omega) 0 (.int .i64 (kd : Int))
        replace hbr := (hbr.trans hb2).setNew (q := wr.heap.size) (Nat.le_refl _) 0 (.int .i64 (kd : Int))
        replace hp := set_arrV (i := 0) hp2 (.int .i64 (kd : Int))
        clear hp2 c2 f2 he2 hb2
        generalize w2.setCell ⟨wr.heap.size, 0, none⟩ (.int .i64 (kd : Int)) = wl at *
        clear w2
        (try simp only [Act.put, List.setIfInBounds_toArray, List.set_cons_zero, List.set_cons_succ])
        go_upto_region 10 with (go_at_call 74; have ltX2 := he.lt4 X2; (with_reducible refine (rdNum4 he X2).mono ?_); rintro e w2 ⟨rfl, he2, hb2⟩; have hp2 := hb2.keep hp (by omega); have c2 := cell_arrV hp2 1 (by omega); have f2 := frozen_of_row w2 wr.heap.size 1 _ _ hp2)
        replace he := he2.setAt (q := wr.heap.size) (by omega) (by omega) 1 (.int .i64 (id : Int))
        replace hbr := (hbr.trans hb2).setNew (q := wr.heap.size) (Nat.le_refl _) 1 (.int .i64 (id : Int))
        replace hp := set_arrV (i := 1) hp2 (.int .i64 (id : Int))
        clear hp2 c2 f2 he2 hb2
        generalize w2.setCell ⟨wr.heap.size, 1, none⟩ (.int .i64 (id : Int)) = wm at *
        clear w2
        (try simp only [Act.put, List.setIfInBounds_toArray, List.set_cons_zero, List.set_cons_succ])
        go_upto_region 11 with (first | (go_at_call 94; (with_reducible refine (rdKeyE he X3).mono ?_); rintro e w2 ⟨rfl, he2, hb2⟩; have hp2 := hb2.keep hp (by omega)) | (refine wpList_store_part (f' := fun i => ((k i : Nat) : Int)) rfl rfl RTKey rfl rfl hp2 (by omega) ?_))
        rw [propRow]
        have hp5 := row_self (c' := arrV 34 (propF ⟨kd, id, k⟩)) hp2
        replace he := he2.butAt (But.row1 (q := wr.heap.size) (arrV 34 (propF ⟨kd, id, k⟩))) (by omega) (by omega)
        replace hbr := (hbr.trans hb2).newRow (q := wr.heap.size) (cs := arrV 34 (propF ⟨kd, id, k⟩)) (Nat.le_refl _)
        clear hp hp2 he2 hb2
        generalize w2.setRow wr.heap.size (arrV 34 (propF ⟨kd, id, k⟩)) = wn at *
        clear w2
        (try simp only [Act.put, List.setIfInBounds_toArray, List.set_cons_zero, List.set_cons_succ])
        have hqW := hbr.keep hq (by omega)
        have h2W := hbr.keep h2 (by omega)
        have cq : wn.cell? ⟨q, 2, none⟩ = some (.slice PA lp.length pc) := cell_arrV hqW 2 (by omega)
        have r1W := Rdr.own hbr HE.out r1 (by decide)
        have hbW := hb.trans hbr
        go_wp2_with (first | (refine wpList_load_all rfl rfl RTProp rfl hp5 ?_) | (refine wpList_add_el rfl rfl rfl rfl ELProp (by omega) (by simp [Act.eval, Act.put]) (BSProp ⟨kd, id, k⟩) rfl rfl r1W (fun i _ => propF_one _ i) (by omega) (by omega) (by have := hbW.size; omega) ?_; intro v5 w5 ho5 hk6 hm6 hw5; obtain ⟨A5, c5, rfl⟩ := own_slice ho5; have hq5 := add_at r1W hk6 hqW (by decide); have cq5 := cell_arrV hq5 2 (by omega); have fq5 := frozen_of_row w5 q 2 _ _ hq5))
        go_roundg r
        case measure => omega
        case rel =>
          have h25 := add_at r1W hk6 h2W (by decide)
          refine ⟨lp ++ [⟨kd, id, k⟩], u3, A5, c5, by go_num, by simp; omega, items_step HI.out hov EX.out, (add_rdr r1W hk6 he hgl).setAt (by omega) (by omega) _ _, ?_, ?_, (heap_setCell_other _ _ _ _ (show w.heap.size ≠ q by omega)).trans h25, (add_but r1W hk6 hm6 hbW (Nat.le_refl _)).setNew (by omega) _ _⟩
          · rw [List.length_append, cellsOf_snoc]
            exact own_set ho5 hq5 (by decide)
          · rw [List.length_append]
            exact row_as (set_arrV hq5 _) (congrArg (arrV 70) (upd_upd _ _ _ _))
end Go.Proofs.Ytfbfkfdkigpkgaa.CanB
