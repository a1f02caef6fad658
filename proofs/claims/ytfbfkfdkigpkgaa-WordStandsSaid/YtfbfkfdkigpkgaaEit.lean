/- The walks of layer 16's eye: so many proposals, keys, numbers, steps, texts. -/
import Derived.Test.YtfbfkfdkigpkgaaEyf
import Derived.Test.YtfbfkfdkigpkgaaIts
namespace Go.Proofs.Ytfbfkfdkigpkgaa
set_option linter.unusedSimpArgs false
set_option linter.unusedVariables false
open Go.RowKit
attribute [local irreducible] beL beK

theorem But.kept {g : Nat} {w w' w'' : World} {b : Option Nat} (h : But g w w') (hk : ∀ k, k < w'.heap.size → b ≠ some k → w''.heap[k]? = w'.heap[k]?) (hm : w''.os = w'.os ∧ w''.tape = w'.tape ∧ w''.output = w'.output ∧ w'.heap.size ≤ w''.heap.size) (hb : ∀ k, b = some k → w.heap.size ≤ k) : But g w w'' :=
  ⟨hm.1.trans h.os, hm.2.1.trans h.tape, hm.2.2.1.trans h.output, Nat.le_trans h.size hm.2.2.2, fun k hk1 hg => (hk k (Nat.lt_of_lt_of_le hk1 h.size) (fun e => absurd (hb k e) (by omega))).trans (h.block k hk1 hg)⟩
theorem Eye.kept {B g : Nat} {s : Rs} {w w' : World} {b : Option Nat} (h : Eye w B g s) (hk : ∀ k, k < w.heap.size → b ≠ some k → w'.heap[k]? = w.heap[k]?) (hb : ∀ k, b = some k → g < k) : Eye w' B g s := by
  obtain ⟨A, n, c, e⟩ := h
  have hl := lt_of_block e.row
  have ho : ∀ k, k < g → w'.heap[k]? = w.heap[k]? := fun k hk' => hk k (by omega) (fun e => absurd (hb k e) (by omega))
  have hB : ∀ p : Addr, p.block < g → w'.cell? p = w.cell? p := fun p hp => by unfold World.cell?; rw [ho p.block hp]
  exact ⟨A, n, c, (hk g hl (fun e => absurd (hb g e) (by omega))).trans e.row, e.low, e.txt.keep fun p hp => hB p (Nat.lt_of_lt_of_le hp e.low), e.cap, e.len, e.byt⟩
theorem own_lo {base sz n : Nat} {w : World} {e : TypeId} {v : Value} {xs : List Value} (h : w.ownsRow base e sz v n xs) : ∀ k, v.ownBlock = some k → base ≤ k := fun k hk => (World.ownsRow.lt h k hk).1
/-- A row of another type is kept where only a row's block changes. -/
theorem own_kept {base sz n base' sz' n' : Nat} {w w' : World} {e e' : TypeId} {v v' : Value} {xs xs' : List Value} (h : w.ownsRow base e sz v n xs) (h' : w.ownsRow base' e' sz' v' n' xs') (hne : e ≠ e') (hk : ∀ k, k < w.heap.size → v'.ownBlock ≠ some k → w'.heap[k]? = w.heap[k]?) : w'.ownsRow base e sz v n xs := by
  refine ⟨h.1, ?_⟩
  rcases h.2 with h2 | ⟨b, cap, cur, rfl, h3, hh, h4⟩
  · exact .inl h2
  · refine .inr ⟨b, cap, cur, rfl, h3, (hk b (lt_of_block hh) fun hb => ?_).trans hh, h4⟩
    rcases h'.2 with ⟨rfl, _⟩ | ⟨b', cap', cur', rfl, _, hh', _⟩
    · cases hb
    · have : b' = b := by simpa [Value.ownBlock] using hb
      subst this
      rw [hh] at hh'
      injection hh' with hh'
      injection hh' with _ ht
      exact hne ht
theorem own_keep {base sz n : Nat} {w w' : World} {e : TypeId} {v : Value} {xs : List Value} (h : w.ownsRow base e sz v n xs) (hk : ∀ (b : Nat) (c : Array Value) (fr : Nat × Nat), w.heap[b]? = some (Obj.cells c e fr) → w'.heap[b]? = w.heap[b]?) : w'.ownsRow base e sz v n xs := by
  refine ⟨h.1, ?_⟩
  rcases h.2 with h2 | ⟨b, cap, cur, rfl, h3, hh, h4⟩
  · exact .inl h2
  · exact .inr ⟨b, cap, cur, rfl, h3, (hk b _ _ hh).trans hh, h4⟩
theorem own_mono {base base' sz n : Nat} {w : World} {e : TypeId} {v : Value} {xs : List Value} (h : w.ownsRow base e sz v n xs) (hb : base' ≤ base) : w.ownsRow base' e sz v n xs := by
  refine ⟨h.1, ?_⟩
  rcases h.2 with h2 | ⟨b, cap, cur, rfl, h3, h4⟩
  · exact .inl h2
  · exact .inr ⟨b, cap, cur, rfl, Nat.le_trans hb h3, h4⟩
/-- A store into a block of another type. -/
theorem own_set {base sz n q i : Nat} {w : World} {e t : TypeId} {v u : Value} {xs : List Value} {c : Array Value} {fr : Nat × Nat} (h : w.ownsRow base e sz v n xs) (hq : w.heap[q]? = some (.cells c t fr)) (hne : e ≠ t) : (w.setCell ⟨q, i, none⟩ u).ownsRow base e sz v n xs :=
  own_keep h fun b c' fr' hb => heap_setCell_other _ _ _ _ (show b ≠ q by rintro rfl; rw [hq] at hb; injection hb with hb; injection hb with _ ht; exact hne ht.symm)
theorem own_setRow {base sz n q : Nat} {w : World} {e t : TypeId} {v : Value} {xs : List Value} {c cs : Array Value} {fr : Nat × Nat} (h : w.ownsRow base e sz v n xs) (hq : w.heap[q]? = some (.cells c t fr)) (hne : e ≠ t) : (w.setRow q cs).ownsRow base e sz v n xs :=
  own_keep h fun b c' fr' hb => setRow_other _ _ _ _ (show b ≠ q by rintro rfl; rw [hq] at hb; injection hb with hb; injection hb with _ ht; exact hne ht.symm)
theorem own_cap {base sz n m c : Nat} {w : World} {e : TypeId} {A : Option Addr} {xs : List Value} (h : w.ownsRow base e sz (.slice A m c) n xs) : m = n := by
  rcases h.2 with ⟨he, h0⟩ | ⟨g, cap, cur, he, _⟩
  · injection he with _ e1 e2; omega
  · injection he with _ e1 e2
theorem own_slice {base sz n : Nat} {w : World} {e : TypeId} {v : Value} {xs : List Value} (h : w.ownsRow base e sz v n xs) : ∃ A c, v = .slice A n c := by
  rcases h.2 with ⟨he, h0⟩ | ⟨g, cap, cur, he, _⟩
  · exact ⟨none, 0, by rw [he, h0]⟩
  · exact ⟨_, _, he⟩
theorem items_step {α : Type} {f : Rs → α × Rs} {N r : Nat} {s s' s'' : Rs} {d : List α} {x : α} (h : itemsP f N s = (d ++ (itemsP f (r + 1) s').1, (itemsP f (r + 1) s').2)) (hs : s'.ov = false) (hx : f s' = (x, s'')) : itemsP f N s = ((d ++ [x]) ++ (itemsP f r s'').1, (itemsP f r s'').2) := by
  rw [h]
  have e : itemsP f (r + 1) s' = (x :: (itemsP f r s'').1, (itemsP f r s'').2) := by
    show (if s'.ov = true then ([], s') else ((f s').1 :: (itemsP f r (f s').2).1, (itemsP f r (f s').2).2)) = _
    rw [if_neg (by rw [hs]; simp), hx]
  rw [e]
  simp
theorem items_end {α : Type} {f : Rs → α × Rs} {N r : Nat} {s s' : Rs} {d : List α} (h : itemsP f N s = (d ++ (itemsP f r s').1, (itemsP f r s').2)) (hr : r = 0 ∨ s'.ov = true) : itemsP f N s = (d, s') := by
  rw [h]
  rcases hr with rfl | hr
  · simp [itemsP]
  · rw [items_over f r s' hr]; simp
/-- What is handed back of items: a row of the call's own. -/
def ItPost {α μ : Type} (e sz : Nat) (F : μ → Nat → Value) (pr : μ → α) (Nest : World → Nat → μ → Prop) (B g : Nat) (w : World) (p : List α × Rs) (E : Ending) (w' : World) : Prop :=
  ∃ (A : Option Addr) (c : Nat) (l : List μ), E = .returned (.slice A l.length c) ∧ l.map pr = p.1 ∧ w'.ownsRow w.heap.size e sz (.slice A l.length c) l.length (cellsOf sz F l) ∧ (∀ x ∈ l, Nest w' w.heap.size x) ∧ Eye w' B g p.2 ∧ But g w w'
theorem ELProp : ElT Try.prog 35 75 34 48 := ⟨Try.underlying35, by kernel_rfl⟩
theorem BSProp (p : PProp) : Try.prog.builtSlice 75 1 [(0, .agg (arrV 34 (propF p)))] = some (arrV 34 (propF p)) := by kernel_rfl
theorem eyePropE {B g : Nat} {x : PProp} {s s' : Rs} {w : World} (h : Eye w B g s) (hE : propP s = (x, s')) :
    Calls Try.prog 67 #[.pointer (some ⟨g, 0, none⟩)] w fun e w' => e = .returned (.agg (arrV 34 (propF x))) ∧ Eye w' B g s' ∧ But g w w' := by
  have := eyeProp g s w h
  rw [hE] at this
  exact this
set_option maxRecDepth 100000 in
set_option maxHeartbeats 2000000 in
theorem itemsProp (N : Nat) (hN : N < 65536) {B : Nat} (g : Nat) (s : Rs) (w : World) (h : Eye w B g s) :
    Calls Try.prog 66 #[.pointer (some ⟨g, 0, none⟩), .int .u64 N, .func (.func 67) #[.pointer (some ⟨g, 0, none⟩)] #[]] w (ItPost 75 34 propF id (fun _ _ _ => True) B g w (itemsP propP N s)) := by
  have hgl := h.lt
  go_enter Try.func66, Try.ntmps66
  go_wp2
  go_loopg [1, 6] N (fun r x v wr => ∃ (l : List PProp) (s' : Rs) (V : Value), V = v ∧ x = .int .u64 r ∧ r + l.length ≤ N ∧ itemsP propP N s = (l.map id ++ (itemsP propP r s').1, (itemsP propP r s').2) ∧ Eye wr B g s' ∧ wr.ownsRow w.heap.size 75 34 V l.length (cellsOf 34 propF l) ∧ (∀ x ∈ l, (fun _ _ _ => True) wr w.heap.size x) ∧ But g w wr)
  case atStart => exact ⟨[], s, _, rfl, rfl, Nat.le_refl _, rfl, h, ⟨rfl, .inl ⟨rfl, rfl⟩⟩, (fun x hx => by cases hx), But.refl _ _⟩
  case round =>
    clear h
    obtain ⟨l, s', V, rfl, rfl, hr, hit, he, ho, hnest, hb⟩ := hrel
    obtain ⟨A0, n0, c0', hE⟩ := he
    have c1 := hE.c1
    have he : Eye wr B g s' := ⟨_, _, _, hE⟩
    clear hE
    have HO := Lib.hid ho
    have HI := Lib.hid hit
    have HNS := Lib.hid hnest
    have HR := Lib.hid hr
    have hrN : gk < 18446744073709551616 := by omega
    clear ho hit hnest hr
    have fin : (gk = 0 ∨ s'.ov = true) → ∀ E, E = .returned V → ItPost 75 34 propF id (fun _ _ _ => True) B g w (itemsP propP N s) E wr := fun hx E hE => by
      obtain ⟨A, c, rfl⟩ := own_slice HO.out
      rw [items_end HI.out hx]
      exact ⟨A, c, l, hE, rfl, HO.out, HNS.out, he, hb⟩
    by_cases h0 : gk = 0
    · subst h0
      have F0 := Lib.hid (fin (.inl rfl))
      clear fin
      go_wp2
      go_ret
      exact F0.out _ rfl
    · cases hov : s'.ov with
      | true =>
        rw [eyeE_yes hov] at c1
        have F0 := Lib.hid (fin (.inr hov))
        clear fin
        go_wp2
        go_ret
        exact F0.out _ rfl
      | false =>
        rw [eyeE_no hov] at c1
        obtain ⟨r, rfl⟩ : ∃ r, gk = r + 1 := ⟨gk - 1, by omega⟩
        clear fin
        obtain ⟨x, s2, EX⟩ := pair_of (propP s')
        go_upto_region 4 with (first | (go_at_call 67; (with_reducible refine (eyePropE he EX).mono ?_); rintro e w2 ⟨rfl, he2, hb2⟩; have HO2 := Lib.hid (hb2.row HO.out he.choose_spec.choose_spec.choose_spec.row (by decide))) | (refine wpList_add_el rfl rfl rfl rfl ELProp (by omega) (by simp [Act.eval, Act.put]) (BSProp x) rfl rfl HO2.out (fun i _ => propF_one x i) (by have := HR.out; omega) (by have := HR.out; omega) (by have := hb.size; have := hb2.size; omega) ?_; intro v3 w3 ho3 hk3 hm3 hw3))
        have hlo := own_lo HO2.out
        have he3 := he2.kept hk3 (fun k hk => by have := hlo k hk; omega)
        have hb3 := (hb.trans hb2).kept hk3 hm3 hlo
        
        go_roundg r
        case measure => omega
        case rel =>
          refine ⟨l ++ [x], s2, v3, rfl, by go_num, by have := HR.out; simp; omega, ?_, he3, ?_, ?_, hb3⟩
          · rw [List.map_append]
            exact items_step HI.out hov EX
          · rw [List.length_append, cellsOf_snoc]
            exact ho3
          · exact fun _ _ => trivial
/-- A key's cells. -/
def keyF (k : Nat → Nat) (j : Nat) : Value := byteV k j
theorem keyF_one (k : Nat → Nat) (j : Nat) : (keyF k j).oneCell' = true := rfl
theorem keyF_arr (k : Nat → Nat) : (arr .u8 32 fun i => ((k i : Nat) : Int)) = arrV 32 (keyF k) := rfl
theorem ELKey : ElT Try.prog 39 37 32 32 := ⟨Try.underlying39, by kernel_rfl⟩
theorem BSKey (k : Nat → Nat) : Try.prog.builtSlice 37 1 [(0, .agg (arr .u8 32 fun i => ((k i : Nat) : Int)))] = some (arrV 32 (keyF k)) := by kernel_rfl
set_option maxRecDepth 100000 in
set_option maxHeartbeats 2000000 in
theorem itemsKey (N : Nat) (hN : N < 65536) {B : Nat} (g : Nat) (s : Rs) (w : World) (h : Eye w B g s) :
    Calls Try.prog 71 #[.pointer (some ⟨g, 0, none⟩), .int .u64 N, .func (.func 68) #[.pointer (some ⟨g, 0, none⟩)] #[]] w (ItPost 37 32 keyF id (fun _ _ _ => True) B g w (itemsP keyP N s)) := by
  have hgl := h.lt
  go_enter Try.func71, Try.ntmps71
  go_wp2
  go_loopg [1, 6] N (fun r x v wr => ∃ (l : List (Nat → Nat)) (s' : Rs) (V : Value), V = v ∧ x = .int .u64 r ∧ r + l.length ≤ N ∧ itemsP keyP N s = (l.map id ++ (itemsP keyP r s').1, (itemsP keyP r s').2) ∧ Eye wr B g s' ∧ wr.ownsRow w.heap.size 37 32 V l.length (cellsOf 32 keyF l) ∧ (∀ x ∈ l, (fun _ _ _ => True) wr w.heap.size x) ∧ But g w wr)
  case atStart => exact ⟨[], s, _, rfl, rfl, Nat.le_refl _, rfl, h, ⟨rfl, .inl ⟨rfl, rfl⟩⟩, (fun x hx => by cases hx), But.refl _ _⟩
  case round =>
    clear h
    obtain ⟨l, s', V, rfl, rfl, hr, hit, he, ho, hnest, hb⟩ := hrel
    obtain ⟨A0, n0, c0', hE⟩ := he
    have c1 := hE.c1
    have he : Eye wr B g s' := ⟨_, _, _, hE⟩
    clear hE
    have HO := Lib.hid ho
    have HI := Lib.hid hit
    have HNS := Lib.hid hnest
    have HR := Lib.hid hr
    have hrN : gk < 18446744073709551616 := by omega
    clear ho hit hnest hr
    have fin : (gk = 0 ∨ s'.ov = true) → ∀ E, E = .returned V → ItPost 37 32 keyF id (fun _ _ _ => True) B g w (itemsP keyP N s) E wr := fun hx E hE => by
      obtain ⟨A, c, rfl⟩ := own_slice HO.out
      rw [items_end HI.out hx]
      exact ⟨A, c, l, hE, rfl, HO.out, HNS.out, he, hb⟩
    by_cases h0 : gk = 0
    · subst h0
      have F0 := Lib.hid (fin (.inl rfl))
      clear fin
      go_wp2
      go_ret
      exact F0.out _ rfl
    · cases hov : s'.ov with
      | true =>
        rw [eyeE_yes hov] at c1
        have F0 := Lib.hid (fin (.inr hov))
        clear fin
        go_wp2
        go_ret
        exact F0.out _ rfl
      | false =>
        rw [eyeE_no hov] at c1
        obtain ⟨r, rfl⟩ : ∃ r, gk = r + 1 := ⟨gk - 1, by omega⟩
        clear fin
        obtain ⟨x, s2, EX⟩ := pair_of (keyP s')
        go_upto_region 4 with (first | (go_at_call 68; (with_reducible refine (eyeKeyE he EX).mono ?_); rintro e w2 ⟨rfl, he2, hb2⟩; have HO2 := Lib.hid (hb2.row HO.out he.choose_spec.choose_spec.choose_spec.row (by decide))) | (refine wpList_add_el rfl rfl rfl rfl ELKey (by omega) (by simp [Act.eval, Act.put]) (BSKey x) rfl rfl HO2.out (fun i _ => keyF_one x i) (by have := HR.out; omega) (by have := HR.out; omega) (by have := hb.size; have := hb2.size; omega) ?_; intro v3 w3 ho3 hk3 hm3 hw3))
        have hlo := own_lo HO2.out
        have he3 := he2.kept hk3 (fun k hk => by have := hlo k hk; omega)
        have hb3 := (hb.trans hb2).kept hk3 hm3 hlo
        
        go_roundg r
        case measure => omega
        case rel =>
          refine ⟨l ++ [x], s2, v3, rfl, by go_num, by have := HR.out; simp; omega, ?_, he3, ?_, ?_, hb3⟩
          · rw [List.map_append]
            exact items_step HI.out hov EX
          · rw [List.length_append, cellsOf_snoc]
            exact ho3
          · exact fun _ _ => trivial
/-- A text's cell: where it lies. -/
structure Pl where
  l : List Nat
  A : Option Addr
  c : Nat
def plF (x : Pl) (_ : Nat) : Value := .slice x.A x.l.length x.c
def PlN (w : World) (base : Nat) (x : Pl) : Prop := Own w base 5 (.slice x.A x.l.length x.c) x.l
theorem ELBox : ElT Try.prog 40 22 1 24 := ⟨Try.underlying40, by kernel_rfl⟩
theorem BSBox (x : Pl) : Try.prog.builtSlice 22 1 [(0, .slice x.A x.l.length x.c)] = some (arrV 1 (plF x)) := by kernel_rfl
theorem eyeBoxE {B g : Nat} {l : List Nat} {s s' : Rs} {w : World} (h : Eye w B g s) (hE : boxP s = (l, s')) :
    Calls Try.prog 73 #[.pointer (some ⟨g, 0, none⟩)] w fun e w' => ∃ x : Pl, x.l = l ∧ e = .returned (.slice x.A x.l.length x.c) ∧ PlN w' w.heap.size x ∧ Eye w' B g s' ∧ But g w w' :=
  (eyeBox g s w h).mono fun e w' h => by
    rw [hE] at h
    obtain ⟨A, c, he, ho, h2, h3⟩ := h
    exact ⟨⟨l, A, c⟩, rfl, he, ho, h2, h3⟩
theorem PlN.but {B g base : Nat} {x : Pl} {w w' : World} {s : Rs} (h : PlN w base x) (hb : But g w w') (he : Eye w B g s) : PlN w' base x := by
  obtain ⟨_, _, _, k⟩ := he
  exact hb.row h k.row (by decide)
set_option maxRecDepth 100000 in
set_option maxHeartbeats 2000000 in
theorem itemsBox (N : Nat) (hN : N < 4398046511104) {B : Nat} (g : Nat) (s : Rs) (w : World) (h : Eye w B g s) :
    Calls Try.prog 72 #[.pointer (some ⟨g, 0, none⟩), .int .u64 N, .func (.func 73) #[.pointer (some ⟨g, 0, none⟩)] #[]] w (ItPost 22 1 plF Pl.l PlN B g w (itemsP boxP N s)) := by
  have hgl := h.lt
  go_enter Try.func72, Try.ntmps72
  go_wp2
  go_loopg [1, 6] N (fun r x v wr => ∃ (l : List Pl) (s' : Rs) (V : Value), V = v ∧ x = .int .u64 r ∧ r + l.length ≤ N ∧ itemsP boxP N s = (l.map Pl.l ++ (itemsP boxP r s').1, (itemsP boxP r s').2) ∧ Eye wr B g s' ∧ wr.ownsRow w.heap.size 22 1 V l.length (cellsOf 1 plF l) ∧ (∀ x ∈ l, PlN wr w.heap.size x) ∧ But g w wr)
  case atStart => exact ⟨[], s, _, rfl, rfl, Nat.le_refl _, rfl, h, ⟨rfl, .inl ⟨rfl, rfl⟩⟩, (fun x hx => by cases hx), But.refl _ _⟩
  case round =>
    clear h
    obtain ⟨l, s', V, rfl, rfl, hr, hit, he, ho, hnest, hb⟩ := hrel
    obtain ⟨A0, n0, c0', hE⟩ := he
    have c1 := hE.c1
    have he : Eye wr B g s' := ⟨_, _, _, hE⟩
    clear hE
    have HO := Lib.hid ho
    have HI := Lib.hid hit
    have HNS := Lib.hid hnest
    have HR := Lib.hid hr
    have hrN : gk < 18446744073709551616 := by omega
    clear ho hit hnest hr
    have fin : (gk = 0 ∨ s'.ov = true) → ∀ E, E = .returned V → ItPost 22 1 plF Pl.l PlN B g w (itemsP boxP N s) E wr := fun hx E hE => by
      obtain ⟨A, c, rfl⟩ := own_slice HO.out
      rw [items_end HI.out hx]
      exact ⟨A, c, l, hE, rfl, HO.out, HNS.out, he, hb⟩
    by_cases h0 : gk = 0
    · subst h0
      have F0 := Lib.hid (fin (.inl rfl))
      clear fin
      go_wp2
      go_ret
      exact F0.out _ rfl
    · cases hov : s'.ov with
      | true =>
        rw [eyeE_yes hov] at c1
        have F0 := Lib.hid (fin (.inr hov))
        clear fin
        go_wp2
        go_ret
        exact F0.out _ rfl
      | false =>
        rw [eyeE_no hov] at c1
        obtain ⟨r, rfl⟩ : ∃ r, gk = r + 1 := ⟨gk - 1, by omega⟩
        clear fin
        obtain ⟨x, s2, EX⟩ := pair_of (boxP s')
        go_upto_region 4 with (first | (go_at_call 73; (with_reducible refine (eyeBoxE he EX).mono ?_); rintro e w2 ⟨y, rfl, rfl, hny, he2, hb2⟩; have HO2 := Lib.hid (hb2.row HO.out he.choose_spec.choose_spec.choose_spec.row (by decide))) | (refine wpList_add_el rfl rfl rfl rfl ELBox (by omega) (by simp [Act.eval, Act.put]) (BSBox y) rfl rfl HO2.out (fun i _ => rfl) (by have := HR.out; omega) (by have := HR.out; omega) (by have := hb.size; have := hb2.size; omega) ?_; intro v3 w3 ho3 hk3 hm3 hw3))
        have hlo := own_lo HO2.out
        have he3 := he2.kept hk3 (fun k hk => by have := hlo k hk; omega)
        have hb3 := (hb.trans hb2).kept hk3 hm3 hlo
        
        go_roundg r
        case measure => omega
        case rel =>
          refine ⟨l ++ [y], s2, v3, rfl, by go_num, by have := HR.out; simp; omega, ?_, he3, ?_, ?_, hb3⟩
          · rw [List.map_append]
            exact items_step HI.out hov EX
          · rw [List.length_append, cellsOf_snoc]
            exact ho3
          · 
              intro z hz
              rcases List.mem_append.1 hz with hz | hz
              · exact own_kept ((HNS.out z hz).but hb2 he) HO2.out (by decide) hk3
              · obtain rfl : z = y := by simpa using hz
                exact own_kept (hny.mono (by have := hb.size; omega)) HO2.out (by decide) hk3
/-- A variable that points at the eye. -/
def EyeVar (w : World) (P g : Nat) : Prop := w.heap[P]? = some (.cells #[.pointer (some ⟨g, 0, none⟩)] 90 (0, 0))
theorem EyeVar.cell {w : World} {P g : Nat} (h : EyeVar w P g) : w.cell? ⟨P, 0, none⟩ = some (.pointer (some ⟨g, 0, none⟩)) := by rw [cell_of_row _ _ _ _ _ _ h]; rfl
def intF (x : Nat) (_ : Nat) : Value := .int .i64 (x : Int)
theorem ELInt : ElT Try.prog 69 3 1 8 := ⟨Try.underlying69, by kernel_rfl⟩
theorem BSInt (x : Nat) : Try.prog.builtSlice 3 1 [(0, .int .i64 (x : Int))] = some (arrV 1 (intF x)) := by kernel_rfl
set_option maxRecDepth 100000 in
theorem eyeOne {B g P x : Nat} {s s' : Rs} {w : World} (h : Eye w B g s) (hP : EyeVar w P g) (hE : numP 2 s = (x, s')) :
    Calls Try.prog 93 #[.pointer (some ⟨P, 0, none⟩)] w fun e w' => e = .returned (.int .i64 (x : Int)) ∧ Eye w' B g s' ∧ But g w w' := by
  have cP := hP.cell
  have lt := h.lt2 hE
  go_enter Try.func93, Try.ntmps93
  go_wp2_with (go_at_call 65; (with_reducible refine (eyeNum2 h hE).mono ?_); rintro e w2 ⟨rfl, he2, hb2⟩)
  go_ret
  exact ⟨rfl, he2, hb2⟩
set_option maxRecDepth 100000 in
set_option maxHeartbeats 2000000 in
theorem itemsInt (N : Nat) (hN : N < 65536) {B : Nat} (g : Nat) (P : Nat) (s : Rs) (w : World) (h : Eye w B g s) (hP : EyeVar w P g) (hPg : g < P) :
    Calls Try.prog 92 #[.pointer (some ⟨g, 0, none⟩), .int .u64 N, .func (.func 93) #[] #[.pointer (some ⟨P, 0, none⟩)]] w (ItPost 3 1 intF id (fun _ _ _ => True) B g w (itemsP (numP 2) N s)) := by
  have hgl := h.lt
  go_enter Try.func92, Try.ntmps92
  go_wp2
  go_loopg [1, 6] N (fun r x v wr => ∃ (l : List Nat) (s' : Rs) (V : Value), V = v ∧ x = .int .u64 r ∧ r + l.length ≤ N ∧ itemsP (numP 2) N s = (l.map id ++ (itemsP (numP 2) r s').1, (itemsP (numP 2) r s').2) ∧ Eye wr B g s' ∧ wr.ownsRow w.heap.size 3 1 V l.length (cellsOf 1 intF l) ∧ (∀ x ∈ l, (fun _ _ _ => True) wr w.heap.size x) ∧ But g w wr ∧ EyeVar wr P g)
  case atStart => exact ⟨[], s, _, rfl, rfl, Nat.le_refl _, rfl, h, ⟨rfl, .inl ⟨rfl, rfl⟩⟩, (fun x hx => by cases hx), But.refl _ _, hP⟩
  case round =>
    clear h
    obtain ⟨l, s', V, rfl, rfl, hr, hit, he, ho, hnest, hb, hPr⟩ := hrel
    obtain ⟨A0, n0, c0', hE⟩ := he
    have c1 := hE.c1
    have he : Eye wr B g s' := ⟨_, _, _, hE⟩
    clear hE
    have HO := Lib.hid ho
    have HI := Lib.hid hit
    have HNS := Lib.hid hnest
    have HR := Lib.hid hr
    have hrN : gk < 18446744073709551616 := by omega
    clear ho hit hnest hr
    have fin : (gk = 0 ∨ s'.ov = true) → ∀ E, E = .returned V → ItPost 3 1 intF id (fun _ _ _ => True) B g w (itemsP (numP 2) N s) E wr := fun hx E hE => by
      obtain ⟨A, c, rfl⟩ := own_slice HO.out
      rw [items_end HI.out hx]
      exact ⟨A, c, l, hE, rfl, HO.out, HNS.out, he, hb⟩
    by_cases h0 : gk = 0
    · subst h0
      have F0 := Lib.hid (fin (.inl rfl))
      clear fin
      go_wp2
      go_ret
      exact F0.out _ rfl
    · cases hov : s'.ov with
      | true =>
        rw [eyeE_yes hov] at c1
        have F0 := Lib.hid (fin (.inr hov))
        clear fin
        go_wp2
        go_ret
        exact F0.out _ rfl
      | false =>
        rw [eyeE_no hov] at c1
        obtain ⟨r, rfl⟩ : ∃ r, gk = r + 1 := ⟨gk - 1, by omega⟩
        clear fin
        obtain ⟨x, s2, EX⟩ := pair_of ((numP 2) s')
        go_upto_region 4 with (first | (go_at_call 93; (with_reducible refine (eyeOne he hPr EX).mono ?_); rintro e w2 ⟨rfl, he2, hb2⟩; have HO2 := Lib.hid (hb2.row HO.out he.choose_spec.choose_spec.choose_spec.row (by decide))) | (refine wpList_add_el rfl rfl rfl rfl ELInt (by omega) (by simp [Act.eval, Act.put]) (BSInt x) rfl rfl HO2.out (fun i _ => rfl) (by have := HR.out; omega) (by have := HR.out; omega) (by have := hb.size; have := hb2.size; omega) ?_; intro v3 w3 ho3 hk3 hm3 hw3))
        have hlo := own_lo HO2.out
        have he3 := he2.kept hk3 (fun k hk => by have := hlo k hk; omega)
        have hb3 := (hb.trans hb2).kept hk3 hm3 hlo
        have hP3 : EyeVar w3 P g := (hk3 P (by have := lt_of_block hP; have := hb.size; have := hb2.size; omega) (fun e => absurd (hlo P e) (by have := lt_of_block hP; omega))).trans (hb2.keep hPr (by omega))
        go_roundg r
        case measure => omega
        case rel =>
          refine ⟨l ++ [x], s2, v3, rfl, by go_num, by have := HR.out; simp; omega, ?_, he3, ?_, ?_, hb3, hP3⟩
          · rw [List.map_append]
            exact items_step HI.out hov EX
          · rw [List.length_append, cellsOf_snoc]
            exact ho3
          · exact fun _ _ => trivial
/-- A step, and where its numbers lie. -/
structure StM where
  p : PStep
  A : Option Addr
  c : Nat
def stepF (x : StM) (j : Nat) : Value := stepV (x.p.node : Int) ((x.p.frm : Int) - 1) x.A x.p.sd.length x.c j
theorem stepF_one (x : StM) (j : Nat) : (stepF x j).oneCell' = true := stepV_one _ _ _ _ _ _
def StN (w : World) (base : Nat) (x : StM) : Prop := w.ownsRow base 3 1 (.slice x.A x.p.sd.length x.c) x.p.sd.length (cellsOf 1 intF x.p.sd)
theorem ZVStep0 : ZeroV Try.prog 71 3 (arrV 3 (stepV 0 0 none 0 0)) := ⟨by kernel_rfl, by rw [arrV_size]⟩
theorem stepP_is {s s1 s2 s3 s4 : Rs} {nd fr n : Nat} {sd : List Nat} (h1 : numP 2 s = (nd, s1)) (h2 : numP 2 s1 = (fr, s2)) (h3 : numP 2 s2 = (n, s3)) (h4 : itemsP (numP 2) n s3 = (sd, s4)) : stepP' s = (⟨nd, fr, sd⟩, s4) := by
  unfold stepP'
  simp only [h1, h2, h3, h4]
set_option maxRecDepth 100000 in
set_option maxHeartbeats 2000000 in
theorem eyeStep {B : Nat} (g : Nat) (s : Rs) (w : World) (h : Eye w B g s) :
    Calls Try.prog 70 #[.pointer (some ⟨g, 0, none⟩)] w fun e w' => ∃ x : StM, x.p = (stepP' s).1 ∧ e = .returned (.agg (arrV 3 (stepF x))) ∧ StN w' w.heap.size x ∧ Eye w' B g (stepP' s).2 ∧ But g w w' := by
  obtain ⟨nd, s1, E1⟩ := pair_of (numP 2 s)
  obtain ⟨fr, s2, E2⟩ := pair_of (numP 2 s1)
  obtain ⟨n, s3, E3⟩ := pair_of (numP 2 s2)
  obtain ⟨sd, s4, E4⟩ := pair_of (itemsP (numP 2) n s3)
  rw [stepP_is E1 E2 E3 E4]
  have hgl' := h.lt
  have hgl : g < w.heap.size + 1 := by omega
  go_enter Try.func70, Try.ntmps70
  go_upto_region 1 with (refine wpList_alloc_v rfl rfl ZVStep0 ?_)
  obtain ⟨hP0, hq0, hsz, hb0⟩ := alloc2 w (.cells #[.pointer (some ⟨g, 0, none⟩)] 90) (.cells (arrV 3 (stepV 0 0 none 0 0)) 71)
  refine wp_cut (fun x => x.heap[w.heap.size + 1]? = some (.cells (arrV 3 (stepV 0 0 none 0 0)) 71 (0, 0)) ∧ EyeVar x w.heap.size g ∧ Eye x B g s ∧ But g w x) ⟨hq0, hP0, h.after hb0, But.of_below hb0⟩ ?_
  clear hP0 hq0 hsz hb0 h
  rintro w1 ⟨hq, hPv, he, hb⟩
  (try simp only [Act.put, List.setIfInBounds_toArray, List.set_cons_zero, List.set_cons_succ])
  have cP := hPv.cell
  go_upto_region 2 with (go_at_call 65; have lt := he.lt2 E1; (with_reducible refine (eyeNum2 he E1).mono ?_); rintro e w2 ⟨rfl, he2, hb2⟩; have hq2 := hb2.keep hq (by omega); have hP2 := hb2.keep hPv (by omega); have c2 := cell_arrV hq2 0 (by omega); have f2 := frozen_of_row w2 (w.heap.size + 1) 0 _ _ hq2)
  replace he := he2.setOther hgl 0 (.int .i64 (nd : Int))
  replace hb := (hb.trans hb2).setNew (q := w.heap.size + 1) (by omega) 0 (.int .i64 (nd : Int))
  replace hq := set_arrV (i := 0) hq2 (.int .i64 (nd : Int))
  replace hPv : EyeVar (w2.setCell ⟨w.heap.size + 1, 0, none⟩ (.int .i64 (nd : Int))) w.heap.size g := (heap_setCell_other _ _ _ _ (show w.heap.size ≠ w.heap.size + 1 by omega)).trans hP2
  clear hq2 c2 f2 he2 hb2 hP2 cP
  generalize w2.setCell ⟨w.heap.size + 1, 0, none⟩ (.int .i64 (nd : Int)) = w3 at *
  clear w2
  (try simp only [Act.put, List.setIfInBounds_toArray, List.set_cons_zero, List.set_cons_succ])
  have cP := hPv.cell
  clear w1
  go_upto_region 3 with (go_at_call 65; have lt2 := he.lt2 E2; (with_reducible refine (eyeNum2 he E2).mono ?_); rintro e w2 ⟨rfl, he2, hb2⟩; have hq2 := hb2.keep hq (by omega); have hP2 := hb2.keep hPv (by omega); have c2 := cell_arrV hq2 1 (by omega); have f2 := frozen_of_row w2 (w.heap.size + 1) 1 _ _ hq2)
  replace he := he2.setOther hgl 1 (.int .i64 ((fr : Int) - 1))
  replace hb := (hb.trans hb2).setNew (q := w.heap.size + 1) (by omega) 1 (.int .i64 ((fr : Int) - 1))
  replace hq := set_arrV (i := 1) hq2 (.int .i64 ((fr : Int) - 1))
  replace hPv : EyeVar (w2.setCell ⟨w.heap.size + 1, 1, none⟩ (.int .i64 ((fr : Int) - 1))) w.heap.size g := (heap_setCell_other _ _ _ _ (show w.heap.size ≠ w.heap.size + 1 by omega)).trans hP2
  clear hq2 c2 f2 he2 hb2 hP2 cP
  generalize w2.setCell ⟨w.heap.size + 1, 1, none⟩ (.int .i64 ((fr : Int) - 1)) = w4 at *
  clear w2
  (try simp only [Act.put, List.setIfInBounds_toArray, List.set_cons_zero, List.set_cons_succ])
  have cP := hPv.cell
  clear w3
  go_upto_region 4 with (go_at_call 65; have lt3 := he.lt2 E3; (with_reducible refine (eyeNum2 he E3).mono ?_); rintro e w2 ⟨rfl, he2, hb2⟩; have hq2 := hb2.keep hq (by omega); have hP2 := hb2.keep hPv (by omega))
  replace hb := hb.trans hb2
  clear hq hPv he hb2 w4 cP
  (try simp only [Act.put, List.setIfInBounds_toArray, List.set_cons_zero, List.set_cons_succ])
  replace hP2 : EyeVar w2 w.heap.size g := hP2
  have cP := EyeVar.cell hP2
  have hPl := lt_of_block hP2
  have hql := lt_of_block hq2
  go_upto_region 5 with (go_at_call 92; (with_reducible refine (itemsInt n (by omega) g w.heap.size s3 _ he2 hP2 (by omega)).mono ?_); rw [E4]; rintro e w3 ⟨A, c, l, rfl, hml, ho, -, he3, hb3⟩; obtain rfl : l = sd := (List.map_id l).symm.trans hml; have hq3 := hb3.keep hq2 (by omega); have c3 := cell_arrV hq3 2 (by omega); have f3 := frozen_of_row w3 (w.heap.size + 1) 2 _ _ hq3)
  replace he := he3.setOther hgl 2 (.slice A l.length c)
  replace ho := own_set (i := 2) (u := .slice A l.length c) ho hq3 (by decide)
  replace hb := (hb.trans hb3).setNew (q := w.heap.size + 1) (by omega) 2 (.slice A l.length c)
  have hbs := hb.size
  replace hq := set_arrV (i := 2) hq3 (.slice A l.length c)
  rw [show (arrV 3 (upd (upd (upd (stepV 0 0 none 0 0) 0 (.int .i64 (nd : Int))) 1 (.int .i64 ((fr : Int) - 1))) 2 (.slice A l.length c))) = arrV 3 (stepF ⟨⟨nd, fr, l⟩, A, c⟩) from arrV_ext fun i hi => by
    unfold upd stepF stepV
    by_cases h0 : i = 0
    · subst h0; rfl
    · by_cases h1 : i = 1
      · subst h1; rfl
      · obtain rfl : i = 2 := by omega
        rfl] at hq
  clear hq3 c3 f3 he3 hb3 hP2 cP hq2
  generalize w3.setCell ⟨w.heap.size + 1, 2, none⟩ (.slice A l.length c) = w5 at *
  (try simp only [Act.put, List.setIfInBounds_toArray, List.set_cons_zero, List.set_cons_succ])
  go_wp2_with (first | (refine wpList_load_all rfl rfl RTStep rfl hq ?_) | (refine wpList_store_v rfl rfl RTStep rfl rfl hq (fun i _ => stepF_one _ i) ?_))
  refine bodyPost_ret (results_v rfl rfl RTStep (row_self hq)) rfl ⟨⟨⟨nd, fr, l⟩, A, c⟩, rfl, rfl, own_mono (own_setRow ho hq (by decide)) (by omega), he.but (But.row1 _) hgl, hb.newRow (by omega)⟩
theorem eyeStepE {B g : Nat} {p : PStep} {s s' : Rs} {w : World} (h : Eye w B g s) (hE : stepP' s = (p, s')) :
    Calls Try.prog 70 #[.pointer (some ⟨g, 0, none⟩)] w fun e w' => ∃ x : StM, x.p = p ∧ e = .returned (.agg (arrV 3 (stepF x))) ∧ StN w' w.heap.size x ∧ Eye w' B g s' ∧ But g w w' := by
  have := eyeStep g s w h
  rw [hE] at this
  exact this
theorem StN.but {B g base : Nat} {x : StM} {w w' : World} {s : Rs} (h : StN w base x) (hb : But g w w') (he : Eye w B g s) : StN w' base x := by
  obtain ⟨_, _, _, k⟩ := he
  exact hb.row h k.row (by decide)
theorem ELStep : ElT Try.prog 38 71 3 40 := ⟨Try.underlying38, by kernel_rfl⟩
theorem BSStep (x : StM) : Try.prog.builtSlice 71 1 [(0, .agg (arrV 3 (stepF x)))] = some (arrV 3 (stepF x)) := by kernel_rfl
set_option maxRecDepth 100000 in
set_option maxHeartbeats 2000000 in
theorem itemsStep (N : Nat) (hN : N < 65536) {B : Nat} (g : Nat) (s : Rs) (w : World) (h : Eye w B g s) :
    Calls Try.prog 69 #[.pointer (some ⟨g, 0, none⟩), .int .u64 N, .func (.func 70) #[.pointer (some ⟨g, 0, none⟩)] #[]] w (ItPost 71 3 stepF StM.p StN B g w (itemsP stepP' N s)) := by
  have hgl := h.lt
  go_enter Try.func69, Try.ntmps69
  go_wp2
  go_loopg [1, 6] N (fun r x v wr => ∃ (l : List StM) (s' : Rs) (V : Value), V = v ∧ x = .int .u64 r ∧ r + l.length ≤ N ∧ itemsP stepP' N s = (l.map StM.p ++ (itemsP stepP' r s').1, (itemsP stepP' r s').2) ∧ Eye wr B g s' ∧ wr.ownsRow w.heap.size 71 3 V l.length (cellsOf 3 stepF l) ∧ (∀ x ∈ l, StN wr w.heap.size x) ∧ But g w wr)
  case atStart => exact ⟨[], s, _, rfl, rfl, Nat.le_refl _, rfl, h, ⟨rfl, .inl ⟨rfl, rfl⟩⟩, (fun x hx => by cases hx), But.refl _ _⟩
  case round =>
    clear h
    obtain ⟨l, s', V, rfl, rfl, hr, hit, he, ho, hnest, hb⟩ := hrel
    obtain ⟨A0, n0, c0', hE⟩ := he
    have c1 := hE.c1
    have he : Eye wr B g s' := ⟨_, _, _, hE⟩
    clear hE
    have HO := Lib.hid ho
    have HI := Lib.hid hit
    have HNS := Lib.hid hnest
    have HR := Lib.hid hr
    have hrN : gk < 18446744073709551616 := by omega
    clear ho hit hnest hr
    have fin : (gk = 0 ∨ s'.ov = true) → ∀ E, E = .returned V → ItPost 71 3 stepF StM.p StN B g w (itemsP stepP' N s) E wr := fun hx E hE => by
      obtain ⟨A, c, rfl⟩ := own_slice HO.out
      rw [items_end HI.out hx]
      exact ⟨A, c, l, hE, rfl, HO.out, HNS.out, he, hb⟩
    by_cases h0 : gk = 0
    · subst h0
      have F0 := Lib.hid (fin (.inl rfl))
      clear fin
      go_wp2
      go_ret
      exact F0.out _ rfl
    · cases hov : s'.ov with
      | true =>
        rw [eyeE_yes hov] at c1
        have F0 := Lib.hid (fin (.inr hov))
        clear fin
        go_wp2
        go_ret
        exact F0.out _ rfl
      | false =>
        rw [eyeE_no hov] at c1
        obtain ⟨r, rfl⟩ : ∃ r, gk = r + 1 := ⟨gk - 1, by omega⟩
        clear fin
        obtain ⟨x, s2, EX⟩ := pair_of (stepP' s')
        go_upto_region 4 with (first | (go_at_call 70; (with_reducible refine (eyeStepE he EX).mono ?_); rintro e w2 ⟨y, rfl, rfl, hny, he2, hb2⟩; have HO2 := Lib.hid (hb2.row HO.out he.choose_spec.choose_spec.choose_spec.row (by decide))) | (refine wpList_add_el rfl rfl rfl rfl ELStep (by omega) (by simp [Act.eval, Act.put]) (BSStep y) rfl rfl HO2.out (fun i _ => stepF_one _ i) (by have := HR.out; omega) (by have := HR.out; omega) (by have := hb.size; have := hb2.size; omega) ?_; intro v3 w3 ho3 hk3 hm3 hw3))
        have hlo := own_lo HO2.out
        have he3 := he2.kept hk3 (fun k hk => by have := hlo k hk; omega)
        have hb3 := (hb.trans hb2).kept hk3 hm3 hlo
        
        go_roundg r
        case measure => omega
        case rel =>
          refine ⟨l ++ [y], s2, v3, rfl, by go_num, by have := HR.out; simp; omega, ?_, he3, ?_, ?_, hb3⟩
          · rw [List.map_append]
            exact items_step HI.out hov EX
          · rw [List.length_append, cellsOf_snoc]
            exact ho3
          · 
              intro z hz
              rcases List.mem_append.1 hz with hz | hz
              · exact own_kept ((HNS.out z hz).but hb2 he) HO2.out (by decide) hk3
              · obtain rfl : z = y := by simpa using hz
                exact own_kept (own_mono hny (by have := hb.size; omega)) HO2.out (by decide) hk3
end Go.Proofs.Ytfbfkfdkigpkgaa
