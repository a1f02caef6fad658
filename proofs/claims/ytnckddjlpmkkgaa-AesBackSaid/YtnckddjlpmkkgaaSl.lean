/- Slices of a call's own, as rows; what a stream of blocks comes to (plain). -/
import Derived.Test.YtnckddjlpmkkgaaTxt
import Derived.Test.YtnckddjlpmkkgaaNew
import Derived.Test.YtnckddjlpmkkgaaAny
import Derived.Test.YtnckddjlpmkkgaaAesP
import Derived.Deep.OwnRows
namespace Go.Proofs.Ytnckddjlpmkkgaa
set_option linter.unusedSimpArgs false
set_option linter.unusedVariables false
open Go.RowKit
section
variable {P : Program} {w : World}
theorem made_arr (n : Nat) : madeCells #[Value.int .u8 0] n = arr .u8 n fun _ => 0 := by
  apply Array.ext_getElem?
  intro i
  by_cases hi : i < n
  · rw [arr_get _ _ _ _ hi]; simp [madeCells, hi, Nat.mod_one]
  · rw [Array.getElem?_eq_none (by rw [size_madeCells]; omega), Array.getElem?_eq_none (by rw [arr_size]; omega)]
theorem Own.lt' {w : World} {base : Nat} {e : TypeId} {v : Value} {l : List Nat} (h : Own w base e v l) : ∀ k, v.ownBlock = some k → k < w.heap.size := fun k hk => (h.lt k hk).2
/-- A new slice of bytes. -/
theorem run_make_txt {t e : TypeId} (hT : ByteT P t e) (n : Nat) (hn : n ≤ 140737488355328) (w : World) :
    (Instr.makeSlice t (.int .i64 (n : Int)) (.int .i64 (n : Int))).run P w = .ok (.slice (some ⟨w.heap.size, 0, none⟩) n n) (w.alloc (.cells (arr .u8 n fun _ => 0) e)) := by
  have h := run_make_row' (P := P) t e (.int .u8 0) 1 hT.sl hT.info rfl .i64 .i64 n (by omega) (by omega) w
  rw [made_arr] at h
  exact h
theorem run_op_make {t e : TypeId} {o : Oper} {a : Act} {x y : Operand} (hT : ByteT P t e) {n : Nat} (hn : n ≤ 140737488355328) (ho : o.op = .makeSlice t x y) (hx : a.eval x = .int .i64 n) (hy : a.eval y = .int .i64 n) :
    (execOp a.eval o).run P w = .ok (.value (.slice (some ⟨w.heap.size, 0, none⟩) n n)) (w.alloc (.cells (arr .u8 n fun _ => 0) e)) := by
  unfold execOp
  simp only [ho, hx, hy, Sem.run_bind, run_make_txt hT n hn w, Result.andThen_ok, Sem.run_pure]
/-- A row of bytes is a text of the call's own. -/
theorem own_arr {B R n : Nat} {e : TypeId} {f : Nat → Int} {l : List Nat} (hR : B ≤ R) (h : w.heap[R]? = some (.cells (arr .u8 n f) e (0, 0))) (hn : n ≤ 140737488355328) (hl : l.length = n) (hf : ∀ i, i < n → f i = ((l.getD i 0 : Nat) : Int)) :
    Own w B e (.slice (some ⟨R, 0, none⟩) n n) l := by
  subst hl
  refine ⟨by simp, .inr ⟨R, l.length, arr .u8 l.length f, rfl, hR, h, Nat.le_refl _, by unfold maxLen; omega, by rw [arr_size]; omega, ?_⟩⟩
  apply List.ext_getElem?
  intro i
  by_cases hi : i < l.length
  · rw [List.getElem?_take_of_lt (by omega), Array.getElem?_toList, arr_get _ _ _ _ hi, hf i hi, List.getElem?_map, List.getElem?_eq_getElem hi, List.getD_eq_getElem?_getD, List.getElem?_eq_getElem hi]
    rfl
  · rw [List.getElem?_eq_none (by simp [arr_size]; omega), List.getElem?_eq_none (by simp; omega)]
/-- A new slice of bytes, in a block of its own. -/
def NewRow (N n : Nat) (e : TypeId) : Fact := fun x w => ∃ R, x = .slice (some ⟨R, 0, none⟩) n n ∧ N ≤ R ∧ w.heap[R]? = some (.cells (arr .u8 n fun _ => 0) e (0, 0))
theorem newRow_stays (N n : Nat) (e : TypeId) : Stays (NewRow N n e) := fun _ _ _ hb ⟨B, h1, h2, h3⟩ => ⟨B, h1, h2, (hb.block B (lt_of_block h3)).trans h3⟩
theorem free_make {ops : Array Oper} {Q : Exit → Act → World → Prop} {o : Oper} {r : Fact} {a : Act} {t e : TypeId} {x y : Operand} (hT : ByteT P t e) {n : Nat} (hn : n ≤ 140737488355328) (hg : Region.wanted o (yielded ops a.tmps) = true) (ho : o.op = .makeSlice t x y) (hx : a.eval x = .int .i64 n) (hy : a.eval y = .int .i64 n)
    (h : r (.slice (some ⟨w.heap.size, 0, none⟩) n n) (w.alloc (.cells (arr .u8 n fun _ => 0) e))) : freeOp P ops Q o r a w := by
  unfold freeOp
  rw [if_pos hg]
  unfold Oper.wp
  rw [run_op_make hT hn ho hx hy]
  exact ⟨(Below.refl _ _).alloc (Nat.le_refl _) _, _, rfl, h⟩
theorem free_assign {ops : Array Oper} {Q : Exit → Act → World → Prop} {o : Oper} {r : Fact} {a : Act} {x : Operand} (hg : Region.wanted o (yielded ops a.tmps) = true) (ho : o.op = .assign x) (h : r (a.eval x) w) : freeOp P ops Q o r a w :=
  free_v hg (by unfold execOp; rw [ho]; rfl) h
theorem free_call {ops : Array Oper} {Q : Exit → Act → World → Prop} {o : Oper} {r : Fact} {a : Act} (hg : Region.wanted o (yielded ops a.tmps) = true) (h : ∀ K : Act → World → Prop, (∀ v w', Below w.heap.size w w' → r v w' → K (a.put o.dst v) w') → o.wp P a w K Q) : freeOp P ops Q o r a w := free_e hg h
end

section
variable {P : Program} {w : World} {o : Oper} {a : Act} {N : Nat}
/-- A byte is read. -/
theorem run_load_u8 {t : TypeId} {x : Operand} {ad : Addr} {v : Value} (ho : o.op = .load t x) (hu : P.underlying t = some (.int .u8)) (hx : a.eval x = .pointer (some ad)) (hc : w.cell? ad = some v) : (execOp a.eval o).run P w = .ok (.value v) w := by
  unfold execOp
  rw [ho]
  simp [hx, Instr.loadAt, Instr.sureAddr, loadVar, isAgg, run_underlying hu, hc]
theorem Framed.loadC {t : TypeId} {x : Operand} {ad : Addr} {v : Value} (ho : o.op = .load t x) (hu : P.underlying t = some (.int .u8)) (hx : a.eval x = .pointer (some ad)) (hb : ad.block < N) (hc : w.cell? ad = some v) : Framed P N o a w := by
  intro u hv w' hk
  rw [run_load_u8 ho hu hx hc] at hv
  have hc' : w'.cell? ad = some v := by
    rw [← hc]
    unfold World.cell?
    rw [hk _ hb]
  rw [run_load_u8 ho hu hx hc']
  injection hv with h1 h2
  rw [h1]
/-- Bytes are added to a row of the call's own: one step of an order. -/
theorem oper_append_txt {Q : Exit → Act → World → Prop} {K : Act → World → Prop} {t e : TypeId} {s x : Operand} (ho : o.op = .call { callee := .builtin .append, args := #[s, x], argTypes := #[t, t] })
    (hT : ByteT P t e) {base B : Nat} {v : Value} {l m : List Nat} {A : Option Addr} {n c : Nat} (hs : a.eval s = v) (hx : a.eval x = .slice A n c) (hown : Own w base e v l) (hr : Txt w B A n c m) (hlen : l.length + n ≤ 140737488355328) (hbase : base ≤ w.heap.size)
    (h : ∀ v' w', Own w' base e v' (l ++ m) → w.grownBy w' v.ownBlock → (v'.ownBlock = v.ownBlock ∨ v'.ownBlock = some w.heap.size) → K (a.put o.dst v') w') : o.wp P a w K Q := by
  obtain ⟨v', w', hrun, h2, h3, h4⟩ := run_append_txt (P := P) (ty := o.type) hT hown hr hlen hbase
  unfold Oper.wp execOp
  simp only [ho, resolve, invoke, builtin, Sem.run_bind, Sem.run_pure, Result.andThen_ok, List.map_toArray, List.map_cons, List.map_nil, hs, hx, hrun]
  exact h v' w' h2 h3 h4
end

/-- .. where the operation is guarded. -/
theorem wpList_append_g {ops : Array Oper} {rest : List Oper} {o : Oper} {a : Act} {w : World} {P : Program} {Q : Exit → Act → World → Prop} {t e : TypeId} {s x : Operand} (hgd : Region.wanted o (yielded ops a.tmps) = true) (ho : o.op = .call { callee := .builtin .append, args := #[s, x], argTypes := #[t, t] })
    (hT : ByteT P t e) {base B : Nat} {v : Value} {l m : List Nat} {A : Option Addr} {n c : Nat} (hs : a.eval s = v) (hx : a.eval x = .slice A n c) (hown : Own w base e v l) (hr : Txt w B A n c m) (hlen : l.length + n ≤ 140737488355328) (hbase : base ≤ w.heap.size)
    (h : ∀ v' w', Own w' base e v' (l ++ m) → w.grownBy w' v.ownBlock → (v'.ownBlock = v.ownBlock ∨ v'.ownBlock = some w.heap.size) → wpList P ops Q rest (a.put o.dst v') w') : wpList P ops Q (o :: rest) a w := by
  refine wpList_step fun K hK => ?_
  rw [if_pos hgd]
  exact oper_append_txt ho hT hs hx hown hr hlen hbase fun v' w' h1 h2 h3 => hK _ _ (h v' w' h1 h2 h3)
theorem wpList_valg {ops : Array Oper} {rest : List Oper} {o : Oper} {a : Act} {w : World} {P : Program} {Q : Exit → Act → World → Prop} {v : Value} (hgd : Region.wanted o (yielded ops a.tmps) = true) (hr : (execOp a.eval o).run P w = .ok (.value v) w) (h : wpList P ops Q rest (a.put o.dst v) w) : wpList P ops Q (o :: rest) a w := by
  refine wpList_step fun K hK => ?_
  rw [if_pos hgd]
  unfold Oper.wp
  rw [hr]
  exact hK _ _ h
/-- Bytes of a call's own, whatever they are. -/
def RowB (w : World) (B : Nat) (A : Option Addr) (n : Nat) (e : TypeId) : Prop := 0 < n → ∃ g cur, A = some ⟨g, 0, none⟩ ∧ B ≤ g ∧ w.heap[g]? = some (.cells cur e (0, 0)) ∧ ∀ i, i < n → ∃ z : Int, cur[i]? = some (.int .u8 z) ∧ 0 ≤ z ∧ z < 256
theorem rowB_own {w : World} {B n c : Nat} {A : Option Addr} {e : TypeId} {l : List Nat} (h : Own w B e (.slice A n c) l) (hn : l.length = n) (hl : ∀ x ∈ l, x < 256) : RowB w B A n e := by
  intro h0
  rcases h.2 with ⟨he, h1⟩ | ⟨g, cap, cur, he, h3, hh, h4, h5, h6, h7⟩
  · injection he with _ he _
    omega
  · injection he with he1 he2 he3
    refine ⟨g, cur, he1, h3, hh, fun i hi => ⟨((l.getD i 0 : Nat) : Int), ?_, by omega, ?_⟩⟩
    · have hi' : i < l.length := by omega
      have h8 : (cur.toList.take (l.length * 1))[i]? = (l.map bv)[i]? := by rw [h7]
      rw [List.getElem?_take_of_lt (by omega), Array.getElem?_toList, List.getElem?_map, List.getElem?_eq_getElem hi'] at h8
      rw [h8, List.getD_eq_getElem?_getD, List.getElem?_eq_getElem hi']
      rfl
    · have hi' : i < l.length := by omega
      have := hl _ (List.getElem_mem hi')
      rw [List.getD_eq_getElem?_getD, List.getElem?_eq_getElem hi']
      simp only [Option.getD_some]
      omega
theorem RowB.step {w : World} {B n i : Nat} {A : Option Addr} {e : TypeId} (h : RowB w B A n e) (hi : i < n) : ∃ (g : Nat) (z : Int), A = some ⟨g, 0, none⟩ ∧ B ≤ g ∧ w.cell? ⟨g, i, none⟩ = some (.int .u8 z) ∧ w.frozen? ⟨g, i, none⟩ = false ∧ 0 ≤ z ∧ z < 256 ∧
    ∀ v : Int, 0 ≤ v → v < 256 → RowB (w.setCell ⟨g, i, none⟩ (.int .u8 v)) B A n e := by
  obtain ⟨g, cur, rfl, hg, hh, hc⟩ := h (by omega)
  obtain ⟨z, hz, h0, h1⟩ := hc i hi
  refine ⟨g, z, rfl, hg, by rw [cell_of_row _ _ _ _ _ _ hh]; exact hz, frozen_of_row w g i _ e hh, h0, h1, fun v hv0 hv1 _ => ⟨g, cur.setIfInBounds i (.int .u8 v), rfl, hg, ?_, fun j hj => ?_⟩⟩
  · rw [setCell_eq_setRow w g i cur e (0, 0) (.int .u8 v) hh]
    exact setRow_heap w g cur _ e (0, 0) hh
  · by_cases hji : i = j
    · subst hji
      have hs : i < cur.size := by
        rcases Nat.lt_or_ge i cur.size with h | h
        · exact h
        · rw [Array.getElem?_eq_none h] at hz; cases hz
      exact ⟨v, by simp [hs], hv0, hv1⟩
    · obtain ⟨y, hy, h2, h3⟩ := hc j hj
      exact ⟨y, by rw [Array.getElem?_setIfInBounds_ne hji]; exact hy, h2, h3⟩

/-! ### Streams -/
/-- The block that is encrypted for one counter. -/
def inI (m : Nat → Int) (t : Nat) (i : Nat) : Int := if i < 12 then m i else ((t / 2 ^ (8 * (15 - i)) % 256 : Nat) : Int)
def ctrI (k m : Nat → Int) (F : Nat) (l : List Nat) (x : Nat) : Int := bits .xor .u8 ((l.getD x 0 : Nat) : Int) (encI k (inI m (F + x / 16)) (x % 16))
def ctrL (k m : Nat → Int) (F : Nat) (l : List Nat) : List Nat := (List.range l.length).map fun x => (ctrI k m F l x).toNat
theorem inI_byte (m : Nat → Int) (hm : ∀ i, i < 12 → 0 ≤ m i ∧ m i < 256) (t i : Nat) : 0 ≤ inI m t i ∧ inI m t i < 256 := by
  unfold inI
  split
  · exact hm i ‹_›
  · have : t / 2 ^ (8 * (15 - i)) % 256 < 256 := Nat.mod_lt _ (by omega)
    omega
theorem inI_upd (q m : Nat → Int) (t : Nat) (T : Int) (hT : T = t) (ht : t < 4294967296) (hq : ∀ x, x < 12 → q x = m x) (i : Nat) (hi : i < 16) : upd (upd (upd (upd q 12 (T / 16777216)) 13 (T / 65536 % 256)) 14 (T / 256 % 256)) 15 (T % 256) i = inI m t i := by
  subst hT
  unfold upd inI
  by_cases h1 : i < 12
  · rw [if_pos h1, if_neg (by omega), if_neg (by omega), if_neg (by omega), if_neg (by omega), hq i h1]
  · rw [if_neg h1]
    obtain rfl | rfl | rfl | rfl : i = 12 ∨ i = 13 ∨ i = 14 ∨ i = 15 := by omega
    all_goals simp
    all_goals omega
theorem fill_grow (g : Nat → Int) (y : Nat) (v : Int) (i : Nat) (hv : v = g y) : upd (fun x => if x < y then g x else 0) y v i = if i < y + 1 then g i else 0 := by
  subst hv
  unfold upd
  by_cases h1 : i = y
  · subst h1; rw [if_pos rfl, if_pos (Nat.lt_succ_self _)]
  · rw [if_neg h1]
    by_cases h2 : i < y
    · simp only [if_pos h2, if_pos (show i < y + 1 by omega)]
    · simp only [if_neg h2, if_neg (show ¬ i < y + 1 by omega)]
theorem ctrI_byte (k m : Nat → Int) (F : Nat) (l : List Nat) (x : Nat) : 0 ≤ ctrI k m F l x ∧ ctrI k m F l x < 256 := bits_u8 _ _ _
theorem ctrL_len (k m : Nat → Int) (F : Nat) (l : List Nat) : (ctrL k m F l).length = l.length := by unfold ctrL; simp
theorem ctrL_at (k m : Nat → Int) (F : Nat) (l : List Nat) (x : Nat) (hx : x < l.length) : (((ctrL k m F l).getD x 0 : Nat) : Int) = ctrI k m F l x := by
  unfold ctrL
  rw [List.getD_eq_getElem?_getD, List.getElem?_map, List.getElem?_range hx]
  simp only [Option.map_some, Option.getD_some]
  exact Int.toNat_of_nonneg (ctrI_byte k m F l x).1
theorem ctrL_lt (k m : Nat → Int) (F : Nat) (l : List Nat) : ∀ x ∈ ctrL k m F l, x < 256 := fun x hx => by
  unfold ctrL at hx
  obtain ⟨i, _, rfl⟩ := List.mem_map.1 hx
  have := ctrI_byte k m F l i
  omega
theorem RTNonce : RowT Try.prog 34 12 := ⟨_, Try.underlying34, rfl, by kernel_rfl⟩
/-- A text, and that there was no fault. -/
def RetYes (w : World) (l : List Nat) (e : Ending) (w' : World) : Prop := ∃ v, e = .returned (.tuple #[v, .int .i64 0]) ∧ Own w' w.heap.size 5 v l ∧ Below w.heap.size w w'
end Go.Proofs.Ytnckddjlpmkkgaa
