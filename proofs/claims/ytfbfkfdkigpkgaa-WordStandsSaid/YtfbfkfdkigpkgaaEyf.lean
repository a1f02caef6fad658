/- The walks of layer 16's eye: keys, texts, proposals. -/
import Derived.Test.YtfbfkfdkigpkgaaEye
import Derived.Test.YtfbfkfdkigpkgaaBad
namespace Go.Proofs.Ytfbfkfdkigpkgaa
set_option linter.unusedSimpArgs false
set_option linter.unusedVariables false
open Go.RowKit
attribute [local irreducible] beL beK

section
variable {P : Program} {w : World} {o : Oper} {a : Act} {ops : Array Oper} {rest : List Oper} {Q : Exit → Act → World → Prop}
/-- copy: a text into a local row of zeros. -/
theorem run_copy_txt {dT sT ty e : TypeId} {g N n c dc t B : Nat} {A : Option Addr} {l : List Nat} (hu : P.underlying dT = some (.slice e)) (hs : (P.info? e).map (·.size) = some 1) (hg : w.heap[g]? = some (.cells (arr .u8 N fun _ => 0) t (0, 0))) (ht : Txt w B A n c l) (hn : n = 0 ∨ n = N) :
    ∃ w', (Builtin.copy_ #[dT, sT] ty #[.slice (some ⟨g, 0, none⟩) N dc, .slice A n c]).run P w = .ok (goInt n) w' ∧ w'.heap[g]? = some (.cells (arr .u8 N fun i => ((l.getD i 0 : Nat) : Int)) t (0, 0)) ∧ But g w w' := by
  by_cases h0 : n = 0
  · subst h0
    obtain rfl : l = [] := List.eq_nil_of_length_eq_zero ht.len
    refine ⟨w, run_copy_none (P := P) w dT sT ty e _ A N dc 0 c hu hs (Nat.zero_min N), ?_, But.refl _ _⟩
    rw [hg]
    rfl
  · obtain rfl : n = N := hn.resolve_left h0
    obtain ⟨ad, rfl, hb, hc⟩ := ht.at_ (by omega)
    have hl := ht.len
    have hr := run_copy_row P w dT sT ty e g 0 n dc ad n c (arr .u8 n fun _ => 0) t (l.map bv) hu hs hg (by simp [hl])
      (fun j v hv => by
        rw [List.getElem?_map] at hv
        cases hx : l[j]? with
        | none => rw [hx] at hv; cases hv
        | some x =>
          rw [hx] at hv
          simp only [Option.map_some, Option.some.injEq] at hv
          rw [← hv]
          exact hc j x hx)
      (by simp [arr_size, hl]) (fun v hv => by obtain ⟨x, _, rfl⟩ := List.mem_map.1 hv; rfl)
    have e1 : ((arr .u8 n fun _ => 0).toList.take 0 ++ l.map bv ++ (arr .u8 n fun _ => 0).toList.drop (0 + (l.map bv).length)).toArray = arr .u8 n fun i => ((l.getD i 0 : Nat) : Int) := by
      have : (arr .u8 n fun _ => (0 : Int)).toList.drop (0 + (l.map bv).length) = [] := List.drop_eq_nil_of_le (by simp [arr_size, hl])
      rw [this, List.take_zero, List.nil_append, List.append_nil]
      refine Array.ext (by simp [arr_size, hl]) fun i h1 h2 => ?_
      have hi : i < n := by simpa [hl] using h1
      have h3 := arr_get .u8 n (fun i => ((l.getD i 0 : Nat) : Int)) i hi
      rw [Array.getElem?_eq_getElem h2] at h3
      injection h3 with h3
      rw [h3]
      simp only [List.getElem_toArray, List.getElem_map]
      unfold bv
      rw [List.getD_eq_getElem?_getD, List.getElem?_eq_getElem (by omega)]
      rfl
    rw [e1, List.length_map, hl] at hr
    refine ⟨_, hr, row_self hg, ?_⟩
    have hb := row_below (Below.refl 0 w) (Nat.zero_le g) (arr .u8 n fun i => ((l.getD i 0 : Nat) : Int))
    exact ⟨hb.os, hb.tape, hb.output, hb.size, fun k _ hk => setRow_other _ _ _ _ hk⟩
theorem wpList_copy_txt {x y : Operand} {dT sT e : TypeId} {g N n c dc t B : Nat} {A : Option Addr} {l : List Nat} (hgd : o.guard = none) (ho : o.op = .call { callee := .builtin .copy, args := #[x, y], argTypes := #[dT, sT] })
    (hx : a.eval x = .slice (some ⟨g, 0, none⟩) N dc) (hy : a.eval y = .slice A n c) (hu : P.underlying dT = some (.slice e)) (hs : (P.info? e).map (·.size) = some 1) (hg : w.heap[g]? = some (.cells (arr .u8 N fun _ => 0) t (0, 0))) (ht : Txt w B A n c l) (hn : n = 0 ∨ n = N)
    (h : ∀ w', w'.heap[g]? = some (.cells (arr .u8 N fun i => ((l.getD i 0 : Nat) : Int)) t (0, 0)) → But g w w' → wpList P ops Q rest (a.put o.dst (.int .i64 n)) w') : wpList P ops Q (o :: rest) a w := by
  obtain ⟨w', hr, h1, h2⟩ := run_copy_txt (P := P) (ty := o.type) (sT := sT) (dc := dc) hu hs hg ht hn
  refine wpList_val' hgd ?_ (h w' h1 h2)
  unfold execOp
  simp only [ho]
  have e3 : (resolve a.eval { callee := .builtin .copy, args := #[x, y], argTypes := #[dT, sT] } o.type) = pure { target := .builtin .copy #[dT, sT] o.type (#[x, y].map fun | .const _ => true | _ => false), args := #[a.eval x, a.eval y] } := by
    simp [resolve]; rfl
  rw [e3, hx, hy]
  simp only [Sem.run_bind, Sem.run_pure, Result.andThen_ok, invoke, builtin, hr]
  rfl
/-- A new local variable of a struct's type. -/
theorem wpList_alloc_v {ty n : Nat} {z : Nat → Value} (hgd : o.guard = none) (ho : o.op = .alloc ty) (hz : ZeroV P ty n (arrV n z))
    (h : wpList P ops Q rest (a.put o.dst (.pointer (some ⟨w.heap.size, 0, none⟩))) (w.alloc (.cells (arrV n z) ty))) : wpList P ops Q (o :: rest) a w := by
  obtain ⟨hz, _⟩ := hz
  refine wpList_val' hgd ?_ h
  cases hq : P.info? ty with
  | none => simp [hq] at hz
  | some i =>
    have hs : i.zero = some (.agg (arrV n z)) := by simpa [hq] using hz
    unfold execOp
    simp [ho, Instr.alloc, zeroValue, typeInfo, hq, hs, newVar, newRow, newObj, Value.cells, Sem.run_bind]
    rfl
/-- A struct into a whole block. -/
theorem wpList_store_v {ty n t g : Nat} {x y : Operand} {f f' : Nat → Value} (hgd : o.guard = none) (ho : o.op = .store ty x y) (hT : RowT P ty n) (hx : a.eval x = .pointer (some ⟨g, 0, none⟩)) (hy : a.eval y = .agg (arrV n f')) (hg : w.heap[g]? = some (.cells (arrV n f) t (0, 0))) (h1 : ∀ i, i < n → (f' i).oneCell' = true)
    (h : wpList P ops Q rest (a.put o.dst undef) (w.setRow g (arrV n f'))) : wpList P ops Q (o :: rest) a w := wpList_skip hgd (run_op_store ho hx hy (run_storeVar_new hT (arrV_size n f) hg h1)) h
theorem results_v {fn : Func} {p : Tmp} {ty : TypeId} {n t g : Nat} {f : Nat → Value} {fr : Nat × Nat} (h : fn.results = #[.cell p ty]) {tmps : Array Value} (hp : tmps.getD p undef = .pointer (some ⟨g, 0, none⟩))
    (hT : RowT P ty n) (hg : w.heap[g]? = some (.cells (arrV n f) t fr)) : (results fn tmps).run P w = .ok (.agg (arrV n f)) w := by
  have hp' : tmps[p]?.getD undef = .pointer (some ⟨g, 0, none⟩) := by simpa using hp
  have h2 := run_loadVar_arrV hT hg (show 0 + n ≤ n by omega)
  simp only [Nat.zero_add] at h2
  simp [results, h, hp', asAddr, h2]
end
section
variable {w w' w'' : World} {B g q : Nat} {s : Rs}
theorem But.setNew (h : But g w w') (hq : w.heap.size ≤ q) (i : Nat) (v : Value) : But g w (w'.setCell ⟨q, i, none⟩ v) :=
  have k := (Below.refl 0 w').setCell (p := ⟨q, i, none⟩) (Nat.zero_le _) v
  ⟨k.os.trans h.os, k.tape.trans h.tape, k.output.trans h.output, Nat.le_trans h.size k.size, fun b hb hg => (heap_setCell_other _ _ _ _ (show b ≠ q by omega)).trans (h.block b hb hg)⟩
theorem But.newRow {cs : Array Value} (h : But g w w') (hq : w.heap.size ≤ q) : But g w (w'.setRow q cs) :=
  have k := row_below (Below.refl 0 w') (Nat.zero_le q) cs
  ⟨k.os.trans h.os, k.tape.trans h.tape, k.output.trans h.output, Nat.le_trans h.size k.size, fun b hb hg => (setRow_other _ _ _ _ (show b ≠ q by omega)).trans (h.block b hb hg)⟩
theorem But.row1 (cs : Array Value) : But q w (w.setRow q cs) :=
  have k := row_below (Below.refl 0 w) (Nat.zero_le q) cs
  ⟨k.os, k.tape, k.output, k.size, fun b _ hb => setRow_other _ _ _ _ hb⟩
theorem But.new (h : But g w w') (k : But q w' w'') (hq : w.heap.size ≤ q) : But g w w'' :=
  ⟨k.os.trans h.os, k.tape.trans h.tape, k.output.trans h.output, Nat.le_trans h.size k.size, fun b hb hg => (k.block b (Nat.lt_of_lt_of_le hb h.size) (by omega)).trans (h.block b hb hg)⟩
theorem Eye.setAt (h : Eye w B g s) (hq : q ≠ g) (hB : B ≤ q) (i : Nat) (v : Value) : Eye (w.setCell ⟨q, i, none⟩ v) B g s := by
  obtain ⟨A, n, c, k⟩ := h
  exact ⟨A, n, c, (heap_setCell_other _ _ _ _ (show g ≠ q from fun e => hq e.symm)).trans k.row, k.low, k.txt.keep fun p hp => ((Below.refl B w).setCell (p := ⟨q, i, none⟩) hB _).cell hp, k.cap, k.len, k.byt⟩
theorem Eye.butAt (h : Eye w B g s) (k : But q w w') (hq : q ≠ g) (hB : B ≤ q) : Eye w' B g s := by
  obtain ⟨A, n, c, e⟩ := h
  have hl := lt_of_block e.row
  have hlo := e.low
  exact ⟨A, n, c, (k.block g hl (fun e => hq e.symm)).trans e.row, hlo, e.txt.keep fun p hp => (k.below (B := B) hB (by omega)).cell hp, e.cap, e.len, e.byt⟩
theorem Eye.low (h : Eye w B g s) : B ≤ g := let ⟨_, _, _, k⟩ := h; k.low
theorem Eye.setOther (h : Eye w B g s) (hq : g < q) (i : Nat) (v : Value) : Eye (w.setCell ⟨q, i, none⟩ v) B g s := h.setAt (by omega) (by have := h.low; omega) i v
theorem Eye.but (h : Eye w B g s) (k : But q w w') (hq : g < q) : Eye w' B g s := h.butAt k (by omega) (by have := h.low; omega)
theorem set_arrV {N t i : Nat} {f : Nat → Value} (h : w.heap[q]? = some (.cells (arrV N f) t (0, 0))) (v : Value) : (w.setCell ⟨q, i, none⟩ v).heap[q]? = some (.cells (arrV N (upd f i v)) t (0, 0)) := by
  rw [heap_setCell_same w q i _ _ _ h, arrV_set]
end
theorem eyeNum1 {B g v : Nat} {s s' : Rs} {w : World} (h : Eye w B g s) (hE : numP 1 s = (v, s')) :
    Calls Try.prog 65 #[.pointer (some ⟨g, 0, none⟩), .int .i64 1] w fun e w' => e = .returned (.int .u64 (v : Int)) ∧ Eye w' B g s' ∧ But g w w' := by
  have := eyeNum 1 (by omega) (by omega) g s w h
  rw [hE] at this
  exact this
theorem Eye.lt1 {w : World} {B g v : Nat} {s s' : Rs} (h : Eye w B g s) (hE : numP 1 s = (v, s')) : v < 256 := by
  obtain ⟨_, _, _, k⟩ := h
  have := numP_lt (k := 1) k.byt
  rw [hE] at this
  exact this
theorem eyeNum2 {B g v : Nat} {s s' : Rs} {w : World} (h : Eye w B g s) (hE : numP 2 s = (v, s')) :
    Calls Try.prog 65 #[.pointer (some ⟨g, 0, none⟩), .int .i64 2] w fun e w' => e = .returned (.int .u64 (v : Int)) ∧ Eye w' B g s' ∧ But g w w' := by
  have := eyeNum 2 (by omega) (by omega) g s w h
  rw [hE] at this
  exact this
theorem Eye.lt2 {w : World} {B g v : Nat} {s s' : Rs} (h : Eye w B g s) (hE : numP 2 s = (v, s')) : v < 65536 := by
  obtain ⟨_, _, _, k⟩ := h
  have := numP_lt (k := 2) k.byt
  rw [hE] at this
  exact this
theorem eyeNum4 {B g v : Nat} {s s' : Rs} {w : World} (h : Eye w B g s) (hE : numP 4 s = (v, s')) :
    Calls Try.prog 65 #[.pointer (some ⟨g, 0, none⟩), .int .i64 4] w fun e w' => e = .returned (.int .u64 (v : Int)) ∧ Eye w' B g s' ∧ But g w w' := by
  have := eyeNum 4 (by omega) (by omega) g s w h
  rw [hE] at this
  exact this
theorem Eye.lt4 {w : World} {B g v : Nat} {s s' : Rs} (h : Eye w B g s) (hE : numP 4 s = (v, s')) : v < 4294967296 := by
  obtain ⟨_, _, _, k⟩ := h
  have := numP_lt (k := 4) k.byt
  rw [hE] at this
  exact this
theorem eyeNum8 {B g v : Nat} {s s' : Rs} {w : World} (h : Eye w B g s) (hE : numP 8 s = (v, s')) :
    Calls Try.prog 65 #[.pointer (some ⟨g, 0, none⟩), .int .i64 8] w fun e w' => e = .returned (.int .u64 (v : Int)) ∧ Eye w' B g s' ∧ But g w w' := by
  have := eyeNum 8 (by omega) (by omega) g s w h
  rw [hE] at this
  exact this
theorem Eye.lt8 {w : World} {B g v : Nat} {s s' : Rs} (h : Eye w B g s) (hE : numP 8 s = (v, s')) : v < 18446744073709551616 := by
  obtain ⟨_, _, _, k⟩ := h
  have := numP_lt (k := 8) k.byt
  rw [hE] at this
  exact this
theorem eyeCut32 {B : Nat} (g : Nat) (s : Rs) (w : World) (h : Eye w B g s) :
    Calls Try.prog 76 #[.pointer (some ⟨g, 0, none⟩), .int .u64 32] w (CutPost B g w (cutP 32 s)) := eyeCut 32 (by omega) g s w h
theorem cutP_len (n : Nat) (s : Rs) : (cutP n s).1.length = 0 ∨ (cutP n s).1.length = n := by
  unfold cutP
  split
  · exact .inl rfl
  · exact .inr (by rw [List.length_take]; omega)
set_option maxRecDepth 100000 in
set_option maxHeartbeats 2000000 in
theorem eyeKey {B : Nat} (g : Nat) (s : Rs) (w : World) (h : Eye w B g s) :
    Calls Try.prog 68 #[.pointer (some ⟨g, 0, none⟩)] w fun e w' => e = .returned (.agg (arr .u8 32 fun i => (((keyP s).1 i : Nat) : Int))) ∧ Eye w' B g (keyP s).2 ∧ But g w w' := by
  have hgl := h.lt
  go_enter Try.func68, Try.ntmps68
  go_upto_region 1 with (refine wpList_alloc_arr rfl rfl ZTKey ?_)
  have hq := heap_alloc_new w (.cells (arr .u8 32 fun _ => 0) 37)
  have he := h.after ((Below.refl _ _).alloc (Nat.le_refl _) (.cells (arr .u8 32 fun _ => 0) 37))
  have hb : But g w _ := (But.refl g w).alloc (.cells (arr .u8 32 fun _ => 0) 37)
  have hsz : (w.alloc (.cells (arr .u8 32 fun _ => 0) 37)).heap.size = w.heap.size + 1 := by simp
  clear h
  refine wp_cut (fun x => x.heap[w.heap.size]? = some (.cells (arr .u8 32 fun _ => 0) 37 (0, 0)) ∧ Eye x B g s ∧ But g w x ∧ x.heap.size = w.heap.size + 1) ⟨hq, he, hb, hsz⟩ ?_
  clear hq he hb hsz
  rintro wr ⟨hq, he, hb, hsz⟩
  (try simp only [Act.put, List.setIfInBounds_toArray, List.set_cons_zero, List.set_cons_succ])
  refine wp_region_can g 3 [(0, false), (1, false), (2, true)] (by kernel_rfl) (by kernel_rfl) ?_
  (simp only [canOps, List.getElem?_cons_zero, List.getElem?_cons_succ, List.drop_succ_cons, List.drop_zero])
  iterate 2 (first | (refine wpCan_move rfl rfl (fun _ _ _ _ h => h) ?_; (simp only [Act.put, Act.eval, Array.getD_eq_getD_getElem?, List.getElem?_toArray, List.getElem?_cons_zero, List.getElem?_cons_succ, Option.getD_some, List.setIfInBounds_toArray, List.set_cons_zero, List.set_cons_succ])) | (refine wpCan_assign rfl rfl (fun _ _ _ _ h => h) ?_; (simp only [Act.put, Act.eval, Array.getD_eq_getD_getElem?, List.getElem?_toArray, List.getElem?_cons_zero, List.getElem?_cons_succ, Option.getD_some, List.setIfInBounds_toArray, List.set_cons_zero, List.set_cons_succ])) | (refine wpCan_nilCheck rfl rfl rfl (fun _ _ _ _ h => h) ?_; (simp only [Act.put, List.setIfInBounds_toArray, List.set_cons_zero, List.set_cons_succ])) | (refine wpCan_q rfl rfl (fun _ _ _ _ h => h) (by first | exact .bin rfl rfl rfl | exact .indexAddr rfl | exact .un rfl | exact .extract rfl | exact .index rfl | exact .field rfl | exact .slice rfl) (fun K hK => ?_); go_simp; (try (simp only [↓IntWalk.iteOmega]; go_simp)); (try go_bits); refine hK _ ?_; clear hK K))
  refine wpCan_e rfl (fun K hK => ?_)
  go_simp
  refine (eyeCut32 g s _ (he.after (Below.refl _ _).drew)).mono ?_
  rintro e w2 ⟨A, c, rfl, ho, he2, hb2⟩
  refine hK _ _ (Keep.of_below (B := g) (hb2.below (Nat.le_refl _) (by show g ≤ wr.heap.size; omega)) (Nat.le_refl _)) ?_
  clear hK K
  (try simp only [Act.put, List.setIfInBounds_toArray, List.set_cons_zero, List.set_cons_succ])
  refine wpCan_nil ?_
  have hq2 := hb2.keep (show wr.drew.heap[w.heap.size]? = _ from hq) (by omega)
  have hb3 := (hb.trans (But.of_below ((Below.refl _ _).drew))).trans hb2
  clear hq hb hb2
  go_wp2_with (first | (refine wpList_copy_txt rfl rfl rfl rfl Try.underlying22 (by kernel_rfl) hq2 ho.text (cutP_len 32 s) ?_; intro w3 hq3 hb4) | (refine wpList_load_arr rfl rfl rfl RTKey hq3 ?_) | (refine wpList_store_arr rfl rfl rfl rfl RTKey hq3 ?_))
  refine bodyPost_ret (results_arr rfl rfl RTKey (row_self hq3)) rfl ⟨rfl, ?_, ?_⟩
  · exact (he2.but hb4 hgl).but (But.row1 _) hgl
  · exact (hb3.new hb4 (Nat.le_refl _)).newRow (Nat.le_refl _)
theorem eyeKeyE {B : Nat} {g : Nat} {k : Nat → Nat} {s s' : Rs} {w : World} (h : Eye w B g s) (hE : keyP s = (k, s')) :
    Calls Try.prog 68 #[.pointer (some ⟨g, 0, none⟩)] w fun e w' => e = .returned (.agg (arr .u8 32 fun i => ((k i : Nat) : Int))) ∧ Eye w' B g s' ∧ But g w w' := by
  have := eyeKey g s w h
  rw [hE] at this
  exact this
theorem pair_of {α β : Type} (p : α × β) : ∃ a b, p = (a, b) := ⟨p.1, p.2, rfl⟩
theorem propP_is {s s1 s2 s3 : Rs} {kd id : Nat} {k : Nat → Nat} (h1 : numP 1 s = (kd, s1)) (h2 : numP 4 s1 = (id, s2)) (h3 : keyP s2 = (k, s3)) : propP s = (⟨kd, id, k⟩, s3) := by
  unfold propP
  simp only [h1, h2, h3]
def propF (p : PProp) (j : Nat) : Value := propV (p.kind : Int) (p.id : Int) p.pt j
theorem propF_one (p : PProp) (j : Nat) : (propF p j).oneCell' = true := propV_one _ _ _ _
theorem ZVProp0 : ZeroV Try.prog 75 34 (arrV 34 (propV 0 0 fun _ => 0)) := ⟨by kernel_rfl, by rw [arrV_size]⟩
set_option maxRecDepth 100000 in
set_option maxHeartbeats 2000000 in
theorem eyeProp {B : Nat} (g : Nat) (s : Rs) (w : World) (h : Eye w B g s) :
    Calls Try.prog 67 #[.pointer (some ⟨g, 0, none⟩)] w fun e w' => e = .returned (.agg (arrV 34 (propF (propP s).1))) ∧ Eye w' B g (propP s).2 ∧ But g w w' := by
  obtain ⟨kd, s1, E1⟩ := pair_of (numP 1 s)
  obtain ⟨id, s2, E2⟩ := pair_of (numP 4 s1)
  obtain ⟨k, s3, E3⟩ := pair_of (keyP s2)
  rw [propP_is E1 E2 E3]
  have hgl := h.lt
  go_enter Try.func67, Try.ntmps67
  go_upto_region 1 with (refine wpList_alloc_v rfl rfl ZVProp0 ?_)
  have hq := heap_alloc_new w (.cells (arrV 34 (propV 0 0 fun _ => 0)) 75)
  have he := h.after ((Below.refl _ _).alloc (Nat.le_refl _) (.cells (arrV 34 (propV 0 0 fun _ => 0)) 75))
  have hb : But g w _ := (But.refl g w).alloc (.cells (arrV 34 (propV 0 0 fun _ => 0)) 75)
  clear h
  refine wp_cut (fun x => x.heap[w.heap.size]? = some (.cells (arrV 34 (propV 0 0 fun _ => 0)) 75 (0, 0)) ∧ Eye x B g s ∧ But g w x) ⟨hq, he, hb⟩ ?_
  clear hq he hb
  rintro w1 ⟨hq, he, hb⟩
  (try simp only [Act.put, List.setIfInBounds_toArray, List.set_cons_zero, List.set_cons_succ])
  go_upto_region 2 with (go_at_call 65; have lt := he.lt1 E1; (with_reducible refine (eyeNum1 he E1).mono ?_); rintro e w2 ⟨rfl, he2, hb2⟩; have hq2 := hb2.keep hq (by omega); have c2 := cell_arrV hq2 0 (by omega); have f2 := frozen_of_row w2 w.heap.size 0 _ _ hq2)
  replace he := he2.setOther hgl 0 (.int .i64 (kd : Int))
  replace hb := (hb.trans hb2).setNew (Nat.le_refl _) 0 (.int .i64 (kd : Int))
  replace hq := set_arrV (i := 0) hq2 (.int .i64 (kd : Int))
  clear hq2 c2 f2 he2 hb2
  generalize w2.setCell ⟨w.heap.size, 0, none⟩ (.int .i64 (kd : Int)) = w3 at *
  clear w2
  (try simp only [Act.put, List.setIfInBounds_toArray, List.set_cons_zero, List.set_cons_succ])
  go_upto_region 3 with (go_at_call 65; have lt2 := he.lt4 E2; (with_reducible refine (eyeNum4 he E2).mono ?_); rintro e w2 ⟨rfl, he2, hb2⟩; have hq2 := hb2.keep hq (by omega); have c2 := cell_arrV hq2 1 (by omega); have f2 := frozen_of_row w2 w.heap.size 1 _ _ hq2)
  replace he := he2.setOther hgl 1 (.int .i64 (id : Int))
  replace hb := (hb.trans hb2).setNew (Nat.le_refl _) 1 (.int .i64 (id : Int))
  replace hq := set_arrV (i := 1) hq2 (.int .i64 (id : Int))
  clear hq2 c2 f2 he2 hb2
  generalize w2.setCell ⟨w.heap.size, 1, none⟩ (.int .i64 (id : Int)) = w4 at *
  clear w2
  (try simp only [Act.put, List.setIfInBounds_toArray, List.set_cons_zero, List.set_cons_succ])
  go_upto_region 4 with (first | (go_at_call 68; (with_reducible refine (eyeKeyE he E3).mono ?_); rintro e w2 ⟨rfl, he2, hb2⟩; have hq2 := hb2.keep hq (by omega)) | (refine wpList_store_part (f' := fun i => ((k i : Nat) : Int)) rfl rfl RTKey rfl rfl hq2 (by omega) ?_))
  rw [show (arrV 34 (patch (upd (upd (propV 0 0 fun _ => 0) 0 (.int .i64 (kd : Int))) 1 (.int .i64 (id : Int))) 2 32 fun i => .int .u8 ((k i : Nat) : Int))) = arrV 34 (propF ⟨kd, id, k⟩) from arrV_ext fun i hi => by
    unfold patch upd propF propV
    by_cases h0 : i = 0
    · subst h0; rfl
    · by_cases h1 : i = 1
      · subst h1; rfl
      · rw [if_pos (by omega), if_neg h0, if_neg h1]]
  have hq5 := row_self (c' := arrV 34 (propF ⟨kd, id, k⟩)) hq2
  replace he := he2.but (But.row1 (q := w.heap.size) (arrV 34 (propF ⟨kd, id, k⟩))) hgl
  replace hb := (hb.trans hb2).newRow (q := w.heap.size) (cs := arrV 34 (propF ⟨kd, id, k⟩)) (Nat.le_refl _)
  clear hq hq2 he2 hb2
  generalize w2.setRow w.heap.size (arrV 34 (propF ⟨kd, id, k⟩)) = w5 at *
  clear w2
  (try simp only [Act.put, List.setIfInBounds_toArray, List.set_cons_zero, List.set_cons_succ])
  go_wp2_with (first | (refine wpList_load_all rfl rfl RTProp rfl hq5 ?_) | (refine wpList_store_v rfl rfl RTProp rfl rfl hq5 (fun i _ => propF_one _ i) ?_))
  refine bodyPost_ret (results_v rfl rfl RTProp (row_self hq5)) rfl ⟨rfl, he.but (But.row1 _) hgl, hb.newRow (Nat.le_refl _)⟩
theorem boxP_is {s s1 s2 : Rs} {n : Nat} {l : List Nat} (h1 : numP 2 s = (n, s1)) (h2 : cutP n s1 = (l, s2)) : boxP s = (l, s2) := by
  unfold boxP
  simp only [h1, h2]
theorem eyeCutE {B : Nat} {g k : Nat} {s s' : Rs} {l : List Nat} {w : World} (hk : k < 18446744073709551616) (h : Eye w B g s) (hE : cutP k s = (l, s')) :
    Calls Try.prog 76 #[.pointer (some ⟨g, 0, none⟩), .int .u64 k] w (CutPost B g w (l, s')) := by
  have := eyeCut k hk g s w h
  rw [hE] at this
  exact this
set_option maxRecDepth 100000 in
set_option maxHeartbeats 2000000 in
theorem eyeBox {B : Nat} (g : Nat) (s : Rs) (w : World) (h : Eye w B g s) :
    Calls Try.prog 73 #[.pointer (some ⟨g, 0, none⟩)] w (CutPost B g w (boxP s)) := by
  obtain ⟨n, s1, E1⟩ := pair_of (numP 2 s)
  obtain ⟨l, s2, E2⟩ := pair_of (cutP n s1)
  rw [boxP_is E1 E2]
  have lt := h.lt2 E1
  go_enter Try.func73, Try.ntmps73
  go_wp2_with (first | (go_at_call 65; (with_reducible refine (eyeNum2 h E1).mono ?_); rintro e w2 ⟨rfl, he2, hb2⟩) | (go_at_call 76; (with_reducible refine (eyeCutE (by omega) he2 E2).mono ?_); rintro e w3 ⟨A, c, rfl, ho, he3, hb3⟩))
  go_ret
  exact ⟨A, c, rfl, ho.mono hb2.size, he3, hb2.trans hb3⟩
end Go.Proofs.Ytfbfkfdkigpkgaa
