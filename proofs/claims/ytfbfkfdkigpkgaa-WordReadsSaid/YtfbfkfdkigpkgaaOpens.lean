/- The walks of layer 16: a message's kind is read; what any bytes are, as a frame. The walks of layer 16: what any bytes are, as a frame. The walks of layer 16: what any bytes are, as a welcome. -/
import Derived.Test.YtfbfkfdkigpkgaaEyes
import Derived.Test.YtfbfkfdkigpkgaaKin
import Derived.Test.YtfbfkfdkigpkgaaMay
namespace Go.Proofs.Ytfbfkfdkigpkgaa
set_option linter.unusedSimpArgs false
set_option linter.unusedVariables false
open Go.RowKit
attribute [local irreducible] beL beK

/-- A text that is read. -/
structure Src (w : World) (B : Nat) (A : Option Addr) (n c : Nat) (l : List Nat) : Prop where
  low : B ≤ w.heap.size
  txt : Txt w B A n c l
  cap : n ≤ c
  len : n ≤ 140737488355328
  byt : Byt l
theorem Src.eye {w : World} {B : Nat} {A : Option Addr} {n c : Nat} {l : List Nat} (h : Src w B A n c l) : Eye (w.alloc (.cells #[.slice A n c, .int .i64 0] 102)) B w.heap.size ⟨l, false⟩ :=
  ⟨A, n, c, heap_alloc_new w _, h.low, h.txt.below' ((Below.refl _ _).alloc (Nat.le_refl _) _) h.low, h.cap, h.len, h.byt⟩
theorem Src.after {w w' : World} {B : Nat} {A : Option Addr} {n c : Nat} {l : List Nat} (h : Src w B A n c l) (hb : Below w.heap.size w w') : Src w' B A n c l :=
  ⟨Nat.le_trans h.low hb.size, h.txt.below' hb h.low, h.cap, h.len, h.byt⟩
theorem numP_ne {K : Nat} {s s' : Rs} (hK : K ≠ 0) {k : Nat} (h : numP k s = (K, s')) : s'.ov = false := by
  unfold numP cutP at h
  split at h
  · injection h with h1 _
    exact absurd h1.symm hK
  · injection h with _ h2
    rw [← h2]
theorem FTEye1 : FieldT Try.prog 102 1 := ⟨_, _, 0, Try.underlying102, rfl, by kernel_rfl⟩
theorem opened_long (K : Nat) (A : Option Addr) (n c : Nat) (w : World) (hn : 1048576 < n) (hc : n ≤ 140737488355328) :
    Calls Try.prog 64 #[.slice A n c, .int .u64 K] w fun e w' => e = .returned (.tuple #[.pointer none, .int .i64 4]) ∧ w = w' := by
  go_enter Try.func64, Try.ntmps64
  go_wp2
  go_ret2
  exact ⟨rfl, rfl⟩
set_option maxRecDepth 100000 in
set_option maxHeartbeats 1000000 in
theorem opened_no (K : Nat) {B : Nat} (A : Option Addr) (n c : Nat) (l : List Nat) (w : World) (h : Src w B A n c l) (hn : n ≤ 1048576) (hK : K < 256) {k : Nat} {s1 : Rs} (hk : numP 1 ⟨l, false⟩ = (k, s1)) (hne : k ≠ K) :
    Calls Try.prog 64 #[.slice A n c, .int .u64 K] w fun e w' => e = .returned (.tuple #[.pointer none, .int .i64 3]) ∧ Below w.heap.size w w' := by
  have he := h.eye
  have lt := he.lt1 hk
  have d : decide ((k : Int) = K) = false := decide_eq_false (by omega)
  have hb : Below w.heap.size w (w.alloc (.cells #[.slice A n c, .int .i64 0] 102)) := (Below.refl _ _).alloc (Nat.le_refl _) _
  go_enter Try.func64, Try.ntmps64
  go_wp2_with (go_at_call 65; (with_reducible refine (eyeNum1 he hk).mono ?_); rintro e w2 ⟨rfl, he2, hb2⟩)
  go_ret2
  exact ⟨rfl, hb.trans (hb2.below (Nat.le_refl _) (by simp))⟩
set_option maxRecDepth 100000 in
set_option maxHeartbeats 1000000 in
theorem opened_yes (K : Nat) {B : Nat} (A : Option Addr) (n c : Nat) (l : List Nat) (w : World) (h : Src w B A n c l) (hn : n ≤ 1048576) (hK : K < 256) (h0 : K ≠ 0) {s1 : Rs} (hk : numP 1 ⟨l, false⟩ = (K, s1)) :
    Calls Try.prog 64 #[.slice A n c, .int .u64 K] w fun e w' => e = .returned (.tuple #[.pointer (some ⟨w.heap.size, 0, none⟩), .int .i64 0]) ∧ Eye w' B w.heap.size s1 ∧ Below w.heap.size w w' := by
  have he := h.eye
  have d : decide ((K : Int) = K) = true := decide_eq_true rfl
  have hb : Below w.heap.size w (w.alloc (.cells #[.slice A n c, .int .i64 0] 102)) := (Below.refl _ _).alloc (Nat.le_refl _) _
  have hov := numP_ne h0 hk
  go_enter Try.func64, Try.ntmps64
  go_upto_region 6 with (go_at_call 65; (with_reducible refine (eyeNum1 he hk).mono ?_); rintro e w2 ⟨rfl, he2, hb2⟩)
  obtain ⟨A2, n2, c2, hE⟩ := he2
  have c1 := hE.c1
  rw [eyeE_no hov] at c1
  have c1' : w2.drew.cell? ⟨w.heap.size, 1, none⟩ = some (.int .i64 0) := c1
  have hr : w2.drew.heap[w.heap.size]? = _ := hE.row
  (try simp only [Act.put, List.setIfInBounds_toArray, List.set_cons_zero, List.set_cons_succ])
  refine wp_region_can w2.heap.size 6 [(0, false), (1, false), (2, false), (3, false), (4, false), (5, false)] (by kernel_rfl) (by kernel_rfl) ?_
  (simp only [canOps, List.getElem?_cons_zero, List.getElem?_cons_succ, List.drop_succ_cons, List.drop_zero])
  iterate 6 (first | (refine wpCan_move rfl rfl (fun _ _ _ _ h => h) ?_; (simp only [Act.put, Act.eval, Array.getD_eq_getD_getElem?, List.getElem?_toArray, List.getElem?_cons_zero, List.getElem?_cons_succ, Option.getD_some, List.setIfInBounds_toArray, List.set_cons_zero, List.set_cons_succ])) | (refine wpCan_assign rfl rfl (fun _ _ _ _ h => h) ?_; (simp only [Act.put, Act.eval, Array.getD_eq_getD_getElem?, List.getElem?_toArray, List.getElem?_cons_zero, List.getElem?_cons_succ, Option.getD_some, List.setIfInBounds_toArray, List.set_cons_zero, List.set_cons_succ])) | (refine wpCan_nilCheck rfl rfl rfl (fun _ _ _ _ h => h) ?_; (simp only [Act.put, List.setIfInBounds_toArray, List.set_cons_zero, List.set_cons_succ])) | (refine wpCan_q rfl rfl (fun _ _ _ _ h => h) (by first | exact .bin rfl rfl rfl | exact .indexAddr rfl | exact .un rfl | exact .extract rfl | exact .index rfl | exact .field rfl | exact .slice rfl | exact .fieldT rfl FTEye1 | exact .load rfl rfl (lt_of_block hE.row) hr) (fun K hK => ?_); go_simp; (try (simp only [↓IntWalk.iteOmega]; go_simp)); (try go_bits); refine hK _ ?_; clear hK K))
  refine wpCan_nil ?_
  go_wp2
  go_ret2
  exact ⟨rfl, Eye.after ⟨_, _, _, hE⟩ (Below.refl _ _).drew, (hb.trans (hb2.below (Nat.le_refl _) (by simp))).drew⟩
theorem opened_long1 (A : Option Addr) (n c : Nat) (w : World) (hn : 1048576 < n) (hc : n ≤ 140737488355328) :
    Calls Try.prog 64 #[.slice A n c, .int .u64 1] w fun e w' => e = .returned (.tuple #[.pointer none, .int .i64 4]) ∧ w = w' := opened_long 1 A n c w hn hc
theorem opened_no1 {B : Nat} (A : Option Addr) (n c : Nat) (l : List Nat) (w : World) (h : Src w B A n c l) (hn : n ≤ 1048576) {k : Nat} {s1 : Rs} (hk : numP 1 ⟨l, false⟩ = (k, s1)) (hne : k ≠ 1) :
    Calls Try.prog 64 #[.slice A n c, .int .u64 1] w fun e w' => e = .returned (.tuple #[.pointer none, .int .i64 3]) ∧ Below w.heap.size w w' := opened_no 1 A n c l w h hn (by omega) hk hne
theorem opened_yes1 {B : Nat} (A : Option Addr) (n c : Nat) (l : List Nat) (w : World) (h : Src w B A n c l) (hn : n ≤ 1048576) {s1 : Rs} (hk : numP 1 ⟨l, false⟩ = (1, s1)) :
    Calls Try.prog 64 #[.slice A n c, .int .u64 1] w fun e w' => e = .returned (.tuple #[.pointer (some ⟨w.heap.size, 0, none⟩), .int .i64 0]) ∧ Eye w' B w.heap.size s1 ∧ Below w.heap.size w w' := opened_yes 1 A n c l w h hn (by omega) (by omega) hk
theorem opened_long2 (A : Option Addr) (n c : Nat) (w : World) (hn : 1048576 < n) (hc : n ≤ 140737488355328) :
    Calls Try.prog 64 #[.slice A n c, .int .u64 2] w fun e w' => e = .returned (.tuple #[.pointer none, .int .i64 4]) ∧ w = w' := opened_long 2 A n c w hn hc
theorem opened_no2 {B : Nat} (A : Option Addr) (n c : Nat) (l : List Nat) (w : World) (h : Src w B A n c l) (hn : n ≤ 1048576) {k : Nat} {s1 : Rs} (hk : numP 1 ⟨l, false⟩ = (k, s1)) (hne : k ≠ 2) :
    Calls Try.prog 64 #[.slice A n c, .int .u64 2] w fun e w' => e = .returned (.tuple #[.pointer none, .int .i64 3]) ∧ Below w.heap.size w w' := opened_no 2 A n c l w h hn (by omega) hk hne
theorem opened_yes2 {B : Nat} (A : Option Addr) (n c : Nat) (l : List Nat) (w : World) (h : Src w B A n c l) (hn : n ≤ 1048576) {s1 : Rs} (hk : numP 1 ⟨l, false⟩ = (2, s1)) :
    Calls Try.prog 64 #[.slice A n c, .int .u64 2] w fun e w' => e = .returned (.tuple #[.pointer (some ⟨w.heap.size, 0, none⟩), .int .i64 0]) ∧ Eye w' B w.heap.size s1 ∧ Below w.heap.size w w' := opened_yes 2 A n c l w h hn (by omega) (by omega) hk
theorem opened_long3 (A : Option Addr) (n c : Nat) (w : World) (hn : 1048576 < n) (hc : n ≤ 140737488355328) :
    Calls Try.prog 64 #[.slice A n c, .int .u64 3] w fun e w' => e = .returned (.tuple #[.pointer none, .int .i64 4]) ∧ w = w' := opened_long 3 A n c w hn hc
theorem opened_no3 {B : Nat} (A : Option Addr) (n c : Nat) (l : List Nat) (w : World) (h : Src w B A n c l) (hn : n ≤ 1048576) {k : Nat} {s1 : Rs} (hk : numP 1 ⟨l, false⟩ = (k, s1)) (hne : k ≠ 3) :
    Calls Try.prog 64 #[.slice A n c, .int .u64 3] w fun e w' => e = .returned (.tuple #[.pointer none, .int .i64 3]) ∧ Below w.heap.size w w' := opened_no 3 A n c l w h hn (by omega) hk hne
theorem opened_yes3 {B : Nat} (A : Option Addr) (n c : Nat) (l : List Nat) (w : World) (h : Src w B A n c l) (hn : n ≤ 1048576) {s1 : Rs} (hk : numP 1 ⟨l, false⟩ = (3, s1)) :
    Calls Try.prog 64 #[.slice A n c, .int .u64 3] w fun e w' => e = .returned (.tuple #[.pointer (some ⟨w.heap.size, 0, none⟩), .int .i64 0]) ∧ Eye w' B w.heap.size s1 ∧ Below w.heap.size w w' := opened_yes 3 A n c l w h hn (by omega) (by omega) hk
end Go.Proofs.Ytfbfkfdkigpkgaa
namespace Go.Proofs.Ytfbfkfdkigpkgaa
set_option linter.unusedSimpArgs false
set_option linter.unusedVariables false
open Go.RowKit
attribute [local irreducible] beL beK

theorem results_v_tmp {P : Program} {w : World} {fn : Func} {p q : Tmp} {ty : TypeId} {n t g : Nat} {f : Nat → Value} {fr : Nat × Nat} {v : Value} (h : fn.results = #[.cell p ty, .tmp q]) {tmps : Array Value} (hp : tmps.getD p undef = .pointer (some ⟨g, 0, none⟩)) (hq : tmps.getD q undef = v)
    (hT : RowT P ty n) (hg : w.heap[g]? = some (.cells (arrV n f) t fr)) : (results fn tmps).run P w = .ok (.tuple #[.agg (arrV n f), v]) w := by
  have hp' : tmps[p]?.getD undef = .pointer (some ⟨g, 0, none⟩) := by simpa using hp
  have hq' : tmps[q]?.getD undef = v := by simpa using hq
  have h2 := run_loadVar_arrV hT hg (show 0 + n ≤ n by omega)
  simp only [Nat.zero_add] at h2
  simp [results, h, hp', hq', asAddr, h2]
theorem run_built0 {P : Program} {o : Oper} {a : Act} {w : World} {ty : TypeId} {c : Array Value} (ho : o.op = .build ty #[]) (hb : P.built ty [] = some c) : (execOp a.eval o).run P w = .ok (.value (.agg c)) w := run_op_build (l := []) ho (by simp) hb
theorem run_op_load_v {P : Program} {o : Oper} {a : Act} {w : World} {ty n t g : Nat} {x : Operand} {f : Nat → Value} {fr : Nat × Nat} (ho : o.op = .load ty x) (hT : RowT P ty n) (hx : a.eval x = .pointer (some ⟨g, 0, none⟩)) (hg : w.heap[g]? = some (.cells (arrV n f) t fr)) : (execOp a.eval o).run P w = .ok (.value (.agg (arrV n f))) w := by
  have := run_loadVar_arrV hT hg (show 0 + n ≤ n by omega)
  simp only [Nat.zero_add] at this
  rw [run_op_load ho hx this]
def frF (p : PFr) (A : Option Addr) (c : Nat) (j : Nat) : Value := if j = 0 then .int .u64 (p.ep : Int) else if j = 1 then .int .i64 (p.frm : Int) else if j = 2 then .int .u64 (p.gen : Int) else .slice A p.box.length c
theorem frF_one (p : PFr) (A : Option Addr) (c j : Nat) : (frF p A c j).oneCell' = true := by unfold frF; (repeat' split) <;> rfl
def noFr : PFr := ⟨0, 0, 0, []⟩
theorem RTFr : RowT Try.prog 27 4 := ⟨_, Try.underlying27, rfl, by kernel_rfl⟩
theorem ZVFr : ZeroV Try.prog 27 4 (arrV 4 (frF noFr none 0)) := ⟨by kernel_rfl, by rw [arrV_size]⟩
theorem built_fr : Try.prog.built 27 [] = some (arrV 4 (frF noFr none 0)) := by kernel_rfl
/-- A frame that is handed back, or why not. -/
def FrPost (w : World) (p : PFr × Int) (e : Ending) (w' : World) : Prop :=
  ∃ A c, e = .returned (.tuple #[.agg (arrV 4 (frF p.1 A c)), .int .i64 p.2]) ∧ Own w' w.heap.size 5 (.slice A p.1.box.length c) p.1.box ∧ Below w.heap.size w w'
/-- A frame that was read, or none. -/
def frK (p : PFr × Rs) : PFr × Int := if p.2.ov = false ∧ MayF (p.1.ep : Int) (p.1.frm : Int) (p.1.gen : Int) p.1.box.length then (p.1, 0) else (noFr, 3)
theorem own_setR {w : World} {base g : Nat} {e t : TypeId} {v : Value} {l : List Nat} {c cs : Array Value} {fr : Nat × Nat} (h : Own w base e v l) (hg : w.heap[g]? = some (.cells c t fr)) (hne : e ≠ t) : Own (w.setRow g cs) base e v l := h.setRow (own_ne h hg hne) cs

set_option maxRecDepth 100000 in
set_option maxHeartbeats 2000000 in
theorem ReadFrame_long (A : Option Addr) (n c : Nat) (l : List Nat) (w : World) (h : Src w w.heap.size A n c l) (hn : 1048576 < n) :
    Calls Try.prog 30 #[.slice A n c] w (FrPost w (noFr, 4)) := by
  have hn2 : n ≤ 140737488355328 := h.len
  go_enter Try.func30, Try.ntmps30
  go_upto_region 1 with (refine wpList_alloc_v rfl rfl ZVFr ?_)
  have hq0 := heap_alloc_new w (.cells (arrV 4 (frF noFr none 0)) 27)
  have hb0 : Below w.heap.size w (w.alloc (.cells (arrV 4 (frF noFr none 0)) 27)) := (Below.refl _ _).alloc (Nat.le_refl _) _
  refine wp_cut (fun x => x.heap[w.heap.size]? = some (.cells (arrV 4 (frF noFr none 0)) 27 (0, 0)) ∧ Below w.heap.size w x ∧ Src x w.heap.size A n c l) ⟨hq0, hb0, ⟨hb0.size, h.txt.below hb0, h.cap, h.len, h.byt⟩⟩ ?_
  clear hq0 hb0 h
  rintro w1 ⟨hq, hb, hS⟩
  have hql := lt_of_block hq
  (try simp only [Act.put, List.setIfInBounds_toArray, List.set_cons_zero, List.set_cons_succ])
  go_wp2_with (first | (go_at_call 64; (with_reducible refine (opened_long3 A n c _ hn hn2).mono ?_); rintro e w2 ⟨rfl, rfl⟩) | (refine wpList_val_w rfl (run_built0 rfl built_fr) ?_) | (refine wpList_store_v (f' := frF noFr none 0) rfl rfl RTFr rfl rfl hq (fun i _ => frF_one _ _ _ i) ?_))
  refine bodyPost_ret (results_v_tmp rfl rfl rfl RTFr (row_self hq)) rfl ⟨none, 0, rfl, Own.nil_, row_below hb (by omega) _⟩

set_option maxRecDepth 100000 in
set_option maxHeartbeats 2000000 in
theorem ReadFrame_kind (A : Option Addr) (n c : Nat) (l : List Nat) (w : World) (h : Src w w.heap.size A n c l) (hn : n ≤ 1048576) {k : Nat} {s1 : Rs} (hk : numP 1 ⟨l, false⟩ = (k, s1)) (hne : k ≠ 3) :
    Calls Try.prog 30 #[.slice A n c] w (FrPost w (noFr, 3)) := by
  go_enter Try.func30, Try.ntmps30
  go_upto_region 1 with (refine wpList_alloc_v rfl rfl ZVFr ?_)
  have hq0 := heap_alloc_new w (.cells (arrV 4 (frF noFr none 0)) 27)
  have hb0 : Below w.heap.size w (w.alloc (.cells (arrV 4 (frF noFr none 0)) 27)) := (Below.refl _ _).alloc (Nat.le_refl _) _
  refine wp_cut (fun x => x.heap[w.heap.size]? = some (.cells (arrV 4 (frF noFr none 0)) 27 (0, 0)) ∧ Below w.heap.size w x ∧ Src x w.heap.size A n c l) ⟨hq0, hb0, ⟨hb0.size, h.txt.below hb0, h.cap, h.len, h.byt⟩⟩ ?_
  clear hq0 hb0 h
  rintro w1 ⟨hq, hb, hS⟩
  have hql := lt_of_block hq
  (try simp only [Act.put, List.setIfInBounds_toArray, List.set_cons_zero, List.set_cons_succ])
  go_wp2_with (first | (go_at_call 64; (with_reducible refine (opened_no3 A n c l _ hS hn hk hne).mono ?_); rintro e w2 ⟨rfl, b2⟩; replace hq := keep_below b2 hql hq; replace hb := hb.trans (b2.mono hb.size)) | (refine wpList_val_w rfl (run_built0 rfl built_fr) ?_) | (refine wpList_store_v (f' := frF noFr none 0) rfl rfl RTFr rfl rfl hq (fun i _ => frF_one _ _ _ i) ?_))
  refine bodyPost_ret (results_v_tmp rfl rfl rfl RTFr (row_self hq)) rfl ⟨none, 0, rfl, Own.nil_, row_below hb (by omega) _⟩

set_option maxRecDepth 100000 in
set_option maxHeartbeats 2000000 in
theorem ReadFrame_more (A : Option Addr) (n c : Nat) (l : List Nat) (w : World) (h : Src w w.heap.size A n c l) (hn : n ≤ 1048576) {s1 : Rs} (hk : numP 1 ⟨l, false⟩ = (3, s1)) :
    Calls Try.prog 30 #[.slice A n c] w (FrPost w (frK (frP s1))) := by
  obtain ⟨ep, s2, E1⟩ := pair_of (numP 8 s1)
  obtain ⟨fr, s3, E2⟩ := pair_of (numP 4 s2)
  obtain ⟨ge, s4, E3⟩ := pair_of (numP 8 s3)
  obtain ⟨bx, s5, E4⟩ := pair_of (cutP s4.l.length s4)
  rw [frP_is E1 E2 E3 E4]
  go_enter Try.func30, Try.ntmps30
  go_upto_region 1 with (refine wpList_alloc_v rfl rfl ZVFr ?_)
  have hq0 := heap_alloc_new w (.cells (arrV 4 (frF noFr none 0)) 27)
  have hb0 : Below w.heap.size w (w.alloc (.cells (arrV 4 (frF noFr none 0)) 27)) := (Below.refl _ _).alloc (Nat.le_refl _) _
  refine wp_cut (fun x => x.heap[w.heap.size]? = some (.cells (arrV 4 (frF noFr none 0)) 27 (0, 0)) ∧ Below w.heap.size w x ∧ Src x w.heap.size A n c l) ⟨hq0, hb0, ⟨hb0.size, h.txt.below hb0, h.cap, h.len, h.byt⟩⟩ ?_
  clear hq0 hb0 h
  rintro w1 ⟨hq, hb, hS⟩
  have hql := lt_of_block hq
  (try simp only [Act.put, List.setIfInBounds_toArray, List.set_cons_zero, List.set_cons_succ])
  go_upto_region 2 with (go_at_call 64; (with_reducible refine (opened_yes3 A n c l _ hS hn hk).mono ?_); rintro e w2 ⟨rfl, he, b2⟩)
  replace hq := keep_below b2 hql hq
  replace hb := hb.trans (b2.mono hb.size)
  generalize w1.heap.size = g at *
  clear b2 hS w1
  (try simp only [Act.put, List.setIfInBounds_toArray, List.set_cons_zero, List.set_cons_succ])
  generalize hqw : w.heap.size = q at *
  go_upto_region 4 with (fail)
  go_upto_region 5 with (go_at_call 65; have lt0 := he.lt8 E1; (with_reducible refine (eyeNum8 he E1).mono ?_); rintro e w2 ⟨rfl, he2, hb2⟩; have hq2 := hb2.keep hq (by omega); have c2 := cell_arrV hq2 0 (by omega); have f2 := frozen_of_row w2 q 0 _ _ hq2)
  replace he := he2.setAt (q := q) (by omega) (Nat.le_refl _) 0 (.int .u64 (ep : Int))
  replace hb := (hb.trans (hb2.below (B := q) (by omega) (by have := hb.size; omega))).setCell (p := ⟨q, 0, none⟩) (Nat.le_refl _) (.int .u64 (ep : Int))
  replace hq := set_arrV (i := 0) hq2 (.int .u64 (ep : Int))
  clear hq2 c2 f2 he2 hb2
  generalize w2.setCell ⟨q, 0, none⟩ (.int .u64 (ep : Int)) = w5 at *
  clear w2
  (try simp only [Act.put, List.setIfInBounds_toArray, List.set_cons_zero, List.set_cons_succ])
  go_upto_region 6 with (go_at_call 65; have lt1 := he.lt4 E2; (with_reducible refine (eyeNum4 he E2).mono ?_); rintro e w2 ⟨rfl, he2, hb2⟩; have hq2 := hb2.keep hq (by omega); have c2 := cell_arrV hq2 1 (by omega); have f2 := frozen_of_row w2 q 1 _ _ hq2)
  replace he := he2.setAt (q := q) (by omega) (Nat.le_refl _) 1 (.int .i64 (fr : Int))
  replace hb := (hb.trans (hb2.below (B := q) (by omega) (by have := hb.size; omega))).setCell (p := ⟨q, 1, none⟩) (Nat.le_refl _) (.int .i64 (fr : Int))
  replace hq := set_arrV (i := 1) hq2 (.int .i64 (fr : Int))
  clear hq2 c2 f2 he2 hb2
  generalize w2.setCell ⟨q, 1, none⟩ (.int .i64 (fr : Int)) = w6 at *
  clear w2
  (try simp only [Act.put, List.setIfInBounds_toArray, List.set_cons_zero, List.set_cons_succ])
  go_upto_region 7 with (go_at_call 65; have lt2 := he.lt8 E3; (with_reducible refine (eyeNum8 he E3).mono ?_); rintro e w2 ⟨rfl, he2, hb2⟩; have hq2 := hb2.keep hq (by omega); have c2 := cell_arrV hq2 2 (by omega); have f2 := frozen_of_row w2 q 2 _ _ hq2)
  replace he := he2.setAt (q := q) (by omega) (Nat.le_refl _) 2 (.int .u64 (ge : Int))
  replace hb := (hb.trans (hb2.below (B := q) (by omega) (by have := hb.size; omega))).setCell (p := ⟨q, 2, none⟩) (Nat.le_refl _) (.int .u64 (ge : Int))
  replace hq := set_arrV (i := 2) hq2 (.int .u64 (ge : Int))
  clear hq2 c2 f2 he2 hb2
  generalize w2.setCell ⟨q, 2, none⟩ (.int .u64 (ge : Int)) = w7 at *
  clear w2
  (try simp only [Act.put, List.setIfInBounds_toArray, List.set_cons_zero, List.set_cons_succ])
  obtain ⟨A4, n4, c4, hE⟩ := he
  have cc0 := hE.c0
  have hn4 : s4.l.length = n4 := hE.txt.len
  have hn5 : n4 ≤ 140737488355328 := hE.len
  have he : Eye w7 q g s4 := ⟨_, _, _, hE⟩
  rw [hn4] at E4
  go_upto_region 8 with (go_at_call 76; (with_reducible refine (eyeCutE (by omega) he E4).mono ?_); rintro e w2 ⟨A5, c5, rfl, ho, he2, hb2⟩; have hq2 := hb2.keep hq (by omega); have c3 := cell_arrV hq2 3 (by omega); have f3 := frozen_of_row w2 q 3 _ _ hq2)
  replace he := he2.setAt (q := q) (by omega) (Nat.le_refl _) 3 (.slice A5 bx.length c5)
  replace ho := (ho.mono hb.size).setCell (p := ⟨q, 3, none⟩) (own_ne ho hq2 (by decide)) (.slice A5 bx.length c5)
  replace hb := (hb.trans (hb2.below (B := q) (by omega) (by have := hb.size; omega))).setCell (p := ⟨q, 3, none⟩) (Nat.le_refl _) (.slice A5 bx.length c5)
  replace hq := set_arrV (i := 3) hq2 (.slice A5 bx.length c5)
  rw [show (arrV 4 (upd (upd (upd (upd (frF noFr none 0) 0 (.int .u64 (ep : Int))) 1 (.int .i64 (fr : Int))) 2 (.int .u64 (ge : Int))) 3 (.slice A5 bx.length c5))) = arrV 4 (frF ⟨ep, fr, ge, bx⟩ A5 c5) from rfl] at hq
  clear hq2 c3 f3 he2 hb2 cc0 hE
  generalize w2.setCell ⟨q, 3, none⟩ (.slice A5 bx.length c5) = w8 at *
  (try simp only [Act.put, List.setIfInBounds_toArray, List.set_cons_zero, List.set_cons_succ])
  obtain ⟨A6, n6, c6, hE⟩ := he
  have c1 := hE.c1
  rw [hqw] at ho
  have HO := Lib.hid ho
  cases hov : s5.ov with
  | true =>
    rw [eyeE_yes hov] at c1
    have EK := Lib.hid (show frK (⟨ep, fr, ge, bx⟩, s5) = (noFr, 3) from if_neg (fun h => by rw [hov] at h; cases h.1))
    go_wp2_with (first | (refine wpList_val_w rfl (run_built0 rfl built_fr) ?_) | (refine wpList_store_v (f' := frF noFr none 0) rfl rfl RTFr rfl rfl hq (fun i _ => frF_one _ _ _ i) ?_))
    refine bodyPost_ret (results_v_tmp rfl rfl rfl RTFr (row_self hq)) rfl ?_
    rw [EK.out]
    refine ⟨none, 0, rfl, Own.nil_, ?_⟩
    rw [hqw]
    exact row_below hb (Nat.le_refl _) _
  | false =>
    rw [eyeE_no hov] at c1
    by_cases hm : MayF (ep : Int) (fr : Int) (ge : Int) bx.length
    · have HM := Lib.hid (decide_eq_true hm)
      have EK := Lib.hid (show frK (⟨ep, fr, ge, bx⟩, s5) = (⟨ep, fr, ge, bx⟩, 0) from if_pos ⟨hov, hm⟩)
      clear hm
      go_wp2_with (first | (refine wpList_valg rfl (run_op_load_v rfl RTFr rfl hq) ?_) | (go_at_call 41; (refine (mayFrame_any (ep : Int) (fr : Int) (ge : Int) A5 bx.length c5 _).mono ?_); rintro e w9 ⟨rfl, hb9⟩; rw [HM.out]; have hq9 := keep_below hb9 (lt_of_block hq) hq) | (refine wpList_load_all rfl rfl RTFr rfl hq9 ?_) | (refine wpList_store_v rfl rfl RTFr rfl rfl hq9 (fun i _ => frF_one _ _ _ i) ?_))
      have ho9 := HO.out.below hb9 (fun k hk => (HO.out.lt k hk).2)
      refine bodyPost_ret (results_v_tmp rfl rfl rfl RTFr (row_self hq9)) rfl ?_
      rw [EK.out]
      refine ⟨A5, c5, rfl, ?_, ?_⟩
      · rw [hqw]
        exact own_setR ho9 hq9 (by decide)
      · rw [hqw]
        exact row_below (hb.trans (hb9.mono (by have := hb.size; omega))) (Nat.le_refl _) _
    · have HM := Lib.hid (decide_eq_false hm)
      have EK := Lib.hid (show frK (⟨ep, fr, ge, bx⟩, s5) = (noFr, 3) from if_neg (fun h => hm h.2))
      clear hm
      go_wp2_with (first | (refine wpList_valg rfl (run_op_load_v rfl RTFr rfl hq) ?_) | (go_at_call 41; (refine (mayFrame_any (ep : Int) (fr : Int) (ge : Int) A5 bx.length c5 _).mono ?_); rintro e w9 ⟨rfl, hb9⟩; rw [HM.out]; have hq9 := keep_below hb9 (lt_of_block hq) hq) | (refine wpList_val_w rfl (run_built0 rfl built_fr) ?_) | (refine wpList_store_v (f' := frF noFr none 0) rfl rfl RTFr rfl rfl hq9 (fun i _ => frF_one _ _ _ i) ?_))
      refine bodyPost_ret (results_v_tmp rfl rfl rfl RTFr (row_self hq9)) rfl ?_
      rw [EK.out]
      refine ⟨none, 0, rfl, Own.nil_, ?_⟩
      rw [hqw]
      exact row_below (hb.trans (hb9.mono (by have := hb.size; omega))) (Nat.le_refl _) _
theorem frV_long {l : List Nat} (h : 1048576 < l.length) : frV l = (noFr, 4) := if_pos h
theorem frV_kind {l : List Nat} (h : ¬ 1048576 < l.length) {k : Nat} {s1 : Rs} (hk : numP 1 ⟨l, false⟩ = (k, s1)) (hne : k ≠ 3) : frV l = (noFr, 3) := by
  unfold frV
  rw [if_neg h, hk]
  exact if_pos hne
theorem frV_more {l : List Nat} (h : ¬ 1048576 < l.length) {s1 : Rs} (hk : numP 1 ⟨l, false⟩ = (3, s1)) : frV l = frK (frP s1) := by
  unfold frV
  rw [if_neg h, hk]
  dsimp only
  rw [if_neg (by simp)]
  rfl
theorem ReadFrame_any (A : Option Addr) (n c : Nat) (l : List Nat) (w : World) (h : Src w w.heap.size A n c l) :
    Calls Try.prog 30 #[.slice A n c] w (FrPost w (frV l)) := by
  have hl := h.txt.len
  by_cases hn : 1048576 < n
  · rw [frV_long (by omega)]
    exact ReadFrame_long A n c l w h hn
  · obtain ⟨k, s1, hk⟩ := pair_of (numP 1 ⟨l, false⟩)
    by_cases hne : k = 3
    · subst hne
      rw [frV_more (by omega) hk]
      exact ReadFrame_more A n c l w h (by omega) hk
    · rw [frV_kind (by omega) hk hne]
      exact ReadFrame_kind A n c l w h (by omega) hk hne
end Go.Proofs.Ytfbfkfdkigpkgaa
namespace Go.Proofs.Ytfbfkfdkigpkgaa
set_option linter.unusedSimpArgs false
set_option linter.unusedVariables false
open Go.RowKit
attribute [local irreducible] beL beK

def wlG (tw : Nat) (t : Nat → List Nat) (A : Nat → Option Addr) (c : Nat → Nat) (m j : Nat) : Value := if j = 0 then .int .i64 (tw : Int) else if j ≤ m then .slice (A (j - 1)) (t (j - 1)).length (c (j - 1)) else .slice none 0 0
theorem wlG_one (tw : Nat) (t : Nat → List Nat) (A : Nat → Option Addr) (c : Nat → Nat) (m j : Nat) : (wlG tw t A c m j).oneCell' = true := by unfold wlG; (repeat' split) <;> rfl
def noTx (_ : Nat) : List Nat := []
def noA (_ : Nat) : Option Addr := none
def noC (_ : Nat) : Nat := 0
theorem RTWl : RowT Try.prog 24 4 := ⟨_, Try.underlying24, rfl, by kernel_rfl⟩
theorem ZVWl : ZeroV Try.prog 24 4 (arrV 4 (wlG 0 noTx noA noC 0)) := ⟨by kernel_rfl, by rw [arrV_size]⟩
theorem built_wl : Try.prog.built 24 [] = some (arrV 4 (wlG 0 noTx noA noC 0)) := by kernel_rfl
def noWl : PWl := ⟨0, [], [], []⟩
def PWl.tx (p : PWl) (j : Nat) : List Nat := if j = 0 then p.c else if j = 1 then p.t else p.b
/-- A welcome that is handed back, or why not. -/
def WlPost (w : World) (p : PWl × Int) (e : Ending) (w' : World) : Prop :=
  ∃ A c, e = .returned (.tuple #[.agg (arrV 4 (wlG p.1.tw p.1.tx A c 3)), .int .i64 p.2]) ∧ (∀ j, j < 3 → Own w' w.heap.size 5 (.slice (A j) (p.1.tx j).length (c j)) (p.1.tx j)) ∧ Below w.heap.size w w'
theorem wlG_no : arrV 4 (wlG 0 noTx noA noC 0) = arrV 4 (wlG noWl.tw noWl.tx noA noC 3) := rfl
theorem noWl_own (w : World) (b : Nat) (j : Nat) (hj : j < 3) : Own w b 5 (.slice (noA j) (noWl.tx j).length (noC j)) (noWl.tx j) := by
  have : j = 0 ∨ j = 1 ∨ j = 2 := by omega
  rcases this with rfl | rfl | rfl <;> exact Own.nil_
/-- A welcome that was read, or none. -/
def wlK (p : PWl × Rs) : PWl × Int := if p.2.ov = false ∧ p.2.l.length = 0 ∧ MayW (p.1.tw : Int) p.1.c.length p.1.t.length p.1.b.length then (p.1, 0) else (noWl, 3)

set_option maxRecDepth 100000 in
set_option maxHeartbeats 2000000 in
theorem ReadWelcome_long (A : Option Addr) (n c : Nat) (l : List Nat) (w : World) (h : Src w w.heap.size A n c l) (hn : 1048576 < n) :
    Calls Try.prog 28 #[.slice A n c] w (WlPost w (noWl, 4)) := by
  have hn2 : n ≤ 140737488355328 := h.len
  go_enter Try.func28, Try.ntmps28
  go_upto_region 1 with (refine wpList_alloc_v rfl rfl ZVWl ?_)
  have hq0 := heap_alloc_new w (.cells (arrV 4 (wlG 0 noTx noA noC 0)) 24)
  have hb0 : Below w.heap.size w (w.alloc (.cells (arrV 4 (wlG 0 noTx noA noC 0)) 24)) := (Below.refl _ _).alloc (Nat.le_refl _) _
  refine wp_cut (fun x => x.heap[w.heap.size]? = some (.cells (arrV 4 (wlG 0 noTx noA noC 0)) 24 (0, 0)) ∧ Below w.heap.size w x ∧ Src x w.heap.size A n c l) ⟨hq0, hb0, ⟨hb0.size, h.txt.below hb0, h.cap, h.len, h.byt⟩⟩ ?_
  clear hq0 hb0 h
  rintro w1 ⟨hq, hb, hS⟩
  have hql := lt_of_block hq
  (try simp only [Act.put, List.setIfInBounds_toArray, List.set_cons_zero, List.set_cons_succ])
  go_wp2_with (first | (go_at_call 64; (with_reducible refine (opened_long2 A n c _ hn hn2).mono ?_); rintro e w2 ⟨rfl, rfl⟩) | (refine wpList_val_w rfl (run_built0 rfl built_wl) ?_) | (refine wpList_store_v (f' := wlG 0 noTx noA noC 0) rfl rfl RTWl rfl rfl hq (fun i _ => wlG_one _ _ _ _ _ i) ?_))
  refine bodyPost_ret (results_v_tmp rfl rfl rfl RTWl (row_self hq)) rfl ⟨noA, noC, rfl, noWl_own _ _, row_below hb (by omega) _⟩

set_option maxRecDepth 100000 in
set_option maxHeartbeats 2000000 in
theorem ReadWelcome_kind (A : Option Addr) (n c : Nat) (l : List Nat) (w : World) (h : Src w w.heap.size A n c l) (hn : n ≤ 1048576) {k : Nat} {s1 : Rs} (hk : numP 1 ⟨l, false⟩ = (k, s1)) (hne : k ≠ 2) :
    Calls Try.prog 28 #[.slice A n c] w (WlPost w (noWl, 3)) := by
  go_enter Try.func28, Try.ntmps28
  go_upto_region 1 with (refine wpList_alloc_v rfl rfl ZVWl ?_)
  have hq0 := heap_alloc_new w (.cells (arrV 4 (wlG 0 noTx noA noC 0)) 24)
  have hb0 : Below w.heap.size w (w.alloc (.cells (arrV 4 (wlG 0 noTx noA noC 0)) 24)) := (Below.refl _ _).alloc (Nat.le_refl _) _
  refine wp_cut (fun x => x.heap[w.heap.size]? = some (.cells (arrV 4 (wlG 0 noTx noA noC 0)) 24 (0, 0)) ∧ Below w.heap.size w x ∧ Src x w.heap.size A n c l) ⟨hq0, hb0, ⟨hb0.size, h.txt.below hb0, h.cap, h.len, h.byt⟩⟩ ?_
  clear hq0 hb0 h
  rintro w1 ⟨hq, hb, hS⟩
  have hql := lt_of_block hq
  (try simp only [Act.put, List.setIfInBounds_toArray, List.set_cons_zero, List.set_cons_succ])
  go_wp2_with (first | (go_at_call 64; (with_reducible refine (opened_no2 A n c l _ hS hn hk hne).mono ?_); rintro e w2 ⟨rfl, b2⟩; replace hq := keep_below b2 hql hq; replace hb := hb.trans (b2.mono hb.size)) | (refine wpList_val_w rfl (run_built0 rfl built_wl) ?_) | (refine wpList_store_v (f' := wlG 0 noTx noA noC 0) rfl rfl RTWl rfl rfl hq (fun i _ => wlG_one _ _ _ _ _ i) ?_))
  refine bodyPost_ret (results_v_tmp rfl rfl rfl RTWl (row_self hq)) rfl ⟨noA, noC, rfl, noWl_own _ _, row_below hb (by omega) _⟩

set_option maxRecDepth 100000 in
set_option maxHeartbeats 2000000 in
theorem ReadWelcome_more (A : Option Addr) (n c : Nat) (l : List Nat) (w : World) (h : Src w w.heap.size A n c l) (hn : n ≤ 1048576) {s1 : Rs} (hk : numP 1 ⟨l, false⟩ = (2, s1)) :
    Calls Try.prog 28 #[.slice A n c] w (WlPost w (wlK (wlP s1))) := by
  obtain ⟨tw, s2, E1⟩ := pair_of (numP 4 s1)
  obtain ⟨t0, s3, E2⟩ := pair_of (txP s2)
  obtain ⟨t1, s4, E3⟩ := pair_of (txP s3)
  obtain ⟨t2, s5, E4⟩ := pair_of (txP s4)
  rw [wlP_is E1 E2 E3 E4]
  obtain ⟨tt, htt⟩ : ∃ tt : Nat → List Nat, tt = (⟨tw, t0, t1, t2⟩ : PWl).tx := ⟨_, rfl⟩
  obtain ⟨ss, hss⟩ : ∃ ss : Nat → Rs, ss = fun j => if j = 0 then s2 else if j = 1 then s3 else if j = 2 then s4 else s5 := ⟨_, rfl⟩
  have hE : ∀ j, j < 3 → txP (ss j) = (tt j, ss (j + 1)) := fun j hj => by
    have : j = 0 ∨ j = 1 ∨ j = 2 := by omega
    subst htt hss
    rcases this with rfl | rfl | rfl
    · exact E2
    · exact E3
    · exact E4
  have HE := Lib.hid hE
  have HTT := Lib.hid htt
  have es0 : ss 0 = s2 := by rw [hss]; rfl
  have es3 : ss 3 = s5 := by rw [hss]; rfl
  clear hE E2 E3 E4 htt hss
  go_enter Try.func28, Try.ntmps28
  go_upto_region 1 with (refine wpList_alloc_v rfl rfl ZVWl ?_)
  have hq0 := heap_alloc_new w (.cells (arrV 4 (wlG 0 noTx noA noC 0)) 24)
  have hb0 : Below w.heap.size w (w.alloc (.cells (arrV 4 (wlG 0 noTx noA noC 0)) 24)) := (Below.refl _ _).alloc (Nat.le_refl _) _
  refine wp_cut (fun x => x.heap[w.heap.size]? = some (.cells (arrV 4 (wlG 0 noTx noA noC 0)) 24 (0, 0)) ∧ Below w.heap.size w x ∧ Src x w.heap.size A n c l) ⟨hq0, hb0, ⟨hb0.size, h.txt.below hb0, h.cap, h.len, h.byt⟩⟩ ?_
  clear hq0 hb0 h
  rintro w1 ⟨hq, hb, hS⟩
  have hql := lt_of_block hq
  (try simp only [Act.put, List.setIfInBounds_toArray, List.set_cons_zero, List.set_cons_succ])
  go_upto_region 2 with (go_at_call 64; (with_reducible refine (opened_yes2 A n c l _ hS hn hk).mono ?_); rintro e w2 ⟨rfl, he, b2⟩)
  replace hq := keep_below b2 hql hq
  replace hb := hb.trans (b2.mono hb.size)
  generalize w1.heap.size = g at *
  clear b2 hS w1
  (try simp only [Act.put, List.setIfInBounds_toArray, List.set_cons_zero, List.set_cons_succ])
  generalize hqw : w.heap.size = q at *
  go_upto_region 4 with (fail)
  go_upto_region 5 with (go_at_call 65; have lt0 := he.lt4 E1; (with_reducible refine (eyeNum4 he E1).mono ?_); rintro e w2 ⟨rfl, he2, hb2⟩; have hq2 := hb2.keep hq (by omega); have c2 := cell_arrV hq2 0 (by omega); have f2 := frozen_of_row w2 q 0 _ _ hq2)
  replace he := he2.setAt (q := q) (by omega) (Nat.le_refl _) 0 (.int .i64 (tw : Int))
  replace hb := (hb.trans (hb2.below (B := q) (by omega) (by have := hb.size; omega))).setCell (p := ⟨q, 0, none⟩) (Nat.le_refl _) (.int .i64 (tw : Int))
  replace hq := set_arrV (i := 0) hq2 (.int .i64 (tw : Int))
  rw [show arrV 4 (upd (wlG 0 noTx noA noC 0) 0 (.int .i64 (tw : Int))) = arrV 4 (wlG tw tt noA noC 0) from arrV_ext fun i hi => by
    unfold upd wlG
    by_cases h0 : i = 0
    · rw [if_pos h0, if_pos h0]
    · rw [if_neg h0, if_neg h0, if_neg h0, if_neg (by omega), if_neg (by omega)]] at hq
  clear hq2 c2 f2 he2 hb2
  generalize w2.setCell ⟨q, 0, none⟩ (.int .i64 (tw : Int)) = w5 at *
  clear w2
  (try simp only [Act.put, List.setIfInBounds_toArray, List.set_cons_zero, List.set_cons_succ])
  have hpb := heap_alloc_new w5 (.cells (arrV 3 fun i => .pointer (some ⟨q, i + 1, none⟩)) 107)
  have hbn : Below w5.heap.size w5 (w5.alloc (.cells (arrV 3 fun i => .pointer (some ⟨q, i + 1, none⟩)) 107)) := (Below.refl _ _).alloc (Nat.le_refl _) _
  have hgl := he.lt
  have hql5 := lt_of_block hq
  go_wp2
  clear E1
  generalize hpbq : w5.heap.size = pb at *
  go_loopg [27] 3 (fun r x wr => ∃ (j : Nat) (AA : Nat → Option Addr) (CC : Nat → Nat), j + r = 3 ∧ x = .int .i64 j ∧ wr.heap[pb]? = some (.cells (arrV 3 fun i => .pointer (some ⟨q, i + 1, none⟩)) 107 (0, 0)) ∧ wr.heap[q]? = some (.cells (arrV 4 (wlG tw tt AA CC j)) 24 (0, 0)) ∧ Eye wr q g (ss j) ∧ Below q w wr ∧ ∀ i, i < j → Own wr q 5 (.slice (AA i) (tt i).length (CC i)) (tt i))
  case atStart => exact ⟨0, noA, noC, rfl, rfl, hpb, keep_below hbn (by omega) hq, (by rw [es0]; exact Eye.after he (by rw [hpbq]; exact hbn)), hb.trans (hbn.mono (by omega)), fun i hi => absurd hi (by omega)⟩
  case round =>
    clear hpb hq he hb hbn
    obtain ⟨j, AA, CC, hj, rfl, hpb, hq, he, hb, hown⟩ := hrel
    have HO := Lib.hid hown
    have HJ := Lib.hid hj
    clear hown hj
    by_cases hlt : j < 3
    · obtain ⟨k, s', EN⟩ := pair_of (numP 4 (ss j))
      obtain ⟨lx, s'', EC⟩ := pair_of (cutP k s')
      have e3 := HE.out j hlt
      rw [txP_is EN EC] at e3
      injection e3 with e3 e4
      subst e3 e4
      have ltk := he.lt4 EN
      have hcp : wr.cell? ((⟨pb, 0, none⟩ : Addr).add (j * 1)) = some (.pointer (some ⟨q, j + 1, none⟩)) := by
        rw [addr_add, Nat.mul_one, Nat.zero_add]
        exact cell_arrV hpb j hlt
      go_wp2_with (first | (refine wpList_el rfl rfl Try.underlying108 (sz := 1) (by kernel_rfl) rfl rfl hlt ?_) | (refine wpList_load1 rfl rfl Try.underlying107 rfl rfl hcp ?_) | (go_at_call 65; (with_reducible refine (eyeNum4 he EN).mono ?_); rintro e w2 ⟨rfl, he2, hb2⟩) | (go_at_call 76; (with_reducible refine (eyeCutE (by omega) he2 EC).mono ?_); rintro e w3 ⟨A3, c3, rfl, ho3, he3, hb3⟩; have hq3 := hb3.keep (hb2.keep hq (by omega)) (by omega); have cc3 := cell_arrV hq3 (j + 1) (by omega); have f3 := frozen_of_row w3 q (j + 1) _ _ hq3))
      go_roundg (gk - 1)
      case measure => have := HJ.out; omega
      case rel =>
        have hJ := HJ.out
        refine ⟨j + 1, upd AA j A3, upd CC j c3, by omega, by go_num, ?_, ?_, he3.setAt (q := q) (by omega) (Nat.le_refl _) (j + 1) _, ?_, ?_⟩
        · rw [heap_setCell_other _ _ _ _ (show pb ≠ q by omega)]
          exact hb3.keep (hb2.keep hpb (by omega)) (by omega)
        · have h4 := set_arrV (i := j + 1) hq3 (.slice A3 (tt j).length c3)
          rw [show arrV 4 (upd (wlG tw tt AA CC j) (j + 1) (.slice A3 (tt j).length c3)) = arrV 4 (wlG tw tt (upd AA j A3) (upd CC j c3) (j + 1)) from arrV_ext fun i hi => by
            unfold upd wlG
            by_cases h0 : i = j + 1
            · subst h0
              rw [if_pos rfl, if_neg (by omega), if_pos (Nat.le_refl _)]
              show _ = Value.slice (if j + 1 - 1 = j then A3 else AA (j + 1 - 1)) (tt (j + 1 - 1)).length (if j + 1 - 1 = j then c3 else CC (j + 1 - 1))
              rw [show j + 1 - 1 = j by omega, if_pos rfl, if_pos rfl]
            · rw [if_neg h0]
              by_cases h1 : i = 0
              · rw [if_pos h1, if_pos h1]
              · rw [if_neg h1, if_neg h1]
                by_cases h2 : i ≤ j
                · rw [if_pos h2, if_pos (by omega)]
                  show _ = Value.slice (if i - 1 = j then A3 else AA (i - 1)) (tt (i - 1)).length (if i - 1 = j then c3 else CC (i - 1))
                  rw [if_neg (by omega), if_neg (by omega)]
                · rw [if_neg h2, if_neg (by omega)]] at h4
          exact h4
        · exact ((hb.trans (hb2.below (B := q) (by omega) (by have := hb.size; omega))).trans (hb3.below (B := q) (by omega) (by have := hb.size; have := hb2.size; omega))).setCell (p := ⟨q, j + 1, none⟩) (Nat.le_refl _) _
        · intro i hi
          unfold upd
          by_cases h0 : i = j
          · subst h0
            rw [if_pos rfl, if_pos rfl]
            exact (ho3.mono (by have := hb.size; have := hb2.size; omega)).setCell (p := ⟨q, i + 1, none⟩) (own_ne ho3 hq3 (by decide)) _
          · rw [if_neg h0, if_neg h0]
            obtain ⟨_, _, _, hE1⟩ := he
            obtain ⟨_, _, _, hE2⟩ := he2
            have o1 : Own w3 q 5 (.slice (AA i) (tt i).length (CC i)) (tt i) := hb3.row (hb2.row (HO.out i (by omega)) hE1.row (by decide)) hE2.row (by decide)
            exact o1.setCell (p := ⟨q, j + 1, none⟩) (own_ne o1 hq3 (by decide)) _
    · obtain rfl : j = 3 := by have := HJ.out; omega
      clear hlt
      rw [es3] at he
      obtain ⟨A6, n6, c6, hE6⟩ := he
      have c0 := hE6.c0
      have c1 := hE6.c1
      have hn6 : s5.l.length = n6 := hE6.txt.len
      have TT := HTT.out
      have HT0 := Lib.hid (show (tt 0).length = t0.length by rw [TT]; rfl)
      have HT1 := Lib.hid (show (tt 1).length = t1.length by rw [TT]; rfl)
      have HT2 := Lib.hid (show (tt 2).length = t2.length by rw [TT]; rfl)
      clear TT
      cases hov : s5.ov with
      | true =>
        rw [eyeE_yes hov] at c1
        have EK := Lib.hid (show wlK (⟨tw, t0, t1, t2⟩, s5) = (noWl, 3) from if_neg (fun h => by rw [hov] at h; cases h.1))
        go_wp2_with (first | (refine wpList_val_w rfl (run_built0 rfl built_wl) ?_) | (refine wpList_store_v (f' := wlG 0 noTx noA noC 0) rfl rfl RTWl rfl rfl hq (fun i _ => wlG_one _ _ _ _ _ i) ?_))
        refine bodyPost_ret (results_v_tmp rfl rfl rfl RTWl (row_self hq)) rfl ?_
        rw [EK.out]
        refine ⟨noA, noC, rfl, noWl_own _ _, ?_⟩
        rw [hqw]
        exact row_below hb (Nat.le_refl _) _
      | false =>
        rw [eyeE_no hov] at c1
        by_cases h0 : 0 < n6
        · have EK := Lib.hid (show wlK (⟨tw, t0, t1, t2⟩, s5) = (noWl, 3) from if_neg (fun h => by have h1 : s5.l.length = 0 := h.2.1; omega))
          go_wp2_with (first | (refine wpList_val_w rfl (run_built0 rfl built_wl) ?_) | (refine wpList_store_v (f' := wlG 0 noTx noA noC 0) rfl rfl RTWl rfl rfl hq (fun i _ => wlG_one _ _ _ _ _ i) ?_))
          refine bodyPost_ret (results_v_tmp rfl rfl rfl RTWl (row_self hq)) rfl ?_
          rw [EK.out]
          refine ⟨noA, noC, rfl, noWl_own _ _, ?_⟩
          rw [hqw]
          exact row_below hb (Nat.le_refl _) _
        · by_cases hm : MayW (tw : Int) t0.length t1.length t2.length
          · have HM := Lib.hid (show decide (MayW (tw : Int) (tt 0).length (tt 1).length (tt 2).length) = true by rw [HT0.out, HT1.out, HT2.out]; exact decide_eq_true hm)
            have EK := Lib.hid (show wlK (⟨tw, t0, t1, t2⟩, s5) = (⟨tw, t0, t1, t2⟩, 0) from if_pos ⟨hov, by show s5.l.length = 0; omega, hm⟩)
            clear hm
            go_wp2_with (first | (refine wpList_valg rfl (run_op_load_v rfl RTWl rfl hq) ?_) | (go_at_call 35; (refine (mayWelcome_any (tw : Int) (AA 0) (tt 0).length (CC 0) (AA 1) (tt 1).length (CC 1) (AA 2) (tt 2).length (CC 2) _).mono ?_); rintro e w9 ⟨rfl, hb9⟩; rw [HM.out]; have hq9 := keep_below hb9 (lt_of_block hq) hq) | (refine wpList_load_all rfl rfl RTWl rfl hq9 ?_) | (refine wpList_store_v rfl rfl RTWl rfl rfl hq9 (fun i _ => wlG_one _ _ _ _ _ i) ?_))
            refine bodyPost_ret (results_v_tmp rfl rfl rfl RTWl (row_self hq9)) rfl ?_
            rw [EK.out]
            refine ⟨AA, CC, by rw [HTT.out]; rfl, fun i hi => ?_, ?_⟩
            · have o1 := (HO.out i hi).below hb9 (fun k hk => ((HO.out i hi).lt k hk).2)
              rw [hqw]
              show Own _ q 5 (.slice (AA i) ((⟨tw, t0, t1, t2⟩ : PWl).tx i).length (CC i)) ((⟨tw, t0, t1, t2⟩ : PWl).tx i)
              rw [← HTT.out]
              exact own_setR o1 hq9 (by decide)
            · rw [hqw]
              exact row_below (hb.trans (hb9.mono (by have := hb.size; omega))) (Nat.le_refl _) _
          · have HM := Lib.hid (show decide (MayW (tw : Int) (tt 0).length (tt 1).length (tt 2).length) = false by rw [HT0.out, HT1.out, HT2.out]; exact decide_eq_false hm)
            have EK := Lib.hid (show wlK (⟨tw, t0, t1, t2⟩, s5) = (noWl, 3) from if_neg (fun h => hm h.2.2))
            clear hm
            go_wp2_with (first | (refine wpList_valg rfl (run_op_load_v rfl RTWl rfl hq) ?_) | (go_at_call 35; (refine (mayWelcome_any (tw : Int) (AA 0) (tt 0).length (CC 0) (AA 1) (tt 1).length (CC 1) (AA 2) (tt 2).length (CC 2) _).mono ?_); rintro e w9 ⟨rfl, hb9⟩; rw [HM.out]; have hq9 := keep_below hb9 (lt_of_block hq) hq) | (refine wpList_val_w rfl (run_built0 rfl built_wl) ?_) | (refine wpList_store_v (f' := wlG 0 noTx noA noC 0) rfl rfl RTWl rfl rfl hq9 (fun i _ => wlG_one _ _ _ _ _ i) ?_))
            refine bodyPost_ret (results_v_tmp rfl rfl rfl RTWl (row_self hq9)) rfl ?_
            rw [EK.out]
            refine ⟨noA, noC, rfl, noWl_own _ _, ?_⟩
            rw [hqw]
            exact row_below (hb.trans (hb9.mono (by have := hb.size; omega))) (Nat.le_refl _) _
theorem wlV_long {l : List Nat} (h : 1048576 < l.length) : wlV l = (noWl, 4) := if_pos h
theorem wlV_kind {l : List Nat} (h : ¬ 1048576 < l.length) {k : Nat} {s1 : Rs} (hk : numP 1 ⟨l, false⟩ = (k, s1)) (hne : k ≠ 2) : wlV l = (noWl, 3) := by
  unfold wlV
  rw [if_neg h, hk]
  exact if_pos hne
theorem wlV_more {l : List Nat} (h : ¬ 1048576 < l.length) {s1 : Rs} (hk : numP 1 ⟨l, false⟩ = (2, s1)) : wlV l = wlK (wlP s1) := by
  unfold wlV
  rw [if_neg h, hk]
  dsimp only
  rw [if_neg (by simp)]
  rfl
theorem ReadWelcome_any (A : Option Addr) (n c : Nat) (l : List Nat) (w : World) (h : Src w w.heap.size A n c l) :
    Calls Try.prog 28 #[.slice A n c] w (WlPost w (wlV l)) := by
  have hl := h.txt.len
  by_cases hn : 1048576 < n
  · rw [wlV_long (by omega)]
    exact ReadWelcome_long A n c l w h hn
  · obtain ⟨k, s1, hk⟩ := pair_of (numP 1 ⟨l, false⟩)
    by_cases hne : k = 2
    · subst hne
      rw [wlV_more (by omega) hk]
      exact ReadWelcome_more A n c l w h (by omega) hk
    · rw [wlV_kind (by omega) hk hne]
      exact ReadWelcome_kind A n c l w h (by omega) hk hne
end Go.Proofs.Ytfbfkfdkigpkgaa
