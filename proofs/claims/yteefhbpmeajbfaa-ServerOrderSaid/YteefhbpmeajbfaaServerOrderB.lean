/- Lists in memory, told by their elements' kinds: read ('LiF', 'TxF'), owned ('rowC'). No program is in sight. x[i] of an array that is a value; no program is in sight. The walks of texts: copies, sameness, a number's bytes. The walk of the reference's Bytes. A commit, in memory; when it may be; its head (plain). What is read of bytes: numbers, keys, texts, lists of them (plain); what was read is, written, what stood there. Parts of slices. No program is in sight. The walk of slices.Clone of a text. The walks of bits.Len64 and of wire.fits: whether a number has room in so many bytes. The walks of a number's bytes: wire.Num at one number, and the reference's. The walks of layer 16's pen: what writes numbers and texts. The walks of layer 16: whether a frame, and a welcome, may be. Two rows of integers held against each other. The walks of layer 16: proposals, steps, places, boxes that may not be; any of many. -/
import Derived.Test.YteefhbpmeajbfaaServerOrderA
import Derived.WalkKit
import Derived.WalkSpells
import Derived.WalkLawsBesides
import Derived.Deep.QuietTactic
import Derived.BigQuiet
import Derived.StillTailTactics
import Derived.Lib.Hide
import Derived.Deep.LoopGhost
import Derived.Outline
import Derived.Deep.DeepFit
import Derived.Deep.RegionHeld3
import Derived.Deep.RegionLaw
import Derived.OrdersHeld
import Derived.Laws.StructEq
import Derived.Maps.AppendAt
import Derived.Deep.AppendLies
import Derived.Deep.Draws
import Derived.Laws.OwnMore
import Derived.Laws.AppendOwnNone
import Derived.OwnWalk
import Derived.Below
import Derived.Deep.Cut
import Derived.Deep.CutBlock
import Derived.Deep.CutRange
import Derived.DataElems
import Derived.Great.BuildSlice
import Derived.Laws.Entries
import Derived.Laws.Tables
import Derived.SizedLaws
import Derived.Lib.SliceRun
import Derived.Laws.Small
import Derived.Great.Walk
import Derived.Test.YteefhbpmeajbfaaRows
import Derived.Laws.IdiomStrings
import Derived.Lib.Tables
import Derived.Lib.BitFns
namespace Go.Proofs.Yteefhbpmeajbfaa
set_option linter.unusedSimpArgs false
set_option linter.unusedVariables false
open Go.RowKit

/-- A kind of elements: where parts of one may lie (μ), its cells, what lies elsewhere. -/
structure Ty (α : Type) where
  μ : Type
  dft : μ
  sz : Nat
  pos : 0 < sz
  ch : α → μ → List Chunk
  nest : α → μ → World → Prop
  len : ∀ x m, lens (ch x m) = sz
  one : ∀ x m, oneC (ch x m)
/-- A list that is read. -/
structure LiF {α : Type} (T : Ty α) (A : Option Addr) (c : Nat) (xs : List α) (m : Nat → T.μ) (w : World) : Prop where
  cap : xs.length ≤ c
  big : xs.length ≤ 9223372036854775807
  nil : A = none → xs.length = 0 ∧ c = 0
  at_ : ∀ ad, A = some ad → ∀ i x, xs[i]? = some x → AtC (ad.add (i * T.sz)) (T.ch x (m i)) w ∧ T.nest x (m i) w
/-- Integers, as elements. -/
def IntT : Ty Int where
  μ := Unit
  dft := ()
  sz := 1
  pos := by decide
  ch x _ := [.one (.int .i64 x)]
  nest _ _ _ := True
  len _ _ := rfl
  one _ _ := ⟨rfl, trivial⟩
/-- A text that is read. -/
structure TxF (A : Option Addr) (c : Nat) (l : List Nat) (w : World) : Prop where
  cap : l.length ≤ c
  len : l.length ≤ 140737488355328
  byt : ∀ x ∈ l, x < 256
  nil : A = none → l.length = 0 ∧ c = 0
  at_ : ∀ ad, A = some ad → ∀ i x, l[i]? = some x → w.cell? (ad.add i) = some (bv x)
/-- Texts, as elements. -/
def TextT : Ty (List Nat) where
  μ := Option Addr × Nat
  dft := (none, 0)
  sz := 1
  pos := by decide
  ch l m := [.one (.slice m.1 l.length m.2)]
  nest l m := TxF m.1 m.2 l
  len _ _ := rfl
  one _ _ := ⟨rfl, trivial⟩
section
variable {A : Option Addr} {c : Nat} {l : List Nat} {w : World} {Y : List Nat}
theorem TxF.txt (h : TxF A c l w) : Txt w w.heap.size A l.length c l := ⟨rfl, h.nil, fun hn => by
  cases A with
  | none => have := (h.nil rfl).1; omega
  | some ad =>
    refine ⟨ad, rfl, ?_, h.at_ ad rfl⟩
    have := h.at_ ad rfl 0 l[0] (by simp [hn])
    have h2 := World.block_lt_of_cell? _ _ this
    rwa [add_block] at h2⟩
theorem TxF.nil_ : TxF none 0 [] w := ⟨Nat.le_refl _, Nat.zero_le _, by simp, fun _ => ⟨rfl, rfl⟩, fun _ h => by cases h⟩
theorem txF_of {n : Nat} (h : Txt w w.heap.size A n c l) (hc : n ≤ c) (hl : n ≤ 140737488355328) (hb : ∀ x ∈ l, x < 256) : St (TxF A c l) w [] := fun w' hk => by
  have hlen := h.len
  refine ⟨by omega, by omega, hb, fun e => by rw [hlen]; exact h.nil e, fun ad e i x hx => ?_⟩
  have hi := (List.getElem?_eq_some_iff.1 hx).1
  obtain ⟨ad', e', hbl, hcell⟩ := h.at_ (by omega)
  rw [e] at e'
  obtain rfl := Option.some.inj e'
  rw [← hcell i x hx]
  exact World.cell?_of_block (hk _ (by rw [add_block]; exact hbl) (by simp))
/-- A row of bytes, known. -/
theorem txF_row {v : Value} {e : TypeId} (h : St (fun w => (Res.row v e 1 l.length (l.map bv)).holds w) w Y) (hl : l.length ≤ 140737488355328) (hb : ∀ x ∈ l, x < 256) : ∃ A c, v = .slice A l.length c ∧ St (TxF A c l) w Y := by
  have h0 : w.ownsRow 0 e 1 v l.length (l.map bv) := h.now
  rcases h0.2 with ⟨rfl, h1⟩ | ⟨g, cap, cur, rfl, _, hh, hn, _⟩
  · refine ⟨none, 0, by rw [h1], fun w' hk => ⟨by omega, hl, hb, fun _ => ⟨h1, rfl⟩, fun _ h => by cases h⟩⟩
  · refine ⟨some ⟨g, 0, none⟩, cap, rfl, fun w' hk => ⟨hn, hl, hb, (fun h => by cases h), fun ad e i x hx => ?_⟩⟩
    obtain rfl := Option.some.inj e
    have h2 : w'.ownsRow 0 _ 1 _ l.length (l.map bv) := h w' hk
    exact h2.cells rfl i (bv x) (by simp [hx])
end
section
variable {α : Type} {T : Ty α} {A : Option Addr} {c : Nat} {xs : List α} {m : Nat → T.μ} {w w' : World} {Y : List Nat}
theorem LiF.get (h : St (LiF T A c xs m) w Y) {i : Nat} {x : α} (hx : xs[i]? = some x) : ∃ ad, A = some ad ∧ St (AtC (ad.add (i * T.sz)) (T.ch x (m i))) w Y ∧ St (T.nest x (m i)) w Y := by
  cases A with
  | none =>
    have := (h.now.nil rfl).1
    have h2 := (List.getElem?_eq_some_iff.1 hx).1
    omega
  | some ad => exact ⟨ad, rfl, fun w' hk => ((h w' hk).at_ ad rfl i x hx).1, fun w' hk => ((h w' hk).at_ ad rfl i x hx).2⟩
theorem liF_nil : St (LiF T none 0 [] m) w Y := fun _ _ => ⟨Nat.le_refl _, Nat.zero_le _, fun _ => ⟨rfl, rfl⟩, fun _ h => by cases h⟩
/-- The elements, and where their parts lie. -/
def itemsOf (T : Ty α) (xs : List α) (m : Nat → T.μ) : List (α × T.μ) := xs.mapIdx fun i x => (x, m i)
theorem itms_len : (itemsOf T xs m).length = xs.length := by simp [itemsOf]
theorem items_at (i : Nat) : (itemsOf T xs m)[i]? = (xs[i]?).map fun x => (x, m i) := by simp [itemsOf]
def rowC (T : Ty α) (its : List (α × T.μ)) : List Value := its.flatMap fun p => cl (T.ch p.1 p.2)
def NestF (T : Ty α) (its : List (α × T.μ)) (w : World) : Prop := ∀ p ∈ its, T.nest p.1 p.2 w
theorem rowC_len (its : List (α × T.μ)) : (rowC T its).length = its.length * T.sz := by
  unfold rowC
  induction its with
  | nil => simp
  | cons p its ih => rw [List.flatMap_cons, List.length_append, ih, cl_len, T.len, List.length_cons, Nat.succ_mul]; omega
theorem rowC_app (a b : List (α × T.μ)) : rowC T (a ++ b) = rowC T a ++ rowC T b := by unfold rowC; rw [List.flatMap_append]
theorem rowC_one (p : α × T.μ) : rowC T [p] = cl (T.ch p.1 p.2) := by simp [rowC]
theorem rowC_at : ∀ (its : List (α × T.μ)) (i j : Nat) (p : α × T.μ) (u : Value), its[i]? = some p → (cl (T.ch p.1 p.2))[j]? = some u → (rowC T its)[i * T.sz + j]? = some u
  | [], i, j, p, u, h, _ => by simp at h
  | q :: its, 0, j, p, u, h, hj => by
    obtain rfl : q = p := by simpa using h
    have hl := (List.getElem?_eq_some_iff.1 hj).1
    unfold rowC
    rw [List.flatMap_cons, Nat.zero_mul, Nat.zero_add, List.getElem?_append_left hl]
    exact hj
  | q :: its, i + 1, j, p, u, h, hj => by
    have ih := rowC_at its i j p u (by simpa using h) hj
    unfold rowC at *
    have hlq : (cl (T.ch q.1 q.2)).length = T.sz := by rw [cl_len, T.len]
    rw [List.flatMap_cons, List.getElem?_append_right (by rw [hlq, Nat.succ_mul]; omega), hlq, show (i + 1) * T.sz + j - T.sz = i * T.sz + j by rw [Nat.succ_mul]; omega]
    exact ih
theorem rowC_one' (its : List (α × T.μ)) : ∀ u ∈ rowC T its, u.oneCell' = true := fun u hu => by
  unfold rowC at hu
  obtain ⟨p, _, hp⟩ := List.mem_flatMap.1 hu
  exact oneC_cl (T.one p.1 p.2) u hp
theorem rowC_set : ∀ (its : List (α × T.μ)) (i : Nat) (p q : α × T.μ) (off : Nat) (new : List Chunk), its[i]? = some p → putC (T.ch p.1 p.2) off new = some (T.ch q.1 q.2) →
    rowC T (its.set i q) = (rowC T its).take (i * T.sz + off) ++ cl new ++ (rowC T its).drop (i * T.sz + off + lens new)
  | [], i, p, q, off, new, h, _ => by simp at h
  | r :: its, 0, p, q, off, new, h, hp => by
    obtain rfl : r = p := by simpa using h
    obtain ⟨h1, h2⟩ := putC_cl _ _ _ _ hp
    rw [T.len] at h2
    have hl : (cl (T.ch r.1 r.2)).length = T.sz := by rw [cl_len, T.len]
    have e1 : rowC T (r :: its) = cl (T.ch r.1 r.2) ++ rowC T its := by simp [rowC]
    have e2 : rowC T ((r :: its).set 0 q) = cl (T.ch q.1 q.2) ++ rowC T its := by simp [rowC]
    rw [e1, e2, h1, Nat.zero_mul, Nat.zero_add, List.take_append, List.drop_append, hl, show off - T.sz = 0 by omega, show off + lens new - T.sz = 0 by omega]
    simp
  | r :: its, i + 1, p, q, off, new, h, hp => by
    have ih := rowC_set its i p q off new (by simpa using h) hp
    have hl : (cl (T.ch r.1 r.2)).length = T.sz := by rw [cl_len, T.len]
    have e1 : rowC T (r :: its) = cl (T.ch r.1 r.2) ++ rowC T its := by simp [rowC]
    have e2 : rowC T ((r :: its).set (i + 1) q) = cl (T.ch r.1 r.2) ++ rowC T (its.set i q) := by simp [rowC]
    rw [e1, e2, ih, List.take_append, List.drop_append, hl, List.take_of_length_le (l := cl (T.ch r.1 r.2)) (by rw [hl, Nat.succ_mul]; omega), List.drop_of_length_le (l := cl (T.ch r.1 r.2)) (by rw [hl, Nat.succ_mul]; omega)]
    rw [show (i + 1) * T.sz + off - T.sz = i * T.sz + off by rw [Nat.succ_mul]; omega, show (i + 1) * T.sz + off + lens new - T.sz = i * T.sz + off + lens new by rw [Nat.succ_mul]; omega]
    simp only [List.append_assoc, List.nil_append]
theorem nest_items (h : St (LiF T A c xs m) w Y) : St (NestF T (itemsOf T xs m)) w Y := fun w' hk p hp => by
  obtain ⟨i, hi⟩ := List.mem_iff_getElem?.1 hp
  rw [items_at, Option.map_eq_some_iff] at hi
  obtain ⟨x, hx, rfl⟩ := hi
  have h' := h w' hk
  cases A with
  | none =>
    have := (h'.nil rfl).1
    have h2 := (List.getElem?_eq_some_iff.1 hx).1
    omega
  | some ad => exact (h'.at_ ad rfl i x hx).2
/-- A row that was owned, read. -/
theorem liF_row {e : TypeId} {its : List (α × T.μ)} {n : Nat} (h : St (fun w => (Res.row (.slice A n c) e T.sz n (rowC T its)).holds w) w Y) (hn : n = its.length) (hnest : St (NestF T its) w Y) :
    St (LiF T A c (its.map Prod.fst) (fun i => ((its[i]?).map Prod.snd).getD T.dft)) w Y := fun w' hk => by
  have h' : w'.ownsRow 0 e T.sz (.slice A n c) n (rowC T its) := h w' hk
  have hcells := fun {g} hg => h'.cells (g := g) hg
  refine ⟨?_, ?_, fun hA => ?_, fun ad hA i x hx => ?_⟩
  · rcases h'.2 with ⟨h1, h2⟩ | ⟨g, cap, cur, h1, _, _, h2, _⟩
    · injection h1 with _ _ h3; rw [List.length_map]; omega
    · injection h1 with _ _ h3; subst h3; rw [List.length_map]; omega
  · rcases h'.2 with ⟨h1, h2⟩ | ⟨g, cap, cur, h1, _, _, h2, h3, _⟩
    · rw [List.length_map]; omega
    · unfold maxLen at h3; rw [List.length_map]; omega
  · rcases h'.2 with ⟨h1, h2⟩ | ⟨g, cap, cur, h1, _⟩
    · injection h1 with _ _ h3; exact ⟨by rw [List.length_map]; omega, h3⟩
    · injection h1 with h3; rw [hA] at h3; cases h3
  · rw [List.getElem?_map, Option.map_eq_some_iff] at hx
    obtain ⟨p, hp, rfl⟩ := hx
    have had : ad.off = 0 ∧ ad.spot = none := by
      rcases h'.2 with ⟨h1, h2⟩ | ⟨g, cap, cur, h1, _⟩
      · injection h1 with h3; rw [hA] at h3; cases h3
      · injection h1 with h3; rw [hA] at h3; obtain rfl := Option.some.inj h3; exact ⟨rfl, rfl⟩
    obtain ⟨b, off, sp⟩ := ad
    obtain ⟨rfl, rfl⟩ := had
    refine ⟨fun j u hu => ?_, ?_⟩
    · rw [Addr.add_add]
      simp only [hp, Option.map_some, Option.getD_some] at hu
      exact hcells (g := b) (by rw [hA]; rfl) _ u (rowC_at its i j p u hp hu)
    · simp only [hp, Option.map_some, Option.getD_some]
      exact hnest w' hk p (List.mem_of_getElem? hp)
end
section
variable {P : Program} {o : Oper} {a : Act} {w ws : World} {Q : Exit → Act → World → Prop} {N d : Nat} {l : List (Nat × Value)} {v : Value} {S : Nat → Prop} {K : Act → World → Prop}
  {X G : List Nat} {w0 : World} {L L' : List Res} {R : List (World → Prop)}
theorem pk_loadF1 {Y : List Nat} {ad : Addr} {off ty : Nat} {cs : List Chunk} {x : Operand} (h : St (AtC ad cs) ws Y) (hS : ∀ k, k < ws.heap.size → k ∉ Y → S k) (ho : o.op = .load ty x) (hx : ev l x = some (.pointer (some (ad.add off)))) (hp : pickC cs off 1 = some [.one v]) (ht : tyK P ty = some (1, false)) : PK P S ws l o v := fun w' hk a N E =>
  run_load1_at E ho hx ht (at_pick (fact_now h hk hS) hp)
theorem pk_loadE {Y : List Nat} {ad : Addr} {n ty : Nat} {cs : List Chunk} {x : Operand} (h : St (AtC ad cs) ws Y) (hS : ∀ k, k < ws.heap.size → k ∉ Y → S k) (ho : o.op = .load ty x) (hx : ev l x = some (.pointer (some ad))) (hn : lens cs = n) (ht : tyK P ty = some (n, true)) : PK P S ws l o (.agg (ca cs)) := fun w' hk a N E =>
  run_load_at E ho hx ht hn (fact_now h hk hS)
theorem pk_loadE1 {Y : List Nat} {ad : Addr} {ty : Nat} {cs : List Chunk} {x : Operand} (h : St (AtC ad cs) ws Y) (hS : ∀ k, k < ws.heap.size → k ∉ Y → S k) (ho : o.op = .load ty x) (hx : ev l x = some (.pointer (some ad))) (hp : cs = [.one v]) (ht : tyK P ty = some (1, false)) : PK P S ws l o v := fun w' hk a N E =>
  run_load1_at E ho hx ht (by rw [← hp]; exact fact_now h hk hS)
/-- A byte of a text. -/
theorem pk_byte {Y : List Nat} {A : Option Addr} {c i ty : Nat} {m : List Nat} {ad : Addr} {b : Nat} {x : Operand} (h : St (TxF A c m) ws Y) (hS : ∀ k, k < ws.heap.size → k ∉ Y → S k) (hA : A = some ad) (ho : o.op = .load ty x) (hx : ev l x = some (.pointer (some (ad.add (i * 1))))) (hb : m[i]? = some b) (ht : tyK P ty = some (1, false)) : PK P S ws l o (bv b) := fun w' hk a N E =>
  run_load1_at E ho hx ht (fun j u hu => by
    cases j with
    | zero =>
      obtain rfl : bv b = u := by simpa [cl, Chunk.cells] using hu
      rw [addr_add_zero, Nat.mul_one]
      exact (fact_now h hk hS).at_ ad hA i b hb
    | succ j => simp [cl, Chunk.cells] at hu)
/-- What is added to an own row. -/
structure AppK (P : Program) (t e sz by_ : Nat) : Prop where
  sl : P.underlying t = some (.slice e)
  info : (P.info? e).map (fun i => (i.zero.map (·.cells.size), i.size, i.bytes)) = some (some sz, sz, by_)
theorem run_app {t e ty : TypeId} {sz by_ n m c : Nat} {xs news : List Value} {A : Option Addr} (hT : AppK P t e sz by_) (h0 : 0 < sz) (hown : w.ownsRow 0 e sz v n xs) (hl : news.length = m * sz) (hnil : A = none → m = 0 ∧ c = 0) (hsrc : ∀ ad, A = some ad → ∀ j u, news[j]? = some u → w.cell? (ad.add j) = some u) (h1 : ∀ u ∈ news, u.oneCell' = true)
    (hn : n + m ≤ 9223372036854775807) (hby : (n + m) * by_ ≤ 140737488355328) :
    ∃ v' w', (Builtin.append_ #[t, t] ty #[v, .slice A m c]).run P w = .ok v' w' ∧ w'.ownsRow 0 e sz v' (n + m) (xs ++ news) ∧ w.grownBy w' v.ownBlock ∧ (v'.ownBlock = v.ownBlock ∨ v'.ownBlock = some w.heap.size) := by
  have hinfo := hT.info
  cases hi : P.info? e with
  | none => rw [hi] at hinfo; cases hinfo
  | some i =>
    rw [hi] at hinfo
    simp only [Option.map_some, Option.some.injEq, Prod.mk.injEq] at hinfo
    obtain ⟨hz, hs, hbt⟩ := hinfo
    cases hzz : i.zero with
    | none => rw [hzz] at hz; cases hz
    | some z =>
      rw [hzz] at hz
      simp only [Option.map_some, Option.some.injEq] at hz
      cases A with
      | none =>
        obtain ⟨rfl, rfl⟩ := hnil rfl
        obtain rfl : news = [] := List.eq_nil_of_length_eq_zero (by simpa using hl)
        exact ⟨v, w, run_append_owned_none (P := P) (w := w) 0 t ty e i sz hT.sl hi v n xs hown, by simpa using hown, World.grownBy.refl w _, .inl rfl⟩
      | some ad =>
        obtain ⟨v', w', hrun, h5, h6, _, h7⟩ := run_append_own_at (P := P) w 0 t ty e i z sz by_ hT.sl hi hzz hs hbt hz h0 v n xs hown ad m c news hl (hsrc ad rfl) h1 (by unfold maxLen; omega) hby (Nat.zero_le _)
        exact ⟨v', w', hrun, h5, h6, h7⟩
theorem eff_app {t e sz by_ n m c : Nat} {xs news : List Value} {A : Option Addr} {s x : Operand} (i : Nat) (E : Env a N l) (H : Sep X G w0 w L R) (ho : o.op = .call { callee := .builtin .append, args := #[s, x], argTypes := #[t, t] }) (hs : ev l s = some v) (hx : ev l x = some (.slice A m c)) (hi : L[i]? = some (.row v e sz n xs))
    (hT : AppK P t e sz by_) (h0 : 0 < sz) (hl : news.length = m * sz) (hnil : A = none → m = 0 ∧ c = 0) (hsrc : ∀ ad, A = some ad → ∀ j u, news[j]? = some u → w.cell? (ad.add j) = some u) (h1 : ∀ u ∈ news, u.oneCell' = true) (hn : n + m ≤ 9223372036854775807) (hby : (n + m) * by_ ≤ 140737488355328)
    (h : ∀ A' c' w', n + m ≤ c' → Sep X G w0 w' (L.set i (.row (.slice A' (n + m) c') e sz (n + m) (xs ++ news))) R → Frm v.ownBlock.toList w w' → K (a.put o.dst (.slice A' (n + m) c')) w') : o.wp P a w K Q := by
  have hown : w.ownsRow 0 e sz v n xs := H.holds _ (List.mem_of_getElem? hi)
  obtain ⟨v', w', hrun, h2, h3, h4⟩ := run_app (P := P) (ty := o.type) hT h0 hown hl hnil hsrc h1 hn hby
  obtain ⟨A', c', rfl, hc'⟩ : ∃ A' c', v' = .slice A' (n + m) c' ∧ n + m ≤ c' := by
    rcases h2.2 with ⟨e1, e2⟩ | ⟨g, cap, cur, e1, _, _, e2, _⟩
    · exact ⟨none, 0, by rw [e1, e2], by omega⟩
    · exact ⟨_, _, e1, e2⟩
  unfold Oper.wp execOp
  simp only [ho, resolve, invoke, builtin, Sem.run_bind, Sem.run_pure, Result.andThen_ok, List.map_toArray, List.map_cons, List.map_nil, E.ev hs, E.ev hx, hrun]
  refine h A' c' w' hc' (H.turnAt (q' := .row (.slice A' (n + m) c') e sz (n + m) (xs ++ news)) i hi (Frm.of_grown h3) h2 (fun k hk => ?_) ?_ rfl) (Frm.of_grown h3)
  · simp only [Res.keys, Option.mem_toList] at hk ⊢
    rcases h4 with h4 | h4
    · rw [← h4]; exact .inl hk
    · rw [h4] at hk
      obtain rfl := Option.some.inj hk
      exact .inr (Nat.le_refl _)
  · simp only [Res.keys]
    cases (Value.slice A' (n + m) c').ownBlock <;> simp
/-- One element, which lies in an own block. -/
theorem eff_app1 {α : Type} {T : Ty α} {t e by_ b : Nat} {its : List (α × T.μ)} {q : α × T.μ} {cs : List Chunk} {s x : Operand} (i j : Nat) (E : Env a N l) (H : Sep X G w0 w L R) (ho : o.op = .call { callee := .builtin .append, args := #[s, x], argTypes := #[t, t] }) (hs : ev l s = some v) (hx : ev l x = some (.slice (some ⟨b, 0, none⟩) 1 1)) (hi : L[i]? = some (.row v e T.sz its.length (rowC T its))) (hj : L[j]? = some (.blk b (ca cs) e)) (hq : cs = T.ch q.1 q.2)
    (hT : AppK P t e T.sz by_) (hn : its.length + 1 ≤ 9223372036854775807) (hby : (its.length + 1) * by_ ≤ 140737488355328)
    (h : ∀ A' c' w', its.length + 1 ≤ c' → Sep X G w0 w' (L.set i (.row (.slice A' (its ++ [q]).length c') e T.sz (its ++ [q]).length (rowC T (its ++ [q])))) R → Frm v.ownBlock.toList w w' → K (a.put o.dst (.slice A' (its ++ [q]).length c')) w') : o.wp P a w K Q := by
  have hb : w.heap[b]? = some (.cells (ca cs) e (0, 0)) := H.holds _ (List.mem_of_getElem? hj)
  refine eff_app (news := cl cs) i E H ho hs hx hi hT T.pos (by rw [cl_len, hq, T.len]; omega) (fun h => by cases h) (fun ad he k u hu => ?_) (by rw [hq]; exact oneC_cl (T.one _ _)) hn hby fun A' c' w' h1 h2 h3 => ?_
  · obtain rfl := Option.some.inj he
    exact at_blk hb k u hu
  · have e1 : its.length + 1 = (its ++ [q]).length := by simp
    have e2 : rowC T its ++ cl cs = rowC T (its ++ [q]) := by rw [rowC_app, rowC_one, hq]
    rw [e1, e2] at h2
    rw [e1]
    exact h A' c' w' h1 h2 h3
/-- A list that is read. -/
theorem eff_appL {α : Type} {T : Ty α} {t e by_ c : Nat} {A : Option Addr} {xs : List α} {m : Nat → T.μ} {its : List (α × T.μ)} {Y : List Nat} {s x : Operand} (i : Nat) (E : Env a N l) (H : Sep X G w0 w L R) (hr : St (LiF T A c xs m) w Y) (ho : o.op = .call { callee := .builtin .append, args := #[s, x], argTypes := #[t, t] }) (hs : ev l s = some v) (hx : ev l x = some (.slice A xs.length c)) (hi : L[i]? = some (.row v e T.sz its.length (rowC T its)))
    (hT : AppK P t e T.sz by_) (hn : its.length + xs.length ≤ 9223372036854775807) (hby : (its.length + xs.length) * by_ ≤ 140737488355328)
    (h : ∀ A' c' w', its.length + xs.length ≤ c' → Sep X G w0 w' (L.set i (.row (.slice A' (its ++ itemsOf T xs m).length c') e T.sz (its ++ itemsOf T xs m).length (rowC T (its ++ itemsOf T xs m)))) R → Frm v.ownBlock.toList w w' → K (a.put o.dst (.slice A' (its ++ itemsOf T xs m).length c')) w') : o.wp P a w K Q := by
  have hnow := hr.now
  refine eff_app (news := rowC T (itemsOf T xs m)) i E H ho hs hx hi hT T.pos (by rw [rowC_len, itms_len]) (fun h => hnow.nil h) (fun ad he k u hu => ?_) (rowC_one' _) hn hby fun A' c' w' h1 h2 h3 => ?_
  · -- a cell of an element
    have hk : k < xs.length * T.sz := by
      have := (List.getElem?_eq_some_iff.1 hu).1
      rw [rowC_len, itms_len] at this
      exact this
    have hlt : k / T.sz < xs.length := (Nat.div_lt_iff_lt_mul T.pos).2 hk
    have hx' : xs[k / T.sz]? = some xs[k / T.sz] := List.getElem?_eq_getElem hlt
    have hat := (hnow.at_ ad he _ _ hx').1
    have hmod := Nat.mod_lt k T.pos
    have hcl : k % T.sz < (cl (T.ch xs[k / T.sz] (m (k / T.sz)))).length := by rw [cl_len, T.len]; exact hmod
    have hu' := rowC_at (T := T) (itemsOf T xs m) (k / T.sz) (k % T.sz) _ _ (by rw [items_at, hx']; rfl) (List.getElem?_eq_getElem hcl)
    rw [show k / T.sz * T.sz + k % T.sz = k by rw [Nat.mul_comm]; exact Nat.div_add_mod k T.sz] at hu'
    rw [hu] at hu'
    obtain rfl := Option.some.inj hu'
    have := hat _ _ (List.getElem?_eq_getElem hcl)
    rwa [Addr.add_add, show k / T.sz * T.sz + k % T.sz = k by rw [Nat.mul_comm]; exact Nat.div_add_mod k T.sz] at this
  · have e1 : its.length + xs.length = (its ++ itemsOf T xs m).length := by rw [List.length_append, itms_len]
    rw [e1, ← rowC_app] at h2
    rw [e1]
    exact h A' c' w' h1 h2 h3
/-- An own row's element's place. -/
theorem row_addr {e sz n c : Nat} {A : Option Addr} {xs : List Value} (h : w.ownsRow 0 e sz (.slice A n c) n xs) (h0 : 0 < n) : ∃ g, A = some ⟨g, 0, none⟩ := by
  rcases h.2 with ⟨e1, e2⟩ | ⟨g, cap, cur, e1, _⟩
  · omega
  · injection e1 with e1; exact ⟨g, e1⟩
theorem row_cells {α : Type} {T : Ty α} {e c n g j : Nat} {A : Option Addr} {its : List (α × T.μ)} {w' : World} (H : Sep X G w0 ws L R) (hj : L[j]? = some (.row (.slice A n c) e T.sz n (rowC T its))) (hA : A = some ⟨g, 0, none⟩) (hS : S g) (hk : CanB.Keep S ws w') {i : Nat} {p : α × T.μ} (hi : its[i]? = some p) : AtC ((⟨g, 0, none⟩ : Addr).add (i * T.sz)) (T.ch p.1 p.2) w' := by
  subst hA
  have hown := res_keep (H.holds _ (List.mem_of_getElem? hj)) (w' := w') (fun k hk' => by
    simp only [Res.keys, Value.ownBlock, Option.toList_some, List.mem_singleton] at hk'
    subst hk'
    exact hk _ hS)
  intro j' u hu
  rw [Addr.add_add]
  exact World.ownsRow.cells hown (g := g) rfl _ u (rowC_at its i j' p u hi hu)
theorem pk_loadR {α : Type} {T : Ty α} {e c i off n sz ty g : Nat} {A : Option Addr} {its : List (α × T.μ)} {p : α × T.μ} {sub : List Chunk} {x : Operand} {pa : Addr} (H : Sep X G w0 ws L R) (j : Nat) (hj : L[j]? = some (.row (.slice A n c) e T.sz n (rowC T its))) (hA : A = some ⟨g, 0, none⟩) (hi : its[i]? = some p) (hS : S g) (ho : o.op = .load ty x) (hx : ev l x = some (.pointer (some pa))) (hpa : pa = ((⟨g, 0, none⟩ : Addr).add (i * T.sz)).add off) (hp : pickC (T.ch p.1 p.2) off sz = some sub) (ht : tyK P ty = some (sz, true)) : PK P S ws l o (.agg (ca sub)) := fun w' hk a N E => by
  subst hpa
  exact run_load_at E ho hx ht (pickC_cl hp).2.1 (at_pick (row_cells H hj hA hS hk hi) hp)
theorem pk_loadR1 {α : Type} {T : Ty α} {e c i off n ty g : Nat} {A : Option Addr} {its : List (α × T.μ)} {p : α × T.μ} {x : Operand} {pa : Addr} (H : Sep X G w0 ws L R) (j : Nat) (hj : L[j]? = some (.row (.slice A n c) e T.sz n (rowC T its))) (hA : A = some ⟨g, 0, none⟩) (hi : its[i]? = some p) (hS : S g) (ho : o.op = .load ty x) (hx : ev l x = some (.pointer (some pa))) (hpa : pa = ((⟨g, 0, none⟩ : Addr).add (i * T.sz)).add off) (hp : pickC (T.ch p.1 p.2) off 1 = some [.one v]) (ht : tyK P ty = some (1, false)) : PK P S ws l o v := fun w' hk a N E => by
  subst hpa
  exact run_load1_at E ho hx ht (at_pick (row_cells H hj hA hS hk hi) hp)
/-- A store into an own row's element. -/
theorem eff_storeR {α : Type} {T : Ty α} {e c i off n ty g : Nat} {A : Option Addr} {its : List (α × T.μ)} {p : α × T.μ} (q : α × T.μ) {new : List Chunk} {x y : Operand} {pa : Addr} (j : Nat) (E : Env a N l) (H : Sep X G w0 w L R) (hj0 : L[j]? = some (.row (.slice A n c) e T.sz n (rowC T its))) (hA : A = some ⟨g, 0, none⟩) (hn : n = its.length) (hi : its[i]? = some p) (ho : o.op = .store ty x y) (hx0 : ev l x = some (.pointer (some pa))) (hpa : pa = ((⟨g, 0, none⟩ : Addr).add (i * T.sz)).add off) (hy : ev l y = some v) (hv : v.cells = ca new) (h1 : oneC new) (hp : putC (T.ch p.1 p.2) off new = some (T.ch q.1 q.2)) (hs : sizeK P ty = some (lens new))
    (h0 : ∀ w', Sep X G w0 w' (L.set j (.row (.slice A n c) e T.sz n (rowC T (its.set i q)))) R → Frm [g] w w' → K (a.put o.dst undef) w') : o.wp P a w K Q := by
  subst hA hn hpa
  have hj := hj0
  have hx := hx0
  have h : ∀ w', Sep X G w0 w' (L.set j (.row (.slice (some ⟨g, 0, none⟩) (its.set i q).length c) e T.sz (its.set i q).length (rowC T (its.set i q)))) R → Frm [g] w w' → K (a.put o.dst undef) w' := fun w' h2 h3 => h0 w' (by rwa [List.length_set] at h2) h3
  have hown : w.ownsRow 0 e T.sz (.slice (some ⟨g, 0, none⟩) its.length c) its.length (rowC T its) := H.holds _ (List.mem_of_getElem? hj)
  obtain ⟨hlen, hcase⟩ := hown
  rcases hcase with ⟨e1, _⟩ | ⟨g', cap, cur, e1, _, hh, hle, hmax, hsz, htk⟩
  · cases e1
  injection e1 with e1 _ e3
  injection e1 with e1
  injection e1 with e1
  subst e1 e3
  have hil : i < its.length := (List.getElem?_eq_some_iff.1 hi).1
  obtain ⟨h2, h3⟩ := putC_cl _ _ _ _ hp
  rw [T.len] at h3
  have hb1 : i * T.sz + T.sz ≤ its.length * T.sz := by rw [← Nat.succ_mul]; exact Nat.mul_le_mul_right _ hil
  have hb2 : its.length * T.sz ≤ c * T.sz := Nat.mul_le_mul_right _ hle
  have hx' : ev l x = some (.pointer (some ⟨g, i * T.sz + off, none⟩)) := by rw [hx, addr_add, addr_add, Nat.zero_add]
  have h4 := run_storeCells_at P g (i * T.sz + off) e (cl new) 0 cur w hh (by rw [cl_len, hsz]; omega) (oneC_cl h1)
  unfold sizeK at hs
  rw [Option.map_eq_some_iff] at hs
  obtain ⟨ti, hti, hsz2⟩ := hs
  rw [Nat.add_zero] at h4
  have hrun : (storeVar ty ⟨g, i * T.sz + off, none⟩ v).run P w = .ok () (w.setRow g (cur.toList.take (i * T.sz + off) ++ cl new ++ cur.toList.drop (i * T.sz + off + (cl new).length)).toArray) := by
    unfold storeVar
    simp only [sizeOf, typeInfo, Sem.run_bind, hv, ca_size]
    simp [hti, hsz2]
    simpa [ca] using h4
  have hr := run_op_store ho (E.ev hx') (E.ev hy) hrun
  unfold Oper.wp
  rw [hr]
  have hset := rowC_set its i p q off new hi hp
  refine h _ (H.turnAt (q' := .row (.slice (some ⟨g, 0, none⟩) (its.set i q).length c) e T.sz (its.set i q).length (rowC T (its.set i q))) j hj (frm_setRow g _ w) ⟨by rw [rowC_len], .inr ⟨g, c, _, rfl, Nat.zero_le _, row_self hh, by simp; omega, hmax, ?_, ?_⟩⟩ (by simp [Res.keys, Value.ownBlock]) (by simp [Res.keys, Value.ownBlock]) rfl) (frm_setRow g _ w)
  · simp [cl_len, hsz]
    omega
  · rw [hset]
    simp only [List.length_set]
    have hcl : (cl new).length = lens new := cl_len new
    rw [hcl]
    have hcurl : cur.toList.length = c * T.sz := by simp [hsz]
    rw [← htk, List.take_take, List.drop_take]
    rw [List.take_append, List.take_append, List.take_of_length_le (l := cur.toList.take (i * T.sz + off)) (by simp; omega), List.length_take, hcurl]
    rw [show min (i * T.sz + off) (c * T.sz) = i * T.sz + off by omega, List.take_of_length_le (l := cl new) (by rw [hcl]; omega), List.length_append, List.length_take, hcurl, hcl]
    rw [show min (i * T.sz + off) (c * T.sz) = i * T.sz + off by omega, show min (i * T.sz + off) (its.length * T.sz) = i * T.sz + off by omega]
end
end Go.Proofs.Yteefhbpmeajbfaa
namespace Go.Proofs.Yteefhbpmeajbfaa
open Go.RowKit
section
variable {P : Program} {ops : Array Oper} {rest : List Oper} {o : Oper} {a : Act} {w ws : World} {Q : Exit → Act → World → Prop} {N d : Nat} {l : List (Nat × Value)} {v : Value} {S : Nat → Prop} {T : Act → World → Prop} {p : List (Oper × Bool)}
  {X G D : List Nat} {w0 : World} {L : List Res} {R : List (World → Prop)}
theorem S_put (E : Env a N l) (hd : o.dst = some d) (hN : Nat.blt d N = true) (h : ∀ a', Env a' N ((d, v) :: l) → wpList P ops Q rest a' w) : wpList P ops Q rest (a.put o.dst v) w := h _ (by rw [hd]; exact E.put hN)
theorem S_put0 (hd : o.dst = none) (h : wpList P ops Q rest a w) : wpList P ops Q rest (a.put o.dst v) w := by rw [hd]; exact h
theorem C_put (E : Env a N l) (hd : o.dst = some d) (hN : Nat.blt d N = true) (h : ∀ a', Env a' N ((d, v) :: l) → CanB.wpCan P ops Q S T p a' w) : CanB.wpCan P ops Q S T p (a.put o.dst v) w := h _ (by rw [hd]; exact E.put hN)
theorem Sep.inS (H : Sep X G w0 ws L R) {b t : Nat} {c : Array Value} (i : Nat) (hi : L[i]? = some (.blk b c t)) (hD : b ∉ D) : b < ws.heap.size ∧ b ∉ D := ⟨res_lt (H.holds _ (List.mem_of_getElem? hi)) b (by simp [Res.keys]), hD⟩
theorem env_split {g : Prop} {β : Bool} (E : Env a N l) (hv : look l d = some (.bool β)) (ht : β = true → Env a N ((d, .bool true) :: l) → g) (hf : β = false → Env a N ((d, .bool false) :: l) → g) : g := by
  have key : ∀ b, β = b → Env a N ((d, .bool b) :: l) := fun b hb => E.sub fun i u hu => by
    simp only [look] at hu
    cases hq : Nat.beq d i
    · rw [hq] at hu; exact hu
    · rw [hq] at hu
      have := Nat.eq_of_beq_eq_true hq
      subst this
      rw [hv, hb]
      exact hu
  cases hβ : β
  · exact hf hβ (key _ hβ)
  · exact ht hβ (key _ hβ)
end
theorem wI64 {z : Int} (h1 : -9223372036854775808 ≤ z) (h2 : z ≤ 9223372036854775807) : IntKind.i64.wrap z = z := IntWalk.i64_in z ⟨h1, h2⟩
theorem wU64 {z : Int} (h1 : 0 ≤ z) (h2 : z ≤ 18446744073709551615) : IntKind.u64.wrap z = z := by
  simp [IntKind.wrap, IntKind.bits, IntKind.signed]
  omega
end Go.Proofs.Yteefhbpmeajbfaa
namespace Go.Proofs.Yteefhbpmeajbfaa
open Go.RowKit
theorem loop_end {K : Act → World → Prop} {Q : Exit → Act → World → Prop} {a : Act} {w : World} (h : K a w) : Exit.then K Q .normal a w := h
section
variable {K : Act → World → Prop} {Q : Exit → Act → World → Prop} {a : Act} {w : World} {i j : Nat}
theorem then_ret (h : Q .ret a w) : Exit.then K Q .ret a w := h
theorem block_ret (h : Q .ret a w) : Exit.inBlock i Q .ret a w := h
theorem then_exit (h : Q (.exit i) a w) : Exit.then K Q (.exit i) a w := h
theorem block_hit (h : Q .normal a w) : Exit.inBlock i Q (.exit i) a w := by
  show (if i = i then _ else _)
  rw [if_pos rfl]
  exact h
theorem block_miss (hne : j ≠ i) (h : Q (.exit j) a w) : Exit.inBlock i Q (.exit j) a w := by
  show (if j = i then _ else _)
  rw [if_neg hne]
  exact h
end
def keepE : List Nat → List (Nat × Value) → List (Nat × Value)
  | [], _ => []
  | i :: is, l => match look l i with
    | some v => (i, v) :: keepE is l
    | none => keepE is l
theorem keepE_sub (l : List (Nat × Value)) : ∀ is, Sub l (keepE is l)
  | [] => trivial
  | i :: is => by
    unfold keepE
    cases h : look l i with
    | none => exact keepE_sub l is
    | some v => exact ⟨h, keepE_sub l is⟩
theorem Sub.app {l a b : List (Nat × Value)} (h1 : Sub l a) (h2 : Sub l b) : Sub l (a ++ b) := by
  induction a with
  | nil => exact h2
  | cons p a ih => exact ⟨h1.1, ih h1.2⟩
section
variable {P : Program} {a : Act} {w : World} {Q : Exit → Act → World → Prop} {N : Nat} {l : List (Nat × Value)} {X G : List Nat} {w0 : World} {L : List Res} {R : List (World → Prop)} {c : Code} {γ : Type}
/-- A loop: what it turns (var), what it owns and knows, what else holds (φ). -/
theorem S_loopI (live : List Nat) (var : γ → List (Nat × Value)) (Lf : γ → List Res) (Rf : γ → List (World → Prop)) (φ : γ → Prop) (μ : γ → Nat) (g0 : γ) (E : Env a N l) (H : Sep X G w0 w (Lf g0) (Rf g0)) (h0 : Sub l (var g0)) (hφ : φ g0)
    (round : ∀ g a w, Env a N (var g ++ keepE live l) → Sep X G w0 w (Lf g) (Rf g) → φ g → c.wp P (Exit.then (fun a' w' => ∃ g', (Env a' N (var g' ++ keepE live l) ∧ Sep X G w0 w' (Lf g') (Rf g') ∧ φ g') ∧ μ g' < μ g) Q) a w) : (Code.loop c).wp P Q a w :=
  S_loop (fun g a w => Env a N (var g ++ keepE live l) ∧ Sep X G w0 w (Lf g) (Rf g) ∧ φ g) μ g0 ⟨E.to (h0.app (keepE_sub l live)), H, hφ⟩ fun g a w h => round g a w h.1 h.2.1 h.2.2
theorem S_loopK (live : List Nat) (var : γ → List (Nat × Value)) (φ : γ → Prop) (μ : γ → Nat) (g0 : γ) (E : Env a N l) (H : Sep X G w0 w L R) (h0 : Sub l (var g0)) (hφ : φ g0)
    (round : ∀ g a w, Env a N (var g ++ keepE live l) → Sep X G w0 w L R → φ g → c.wp P (Exit.then (fun a' w' => ∃ g', (Env a' N (var g' ++ keepE live l) ∧ Sep X G w0 w' L R ∧ φ g') ∧ μ g' < μ g) Q) a w) : (Code.loop c).wp P Q a w :=
  S_loopI live var (fun _ => L) (fun _ => R) φ μ g0 E H h0 hφ round
end
end Go.Proofs.Yteefhbpmeajbfaa
namespace Go.Proofs.Yteefhbpmeajbfaa
open Go.RowKit
section
variable {P : Program} {o : Oper} {a : Act} {w ws : World} {N : Nat} {l : List (Nat × Value)} {v : Value} {S : Nat → Prop} {X G : List Nat} {w0 : World} {L : List Res} {R : List (World → Prop)}
theorem isSl_of {t : Nat} (h : isSl P t = true) : ∃ e, P.underlying t = some (.slice e) := by
  unfold isSl at h
  split at h
  · rename_i e he; exact ⟨e, he⟩
  · cases h
theorem pk_eqnil {t u : TypeId} {x y : Operand} {A : Option Addr} {n c n' c' : Nat} (ho : o.op = .binOp .eql t x y u) (hx : ev l x = some (.slice A n c)) (hy : ev l y = some (.slice none n' c')) (ht : isSl P t = true) : PK P S ws l o (.bool A.isNone) := fun w' _ a N E => by
  obtain ⟨e, he⟩ := isSl_of ht
  unfold execOp; rw [ho]
  simp only [E.ev hx, E.ev hy, Sem.run_bind]
  have h1 : (eqGuard .eql t x y (.slice A n c) (.slice none n' c')).run P w' = .ok () w' := rfl
  simp only [h1, Result.andThen_ok, Lib.run_eql_slice_nil w' t e A n c n' c' he, Sem.run_pure]
theorem keys_ne : ∀ {L : List Res}, (keysR L).Nodup → ∀ (i j : Nat) (q q' : Res), L[i]? = some q → L[j]? = some q' → i ≠ j → ∀ k ∈ q.keys, k ∉ q'.keys
  | [], _, i, j, q, q', hi, _, _, _, _ => by simp at hi
  | x :: L, h, i, j, q, q', hi, hj, hne, k, hk => by
    have hap := List.nodup_append.1 h
    cases i with
    | zero =>
      obtain rfl : x = q := by simpa using hi
      cases j with
      | zero => exact absurd rfl hne
      | succ j => exact fun hm => hap.2.2 k hk k (keysR_mem.2 ⟨q', List.mem_of_getElem? (by simpa using hj), hm⟩) rfl
    | succ i =>
      cases j with
      | zero =>
        obtain rfl : x = q' := by simpa using hj
        exact fun hm => hap.2.2 k hm k (keysR_mem.2 ⟨q, List.mem_of_getElem? (by simpa using hi), hk⟩) rfl
      | succ j => exact keys_ne hap.2.1 i j q q' (by simpa using hi) (by simpa using hj) (by omega) k hk
theorem Sep.neq (H : Sep X G w0 ws L R) (i j : Nat) {b b' t t' : Nat} {c c' : Array Value} (hi : L[i]? = some (.blk b c t)) (hj : L[j]? = some (.blk b' c' t')) (hij : i ≠ j) : b ≠ b' := fun e => by
  have := keys_ne H.apart i j _ _ hi hj hij b (by simp [Res.keys])
  exact this (by simp [Res.keys, e])
theorem Sep.rownil (H : Sep X G w0 w L R) (e sz : Nat) : Sep X G w0 w (.row (.slice none 0 0) e sz 0 [] :: L) R :=
  H.own (Frm.refl _ _) (World.ownsRow_nil w 0 e sz) (by simp [Res.keys, Value.ownBlock]) (by simp [Res.keys, Value.ownBlock])
theorem nest_snoc {α : Type} {T : Ty α} {its : List (α × T.μ)} {q : α × T.μ} {Y : List Nat} (h : St (NestF T its) w Y) (hq : St (T.nest q.1 q.2) w Y) : St (NestF T (its ++ [q])) w Y := fun w' hk p hp => by
  rcases List.mem_append.1 hp with h1 | h1
  · exact h w' hk p h1
  · rw [List.mem_singleton.1 h1]; exact hq w' hk
theorem nest_nil {α : Type} {T : Ty α} {Y : List Nat} : St (NestF T []) w Y := fun _ _ _ h => by cases h
theorem nest_get {α : Type} {T : Ty α} {its : List (α × T.μ)} {Y : List Nat} {i : Nat} {p : α × T.μ} (h : St (NestF T its) w Y) (hi : its[i]? = some p) : St (T.nest p.1 p.2) w Y := fun w' hk => h w' hk p (List.mem_of_getElem? hi)
/-- A row that was owned is read from now on. -/
theorem Sep.freezeL {α : Type} {T : Ty α} {A : Option Addr} {n c e : Nat} {its : List (α × T.μ)} {xs : List α} (H : Sep X [] w0 w (.row (.slice A n c) e T.sz n (rowC T its) :: L) R) (hn : n = its.length) (hnest : NestF T its ∈ R) (hxs : its.map Prod.fst = xs) : ∃ m, Sep X [] w0 w L (LiF T A c xs m :: R) := by
  subst hxs
  have hf := H.freeze (fun k hk => by
    rcases H.mine k (List.mem_append_left _ hk) with h | h
    · cases h
    · exact h)
  refine ⟨_, hf.pop.know (liF_row (e := e) (n := n) (hf.facts _ (by simp)) hn (hf.facts _ (by simp [hnest])))⟩
end
end Go.Proofs.Yteefhbpmeajbfaa
namespace Go.Proofs.Yteefhbpmeajbfaa
theorem set_done {α : Type} (ds l : List α) (q : α) (h : ds.length < l.length) : (ds ++ l.drop ds.length).set ds.length q = (ds ++ [q]) ++ l.drop (ds ++ [q]).length := by
  rw [List.set_append_right _ _ (Nat.le_refl _), Nat.sub_self, List.drop_eq_getElem_cons h, List.set_cons_zero, List.append_assoc, List.length_append]
  rfl
theorem at_done {α : Type} (ds l : List α) : (ds ++ l.drop ds.length)[ds.length]? = l[ds.length]? := by
  rw [List.getElem?_append_right (Nat.le_refl _), Nat.sub_self, List.getElem?_drop, Nat.add_zero]
theorem len_done {α : Type} (ds l : List α) (h : ds.length ≤ l.length) : (ds ++ l.drop ds.length).length = l.length := by
  rw [List.length_append, List.length_drop]; omega
theorem take_done {α β : Type} {ds : List (α × β)} {xs : List α} {x : α} {b : β} (h : ds.map Prod.fst = xs.take ds.length) (hx : xs[ds.length]? = some x) : (ds ++ [(x, b)]).map Prod.fst = xs.take (ds ++ [(x, b)]).length := by
  rw [List.map_append, h, List.length_append, List.length_singleton, List.take_add_one, hx]
  rfl
theorem Sep.drop2 {X G : List Nat} {w0 w : World} {L : List Res} {r a b : World → Prop} {R : List (World → Prop)} (H : Sep X G w0 w L (r :: a :: b :: R)) : Sep X G w0 w L (r :: R) := H.sub fun q hq => by
  rcases List.mem_cons.1 hq with rfl | hq
  · exact List.mem_cons_self ..
  · exact List.mem_cons_of_mem _ (List.mem_cons_of_mem _ (List.mem_cons_of_mem _ hq))
theorem Sep.drop1 {X G : List Nat} {w0 w : World} {L : List Res} {r a : World → Prop} {R : List (World → Prop)} (H : Sep X G w0 w L (r :: a :: R)) : Sep X G w0 w L (r :: R) := H.sub fun q hq => by
  rcases List.mem_cons.1 hq with rfl | hq
  · exact List.mem_cons_self ..
  · exact List.mem_cons_of_mem _ (List.mem_cons_of_mem _ hq)
end Go.Proofs.Yteefhbpmeajbfaa
namespace Go.Proofs.Yteefhbpmeajbfaa
section
variable {X G D : List Nat} {w0 w ws : World} {L : List Res} {R : List (World → Prop)}
/-- An own block, lent as something known. -/
theorem Sep.lend (H : Sep X [] w0 w L R) {b t : Nat} {cs : List Chunk} (i : Nat) (hi : L[i]? = some (.blk b (ca cs) t)) : Sep X [] w0 w (L.eraseIdx i) (AtC ⟨b, 0, none⟩ cs :: R) := by
  have h := H.at_ i _ hi
  have hf := h.freeze (fun k hk => by
    rcases h.mine k (List.mem_append_left _ hk) with h | h
    · cases h
    · exact h)
  exact hf.pop.know ((hf.facts _ (List.mem_cons_self ..)).imp fun w hw => at_blk (t := t) (fr := (0, 0)) hw)
end
end Go.Proofs.Yteefhbpmeajbfaa
namespace Go.Proofs.Yteefhbpmeajbfaa
/-- What is owned, and known, ahead of all else. -/
theorem Sep.keepLR {X G : List Nat} {w0 w : World} {L L' : List Res} {R R' : List (World → Prop)} (H : Sep X G w0 w (L ++ L') (R ++ R')) : Sep X G w0 w L R := by
  have h1 : Sep X G w0 w (L ++ L') R := H.sub fun r hr => List.mem_append_left _ hr
  have h2 : Sep X G w0 w (L' ++ L) R := h1.perm List.perm_append_comm
  clear H h1
  induction L' with
  | nil => exact h2
  | cons q L' ih => exact ih h2.popL
end Go.Proofs.Yteefhbpmeajbfaa
namespace Go.Proofs.Yteefhbpmeajbfaa
theorem Sep.refacts {X G : List Nat} {w0 w : World} {L : List Res} {R R' : List (World → Prop)} (H : Sep X G w0 w L R) (hf : ∀ r ∈ R', St r w (X ++ keysR L)) : Sep X G w0 w L R' := ⟨H.frm, H.xlt, H.holds, H.apart, H.mine, hf⟩
end Go.Proofs.Yteefhbpmeajbfaa
namespace Go.Proofs.Yteefhbpmeajbfaa
section
variable {X G : List Nat} {w0 w w1 : World} {L L1 : List Res} {R R1 : List (World → Prop)} {q : Res}
end
end Go.Proofs.Yteefhbpmeajbfaa
namespace Go.Proofs.Yteefhbpmeajbfaa
end Go.Proofs.Yteefhbpmeajbfaa
namespace Go.Proofs.Yteefhbpmeajbfaa
section
variable {P : Program} {o : Oper} {ws : World} {l : List (Nat × Value)} {S : Nat → Prop}
theorem pk_min {ts : Array TypeId} {x y : Operand} {k : IntKind} {m n : Int} (ho : o.op = .call { callee := .builtin .min, args := #[x, y], argTypes := ts }) (hx : ev l x = some (.int k m)) (hy : ev l y = some (.int k n)) : PK P S ws l o (.int k (min m n)) := fun w' _ a N E => by
  unfold execOp; rw [ho]
  simp only [resolve, Sem.run_bind, Sem.run_pure, Result.andThen_ok, List.map_toArray, List.map_cons, List.map_nil, E.ev hx, E.ev hy, invoke, builtin, run_min_int2]
  rw [show (if n < m then n else m) = min m n from by rw [Int.min_def]; split <;> split <;> omega]
end
end Go.Proofs.Yteefhbpmeajbfaa
namespace Go.Proofs.Yteefhbpmeajbfaa
set_option linter.unusedSimpArgs false
set_option linter.unusedVariables false
open Go.RowKit
section
variable {P : Program} {ops : Array Oper} {rest : List Oper} {o : Oper} {a : Act} {w : World} {Q : Exit → Act → World → Prop}
theorem run_op_build {ty : TypeId} {parts : Array (Nat × Operand)} {c : Array Value} {l : List (Nat × Value)} (ho : o.op = .build ty parts) (hl : (parts.map fun (i, x) => (i, a.eval x)).toList = l) (hb : P.built ty l = some c) : (execOp a.eval o).run P w = .ok (.value (.agg c)) w := by
  subst hl
  unfold execOp
  simp only [ho, Sem.run_bind, run_build w ty _ c hb, Result.andThen_ok]
  rfl
/-- A slice of given values: a new block. -/
theorem wpList_bslice {t e len : Nat} {parts : Array (Nat × Operand)} {c : Array Value} {l : List (Nat × Value)} (hgd : o.guard = none) (ho : o.op = .buildSlice t len parts) (hu : P.underlying t = some (.slice e)) (hl : (parts.map fun (i, x) => (i, a.eval x)).toList = l) (hb : P.builtSlice e len l = some c)
    (h : wpList P ops Q rest (a.put o.dst (.slice (some ⟨w.heap.size, 0, none⟩) len len)) (w.alloc (.cells c e))) : wpList P ops Q (o :: rest) a w := by
  subst hl
  exact Go.Great.wpList_buildSliceTo hgd t e len parts ho _ rfl _ rfl hu c hb h
end
end Go.Proofs.Yteefhbpmeajbfaa
namespace Go.Proofs.Yteefhbpmeajbfaa
set_option linter.unusedSimpArgs false
set_option linter.unusedVariables false
open Go.RowKit

theorem BT : ByteT Try.prog 23 5 := ⟨Try.underlying23, Try.underlying5, by kernel_rfl⟩
/-- A text that is handed back: a row of the call's own. -/
def RetOwn (w : World) (l : List Nat) (e : Ending) (w' : World) : Prop := ∃ v, e = .returned v ∧ Own w' w.heap.size 5 v l ∧ Below w.heap.size w w'

theorem own_empty (w : World) (e : TypeId) : Own (w.alloc (.cells #[] e)) w.heap.size e (.slice (some ⟨w.heap.size, 0, none⟩) 0 0) [] :=
  ⟨rfl, .inr ⟨w.heap.size, 0, #[], rfl, Nat.le_refl _, heap_alloc_new w _, Nat.le_refl _, Nat.zero_le _, rfl, rfl⟩⟩
theorem Same_txt (A : Option Addr) (n c : Nat) (l : List Nat) (A' : Option Addr) (n' c' : Nat) (l' : List Nat) (B : Nat) (w : World) (h : Txt w B A n c l) (h' : Txt w B A' n' c' l') (hl : ∀ x ∈ l, x < 256) (hl' : ∀ x ∈ l', x < 256) :
    Calls Try.prog 41 #[.slice A n c, .slice A' n' c'] w fun e w' => e = .returned (.bool (decide (l = l'))) ∧ w = w' := by
  have e1 := run_bytes_string (P := Try.prog) (dst := 9) BT Try.underlying9 h hl
  have e2 := run_bytes_string (P := Try.prog) (dst := 9) BT Try.underlying9 h' hl'
  go_enter Try.func41, Try.ntmps41
  go_wp2
  go_ret
  refine ⟨?_, rfl⟩
  show Ending.returned (Value.bool _) = Ending.returned (Value.bool _)
  rw [show (List.map UInt8.ofNat l == List.map UInt8.ofNat l') = decide (l = l') from by rw [Bool.eq_iff_iff, beq_iff_eq, decide_eq_true_eq, ofNat_inj hl hl']]

/-- The first k bytes of a number's, the highest first. -/
def beK (w n k : Nat) : List Nat := (List.range k).map fun i => n / 2 ^ (8 * (w - 1 - i)) % 256
/-- A number's bytes, the highest first. -/
def beL (w n : Nat) : List Nat := beK w n w
theorem beK_len (w n k : Nat) : (beK w n k).length = k := by unfold beK; simp
theorem beK_succ (w n k : Nat) : beK w n (k + 1) = beK w n k ++ [n / 2 ^ (8 * (w - 1 - k)) % 256] := by unfold beK; rw [List.range_succ, List.map_append]; rfl
theorem beL_lt (w n : Nat) : ∀ x ∈ beL w n, x < 256 := fun x hx => by
  unfold beL beK at hx
  obtain ⟨i, _, rfl⟩ := List.mem_map.1 hx
  exact Nat.mod_lt _ (by omega)
attribute [local irreducible] beK
theorem txt_one (w : World) (e : TypeId) (x : Nat) : Txt (w.alloc (.cells #[bv x] e)) (w.heap.size + 1) (some ⟨w.heap.size, 0, none⟩) 1 1 [x] :=
  ⟨rfl, (fun e => by cases e), fun _ => ⟨_, rfl, Nat.lt_succ_self _, fun i y hy => by
    cases i with
    | zero =>
      simp only [List.getElem?_cons_zero, Option.some.injEq] at hy
      subst hy
      rw [addr_add, cell_of_row _ _ _ _ _ _ (heap_alloc_new w (.cells #[bv x] e))]
      rfl
    | succ i => simp at hy⟩⟩
end Go.Proofs.Yteefhbpmeajbfaa
namespace Go.Proofs.Yteefhbpmeajbfaa
set_option linter.unusedSimpArgs false
set_option linter.unusedVariables false
open Go.RowKit
attribute [local irreducible] beL beK
theorem cell_new1 (w : World) (v : Value) (t : TypeId) : (w.alloc (.cells #[v] t)).cell? ⟨w.heap.size, 0, none⟩ = some v := by
  rw [cell_of_row _ _ _ _ _ _ (heap_alloc_new w (.cells #[v] t))]; rfl
theorem cell_below {B : Nat} {w w' : World} {g o : Nat} {v : Value} (hb : Below B w w') (hg : g < B) (h : w.cell? ⟨g, o, none⟩ = some v) : w'.cell? ⟨g, o, none⟩ = some v := (hb.cell (p := ⟨g, o, none⟩) hg).trans h
theorem beL_cons (k n : Nat) : beL (k + 1) n = (n / 2 ^ (8 * k) % 256) :: beL k n := by
  unfold beL beK
  rw [List.range_succ_eq_map, List.map_cons, List.map_map]
  congr 1
  apply List.map_congr_left
  intro i hi
  have := List.mem_range.1 hi
  simp only [Function.comp]
  rw [show k + 1 - 1 - (i + 1) = k - 1 - i from by omega]
theorem beL_zero (n : Nat) : beL 0 n = [] := by unfold beL beK; rfl
theorem beL_len (k n : Nat) : (beL k n).length = k := by unfold beL; exact beK_len k n k
end Go.Proofs.Yteefhbpmeajbfaa
namespace Go.Proofs.Yteefhbpmeajbfaa
set_option linter.unusedSimpArgs false
set_option linter.unusedVariables false
open Go.RowKit

/-- A commit but for its Tag: what it reads as, and where its parts lie. -/
structure Com where
  ep : Nat
  by_ : Int
  PA : Option Addr
  pn : Nat
  pc : Nat
  kind : Nat → Int
  id : Nat → Int
  ppt : Nat → Nat → Nat
  pt : Nat → Nat
  SA : Option Addr
  sn : Nat
  sc : Nat
  node : Nat → Int
  frm : Nat → Int
  DA : Nat → Option Addr
  dn : Nat → Nat
  dc : Nat → Nat
  dv : Nat → Nat → Int
  KA : Option Addr
  kn : Nat
  kc : Nat
  key : Nat → Nat → Nat
  BA : Option Addr
  bn : Nat
  bc : Nat
  XA : Nat → Option Addr
  xn : Nat → Nat
  xc : Nat → Nat
  bx : Nat → List Nat

def propV (kind id : Int) (pt : Nat → Nat) (j : Nat) : Value := if j = 0 then .int .i64 kind else if j = 1 then .int .i64 id else .int .u8 ((pt (j - 2) : Nat) : Int)
def stepV (node frm : Int) (A : Option Addr) (n c : Nat) (j : Nat) : Value := if j = 0 then .int .i64 node else if j = 1 then .int .i64 frm else .slice A n c
def byteV (f : Nat → Nat) (j : Nat) : Value := .int .u8 ((f j : Nat) : Int)
def comV (c : Com) (tg : Nat → Nat) (j : Nat) : Value :=
  if j = 0 then .int .u64 ((c.ep : Nat) : Int) else if j = 1 then .int .i64 c.by_ else if j = 2 then .slice c.PA c.pn c.pc else if j < 35 then .int .u8 ((c.pt (j - 3) : Nat) : Int)
  else if j = 35 then .slice c.SA c.sn c.sc else if j = 36 then .slice c.KA c.kn c.kc else if j = 37 then .slice c.BA c.bn c.bc else .int .u8 ((tg (j - 38) : Nat) : Int)
theorem propV_one (k i : Int) (p : Nat → Nat) (j : Nat) : (propV k i p j).oneCell' = true := by unfold propV; split <;> (try split) <;> rfl
theorem stepV_one (k i : Int) (A : Option Addr) (n c j : Nat) : (stepV k i A n c j).oneCell' = true := by unfold stepV; split <;> (try split) <;> rfl
theorem comV_one (c : Com) (tg : Nat → Nat) (j : Nat) : (comV c tg j).oneCell' = true := by unfold comV; repeat' split
                                                                                            all_goals rfl
/-- Where a commit's parts lie in memory: below block B. -/
structure ComOk (w : World) (B : Nat) (c : Com) : Prop where
  props : Els w B c.PA c.pn 34 fun i => propV (c.kind i) (c.id i) (c.ppt i)
  steps : Els w B c.SA c.sn 3 fun i => stepV (c.node i) (c.frm i) (c.DA i) (c.dn i) (c.dc i)
  sends : ∀ i, i < c.sn → Els w B (c.DA i) (c.dn i) 1 fun j _ => .int .i64 (c.dv i j)
  keys : Els w B c.KA c.kn 32 fun i => byteV (c.key i)
  boxes : Els w B c.BA c.bn 1 fun i _ => .slice (c.XA i) (c.xn i) (c.xc i)
  texts : ∀ i, i < c.bn → Txt w B (c.XA i) (c.xn i) (c.xc i) (c.bx i)
theorem ComOk.below {w w' : World} {B B' : Nat} {c : Com} (h : ComOk w B c) (hb : Below B' w w') (hB : B ≤ B') : ComOk w' B c :=
  ⟨h.props.below' hb hB, h.steps.below' hb hB, fun i hi => (h.sends i hi).below' hb hB, h.keys.below' hb hB, h.boxes.below' hb hB, fun i hi => (h.texts i hi).below' hb hB⟩
/-- Its bytes are bytes, its numbers are numbers. -/
structure ComB (c : Com) : Prop where
  ep : c.ep < 18446744073709551616
  ppt : ∀ i, i < c.pn → ∀ j, j < 32 → c.ppt i j < 256
  pt : ∀ j, j < 32 → c.pt j < 256
  key : ∀ i, i < c.kn → ∀ j, j < 32 → c.key i j < 256
  bx : ∀ i, i < c.bn → ∀ x ∈ c.bx i, x < 256

/-! ### When it may be -/
def OkProp (kind id : Int) (pt : Nat → Nat) : Prop := 1 ≤ kind ∧ kind ≤ 3 ∧ (0 ≤ id ∧ id ≤ 1048576) ∧ (kind = 2 → ∀ j, j < 32 → pt j = 0)
instance (kind id : Int) (pt : Nat → Nat) : Decidable (OkProp kind id pt) := by unfold OkProp; infer_instance
def OkPlace (k : Int) : Prop := 0 ≤ k ∧ k ≤ 4000
instance (k : Int) : Decidable (OkPlace k) := by unfold OkPlace; infer_instance
def OkStep (node frm : Int) (n : Nat) (v : Nat → Int) : Prop := OkPlace node ∧ -1 ≤ frm ∧ frm < 4000 ∧ n ≤ 4000 ∧ ∀ j, j < n → OkPlace (v j)
instance (node frm : Int) (n : Nat) (v : Nat → Int) : Decidable (OkStep node frm n v) := by unfold OkStep; infer_instance
def sends (c : Com) : Nat → Nat
  | 0 => 0
  | k + 1 => sends c k + c.dn k
def OkCom (c : Com) : Prop := (c.ep ≤ 1099511627776 ∧ 0 ≤ c.by_ ∧ c.by_ ≤ 1048576) ∧ (c.pn ≤ 100 ∧ ∀ i, i < c.pn → OkProp (c.kind i) (c.id i) (c.ppt i)) ∧ (c.sn ≤ 4000 ∧ c.kn = c.sn ∧ ∀ i, i < c.sn → OkStep (c.node i) (c.frm i) (c.dn i) (c.dv i)) ∧ sends c c.sn = c.bn ∧ ∀ i, i < c.bn → c.xn i ≤ 1000
instance (c : Com) : Decidable (OkCom c) := by unfold OkCom; infer_instance
/-- Few enough to be played. -/
structure FewC (c : Com) : Prop where
  dn : ∀ i, i < c.sn → c.dn i ≤ 200
  pn : c.pn ≤ 150
  sn : c.sn ≤ 300
  kn : c.kn ≤ 300
  bn : c.bn ≤ 200
/-! ### The head -/
def keyL (f : Nat → Nat) : List Nat := (List.range 32).map f
def propL (kind id : Int) (pt : Nat → Nat) : List Nat := beL 1 kind.toNat ++ (beL 4 id.toNat ++ keyL pt)
def sendL (n : Nat) (v : Nat → Int) : List Nat := (List.range n).flatMap fun j => beL 2 (v j).toNat
def stepL (node frm : Int) (n : Nat) (v : Nat → Int) : List Nat := beL 2 node.toNat ++ (beL 2 (frm + 1).toNat ++ (beL 2 n ++ sendL n v))
def propsL (c : Com) (n : Nat) : List Nat := (List.range n).flatMap fun i => propL (c.kind i) (c.id i) (c.ppt i)
def stepsL (c : Com) (n : Nat) : List Nat := (List.range n).flatMap fun i => stepL (c.node i) (c.frm i) (c.dn i) (c.dv i)
def keysL (c : Com) (n : Nat) : List Nat := (List.range n).flatMap fun i => keyL (c.key i)
def boxesL (c : Com) (n : Nat) : List Nat := (List.range n).flatMap fun i => beL 2 (c.xn i) ++ c.bx i
def comL (c : Com) : List Nat := [1] ++ beL 8 c.ep ++ beL 4 c.by_.toNat ++ (beL 2 c.pn ++ propsL c c.pn) ++ keyL c.pt ++ (beL 2 c.sn ++ stepsL c c.sn) ++ keysL c c.kn ++ boxesL c c.bn
theorem flat_succ (f : Nat → List Nat) (n : Nat) : (List.range (n + 1)).flatMap f = (List.range n).flatMap f ++ f n := by rw [List.range_succ, List.flatMap_append]; simp
theorem keyL_len (f : Nat → Nat) : (keyL f).length = 32 := by unfold keyL; simp
theorem flat_len (f : Nat → List Nat) (b : Nat) : ∀ n, (∀ i, i < n → (f i).length ≤ b) → ((List.range n).flatMap f).length ≤ b * n
  | 0, _ => by simp
  | n + 1, h => by
    rw [flat_succ, List.length_append]
    have := flat_len f b n (fun i hi => h i (by omega))
    have := h n (by omega)
    rw [Nat.mul_succ]
    omega
theorem propL_len (k i : Int) (p : Nat → Nat) : (propL k i p).length = 37 := by unfold propL; simp [beL_len, keyL_len]
theorem sendL_len (n : Nat) (v : Nat → Int) : (sendL n v).length ≤ 2 * n := flat_len _ 2 n fun i _ => by rw [beL_len]; exact Nat.le_refl _
theorem stepL_len (a b : Int) (n : Nat) (v : Nat → Int) : (stepL a b n v).length ≤ 6 + 2 * n := by
  have := sendL_len n v
  unfold stepL
  simp [beL_len]
  omega
theorem flat_lt (f : Nat → List Nat) (n : Nat) (h : ∀ i, i < n → ∀ x ∈ f i, x < 256) : ∀ x ∈ (List.range n).flatMap f, x < 256 := fun x hx => by
  obtain ⟨i, hi, hx⟩ := List.mem_flatMap.1 hx
  exact h i (List.mem_range.1 hi) x hx
theorem keyL_lt (f : Nat → Nat) (h : ∀ j, j < 32 → f j < 256) : ∀ x ∈ keyL f, x < 256 := fun x hx => by
  unfold keyL at hx
  obtain ⟨i, hi, rfl⟩ := List.mem_map.1 hx
  exact h i (List.mem_range.1 hi)
theorem app_lt {l m : List Nat} (h1 : ∀ x ∈ l, x < 256) (h2 : ∀ x ∈ m, x < 256) : ∀ x ∈ l ++ m, x < 256 := fun x hx => by
  rcases List.mem_append.1 hx with h | h
  · exact h1 x h
  · exact h2 x h
theorem comL_len (c : Com) (hok : OkCom c) (hf : FewC c) (hx : ∀ i, i < c.bn → (c.bx i).length = c.xn i) : (comL c).length ≤ 400000 := by
  obtain ⟨⟨q1, q2, q3⟩, ⟨q4, q5⟩, ⟨q6, q7, q8⟩, q9, q10⟩ := hok
  have h1 : (propsL c c.pn).length ≤ 37 * c.pn := flat_len _ 37 _ fun i _ => by rw [propL_len]; exact Nat.le_refl _
  have h2 : (stepsL c c.sn).length ≤ 406 * c.sn := flat_len _ 406 _ fun i hi => Nat.le_trans (stepL_len _ _ _ _) (by have := hf.dn i hi; omega)
  have h3 : (keysL c c.kn).length ≤ 32 * c.kn := flat_len _ 32 _ fun i _ => by rw [keyL_len]; exact Nat.le_refl _
  have h4 : (boxesL c c.bn).length ≤ 1002 * c.bn := flat_len _ 1002 _ fun i hi => by
    rw [List.length_append, beL_len, hx i hi]
    have := q10 i hi
    omega
  have := hf.sn
  have := hf.kn
  have := hf.bn
  unfold comL
  simp only [List.length_append, beL_len, keyL_len, List.length_cons, List.length_nil]
  omega
/-- Few enough that no sum passes a word's end; its head has room. -/
structure MidC (c : Com) : Prop where
  dn : ∀ i, i < c.sn → c.dn i ≤ 1100000
  pn : c.pn ≤ 1100000
  sn : c.sn ≤ 1100000
  kn : c.kn ≤ 1100000
  bn : c.bn ≤ 1100000
  ln : OkCom c → (∀ i, i < c.bn → (c.bx i).length = c.xn i) → (comL c).length ≤ 1048544
theorem FewC.mid {c : Com} (h : FewC c) : MidC c where
  dn := fun i hi => by have := h.dn i hi; omega
  pn := by have := h.pn; omega
  sn := by have := h.sn; omega
  kn := by have := h.kn; omega
  bn := by have := h.bn; omega
  ln := fun hok hx => by have := comL_len c hok h hx; omega
theorem sends_le (c : Com) (h : MidC c) : ∀ k, k ≤ c.sn → sends c k ≤ 1100000 * k
  | 0, _ => by simp [sends]
  | k + 1, hk => by
    have := sends_le c h k (by omega)
    have := h.dn k (by omega)
    simp only [sends]
    omega
theorem comL_lt (c : Com) (h : ComB c) (hn : c.kn = c.kn) : ∀ x ∈ comL c, x < 256 := by
  unfold comL
  refine app_lt (app_lt (app_lt (app_lt (app_lt (app_lt (app_lt ?_ (beL_lt _ _)) (beL_lt _ _)) (app_lt (beL_lt _ _) (flat_lt _ _ fun i hi => ?_))) (keyL_lt _ h.pt)) (app_lt (beL_lt _ _) (flat_lt _ _ fun i hi => ?_))) (flat_lt _ _ fun i hi => keyL_lt _ (h.key i hi))) (flat_lt _ _ fun i hi => app_lt (beL_lt _ _) (h.bx i hi))
  · intro x hx
    simp at hx
    omega
  · unfold propL
    exact app_lt (beL_lt _ _) (app_lt (beL_lt _ _) (keyL_lt _ (h.ppt i hi)))
  · unfold stepL
    exact app_lt (beL_lt _ _) (app_lt (beL_lt _ _) (app_lt (beL_lt _ _) (flat_lt _ _ fun j _ => beL_lt _ _)))
end Go.Proofs.Yteefhbpmeajbfaa
namespace Go.Proofs.Yteefhbpmeajbfaa
set_option linter.unusedSimpArgs false
set_option linter.unusedVariables false

/-- What is left to be read, and whether too little was there. -/
structure Rs where
  l : List Nat
  ov : Bool
def cutP (n : Nat) (s : Rs) : List Nat × Rs := if s.ov = true ∨ s.l.length < n then ([], ⟨s.l, true⟩) else (s.l.take n, ⟨s.l.drop n, false⟩)
def beVf (a : Nat) : List Nat → Nat
  | [] => a
  | x :: l => beVf (256 * a + x) l
def beV (l : List Nat) : Nat := beVf 0 l
def numP (k : Nat) (s : Rs) : Nat × Rs := (beV (cutP k s).1, (cutP k s).2)
def keyP (s : Rs) : (Nat → Nat) × Rs := (fun j => (cutP 32 s).1.getD j 0, (cutP 32 s).2)
def itemsP {α : Type} (f : Rs → α × Rs) : Nat → Rs → List α × Rs
  | 0, s => ([], s)
  | n + 1, s => if s.ov = true then ([], s) else ((f s).1 :: (itemsP f n (f s).2).1, (itemsP f n (f s).2).2)
structure PProp where
  kind : Nat
  id : Nat
  pt : Nat → Nat
structure PStep where
  node : Nat
  frm : Nat
  sd : List Nat
def propP (s : Rs) : PProp × Rs := (⟨(numP 1 s).1, (numP 4 (numP 1 s).2).1, (keyP (numP 4 (numP 1 s).2).2).1⟩, (keyP (numP 4 (numP 1 s).2).2).2)
def stepP' (s : Rs) : PStep × Rs :=
  let a := numP 2 s
  let b := numP 2 a.2
  let c := numP 2 b.2
  let d := itemsP (numP 2) c.1 c.2
  (⟨a.1, b.1, d.1⟩, d.2)
def boxP (s : Rs) : List Nat × Rs := cutP (numP 2 s).1 (numP 2 s).2
structure PCom where
  ep : Nat
  by_ : Nat
  props : List PProp
  pt : Nat → Nat
  steps : List PStep
  new : List (Nat → Nat)
  boxes : List (List Nat)
  tag : Nat → Nat
def sendsP : List PStep → Nat
  | [] => 0
  | x :: l => x.sd.length + sendsP l
/-! ### Written -/
def Byt (l : List Nat) : Prop := ∀ x ∈ l, x < 256
theorem beVf_append (a : Nat) : ∀ (l m : List Nat), beVf a (l ++ m) = beVf (beVf a l) m
  | [] , m => by
    induction m generalizing a with
    | nil => rfl
    | cons x l ih => simp [beVf]
  | x :: l, m => by
    show beVf (256 * a + x) (l ++ m) = beVf (beVf (256 * a + x) l) m
    exact beVf_append _ l m
theorem beL_snoc (k n : Nat) : beL (k + 1) n = beL k (n / 256) ++ [n % 256] := by
  unfold beL
  rw [beK_succ]
  congr 1
  · unfold beK
    apply List.map_congr_left
    intro i hi
    have := List.mem_range.1 hi
    show n / 2 ^ (8 * (k + 1 - 1 - i)) % 256 = n / 256 / 2 ^ (8 * (k - 1 - i)) % 256
    rw [Nat.div_div_eq_div_mul, show (256 : Nat) = 2 ^ 8 from rfl, ← Nat.pow_add, show 8 + 8 * (k - 1 - i) = 8 * (k + 1 - 1 - i) by omega]
  · rw [show k + 1 - 1 - k = 0 by omega, Nat.mul_zero, Nat.pow_zero, Nat.div_one]
theorem beV_beL : ∀ (k n : Nat), n < 256 ^ k → beV (beL k n) = n
  | 0, n, h => by
    have : n = 0 := by simpa using h
    subst this
    rw [beL_zero]
    rfl
  | k + 1, n, h => by
    have ih := beV_beL k (n / 256) (by rw [Nat.pow_succ] at h; omega)
    rw [beL_snoc]
    unfold beV at *
    rw [beVf_append, ih]
    show 256 * (n / 256) + n % 256 = n
    omega
theorem beV_lt : ∀ (k : Nat) (l : List Nat), Byt l → l.length = k → beV l < 256 ^ k ∧ beL k (beV l) = l
  | 0, l, _, h => by
    obtain rfl : l = [] := List.eq_nil_of_length_eq_zero h
    exact ⟨by decide, beL_zero 0⟩
  | k + 1, l, hb, h => by
    have hne : l ≠ [] := fun e => by rw [e] at h; simp at h
    obtain ⟨m, x, rfl⟩ : ∃ m x, l = m ++ [x] := ⟨l.dropLast, l.getLast hne, (List.dropLast_concat_getLast hne).symm⟩
    have ih := beV_lt k m (fun y hy => hb y (by simp [hy])) (by simpa using h)
    have hx := hb x (by simp)
    have e : beV (m ++ [x]) = 256 * beV m + x := by unfold beV; rw [beVf_append]; rfl
    rw [e, beL_snoc, show (256 * beV m + x) / 256 = beV m by omega, show (256 * beV m + x) % 256 = x by omega, ih.2]
    exact ⟨by rw [Nat.pow_succ]; omega, rfl⟩

/-- A reader, and what writes what it reads: what is valid is read back; what is read is valid, and was written so. -/
structure Rw {α : Type} (f : Rs → α × Rs) (g : α → List Nat) (V : α → Prop) : Prop where
  over : ∀ s, s.ov = true → (f s).2.ov = true
  read : ∀ s, Byt s.l → (f s).2.ov = false → s.l = g (f s).1 ++ (f s).2.l ∧ V (f s).1
  back : ∀ x l, V x → f ⟨g x ++ l, false⟩ = (x, ⟨l, false⟩)
section
variable {α β : Type} {f : Rs → α × Rs} {g : α → List Nat} {V : α → Prop}
theorem Rw.was (h : Rw f g V) {s : Rs} (e : (f s).2.ov = false) : s.ov = false := by
  cases hs : s.ov with
  | false => rfl
  | true => rw [h.over s hs] at e; cases e
theorem Rw.left (h : Rw f g V) {s : Rs} (hb : Byt s.l) (e : (f s).2.ov = false) : Byt (f s).2.l := fun x hx => hb x (by rw [(h.read s hb e).1]; simp [hx])
theorem rw_num (k : Nat) : Rw (numP k) (beL k) (fun n => n < 256 ^ k) where
  over := fun s hs => by unfold numP cutP; rw [if_pos (.inl hs)]
  read := fun s hb e => by
    unfold numP cutP at *
    by_cases hc : s.ov = true ∨ s.l.length < k
    · rw [if_pos hc] at e; cases e
    · rw [if_neg hc]
      have hl : (s.l.take k).length = k := by rw [List.length_take]; omega
      have h := beV_lt k (s.l.take k) (fun x hx => hb x (List.mem_of_mem_take hx)) hl
      exact ⟨by rw [h.2, List.take_append_drop], h.1⟩
  back := fun x l hx => by
    have hl : (beL k x).length = k := beL_len k x
    unfold numP cutP
    rw [if_neg (by simp [hl])]
    dsimp only
    rw [List.take_left' hl, List.drop_left' hl, beV_beL k x hx]
theorem rw_cut (n : Nat) : Rw (cutP n) (fun l => l) (fun l => l.length = n) where
  over := fun s hs => by unfold cutP; rw [if_pos (.inl hs)]
  read := fun s hb e => by
    unfold cutP at *
    by_cases hc : s.ov = true ∨ s.l.length < n
    · rw [if_pos hc] at e; cases e
    · rw [if_neg hc]
      exact ⟨(List.take_append_drop ..).symm, by rw [List.length_take]; omega⟩
  back := fun x l hx => by
    unfold cutP
    rw [if_neg (by simp [hx])]
    dsimp only
    rw [List.take_left' hx, List.drop_left' hx]
theorem keyL_getD (l : List Nat) (h : l.length = 32) : keyL (fun j => l.getD j 0) = l := by
  unfold keyL
  refine List.ext_getElem (by simp [h]) fun i h1 h2 => ?_
  simp [List.getElem?_eq_getElem h2]
theorem keyL_at (f : Nat → Nat) (j : Nat) (h : j < 32) : (keyL f).getD j 0 = f j := by
  unfold keyL
  simp [h]
/-- A key: its bytes below 32 count alone. -/
def KeyV (f : Nat → Nat) : Prop := ∀ j, 32 ≤ j → f j = 0
theorem rw_key : Rw keyP keyL KeyV where
  over := fun s hs => by unfold keyP cutP; rw [if_pos (.inl hs)]
  read := fun s hb e => by
    have h := (rw_cut 32).read s hb e
    unfold keyP
    dsimp only
    rw [keyL_getD _ h.2]
    exact ⟨h.1, fun j hj => by show (cutP 32 s).1.getD j 0 = 0; rw [List.getD_eq_getElem?_getD, List.getElem?_eq_none (by omega)]; rfl⟩
  back := fun x l hx => by
    have h := (rw_cut 32).back (keyL x) l (keyL_len x)
    unfold keyP
    rw [h]
    dsimp only
    congr 1
    funext j
    by_cases hj : j < 32
    · exact keyL_at x j hj
    · rw [hx j (by omega), List.getD_eq_getElem?_getD, List.getElem?_eq_none (by rw [keyL_len]; omega)]
      rfl
theorem items_over (f : Rs → α × Rs) (n : Nat) (s : Rs) (h : s.ov = true) : itemsP f n s = ([], s) := by
  cases n with
  | zero => rfl
  | succ n => unfold itemsP; rw [if_pos h]
theorem rw_items (h : Rw f g V) (n : Nat) : Rw (itemsP f n) (fun l => l.flatMap g) (fun l => l.length = n ∧ ∀ x ∈ l, V x) where
  over := fun s hs => by rw [items_over f n s hs]; exact hs
  read := by
    induction n with
    | zero => exact fun s _ e => ⟨rfl, rfl, fun x hx => by cases hx⟩
    | succ n ih =>
      intro s hb e
      unfold itemsP at e ⊢
      by_cases hs : s.ov = true
      · rw [if_pos hs] at e
        rw [hs] at e
        cases e
      · rw [if_neg hs] at e ⊢
        dsimp only at e ⊢
        have e1 : (f s).2.ov = false := by
          cases h1 : (f s).2.ov with
          | false => rfl
          | true => rw [items_over f n _ h1] at e; rw [h1] at e; cases e
        have h1 := h.read s hb e1
        have h2 := ih (f s).2 (h.left hb e1) e
        refine ⟨?_, ?_, ?_⟩
        · rw [List.flatMap_cons, List.append_assoc, ← h2.1]
          exact h1.1
        · simp [h2.2.1]
        · intro x hx
          rcases List.mem_cons.1 hx with rfl | hx
          · exact h1.2
          · exact h2.2.2 x hx
  back := by
    induction n with
    | zero =>
      intro x l hx
      obtain rfl : x = [] := List.eq_nil_of_length_eq_zero hx.1
      rfl
    | succ n ih =>
      intro x l hx
      cases x with
      | nil => simp at hx
      | cons y x =>
        have h1 := h.back y (x.flatMap g ++ l) (hx.2 y (by simp))
        have h2 := ih x l ⟨by simpa using hx.1, fun z hz => hx.2 z (by simp [hz])⟩
        unfold itemsP
        rw [if_neg (by simp)]
        rw [List.flatMap_cons, List.append_assoc, h1]
        dsimp only
        rw [h2]
theorem items_len (f : Rs → α × Rs) : ∀ (n : Nat) (s : Rs), (itemsP f n s).1.length ≤ n
  | 0, s => Nat.le_refl _
  | n + 1, s => by
    unfold itemsP
    split
    · simp
    · have := items_len f n (f s).2
      simp
      exact this
end
/-- One reader behind another one. -/
def thenP {α β : Type} (f : Rs → α × Rs) (h : α → Rs → β × Rs) (s : Rs) : (α × β) × Rs := (((f s).1, (h (f s).1 (f s).2).1), (h (f s).1 (f s).2).2)
theorem rw_then {α β : Type} {f : Rs → α × Rs} {g : α → List Nat} {V : α → Prop} {h : α → Rs → β × Rs} {k : α → β → List Nat} {U : α → β → Prop} (h1 : Rw f g V) (h2 : ∀ a, Rw (h a) (k a) (U a)) :
    Rw (thenP f h) (fun x => g x.1 ++ k x.1 x.2) (fun x => V x.1 ∧ U x.1 x.2) where
  over := fun s hs => (h2 _).over _ (h1.over s hs)
  read := fun s hb e => by
    have e1 := (h2 _).was e
    have r1 := h1.read s hb e1
    have r2 := (h2 _).read _ (h1.left hb e1) e
    refine ⟨?_, r1.2, r2.2⟩
    show s.l = _ ++ _ ++ _
    rw [List.append_assoc]
    exact r1.1.trans (congrArg _ r2.1)
  back := fun x l hx => by
    unfold thenP
    rw [List.append_assoc, h1.back x.1 _ hx.1]
    dsimp only
    rw [(h2 x.1).back x.2 l hx.2]
theorem rw_map {α β : Type} {f : Rs → α × Rs} {g : α → List Nat} {V : α → Prop} (h : Rw f g V) (up : α → β) (fro : β → α) (hto : ∀ x, fro (up x) = x) (hfro : ∀ y, up (fro y) = y) {f' : Rs → β × Rs} (hf : ∀ s, f' s = (up (f s).1, (f s).2)) {g' : β → List Nat} (hg : ∀ y, g' y = g (fro y)) : Rw f' g' (fun y => V (fro y)) where
  over := fun s hs => by rw [hf]; exact h.over s hs
  read := fun s hb e => by
    rw [hf] at e ⊢
    have := h.read s hb e
    dsimp only
    rw [hg, hto]
    exact this
  back := fun y l hy => by
    rw [hf, hg, h.back (fro y) l hy]
    dsimp only
    rw [hfro]
def PProp.L (p : PProp) : List Nat := beL 1 p.kind ++ (beL 4 p.id ++ keyL p.pt)
def PProp.V (p : PProp) : Prop := p.kind < 256 ^ 1 ∧ p.id < 256 ^ 4 ∧ KeyV p.pt
theorem rw_prop : Rw propP PProp.L PProp.V :=
  rw_map (rw_then (rw_num 1) fun _ => rw_then (rw_num 4) fun _ => rw_key) (fun x => (⟨x.1, x.2.1, x.2.2⟩ : PProp)) (fun p => (p.kind, p.id, p.pt)) (fun _ => rfl) (fun _ => rfl) (fun _ => rfl) (fun _ => rfl)
def PStep.L (p : PStep) : List Nat := beL 2 p.node ++ (beL 2 p.frm ++ (beL 2 p.sd.length ++ p.sd.flatMap (beL 2)))
def PStep.V (p : PStep) : Prop := p.node < 256 ^ 2 ∧ p.frm < 256 ^ 2 ∧ p.sd.length < 256 ^ 2 ∧ ∀ x ∈ p.sd, x < 256 ^ 2
/-- A list, with how many there are ahead. -/
def listP {α : Type} (k : Nat) (f : Rs → α × Rs) (s : Rs) : List α × Rs := itemsP f (numP k s).1 (numP k s).2
theorem rw_list {α : Type} {f : Rs → α × Rs} {g : α → List Nat} {V : α → Prop} (h : Rw f g V) (k : Nat) : Rw (listP k f) (fun l => beL k l.length ++ l.flatMap g) (fun l => l.length < 256 ^ k ∧ ∀ x ∈ l, V x) where
  over := fun s hs => (rw_items h _).over _ ((rw_num k).over s hs)
  read := fun s hb e => by
    have e1 := (rw_items h _).was e
    have r1 := (rw_num k).read s hb e1
    have r2 := (rw_items h _).read _ ((rw_num k).left hb e1) e
    unfold listP
    refine ⟨?_, ?_, r2.2.2⟩
    · rw [r2.2.1, List.append_assoc, ← r2.1]
      exact r1.1
    · rw [r2.2.1]
      exact r1.2
  back := fun x l hx => by
    unfold listP
    rw [List.append_assoc, (rw_num k).back x.length _ hx.1]
    exact (rw_items h x.length).back x l ⟨rfl, hx.2⟩
theorem rw_step : Rw stepP' PStep.L PStep.V :=
  rw_map (rw_then (rw_num 2) fun _ => rw_then (rw_num 2) fun _ => rw_list (rw_num 2) 2) (fun x => (⟨x.1, x.2.1, x.2.2⟩ : PStep)) (fun p => (p.node, p.frm, p.sd)) (fun _ => rfl) (fun _ => rfl) (fun _ => rfl) (fun _ => rfl)
theorem rw_box : Rw boxP (fun l => beL 2 l.length ++ l) (fun l => l.length < 256 ^ 2) where
  over := fun s hs => (rw_cut _).over _ ((rw_num 2).over s hs)
  read := fun s hb e => by
    have e1 := (rw_cut _).was e
    have r1 := (rw_num 2).read s hb e1
    have r2 := (rw_cut _).read _ ((rw_num 2).left hb e1) e
    unfold boxP
    refine ⟨?_, ?_⟩
    · rw [r2.2, List.append_assoc, ← r2.1]
      exact r1.1
    · rw [r2.2]
      exact r1.2
  back := fun x l hx => by
    unfold boxP
    rw [List.append_assoc, (rw_num 2).back x.length _ hx]
    exact (rw_cut x.length).back x l rfl
def PCom.L (p : PCom) : List Nat := beL 8 p.ep ++ (beL 4 p.by_ ++ ((beL 2 p.props.length ++ p.props.flatMap PProp.L) ++ (keyL p.pt ++ ((beL 2 p.steps.length ++ p.steps.flatMap PStep.L) ++ (p.new.flatMap keyL ++ (p.boxes.flatMap (fun l => beL 2 l.length ++ l) ++ keyL p.tag))))))
def PCom.V (p : PCom) : Prop := p.ep < 256 ^ 8 ∧ p.by_ < 256 ^ 4 ∧ (p.props.length < 256 ^ 2 ∧ ∀ x ∈ p.props, x.V) ∧ KeyV p.pt ∧ (p.steps.length < 256 ^ 2 ∧ ∀ x ∈ p.steps, x.V) ∧ (p.new.length = p.steps.length ∧ ∀ x ∈ p.new, KeyV x) ∧ (p.boxes.length = sendsP p.steps ∧ ∀ x ∈ p.boxes, x.length < 256 ^ 2) ∧ KeyV p.tag
def comRaw : Rs → (Nat × Nat × List PProp × (Nat → Nat) × List PStep × List (Nat → Nat) × List (List Nat) × (Nat → Nat)) × Rs :=
  thenP (numP 8) fun _ => thenP (numP 4) fun _ => thenP (listP 2 propP) fun _ => thenP keyP fun _ => thenP (listP 2 stepP') fun st => thenP (itemsP keyP st.length) fun _ => thenP (itemsP boxP (sendsP st)) fun _ => keyP
theorem rw_raw : Rw comRaw (fun x => beL 8 x.1 ++ (beL 4 x.2.1 ++ ((beL 2 x.2.2.1.length ++ x.2.2.1.flatMap PProp.L) ++ (keyL x.2.2.2.1 ++ ((beL 2 x.2.2.2.2.1.length ++ x.2.2.2.2.1.flatMap PStep.L) ++ (x.2.2.2.2.2.1.flatMap keyL ++ (x.2.2.2.2.2.2.1.flatMap (fun l => beL 2 l.length ++ l) ++ keyL x.2.2.2.2.2.2.2)))))))
    (fun x => x.1 < 256 ^ 8 ∧ x.2.1 < 256 ^ 4 ∧ (x.2.2.1.length < 256 ^ 2 ∧ ∀ y ∈ x.2.2.1, y.V) ∧ KeyV x.2.2.2.1 ∧ (x.2.2.2.2.1.length < 256 ^ 2 ∧ ∀ y ∈ x.2.2.2.2.1, y.V) ∧ (x.2.2.2.2.2.1.length = x.2.2.2.2.1.length ∧ ∀ y ∈ x.2.2.2.2.2.1, KeyV y) ∧ (x.2.2.2.2.2.2.1.length = sendsP x.2.2.2.2.1 ∧ ∀ y ∈ x.2.2.2.2.2.2.1, y.length < 256 ^ 2) ∧ KeyV x.2.2.2.2.2.2.2) :=
  rw_then (rw_num 8) fun _ => rw_then (rw_num 4) fun _ => rw_then (rw_list rw_prop 2) fun _ => rw_then rw_key fun _ => rw_then (rw_list rw_step 2) fun (st : List PStep) => rw_then (rw_items rw_key st.length) fun _ => rw_then (rw_items rw_box (sendsP st)) fun _ => rw_key
def comP (s : Rs) : PCom × Rs := (⟨(comRaw s).1.1, (comRaw s).1.2.1, (comRaw s).1.2.2.1, (comRaw s).1.2.2.2.1, (comRaw s).1.2.2.2.2.1, (comRaw s).1.2.2.2.2.2.1, (comRaw s).1.2.2.2.2.2.2.1, (comRaw s).1.2.2.2.2.2.2.2⟩, (comRaw s).2)
/-- A commit, step by step. -/
theorem comP_is {s s1 s2 s3 s4 s5 s6 s7 s8 s9 s10 : Rs} {ep by_ pn sn : Nat} {props : List PProp} {pt tag : Nat → Nat} {steps : List PStep} {new : List (Nat → Nat)} {boxes : List (List Nat)}
    (h1 : numP 8 s = (ep, s1)) (h2 : numP 4 s1 = (by_, s2)) (h3 : numP 2 s2 = (pn, s3)) (h4 : itemsP propP pn s3 = (props, s4)) (h5 : keyP s4 = (pt, s5)) (h6 : numP 2 s5 = (sn, s6)) (h7 : itemsP stepP' sn s6 = (steps, s7)) (h8 : itemsP keyP steps.length s7 = (new, s8)) (h9 : itemsP boxP (sendsP steps) s8 = (boxes, s9)) (h10 : keyP s9 = (tag, s10)) :
    comP s = (⟨ep, by_, props, pt, steps, new, boxes, tag⟩, s10) := by
  have l1 : listP 2 propP s2 = (props, s4) := by unfold listP; rw [h3]; exact h4
  have l2 : listP 2 stepP' s5 = (steps, s7) := by unfold listP; rw [h6]; exact h7
  have e : comRaw s = ((ep, by_, props, pt, steps, new, boxes, tag), s10) := by
    unfold comRaw
    simp only [thenP, h1, h2, l1, h5, l2, h8, h9, h10]
  unfold comP
  rw [e]
theorem rw_com : Rw comP PCom.L PCom.V :=
  rw_map rw_raw (fun x => (⟨x.1, x.2.1, x.2.2.1, x.2.2.2.1, x.2.2.2.2.1, x.2.2.2.2.2.1, x.2.2.2.2.2.2.1, x.2.2.2.2.2.2.2⟩ : PCom)) (fun p => (p.ep, p.by_, p.props, p.pt, p.steps, p.new, p.boxes, p.tag)) (fun _ => rfl) (fun _ => rfl) (fun _ => rfl) (fun _ => rfl)
end Go.Proofs.Yteefhbpmeajbfaa
namespace Go.Proofs.Yteefhbpmeajbfaa
set_option linter.unusedSimpArgs false
set_option linter.unusedVariables false
open Go.RowKit
/-- Where a part begins. -/
def cutA (A : Option Addr) (lo c : Nat) : Option Addr := if c = lo then A else A.map (·.add lo)
theorem cutA_zero (A : Option Addr) (c : Nat) : cutA A 0 c = A := by
  unfold cutA
  split
  · rfl
  · cases A with
    | none => rfl
    | some a => simp [addr_add_zero]
theorem Txt.cut {w : World} {B n c : Nat} {A : Option Addr} {l : List Nat} (h : Txt w B A n c l) (hnc : n ≤ c) {lo hi : Nat} (h1 : lo ≤ hi) (h2 : hi ≤ n) : Txt w B (cutA A lo c) (hi - lo) (c - lo) ((l.take hi).drop lo) := by
  refine ⟨by rw [List.length_drop, List.length_take, h.len]; omega, fun he => ?_, fun hn => ?_⟩
  · cases A with
    | none =>
      obtain ⟨rfl, rfl⟩ := h.nil rfl
      omega
    | some a =>
      unfold cutA at he
      split at he <;> cases he
  · obtain ⟨ad, rfl, hb, hc⟩ := h.at_ (by omega)
    refine ⟨ad.add lo, ?_, by rw [add_block]; exact hb, fun i x hx => ?_⟩
    · unfold cutA
      rw [if_neg (by omega)]
      rfl
    · rw [Addr.add_add]
      refine hc (lo + i) x ?_
      rw [List.getElem?_drop, List.getElem?_take] at hx
      split at hx
      · exact hx
      · cases hx
theorem Txt.take {w : World} {B n c : Nat} {A : Option Addr} {l : List Nat} (h : Txt w B A n c l) (hnc : n ≤ c) {hi : Nat} (h2 : hi ≤ n) : Txt w B A hi c (l.take hi) := by
  have := h.cut hnc (Nat.zero_le hi) h2
  rwa [cutA_zero, Nat.sub_zero, Nat.sub_zero, List.drop_zero] at this
theorem Txt.from {w : World} {B n c : Nat} {A : Option Addr} {l : List Nat} (h : Txt w B A n c l) (hnc : n ≤ c) {lo : Nat} (h2 : lo ≤ n) : Txt w B (cutA A lo c) (n - lo) (c - lo) (l.drop lo) := by
  have := h.cut hnc h2 (Nat.le_refl n)
  rwa [List.take_of_length_le (by rw [h.len]; exact Nat.le_refl _)] at this
theorem Own.cap {w : World} {base n c : Nat} {e : TypeId} {A : Option Addr} {l : List Nat} (h : Own w base e (.slice A n c) l) : n ≤ c := by
  rcases h.2 with ⟨he, h0⟩ | ⟨g, cap, cur, he, _, _, h4, _⟩
  · injection he with _ e1 e2; omega
  · injection he with _ e1 e2; omega
theorem Own.setRow {w : World} {base g : Nat} {e : TypeId} {v : Value} {l : List Nat} (h : Own w base e v l) (hne : ∀ k, v.ownBlock = some k → k ≠ g) (cs : Array Value) : Own (w.setRow g cs) base e v l := by
  refine ⟨h.1, ?_⟩
  rcases h.2 with h2 | ⟨b, cap, cur, rfl, h3, hh, h4⟩
  · exact .inl h2
  · exact .inr ⟨b, cap, cur, rfl, h3, by rw [setRow_other _ _ _ _ (hne b rfl)]; exact hh, h4⟩
section
variable {P : Program} {w : World} {o : Oper} {a : Act}
theorem run_size1 {t e : TypeId} (hT : ByteT P t e) : (sizeOf e).run P w = .ok 1 w := by
  have hinfo := hT.info
  cases hi : P.info? e with
  | none => rw [hi] at hinfo; cases hinfo
  | some i =>
    rw [hi] at hinfo
    simp only [Option.map_some, Option.some.injEq, Prod.mk.injEq] at hinfo
    simp [sizeOf, typeInfo, hi, hinfo.2.1]
theorem run_op_cut_lh {t e : TypeId} (hT : ByteT P t e) {x y z : Operand} {A : Option Addr} {n c lo hi : Nat} (ho : o.op = .slice t x (some y) (some z) none) (hx : a.eval x = .slice A n c) (hy : a.eval y = .int .i64 lo) (hz : a.eval z = .int .i64 hi) (h1 : lo ≤ hi) (h2 : hi ≤ c) :
    (execOp a.eval o).run P w = .ok (.value (.slice (cutA A lo c) (hi - lo) (c - lo))) w := by
  have hb : (Instr.sliceBounds true n c (some (.int .i64 lo)) (some (.int .i64 hi)) none).run P w = .ok (lo, hi, c) w := by
    simp [Instr.sliceBounds, Instr.sliceBound, asIntOf, h1, h2, show (lo : Int) ≤ hi from by omega, show (hi : Int) ≤ c from by omega]
  unfold execOp
  simp only [ho, hx, hy, hz, Option.map_some, Option.map_none]
  unfold Instr.sliceAt
  simp only [Sem.run_bind, run_underlying hT.sl, Result.andThen_ok, Instr.slice, hb, run_size1 hT, Sem.run_pure, Nat.mul_one]
  rfl
theorem run_op_cut_l {t e : TypeId} {k : IntKind} (hT : ByteT P t e) {x y : Operand} {A : Option Addr} {n c lo : Nat} (ho : o.op = .slice t x (some y) none none) (hx : a.eval x = .slice A n c) (hy : a.eval y = .int k lo) (h1 : lo ≤ n) :
    (execOp a.eval o).run P w = .ok (.value (.slice (cutA A lo c) (n - lo) (c - lo))) w := by
  have hb : (Instr.sliceBounds true n c (some (.int k lo)) none none).run P w = .ok (lo, n, c) w := by
    simp [Instr.sliceBounds, Instr.sliceBound, asIntOf, h1, show (lo : Int) ≤ n from by omega]
  unfold execOp
  simp only [ho, hx, hy, Option.map_some, Option.map_none]
  unfold Instr.sliceAt
  simp only [Sem.run_bind, run_underlying hT.sl, Result.andThen_ok, Instr.slice, hb, run_size1 hT, Sem.run_pure, Nat.mul_one]
  rfl
end
end Go.Proofs.Yteefhbpmeajbfaa
namespace Go.Proofs.Yteefhbpmeajbfaa
set_option linter.unusedSimpArgs false
set_option linter.unusedVariables false
open Go.RowKit

theorem Clone_any (A : Option Addr) (n c : Nat) (l : List Nat) (w : World) (h : Txt w w.heap.size A n c l) (hn : n ≤ 140737488355328) :
    Calls Try.prog 37 #[.slice A n c] w (RetOwn w l) := by
  cases A with
  | none =>
    obtain ⟨rfl, rfl⟩ := h.nil rfl
    obtain rfl : l = [] := List.eq_nil_of_length_eq_zero h.len
    have he := fun w => Lib.run_eql_slice_nil (P := Try.prog) w 23 5 none 0 0 0 0 Try.underlying23
    go_enter Try.func37, Try.ntmps37
    go_wp2
    go_ret
    exact ⟨_, rfl, Own.nil_, Below.refl _ _⟩
  | some ad =>
    have he := fun w => Lib.run_eql_slice_nil (P := Try.prog) w 23 5 (some ad) n c 0 0 Try.underlying23
    have ho := own_empty w 5
    have hb : Below w.heap.size w (w.alloc (.cells #[] 5)) := (Below.refl _ _).alloc (Nat.le_refl _) _
    go_enter Try.func37, Try.ntmps37
    go_wp2_with (refine wpList_append_txt rfl rfl BT (l := []) rfl rfl ho (h.below hb) (by simpa using hn) (by simp) ?_; intro v1 w1 hown hg hat)
    go_ret
    exact ⟨v1, rfl, by simpa using hown, own_below hb ho hg (Nat.le_refl _) (by simp)⟩
set_option maxRecDepth 100000 in
set_option maxHeartbeats 1000000 in
theorem put_any (v : Value) (l : List Nat) (base : Nat) (W n : Nat) (hW : W ≤ 8) (hn : n < 18446744073709551616) (hl : l.length + 8 ≤ 140737488355328) (w : World) (hown : Own w base 5 v l) (hbase : base ≤ w.heap.size) :
    Calls Try.prog 118 #[v, .int .i64 W, .int .u64 n] w fun e w' => (∃ v', e = .returned v' ∧ Own w' base 5 v' (l ++ beL W n)) ∧ Below base w w' := by
  go_enter Try.func118, Try.ntmps118
  go_wp2
  have hown' := Lib.hid hown
  clear hown
  go_loopg [0, 7] W (fun k v i wr => i = .int .i64 ((k : Int) - 1) ∧ k ≤ W ∧ Own wr base 5 v (l ++ beK W n (W - k)) ∧ Below base w wr ∧ base ≤ wr.heap.size)
  case atStart => exact ⟨rfl, Nat.le_refl _, (by rw [Nat.sub_self]; unfold beK; simpa using hown'.out), Below.refl _ _, hbase⟩
  case round =>
    obtain ⟨rfl, hk, ho, hB, hs⟩ := hrel
    have ho' := Lib.hid ho
    clear ho
    rcases Nat.eq_zero_or_pos gk with hz | hz
    · subst hz
      go_wp2
      go_ret
      refine ⟨⟨_, rfl, ?_⟩, hB⟩
      exact ho'.out
    · obtain ⟨k, rfl⟩ : ∃ k, gk = k + 1 := ⟨gk - 1, by omega⟩
      have ek : ((k + 1 : Nat) : Int) - 1 = (k : Int) := by omega
      rw [ek]
      obtain ⟨x, hx⟩ : ∃ x, x = n / 2 ^ (8 * k) % 256 := ⟨_, rfl⟩
      have ex : (n : Int) / 2 ^ (8 * k) % 256 = (x : Int) := by rw [hx, Int.natCast_emod, Int.natCast_ediv, Int.natCast_pow]; rfl
      have en : beK W n (W - (k + 1)) ++ [x] = beK W n (W - k) := by
        rw [show W - k = (W - (k + 1)) + 1 from by omega, beK_succ, hx, show W - 1 - (W - (k + 1)) = k from by omega]
      have EN := Lib.hid en
      have bl := beK_len W n (W - (k + 1))
      have BL := Lib.hid bl
      clear hz ek hx en bl
      go_wp2_with (refine wpList_append_txt rfl rfl BT rfl rfl (ho'.out.alloc (.cells #[bv x] 5)) (txt_one wr 5 x) (by have := BL.out; simp; omega) (by simp; omega) ?_; intro v1 w1 hown hg hat)
      have hb1 := own_below (hB.alloc hs (.cells #[bv x] 5)) (ho'.out.alloc (.cells #[bv x] 5)) hg (Nat.le_refl _) (by simp; omega)
      go_roundg k
      case measure => omega
      case rel => exact ⟨by go_num, by omega, (by rw [← EN.out, ← List.append_assoc]; exact hown), hb1, Nat.le_trans hs (Nat.le_trans (by simp) hg.size)⟩
end Go.Proofs.Yteefhbpmeajbfaa
namespace Go.Proofs.Yteefhbpmeajbfaa
set_option linter.unusedSimpArgs false
set_option linter.unusedVariables false
open Go.RowKit

theorem len8_bd : ∀ i : Fin 256, 0 ≤ Lib.len8 (i.val : Int) ∧ Lib.len8 (i.val : Int) ≤ 8 ∧ (i.val ≠ 0 → 1 ≤ Lib.len8 (i.val : Int)) ∧ (i.val = 0 → Lib.len8 (i.val : Int) = 0) := by decide +kernel
theorem room_of (n r k : Nat) (h1 : k = 0 ∨ 256 ^ k ≤ n) (h2 : n < 256 ^ (k + 1)) (h3 : (8 * k + 1 ≤ r ∧ 1 ≤ n) ∨ (n = 0 ∧ r = 0)) (h4 : r ≤ 8 * k + 8) (W : Nat) : r ≤ 8 * W ↔ n < 256 ^ W := by
  have hp : 0 < 256 ^ W := Nat.pow_pos (by omega)
  rcases h3 with ⟨h3, h5⟩ | ⟨rfl, rfl⟩
  · rcases Nat.lt_or_ge k W with h | h
    · have := Nat.pow_le_pow_right (n := 256) (by omega) h
      constructor
      · intro _; exact Nat.lt_of_lt_of_le h2 this
      · intro _; omega
    · have hle := Nat.pow_le_pow_right (n := 256) (by omega) h
      constructor
      · intro hr; omega
      · intro hn
        rcases h1 with rfl | h1
        · obtain rfl : W = 0 := by omega
          rw [Nat.pow_zero] at hn
          omega
        · omega
  · exact ⟨fun _ => hp, fun _ => Nat.zero_le _⟩
/-- One byte's length, k bytes up. -/
theorem room_at (n k : Nat) (hk : k < 8) (h1 : k = 0 ∨ 256 ^ k ≤ n) (h2 : n < 256 ^ (k + 1)) (h0 : n = 0 ∨ 1 ≤ n / 256 ^ k) (W : Nat) :
    (8 * k + (Lib.len8 ((n / 256 ^ k : Nat) : Int)).toNat ≤ 8 * W ↔ n < 256 ^ W) ∧ 0 ≤ Lib.len8 ((n / 256 ^ k : Nat) : Int) ∧ Lib.len8 ((n / 256 ^ k : Nat) : Int) ≤ 8 := by
  have hlt : n / 256 ^ k < 256 := by
    rw [Nat.pow_succ] at h2
    exact Nat.div_lt_of_lt_mul h2
  obtain ⟨a, b, c, d⟩ := len8_bd ⟨n / 256 ^ k, hlt⟩
  simp only at a b c d
  refine ⟨room_of n _ k h1 h2 ?_ (by omega) W, a, b⟩
  rcases h0 with rfl | h0
  · rcases h1 with rfl | h1
    · rw [Nat.zero_div] at d
      have := d rfl
      rw [Nat.zero_div, this]
      exact .inr ⟨rfl, rfl⟩
    · have : 0 < 256 ^ k := Nat.pow_pos (by omega)
      omega
  · have := c (by omega)
    refine .inl ⟨by omega, ?_⟩
    rcases Nat.eq_zero_or_pos n with hz | hz
    · rw [hz, Nat.zero_div] at h0; omega
    · exact hz

set_option maxHeartbeats 1000000 in
set_option maxRecDepth 100000 in
theorem Len64_0 (x : Int) (h0 : 0 ≤ x) (h1 : x < 256) (w : World) :
    Calls Try.prog 121 #[.int .u64 x] w fun e w' => (∃ r : Nat, e = .returned (.int .i64 r) ∧ ∀ W, r ≤ 8 * W ↔ x.toNat < 256 ^ W) ∧ w = w' := by
  have d_x1 : decide ((4294967296 : Int) ≤ x) = false := decide_eq_false (by omega)
  have d_x2 : decide ((65536 : Int) ≤ x) = false := decide_eq_false (by omega)
  have d_x3 : decide ((256 : Int) ≤ x) = false := decide_eq_false (by omega)
  have q0 : 0 ≤ x := by omega
  have q1 : x ≤ 255 := by omega
  have q2 : x = ((x.toNat / 256 ^ 0 : Nat) : Int) := by rw [show (256 : Nat) ^ 0 = 1 from rfl]; omega
  have rm := room_at x.toNat 0 (by omega) (.inl rfl) (by rw [show (256 : Nat) ^ (0 + 1) = 256 from rfl]; omega) (by rw [show (256 : Nat) ^ 0 = 1 from rfl]; omega)
  rw [← q2] at rm
  have bd := (rm 0).2
  obtain ⟨l, hl⟩ := Int.eq_ofNat_of_zero_le bd.1
  have tb := fun (w : World) => Lib.run_index_len8tab (P := Try.prog) (w := w) 9 .u8 x Try.underlying9 q0 q1
  rw [hl] at tb bd
  have bl : l ≤ 8 := by omega
  have RM := Lib.hid (fun W => (rm W).1)
  rw [hl, Int.toNat_natCast] at RM
  clear rm q2 hl bd
  go_enter Try.func121, Try.ntmps121
  go_wp2
  go_ret
  refine ⟨⟨0 + l, ?_, RM.out⟩, rfl⟩
  first | rfl | (congr 2; omega) | (show Ending.returned (Value.int .i64 _) = Ending.returned (Value.int .i64 _); congr 2; omega)
set_option maxHeartbeats 1000000 in
set_option maxRecDepth 100000 in
theorem Len64_1 (x : Int) (h0 : 256 ≤ x) (h1 : x < 65536) (w : World) :
    Calls Try.prog 121 #[.int .u64 x] w fun e w' => (∃ r : Nat, e = .returned (.int .i64 r) ∧ ∀ W, r ≤ 8 * W ↔ x.toNat < 256 ^ W) ∧ w = w' := by
  have d_x1 : decide ((4294967296 : Int) ≤ x) = false := decide_eq_false (by omega)
  have d_x2 : decide ((65536 : Int) ≤ x) = false := decide_eq_false (by omega)
  have d_x3 : decide ((256 : Int) ≤ x) = true := decide_eq_true (by omega)
  obtain ⟨x3, hx3⟩ : ∃ y, y = x / 256 := ⟨_, rfl⟩
  have e_x3 : x / 256 = x3 := hx3.symm
  have q0 : 0 ≤ x3 := by omega
  have q1 : x3 ≤ 255 := by omega
  have q2 : x3 = ((x.toNat / 256 ^ 1 : Nat) : Int) := by rw [show (256 : Nat) ^ 1 = 256 from rfl]; omega
  have rm := room_at x.toNat 1 (by omega) (.inr (by rw [show (256 : Nat) ^ 1 = 256 from rfl]; omega)) (by rw [show (256 : Nat) ^ (1 + 1) = 65536 from rfl]; omega) (by rw [show (256 : Nat) ^ 1 = 256 from rfl]; omega)
  rw [← q2] at rm
  have bd := (rm 0).2
  obtain ⟨l, hl⟩ := Int.eq_ofNat_of_zero_le bd.1
  have tb := fun (w : World) => Lib.run_index_len8tab (P := Try.prog) (w := w) 9 .u8 x3 Try.underlying9 q0 q1
  rw [hl] at tb bd
  have bl : l ≤ 8 := by omega
  have RM := Lib.hid (fun W => (rm W).1)
  rw [hl, Int.toNat_natCast] at RM
  clear rm q2 hl bd hx3
  go_enter Try.func121, Try.ntmps121
  go_wp2
  go_ret
  refine ⟨⟨8 + l, ?_, RM.out⟩, rfl⟩
  first | rfl | (congr 2; omega) | (show Ending.returned (Value.int .i64 _) = Ending.returned (Value.int .i64 _); congr 2; omega)
set_option maxHeartbeats 1000000 in
set_option maxRecDepth 100000 in
theorem Len64_2 (x : Int) (h0 : 65536 ≤ x) (h1 : x < 16777216) (w : World) :
    Calls Try.prog 121 #[.int .u64 x] w fun e w' => (∃ r : Nat, e = .returned (.int .i64 r) ∧ ∀ W, r ≤ 8 * W ↔ x.toNat < 256 ^ W) ∧ w = w' := by
  have d_x1 : decide ((4294967296 : Int) ≤ x) = false := decide_eq_false (by omega)
  have d_x2 : decide ((65536 : Int) ≤ x) = true := decide_eq_true (by omega)
  obtain ⟨x2, hx2⟩ : ∃ y, y = x / 65536 := ⟨_, rfl⟩
  have e_x2 : x / 65536 = x2 := hx2.symm
  have d_x3 : decide ((256 : Int) ≤ x2) = false := decide_eq_false (by omega)
  have q0 : 0 ≤ x2 := by omega
  have q1 : x2 ≤ 255 := by omega
  have q2 : x2 = ((x.toNat / 256 ^ 2 : Nat) : Int) := by rw [show (256 : Nat) ^ 2 = 65536 from rfl]; omega
  have rm := room_at x.toNat 2 (by omega) (.inr (by rw [show (256 : Nat) ^ 2 = 65536 from rfl]; omega)) (by rw [show (256 : Nat) ^ (2 + 1) = 16777216 from rfl]; omega) (by rw [show (256 : Nat) ^ 2 = 65536 from rfl]; omega)
  rw [← q2] at rm
  have bd := (rm 0).2
  obtain ⟨l, hl⟩ := Int.eq_ofNat_of_zero_le bd.1
  have tb := fun (w : World) => Lib.run_index_len8tab (P := Try.prog) (w := w) 9 .u8 x2 Try.underlying9 q0 q1
  rw [hl] at tb bd
  have bl : l ≤ 8 := by omega
  have RM := Lib.hid (fun W => (rm W).1)
  rw [hl, Int.toNat_natCast] at RM
  clear rm q2 hl bd hx2
  go_enter Try.func121, Try.ntmps121
  go_wp2
  go_ret
  refine ⟨⟨16 + l, ?_, RM.out⟩, rfl⟩
  first | rfl | (congr 2; omega) | (show Ending.returned (Value.int .i64 _) = Ending.returned (Value.int .i64 _); congr 2; omega)
set_option maxHeartbeats 1000000 in
set_option maxRecDepth 100000 in
theorem Len64_3 (x : Int) (h0 : 16777216 ≤ x) (h1 : x < 4294967296) (w : World) :
    Calls Try.prog 121 #[.int .u64 x] w fun e w' => (∃ r : Nat, e = .returned (.int .i64 r) ∧ ∀ W, r ≤ 8 * W ↔ x.toNat < 256 ^ W) ∧ w = w' := by
  have d_x1 : decide ((4294967296 : Int) ≤ x) = false := decide_eq_false (by omega)
  have d_x2 : decide ((65536 : Int) ≤ x) = true := decide_eq_true (by omega)
  obtain ⟨x2, hx2⟩ : ∃ y, y = x / 65536 := ⟨_, rfl⟩
  have e_x2 : x / 65536 = x2 := hx2.symm
  have d_x3 : decide ((256 : Int) ≤ x2) = true := decide_eq_true (by omega)
  obtain ⟨x3, hx3⟩ : ∃ y, y = x2 / 256 := ⟨_, rfl⟩
  have e_x3 : x2 / 256 = x3 := hx3.symm
  have q0 : 0 ≤ x3 := by omega
  have q1 : x3 ≤ 255 := by omega
  have q2 : x3 = ((x.toNat / 256 ^ 3 : Nat) : Int) := by rw [show (256 : Nat) ^ 3 = 16777216 from rfl]; omega
  have rm := room_at x.toNat 3 (by omega) (.inr (by rw [show (256 : Nat) ^ 3 = 16777216 from rfl]; omega)) (by rw [show (256 : Nat) ^ (3 + 1) = 4294967296 from rfl]; omega) (by rw [show (256 : Nat) ^ 3 = 16777216 from rfl]; omega)
  rw [← q2] at rm
  have bd := (rm 0).2
  obtain ⟨l, hl⟩ := Int.eq_ofNat_of_zero_le bd.1
  have tb := fun (w : World) => Lib.run_index_len8tab (P := Try.prog) (w := w) 9 .u8 x3 Try.underlying9 q0 q1
  rw [hl] at tb bd
  have bl : l ≤ 8 := by omega
  have RM := Lib.hid (fun W => (rm W).1)
  rw [hl, Int.toNat_natCast] at RM
  clear rm q2 hl bd hx2 hx3
  go_enter Try.func121, Try.ntmps121
  go_wp2
  go_ret
  refine ⟨⟨24 + l, ?_, RM.out⟩, rfl⟩
  first | rfl | (congr 2; omega) | (show Ending.returned (Value.int .i64 _) = Ending.returned (Value.int .i64 _); congr 2; omega)
set_option maxHeartbeats 1000000 in
set_option maxRecDepth 100000 in
theorem Len64_4 (x : Int) (h0 : 4294967296 ≤ x) (h1 : x < 1099511627776) (w : World) :
    Calls Try.prog 121 #[.int .u64 x] w fun e w' => (∃ r : Nat, e = .returned (.int .i64 r) ∧ ∀ W, r ≤ 8 * W ↔ x.toNat < 256 ^ W) ∧ w = w' := by
  have d_x1 : decide ((4294967296 : Int) ≤ x) = true := decide_eq_true (by omega)
  obtain ⟨x1, hx1⟩ : ∃ y, y = x / 4294967296 := ⟨_, rfl⟩
  have e_x1 : x / 4294967296 = x1 := hx1.symm
  have d_x2 : decide ((65536 : Int) ≤ x1) = false := decide_eq_false (by omega)
  have d_x3 : decide ((256 : Int) ≤ x1) = false := decide_eq_false (by omega)
  have q0 : 0 ≤ x1 := by omega
  have q1 : x1 ≤ 255 := by omega
  have q2 : x1 = ((x.toNat / 256 ^ 4 : Nat) : Int) := by rw [show (256 : Nat) ^ 4 = 4294967296 from rfl]; omega
  have rm := room_at x.toNat 4 (by omega) (.inr (by rw [show (256 : Nat) ^ 4 = 4294967296 from rfl]; omega)) (by rw [show (256 : Nat) ^ (4 + 1) = 1099511627776 from rfl]; omega) (by rw [show (256 : Nat) ^ 4 = 4294967296 from rfl]; omega)
  rw [← q2] at rm
  have bd := (rm 0).2
  obtain ⟨l, hl⟩ := Int.eq_ofNat_of_zero_le bd.1
  have tb := fun (w : World) => Lib.run_index_len8tab (P := Try.prog) (w := w) 9 .u8 x1 Try.underlying9 q0 q1
  rw [hl] at tb bd
  have bl : l ≤ 8 := by omega
  have RM := Lib.hid (fun W => (rm W).1)
  rw [hl, Int.toNat_natCast] at RM
  clear rm q2 hl bd hx1
  go_enter Try.func121, Try.ntmps121
  go_wp2
  go_ret
  refine ⟨⟨32 + l, ?_, RM.out⟩, rfl⟩
  first | rfl | (congr 2; omega) | (show Ending.returned (Value.int .i64 _) = Ending.returned (Value.int .i64 _); congr 2; omega)
set_option maxHeartbeats 1000000 in
set_option maxRecDepth 100000 in
theorem Len64_5 (x : Int) (h0 : 1099511627776 ≤ x) (h1 : x < 281474976710656) (w : World) :
    Calls Try.prog 121 #[.int .u64 x] w fun e w' => (∃ r : Nat, e = .returned (.int .i64 r) ∧ ∀ W, r ≤ 8 * W ↔ x.toNat < 256 ^ W) ∧ w = w' := by
  have d_x1 : decide ((4294967296 : Int) ≤ x) = true := decide_eq_true (by omega)
  obtain ⟨x1, hx1⟩ : ∃ y, y = x / 4294967296 := ⟨_, rfl⟩
  have e_x1 : x / 4294967296 = x1 := hx1.symm
  have d_x2 : decide ((65536 : Int) ≤ x1) = false := decide_eq_false (by omega)
  have d_x3 : decide ((256 : Int) ≤ x1) = true := decide_eq_true (by omega)
  obtain ⟨x3, hx3⟩ : ∃ y, y = x1 / 256 := ⟨_, rfl⟩
  have e_x3 : x1 / 256 = x3 := hx3.symm
  have q0 : 0 ≤ x3 := by omega
  have q1 : x3 ≤ 255 := by omega
  have q2 : x3 = ((x.toNat / 256 ^ 5 : Nat) : Int) := by rw [show (256 : Nat) ^ 5 = 1099511627776 from rfl]; omega
  have rm := room_at x.toNat 5 (by omega) (.inr (by rw [show (256 : Nat) ^ 5 = 1099511627776 from rfl]; omega)) (by rw [show (256 : Nat) ^ (5 + 1) = 281474976710656 from rfl]; omega) (by rw [show (256 : Nat) ^ 5 = 1099511627776 from rfl]; omega)
  rw [← q2] at rm
  have bd := (rm 0).2
  obtain ⟨l, hl⟩ := Int.eq_ofNat_of_zero_le bd.1
  have tb := fun (w : World) => Lib.run_index_len8tab (P := Try.prog) (w := w) 9 .u8 x3 Try.underlying9 q0 q1
  rw [hl] at tb bd
  have bl : l ≤ 8 := by omega
  have RM := Lib.hid (fun W => (rm W).1)
  rw [hl, Int.toNat_natCast] at RM
  clear rm q2 hl bd hx1 hx3
  go_enter Try.func121, Try.ntmps121
  go_wp2
  go_ret
  refine ⟨⟨40 + l, ?_, RM.out⟩, rfl⟩
  first | rfl | (congr 2; omega) | (show Ending.returned (Value.int .i64 _) = Ending.returned (Value.int .i64 _); congr 2; omega)
set_option maxHeartbeats 1000000 in
set_option maxRecDepth 100000 in
theorem Len64_6 (x : Int) (h0 : 281474976710656 ≤ x) (h1 : x < 72057594037927936) (w : World) :
    Calls Try.prog 121 #[.int .u64 x] w fun e w' => (∃ r : Nat, e = .returned (.int .i64 r) ∧ ∀ W, r ≤ 8 * W ↔ x.toNat < 256 ^ W) ∧ w = w' := by
  have d_x1 : decide ((4294967296 : Int) ≤ x) = true := decide_eq_true (by omega)
  obtain ⟨x1, hx1⟩ : ∃ y, y = x / 4294967296 := ⟨_, rfl⟩
  have e_x1 : x / 4294967296 = x1 := hx1.symm
  have d_x2 : decide ((65536 : Int) ≤ x1) = true := decide_eq_true (by omega)
  obtain ⟨x2, hx2⟩ : ∃ y, y = x1 / 65536 := ⟨_, rfl⟩
  have e_x2 : x1 / 65536 = x2 := hx2.symm
  have d_x3 : decide ((256 : Int) ≤ x2) = false := decide_eq_false (by omega)
  have q0 : 0 ≤ x2 := by omega
  have q1 : x2 ≤ 255 := by omega
  have q2 : x2 = ((x.toNat / 256 ^ 6 : Nat) : Int) := by rw [show (256 : Nat) ^ 6 = 281474976710656 from rfl]; omega
  have rm := room_at x.toNat 6 (by omega) (.inr (by rw [show (256 : Nat) ^ 6 = 281474976710656 from rfl]; omega)) (by rw [show (256 : Nat) ^ (6 + 1) = 72057594037927936 from rfl]; omega) (by rw [show (256 : Nat) ^ 6 = 281474976710656 from rfl]; omega)
  rw [← q2] at rm
  have bd := (rm 0).2
  obtain ⟨l, hl⟩ := Int.eq_ofNat_of_zero_le bd.1
  have tb := fun (w : World) => Lib.run_index_len8tab (P := Try.prog) (w := w) 9 .u8 x2 Try.underlying9 q0 q1
  rw [hl] at tb bd
  have bl : l ≤ 8 := by omega
  have RM := Lib.hid (fun W => (rm W).1)
  rw [hl, Int.toNat_natCast] at RM
  clear rm q2 hl bd hx1 hx2
  go_enter Try.func121, Try.ntmps121
  go_wp2
  go_ret
  refine ⟨⟨48 + l, ?_, RM.out⟩, rfl⟩
  first | rfl | (congr 2; omega) | (show Ending.returned (Value.int .i64 _) = Ending.returned (Value.int .i64 _); congr 2; omega)
set_option maxHeartbeats 1000000 in
set_option maxRecDepth 100000 in
theorem Len64_7 (x : Int) (h0 : 72057594037927936 ≤ x) (h1 : x ≤ 18446744073709551615) (w : World) :
    Calls Try.prog 121 #[.int .u64 x] w fun e w' => (∃ r : Nat, e = .returned (.int .i64 r) ∧ ∀ W, r ≤ 8 * W ↔ x.toNat < 256 ^ W) ∧ w = w' := by
  have d_x1 : decide ((4294967296 : Int) ≤ x) = true := decide_eq_true (by omega)
  obtain ⟨x1, hx1⟩ : ∃ y, y = x / 4294967296 := ⟨_, rfl⟩
  have e_x1 : x / 4294967296 = x1 := hx1.symm
  have d_x2 : decide ((65536 : Int) ≤ x1) = true := decide_eq_true (by omega)
  obtain ⟨x2, hx2⟩ : ∃ y, y = x1 / 65536 := ⟨_, rfl⟩
  have e_x2 : x1 / 65536 = x2 := hx2.symm
  have d_x3 : decide ((256 : Int) ≤ x2) = true := decide_eq_true (by omega)
  obtain ⟨x3, hx3⟩ : ∃ y, y = x2 / 256 := ⟨_, rfl⟩
  have e_x3 : x2 / 256 = x3 := hx3.symm
  have q0 : 0 ≤ x3 := by omega
  have q1 : x3 ≤ 255 := by omega
  have q2 : x3 = ((x.toNat / 256 ^ 7 : Nat) : Int) := by rw [show (256 : Nat) ^ 7 = 72057594037927936 from rfl]; omega
  have rm := room_at x.toNat 7 (by omega) (.inr (by rw [show (256 : Nat) ^ 7 = 72057594037927936 from rfl]; omega)) (by rw [show (256 : Nat) ^ (7 + 1) = 18446744073709551616 from rfl]; omega) (by rw [show (256 : Nat) ^ 7 = 72057594037927936 from rfl]; omega)
  rw [← q2] at rm
  have bd := (rm 0).2
  obtain ⟨l, hl⟩ := Int.eq_ofNat_of_zero_le bd.1
  have tb := fun (w : World) => Lib.run_index_len8tab (P := Try.prog) (w := w) 9 .u8 x3 Try.underlying9 q0 q1
  rw [hl] at tb bd
  have bl : l ≤ 8 := by omega
  have RM := Lib.hid (fun W => (rm W).1)
  rw [hl, Int.toNat_natCast] at RM
  clear rm q2 hl bd hx1 hx2 hx3
  go_enter Try.func121, Try.ntmps121
  go_wp2
  go_ret
  refine ⟨⟨56 + l, ?_, RM.out⟩, rfl⟩
  first | rfl | (congr 2; omega) | (show Ending.returned (Value.int .i64 _) = Ending.returned (Value.int .i64 _); congr 2; omega)
theorem Len64_int (x : Int) (h0 : 0 ≤ x) (h1 : x ≤ 18446744073709551615) (w : World) :
    Calls Try.prog 121 #[.int .u64 x] w fun e w' => (∃ r : Nat, e = .returned (.int .i64 r) ∧ ∀ W, r ≤ 8 * W ↔ x.toNat < 256 ^ W) ∧ w = w' := by
  by_cases g0 : x < 256
  · exact Len64_0 x (by omega) g0 w
  by_cases g1 : x < 65536
  · exact Len64_1 x (by omega) g1 w
  by_cases g2 : x < 16777216
  · exact Len64_2 x (by omega) g2 w
  by_cases g3 : x < 4294967296
  · exact Len64_3 x (by omega) g3 w
  by_cases g4 : x < 1099511627776
  · exact Len64_4 x (by omega) g4 w
  by_cases g5 : x < 281474976710656
  · exact Len64_5 x (by omega) g5 w
  by_cases g6 : x < 72057594037927936
  · exact Len64_6 x (by omega) g6 w
  exact Len64_7 x (by omega) h1 w
end Go.Proofs.Yteefhbpmeajbfaa
namespace Go.Proofs.Yteefhbpmeajbfaa
set_option linter.unusedSimpArgs false
set_option linter.unusedVariables false
open Go.RowKit
attribute [local irreducible] beL beK
theorem fits_any (W n : Nat) (hW : W ≤ 8) (hn : n < 18446744073709551616) (w : World) :
    Calls Try.prog 117 #[.int .i64 W, .int .u64 n] w fun e w' => e = .returned (.bool (decide (n < 256 ^ W))) ∧ w = w' := by
  have hx : ((n : Int)) ≤ 18446744073709551615 := by omega
  have c := Len64_int (n : Int) (by omega) hx
  rw [Int.toNat_natCast] at c
  have C := Lib.hid c
  clear c hx hn
  go_enter Try.func117, Try.ntmps117
  go_wp2_with (go_at_call 121; fail)
  refine (C.out _).mono ?_
  rintro e w' ⟨⟨r, rfl, hr⟩, rfl⟩
  have HR := Lib.hid (hr W)
  clear hr
  go_wp2
  go_ret
  refine ⟨?_, rfl⟩
  have e1 : decide ((r : Int) ≤ 8 * (W : Int)) = decide (n < 256 ^ W) := decide_eq_decide.2 ⟨fun h => HR.out.1 (by omega), fun h => by have := HR.out.2 h; omega⟩
  rw [← e1]
  rfl

theorem Num1_any (W n : Nat) (hW : W ≤ 8) (hn : n < 18446744073709551616) (g : Nat) (w : World) (hc : w.cell? ⟨g, 0, none⟩ = some (.int .i64 W)) :
    Calls Try.prog 116 #[.int .u64 n, .pointer (some ⟨g, 0, none⟩)] w fun e w' => e = .returned (.bool (!decide (n < 256 ^ W))) ∧ w = w' := by
  have HN := Lib.hid hn
  clear hn
  go_enter Try.func116, Try.ntmps116
  go_wp2_with (go_at_call 117; fail)
  refine (fits_any W n hW HN.out _).mono ?_
  rintro e w' ⟨rfl, rfl⟩
  go_wp2
  go_ret
  exact ⟨rfl, rfl⟩

theorem IndexNum (W n : Nat) (hW : W ≤ 8) (hn : n < 18446744073709551616) (g h : Nat) (w : World) (hc : w.cell? ⟨g, 0, none⟩ = some (.int .i64 W)) (hx : w.cell? ⟨h, 0, none⟩ = some (.int .u64 n)) :
    Calls Try.prog 120 #[.slice (some ⟨h, 0, none⟩) 1 1, .func (.func 116) #[] #[.pointer (some ⟨g, 0, none⟩)]] w fun e w' => e = .returned (.int .i64 (if n < 256 ^ W then -1 else 0)) ∧ w = w' := by
  have HN := Lib.hid hn
  clear hn
  go_enter Try.func120, Try.ntmps120
  go_wp2
  go_loopg [8] 1 (fun k i wr => (k = 1 ∧ i = .int .i64 0 ∨ k = 0 ∧ i = .int .i64 1 ∧ n < 256 ^ W) ∧ w = wr)
  case atStart => exact ⟨.inl ⟨rfl, rfl⟩, rfl⟩
  case round =>
    obtain ⟨hr, rfl⟩ := hrel
    rcases hr with ⟨rfl, rfl⟩ | ⟨rfl, rfl, hlt⟩
    · go_wp2_with (go_at_call 116; fail)
      refine (Num1_any W n hW HN.out g _ hc).mono ?_
      rintro e w' ⟨rfl, rfl⟩
      by_cases hf : n < 256 ^ W
      · rw [decide_eq_true hf]
        have HF := Lib.hid hf
        clear hf
        go_wp2
        go_roundg 0
        case measure => omega
        case rel => exact ⟨.inr ⟨rfl, rfl, HF.out⟩, rfl⟩
      · rw [decide_eq_false hf]
        have HF := Lib.hid hf
        clear hf
        go_wp2
        go_ret
        refine ⟨?_, rfl⟩
        first | rfl | (rw [if_neg HF.out]; rfl)
    · have HF := Lib.hid hlt
      clear hlt
      go_wp2
      go_ret
      refine ⟨?_, rfl⟩
      first | rfl | (rw [if_pos HF.out]; rfl)
theorem ContainsNum (W n : Nat) (hW : W ≤ 8) (hn : n < 18446744073709551616) (g h : Nat) (w : World) (hc : w.cell? ⟨g, 0, none⟩ = some (.int .i64 W)) (hx : w.cell? ⟨h, 0, none⟩ = some (.int .u64 n)) :
    Calls Try.prog 115 #[.slice (some ⟨h, 0, none⟩) 1 1, .func (.func 116) #[] #[.pointer (some ⟨g, 0, none⟩)]] w fun e w' => e = .returned (.bool (!decide (n < 256 ^ W))) ∧ w = w' := by
  have c := Lib.hid (IndexNum W n hW hn g h w hc hx)
  by_cases hf : n < 256 ^ W
  · rw [decide_eq_true hf]
    rw [if_pos hf] at c
    clear hf hn
    go_enter Try.func115, Try.ntmps115
    go_wp2_with (go_at_call 120; fail)
    refine c.out.mono ?_
    rintro e w' ⟨rfl, rfl⟩
    go_wp2
    go_ret
    exact ⟨rfl, rfl⟩
  · rw [decide_eq_false hf]
    rw [if_neg hf] at c
    clear hf hn
    go_enter Try.func115, Try.ntmps115
    go_wp2_with (go_at_call 120; fail)
    refine c.out.mono ?_
    rintro e w' ⟨rfl, rfl⟩
    go_wp2
    go_ret
    exact ⟨rfl, rfl⟩

def NumPost (w : World) (W n : Nat) (e : Ending) (w' : World) : Prop := ∃ v, e = .returned (.tuple #[v, .int .i64 0]) ∧ Own w' w.heap.size 5 v (beL W n) ∧ Below w.heap.size w w'
set_option maxRecDepth 100000 in
set_option maxHeartbeats 2000000 in
theorem Num_one (W n : Nat) (h1 : 1 ≤ W) (h8 : W ≤ 8) (hn : n < 18446744073709551616) (hf : n < 256 ^ W) (h : Nat) (w : World) (hh : h < w.heap.size) (hx : w.cell? ⟨h, 0, none⟩ = some (.int .u64 n)) :
    Calls Try.prog 111 #[.slice none 0 0, .int .i64 W, .slice (some ⟨h, 0, none⟩) 1 1] w (NumPost w W n) := by
  have HN := Lib.hid hn
  have HF := Lib.hid hf
  clear hn hf
  go_enter Try.func111, Try.ntmps111
  have hb : Below w.heap.size w (w.alloc (.cells #[.int .i64 W] 3)) := (Below.refl _ _).alloc (Nat.le_refl _) _
  have c0 := cell_new1 w (.int .i64 (W : Int)) 3
  have cx := cell_below hb hh hx
  go_wp2_with (go_at_call 115; fail)
  refine (ContainsNum W n h8 HN.out w.heap.size h _ c0 cx).mono ?_
  rintro e w1 ⟨rfl, hw1⟩
  subst hw1
  rw [decide_eq_true HF.out]
  go_wp2_with (go_at_call 37; fail)
  refine (Clone_any none 0 0 [] _ Txt.nil_ (by omega)).mono ?_
  rintro e w2 ⟨v2, rfl, hown, b2⟩
  rw [World.size_alloc] at hown
  have hs := b2.size
  rw [World.size_alloc] at hs b2
  have hB := hb.trans (b2.mono (by omega))
  replace c0 := cell_below b2 (by omega) c0
  replace cx := cell_below b2 (by omega) cx
  clear b2 hb
  go_wp2
  go_loopg [8, 26] 1 (fun k v i wr => (k = 1 ∧ i = .int .i64 0 ∧ Own wr (w.heap.size + 1) 5 v [] ∨ k = 0 ∧ i = .int .i64 1 ∧ Own wr (w.heap.size + 1) 5 v (beL W n)) ∧ wr.cell? ⟨w.heap.size, 0, none⟩ = some (.int .i64 W) ∧ wr.cell? ⟨h, 0, none⟩ = some (.int .u64 n) ∧ w.heap.size + 1 ≤ wr.heap.size ∧ Below w.heap.size w wr)
  case atStart => exact ⟨.inl ⟨rfl, rfl, hown⟩, c0, cx, hs, hB⟩
  case round =>
    clear c0 cx hs hB hown
    obtain ⟨hr, c0, cx, hs, hB⟩ := hrel
    rcases hr with ⟨rfl, rfl, ho⟩ | ⟨rfl, rfl, ho⟩
    · have HO := Lib.hid ho
      clear ho
      go_wp2_with (go_at_call 118; fail)
      refine (put_any _ [] (w.heap.size + 1) W n h8 HN.out (by decide) _ HO.out hs).mono ?_
      rintro e w3 ⟨⟨v3, rfl, ho3⟩, b3⟩
      have HO3 := Lib.hid ho3
      replace c0 := cell_below b3 (by omega) c0
      replace cx := cell_below b3 (by omega) cx
      have hs3 := Nat.le_trans hs b3.size
      have hB3 := hB.trans (b3.mono (by omega))
      clear b3 hB hs HO ho3
      go_wp2
      go_roundg 0
      case measure => omega
      case rel => exact ⟨.inr ⟨rfl, rfl, HO3.out⟩, c0, cx, hs3, hB3⟩
    · have HO := Lib.hid ho
      clear ho
      go_wp2
      go_ret2
      exact ⟨_, rfl, HO.out.mono (by omega), hB⟩
end Go.Proofs.Yteefhbpmeajbfaa
namespace Go.Proofs.Yteefhbpmeajbfaa
set_option linter.unusedSimpArgs false
set_option linter.unusedVariables false
open Go.RowKit
attribute [local irreducible] beL beK
/-- A pen that lies in block g, and has gone wrong nowhere. -/
def Pen (w : World) (g : Nat) (v : Value) : Prop := w.heap[g]? = some (.cells #[v, .int .i64 0] 110 (0, 0))
/-- A row of bytes lies in no block of another type. -/
theorem own_ne {w : World} {base g : Nat} {e t : TypeId} {v : Value} {l : List Nat} {c : Array Value} {fr : Nat × Nat} (h : Own w base e v l) (hg : w.heap[g]? = some (.cells c t fr)) (hne : e ≠ t) : ∀ k, v.ownBlock = some k → k ≠ g := by
  intro k hk
  rcases h.2 with ⟨rfl, _⟩ | ⟨g', cap, cur, rfl, _, hh, _⟩
  · cases hk
  · have : g' = k := by simpa [Value.ownBlock] using hk
    subst this
    rintro rfl
    rw [hg] at hh
    injection hh with hh
    injection hh with _ ht
    exact hne ht.symm
/-- What is known of a pen, and of what it wrote: the row lies from 'base' on. -/
structure Pens (w : World) (g base : Nat) (l : List Nat) : Prop where
  low : base ≤ g
  size : base ≤ w.heap.size
  has : ∃ v, Pen w g v ∧ Own w base 5 v l
/-- Blocks that are no bytes, nor the pen, are kept. -/
def PenKeep (w w' : World) (g : Nat) : Prop := ∀ (b : Nat) (c : Array Value) (t : TypeId) (fr : Nat × Nat), w.heap[b]? = some (.cells c t fr) → b ≠ g → 5 ≠ t → w'.heap[b]? = some (.cells c t fr)
theorem PenKeep.below {w w' : World} {g : Nat} (h : Below w.heap.size w w') : PenKeep w w' g := fun b c t fr hb _ _ => (h.block b (lt_of_block hb)).trans hb
theorem PenKeep.trans {w w' w'' : World} {g : Nat} (h : PenKeep w w' g) (k : PenKeep w' w'' g) : PenKeep w w'' g := fun b c t fr hb hg ht => k b c t fr (h b c t fr hb hg ht) hg ht
def PenAll (w : World) (g base : Nat) (l : List Nat) (e : Ending) (w' : World) : Prop := e = .returned (.tuple #[]) ∧ Pens w' g base l ∧ Below base w w' ∧ PenKeep w w' g
theorem pen_cell0 {w : World} {g : Nat} {v : Value} (h : Pen w g v) : w.cell? ⟨g, 0, none⟩ = some v := by rw [cell_of_row _ _ _ _ _ _ h]; rfl
theorem pen_cell1 {w : World} {g : Nat} {v : Value} (h : Pen w g v) : w.cell? ⟨g, 1, none⟩ = some (.int .i64 0) := by rw [cell_of_row _ _ _ _ _ _ h]; rfl
theorem pen_free {w : World} {g : Nat} {v : Value} (h : Pen w g v) (i : Nat) : w.frozen? ⟨g, i, none⟩ = false := frozen_of_row w g i _ _ h
theorem pen_set {w : World} {g : Nat} {v : Value} (h : Pen w g v) (v' : Value) : Pen (w.setCell ⟨g, 0, none⟩ v') g v' := by
  unfold Pen
  rw [heap_setCell_same w g 0 _ _ _ h]
  rfl

/-- Behind an append to a pen's row, and the store into the pen. -/
theorem pen_wrote {w w' : World} {g base : Nat} {v v' : Value} {l l' : List Nat} (hp : Pen w g v) (ho : Own w base 5 v l) (ho' : Own w' base 5 v' l') (hg : w.grownBy w' v.ownBlock) (hat : v'.ownBlock = v.ownBlock ∨ v'.ownBlock = some w.heap.size) (hlow : base ≤ g) (hs : base ≤ w.heap.size) :
    Pen w' g v ∧ Pens (w'.setCell ⟨g, 0, none⟩ v') g base l' ∧ (∀ B w0, B ≤ base → Below B w0 w → Below B w0 (w'.setCell ⟨g, 0, none⟩ v')) ∧ PenKeep w (w'.setCell ⟨g, 0, none⟩ v') g := by
  have hgl := lt_of_block hp
  have hne := own_ne ho hp (by decide)
  have hp' : Pen w' g v := by
    unfold Pen
    rw [hg.block g hgl (fun e => hne g e.symm rfl)]
    exact hp
  refine ⟨hp', ⟨hlow, by simpa using Nat.le_trans hs hg.size, v', pen_set hp' v', ho'.setCell (fun k hk => ?_) v'⟩, fun B w0 hB hb => ?_, fun b c t fr hb hbg ht => ?_⟩
  · rcases hat with e | e
    · exact hne k (by rw [← e]; exact hk)
    · rw [e] at hk
      injection hk with hk
      show k ≠ g
      omega
  · exact (own_below hb ho hg hB (Nat.le_trans hB hs)).setCell (Nat.le_trans hB hlow) v'
  · rw [heap_setCell_other _ _ _ _ hbg]
    exact (hg.block b (lt_of_block hb) (fun e => own_ne ho hb ht b e.symm rfl)).trans hb

set_option maxRecDepth 100000 in
set_option maxHeartbeats 2000000 in
theorem num_all (W n : Nat) (h1 : 1 ≤ W) (h8 : W ≤ 8) (hn : n < 18446744073709551616) (hf : n < 256 ^ W) (g base : Nat) (l : List Nat) (hl : l.length ≤ 70368744177664) (w : World) (hp : Pens w g base l) :
    Calls Try.prog 94 #[.pointer (some ⟨g, 0, none⟩), .int .i64 W, .int .u64 n] w (PenAll w g base (l ++ beL W n)) := by
  obtain ⟨hlow, hs, v, hpen, hown⟩ := hp
  have HN := Lib.hid hn
  have HF := Lib.hid hf
  have HL := Lib.hid hl
  clear hn hf hl
  go_enter Try.func94, Try.ntmps94
  have hgl := lt_of_block hpen
  have hb : Below w.heap.size w (w.alloc (.cells #[.int .u64 (n : Int)] 27)) := (Below.refl _ _).alloc (Nat.le_refl _) _
  have cx := cell_new1 w (.int .u64 (n : Int)) 27
  go_wp2_with (go_at_call 111; fail)
  refine (Num_one W n h1 h8 HN.out HF.out w.heap.size _ (by simp) cx).mono ?_
  rintro e w2 ⟨v6, rfl, ho6, b2⟩
  obtain ⟨A6, c6, hv6, ht6⟩ := ho6.txt
  rw [beL_len] at hv6 ht6
  subst hv6
  have hb2 := hb.trans (b2.mono (by simp))
  have hpen2 : Pen w2 g v := (hb2.block g hgl).trans hpen
  have hown2 : Own w2 base 5 v l := hown.below hb2 (fun k hk => (hown.lt k hk).2)
  have hs2 : base ≤ w2.heap.size := Nat.le_trans hs hb2.size
  have c0 := pen_cell0 hpen2
  have HT := Lib.hid ht6
  have HO2 := Lib.hid hown2
  have HP2 := Lib.hid hpen2
  have HB2 := Lib.hid hb2
  clear ht6 hown2 hpen2 ho6 b2 cx hb hown
  go_wp2_with (refine wpList_append_txt rfl rfl BT rfl rfl HO2.out HT.out (by have := HL.out; omega) hs2 ?_; intro v' w3 ho3 hg3 hat3; obtain ⟨hpen3, hpens, hbl, hkp⟩ := pen_wrote HP2.out HO2.out ho3 hg3 hat3 hlow hs2; have c3 := pen_cell0 hpen3; have f3 := pen_free hpen3 0; obtain ⟨A3, n3, rfl, ht3⟩ := ho3.txt; rw [List.length_append] at hpens hbl hkp; clear ht3 ho3 hg3 hat3)
  go_end0
  exact ⟨rfl, hpens, hbl base w (Nat.le_refl _) (HB2.out.mono hs), (PenKeep.below HB2.out).trans hkp⟩
set_option maxRecDepth 100000 in
set_option maxHeartbeats 2000000 in
theorem text_all (W : Nat) (h1 : 1 ≤ W) (h8 : W ≤ 8) (A : Option Addr) (n c : Nat) (m : List Nat) (hf : n < 256 ^ W) (hn : n ≤ 70368744177664) (g base : Nat) (l : List Nat) (hl : l.length ≤ 1099511627776) (w : World) (hp : Pens w g base l) (ht : Txt w base A n c m) :
    Calls Try.prog 102 #[.pointer (some ⟨g, 0, none⟩), .int .i64 W, .slice A n c] w (PenAll w g base (l ++ beL W n ++ m)) := by
  have HF := Lib.hid hf
  have HL := Lib.hid hl
  clear hf hl
  go_enter Try.func102, Try.ntmps102
  go_wp2_with (go_at_call 94; fail)
  refine (num_all W n h1 h8 (by omega) HF.out g base l (by have := HL.out; omega) _ hp).mono ?_
  rintro e w2 ⟨rfl, hp2, hb2, hk2⟩
  obtain ⟨hlow, hs, v, hpen, hown⟩ := hp2
  have c0 := pen_cell0 hpen
  have HT := Lib.hid (ht.below hb2)
  have HO := Lib.hid hown
  have HP := Lib.hid hpen
  clear ht hown
  go_wp2_with (refine wpList_append_txt rfl rfl BT rfl rfl HO.out HT.out (by have := HL.out; rw [List.length_append, beL_len]; omega) hs ?_; intro v' w3 ho3 hg3 hat3; obtain ⟨hpen3, hpens, hbl, hkp⟩ := pen_wrote HP.out HO.out ho3 hg3 hat3 hlow hs; have c3 := pen_cell0 hpen3; have f3 := pen_free hpen3 0; obtain ⟨A3, n3, rfl, ht3⟩ := ho3.txt; clear ht3 ho3 hg3 hat3)
  go_end0
  exact ⟨rfl, by simpa using hpens, by simpa using hbl base w (Nat.le_refl _) hb2, hk2.trans (by simpa using hkp)⟩
/-- What is handed back: a text, and no error. -/
def RetTxt (w : World) (l : List Nat) (e : Ending) (w' : World) : Prop := ∃ A n c, e = .returned (.tuple #[.slice A n c, .int .i64 0]) ∧ Own w' w.heap.size 5 (.slice A n c) l ∧ Below w.heap.size w w'
theorem Own.text {w : World} {base n c : Nat} {e : TypeId} {A : Option Addr} {l : List Nat} (h : Own w base e (.slice A n c) l) : Txt w w.heap.size A n c l := by
  obtain ⟨A', c', hv, ht⟩ := h.txt
  injection hv with h1 h2 h3
  subst h1 h2 h3
  exact ht
def DonePost (w : World) (base : Nat) (l : List Nat) (e : Ending) (w' : World) : Prop := ∃ A c, e = .returned (.tuple #[.slice A l.length c, .int .i64 0]) ∧ Own w' base 5 (.slice A l.length c) l ∧ w = w'
theorem done_any (g base : Nat) (l : List Nat) (w : World) (hp : Pens w g base l) :
    Calls Try.prog 71 #[.pointer (some ⟨g, 0, none⟩)] w (DonePost w base l) := by
  obtain ⟨hlow, hs, v, hpen, hown⟩ := hp
  obtain ⟨A, c, rfl, ht⟩ := hown.txt
  have c0 := pen_cell0 hpen
  have c1 := pen_cell1 hpen
  have HO := Lib.hid hown
  clear hown ht hpen
  go_enter Try.func71, Try.ntmps71
  go_wp2
  go_ret2
  exact ⟨A, c, rfl, HO.out, rfl⟩
end Go.Proofs.Yteefhbpmeajbfaa
namespace Go.Proofs.Yteefhbpmeajbfaa
set_option linter.unusedSimpArgs false
set_option linter.unusedVariables false
open Go.RowKit

theorem within_any (n m : Int) (w : World) :
    Calls Try.prog 81 #[.int .i64 n, .int .i64 m] w fun e w' => e = .returned (.bool (decide (0 ≤ n ∧ n ≤ m))) ∧ w = w' := by
  by_cases h0 : 0 ≤ n
  · by_cases h1 : n ≤ m
    all_goals
      go_enter Try.func81, Try.ntmps81
      go_wp2
      go_ret
      refine ⟨?_, rfl⟩
      simp [h0, h1]
  · have E0 := Lib.hid (show decide (0 ≤ n ∧ n ≤ m) = false from decide_eq_false (fun h => h0 h.1))
    go_enter Try.func81, Try.ntmps81
    go_wp2
    go_ret
    refine ⟨?_, rfl⟩
    rw [show decide (0 ≤ n) = false from decide_eq_false (by omega)]
    rfl
def MayF (ep fr ge : Int) (n : Nat) : Prop := ep ≤ 1099511627776 ∧ 0 ≤ fr ∧ fr ≤ 1048576 ∧ ge < 4294967296 ∧ n ≤ 524288
instance (ep fr ge : Int) (n : Nat) : Decidable (MayF ep fr ge n) := by unfold MayF; exact inferInstance
def MayW (tow : Int) (n1 n2 n3 : Nat) : Prop := 0 ≤ tow ∧ tow ≤ 1048576 ∧ n1 ≤ 262144 ∧ n2 ≤ 262144 ∧ n3 ≤ 262144
instance (tow : Int) (n1 n2 n3 : Nat) : Decidable (MayW tow n1 n2 n3) := by unfold MayW; exact inferInstance
set_option maxRecDepth 100000 in
set_option maxHeartbeats 2000000 in
theorem mayFrame_any (ep fr ge : Int) (A : Option Addr) (n c : Nat) (w : World) :
    Calls Try.prog 104 #[.agg (#[.int .u64 ep, .int .i64 fr, .int .u64 ge, .slice A n c])] w fun e w' => e = .returned (.bool (decide (MayF ep fr ge n))) ∧ Below w.heap.size w w' := by
  have hb : Below w.heap.size w (w.alloc (.cells (#[.int .u64 ep, .int .i64 fr, .int .u64 ge, .slice A n c]) 97)) := (Below.refl _ _).alloc (Nat.le_refl _) _
  have g0 := heap_alloc_new w (.cells (#[.int .u64 ep, .int .i64 fr, .int .u64 ge, .slice A n c]) 97)
  have d0 : (w.alloc (.cells (#[.int .u64 ep, .int .i64 fr, .int .u64 ge, .slice A n c]) 97)).cell? ⟨w.heap.size, 0, none⟩ = _ := cell_of_row _ _ _ _ _ _ g0
  have d1 : (w.alloc (.cells (#[.int .u64 ep, .int .i64 fr, .int .u64 ge, .slice A n c]) 97)).cell? ⟨w.heap.size, 1, none⟩ = _ := cell_of_row _ _ _ _ _ _ g0
  have d2 : (w.alloc (.cells (#[.int .u64 ep, .int .i64 fr, .int .u64 ge, .slice A n c]) 97)).cell? ⟨w.heap.size, 2, none⟩ = _ := cell_of_row _ _ _ _ _ _ g0
  have d3 : (w.alloc (.cells (#[.int .u64 ep, .int .i64 fr, .int .u64 ge, .slice A n c]) 97)).cell? ⟨w.heap.size, 3, none⟩ = _ := cell_of_row _ _ _ _ _ _ g0
  simp only [List.getElem?_toArray, List.getElem?_cons_zero, List.getElem?_cons_succ] at d0 d1 d2 d3
  clear g0
  by_cases k0 : ep ≤ 1099511627776
  rotate_left
  · have E0 := Lib.hid (show decide (MayF ep fr ge n) = false from decide_eq_false (fun h => by unfold MayF at h; omega))
    go_enter Try.func104, Try.ntmps104
    go_wp2_with ((go_at_call 81; refine (within_any _ _ _).mono ?_; rintro e w1 ⟨rfl, hw⟩; subst hw))
    go_ret
    refine ⟨?_, hb⟩
    rw [E0.out]
    first | rfl | (simp; done) | (simp; omega)
  by_cases k1 : 0 ≤ fr
  rotate_left
  · have E0 := Lib.hid (show decide (MayF ep fr ge n) = false from decide_eq_false (fun h => by unfold MayF at h; omega))
    go_enter Try.func104, Try.ntmps104
    go_wp2_with ((go_at_call 81; refine (within_any _ _ _).mono ?_; rintro e w1 ⟨rfl, hw⟩; subst hw))
    go_ret
    refine ⟨?_, hb⟩
    rw [E0.out]
    first | rfl | (simp; done) | (simp; omega)
  by_cases k2 : fr ≤ 1048576
  rotate_left
  · have E0 := Lib.hid (show decide (MayF ep fr ge n) = false from decide_eq_false (fun h => by unfold MayF at h; omega))
    go_enter Try.func104, Try.ntmps104
    go_wp2_with ((go_at_call 81; refine (within_any _ _ _).mono ?_; rintro e w1 ⟨rfl, hw⟩; subst hw))
    go_ret
    refine ⟨?_, hb⟩
    rw [E0.out]
    first | rfl | (simp; done) | (simp; omega)
  by_cases k3 : ge < 4294967296
  rotate_left
  · have E0 := Lib.hid (show decide (MayF ep fr ge n) = false from decide_eq_false (fun h => by unfold MayF at h; omega))
    go_enter Try.func104, Try.ntmps104
    go_wp2_with ((go_at_call 81; refine (within_any _ _ _).mono ?_; rintro e w1 ⟨rfl, hw⟩; subst hw))
    go_ret
    refine ⟨?_, hb⟩
    rw [E0.out]
    first | rfl | (simp; done) | (simp; omega)
  by_cases k4 : n ≤ 524288
  rotate_left
  · have E0 := Lib.hid (show decide (MayF ep fr ge n) = false from decide_eq_false (fun h => by unfold MayF at h; omega))
    go_enter Try.func104, Try.ntmps104
    go_wp2_with ((go_at_call 81; refine (within_any _ _ _).mono ?_; rintro e w1 ⟨rfl, hw⟩; subst hw))
    go_ret
    refine ⟨?_, hb⟩
    rw [E0.out]
    first | rfl | (simp; done) | (simp; omega)
  have E0 := Lib.hid (show decide (MayF ep fr ge n) = true from decide_eq_true (by unfold MayF; omega))
  go_enter Try.func104, Try.ntmps104
  go_wp2_with ((go_at_call 81; refine (within_any _ _ _).mono ?_; rintro e w1 ⟨rfl, hw⟩; subst hw))
  go_ret
  refine ⟨?_, hb⟩
  rw [E0.out]
  first | rfl | (simp; done) | (simp; omega)
set_option maxRecDepth 100000 in
set_option maxHeartbeats 2000000 in
theorem mayWelcome_any (tow : Int) (A1 : Option Addr) (n1 c1 : Nat) (A2 : Option Addr) (n2 c2 : Nat) (A3 : Option Addr) (n3 c3 : Nat) (w : World) :
    Calls Try.prog 103 #[.agg (#[.int .i64 tow, .slice A1 n1 c1, .slice A2 n2 c2, .slice A3 n3 c3])] w fun e w' => e = .returned (.bool (decide (MayW tow n1 n2 n3))) ∧ Below w.heap.size w w' := by
  have hb : Below w.heap.size w (w.alloc (.cells (#[.int .i64 tow, .slice A1 n1 c1, .slice A2 n2 c2, .slice A3 n3 c3]) 93)) := (Below.refl _ _).alloc (Nat.le_refl _) _
  have g0 := heap_alloc_new w (.cells (#[.int .i64 tow, .slice A1 n1 c1, .slice A2 n2 c2, .slice A3 n3 c3]) 93)
  have d0 : (w.alloc (.cells (#[.int .i64 tow, .slice A1 n1 c1, .slice A2 n2 c2, .slice A3 n3 c3]) 93)).cell? ⟨w.heap.size, 0, none⟩ = _ := cell_of_row _ _ _ _ _ _ g0
  have d1 : (w.alloc (.cells (#[.int .i64 tow, .slice A1 n1 c1, .slice A2 n2 c2, .slice A3 n3 c3]) 93)).cell? ⟨w.heap.size, 1, none⟩ = _ := cell_of_row _ _ _ _ _ _ g0
  have d2 : (w.alloc (.cells (#[.int .i64 tow, .slice A1 n1 c1, .slice A2 n2 c2, .slice A3 n3 c3]) 93)).cell? ⟨w.heap.size, 2, none⟩ = _ := cell_of_row _ _ _ _ _ _ g0
  have d3 : (w.alloc (.cells (#[.int .i64 tow, .slice A1 n1 c1, .slice A2 n2 c2, .slice A3 n3 c3]) 93)).cell? ⟨w.heap.size, 3, none⟩ = _ := cell_of_row _ _ _ _ _ _ g0
  simp only [List.getElem?_toArray, List.getElem?_cons_zero, List.getElem?_cons_succ] at d0 d1 d2 d3
  clear g0
  by_cases k0 : 0 ≤ tow
  rotate_left
  · have E0 := Lib.hid (show decide (MayW tow n1 n2 n3) = false from decide_eq_false (fun h => by unfold MayW at h; omega))
    go_enter Try.func103, Try.ntmps103
    go_wp2_with ((go_at_call 81; refine (within_any _ _ _).mono ?_; rintro e w1 ⟨rfl, hw⟩; subst hw))
    go_ret
    refine ⟨?_, hb⟩
    rw [E0.out]
    first | rfl | (simp; done) | (simp; omega)
  by_cases k1 : tow ≤ 1048576
  rotate_left
  · have E0 := Lib.hid (show decide (MayW tow n1 n2 n3) = false from decide_eq_false (fun h => by unfold MayW at h; omega))
    go_enter Try.func103, Try.ntmps103
    go_wp2_with ((go_at_call 81; refine (within_any _ _ _).mono ?_; rintro e w1 ⟨rfl, hw⟩; subst hw))
    go_ret
    refine ⟨?_, hb⟩
    rw [E0.out]
    first | rfl | (simp; done) | (simp; omega)
  by_cases k2 : n1 ≤ 262144
  rotate_left
  · have E0 := Lib.hid (show decide (MayW tow n1 n2 n3) = false from decide_eq_false (fun h => by unfold MayW at h; omega))
    go_enter Try.func103, Try.ntmps103
    go_wp2_with ((go_at_call 81; refine (within_any _ _ _).mono ?_; rintro e w1 ⟨rfl, hw⟩; subst hw))
    go_ret
    refine ⟨?_, hb⟩
    rw [E0.out]
    first | rfl | (simp; done) | (simp; omega)
  by_cases k3 : n2 ≤ 262144
  rotate_left
  · have E0 := Lib.hid (show decide (MayW tow n1 n2 n3) = false from decide_eq_false (fun h => by unfold MayW at h; omega))
    go_enter Try.func103, Try.ntmps103
    go_wp2_with ((go_at_call 81; refine (within_any _ _ _).mono ?_; rintro e w1 ⟨rfl, hw⟩; subst hw))
    go_ret
    refine ⟨?_, hb⟩
    rw [E0.out]
    first | rfl | (simp; done) | (simp; omega)
  by_cases k4 : n3 ≤ 262144
  rotate_left
  · have E0 := Lib.hid (show decide (MayW tow n1 n2 n3) = false from decide_eq_false (fun h => by unfold MayW at h; omega))
    go_enter Try.func103, Try.ntmps103
    go_wp2_with ((go_at_call 81; refine (within_any _ _ _).mono ?_; rintro e w1 ⟨rfl, hw⟩; subst hw))
    go_ret
    refine ⟨?_, hb⟩
    rw [E0.out]
    first | rfl | (simp; done) | (simp; omega)
  have E0 := Lib.hid (show decide (MayW tow n1 n2 n3) = true from decide_eq_true (by unfold MayW; omega))
  go_enter Try.func103, Try.ntmps103
  go_wp2_with ((go_at_call 81; refine (within_any _ _ _).mono ?_; rintro e w1 ⟨rfl, hw⟩; subst hw))
  go_ret
  refine ⟨?_, hb⟩
  rw [E0.out]
  first | rfl | (simp; done) | (simp; omega)
end Go.Proofs.Yteefhbpmeajbfaa
namespace Go.Proofs.Yteefhbpmeajbfaa
set_option linter.unusedSimpArgs false
set_option linter.unusedVariables false
open Go.RowKit

/-- A type of rows of n integers of a kind. -/
def IntsT (P : Program) (t : TypeId) (k : IntKind) (n : Nat) : Prop := ∃ e, P.underlying t = some (.array n e) ∧ P.underlying e = some (.int k) ∧ (P.info? e).map (·.size) = some 1 ∧ P.eqGuardType P.depth t = false

section
variable {P : Program} {ops : Array Oper} {rest : List Oper} {o : Oper} {a : Act} {w : World} {Q : Exit → Act → World → Prop}
theorem run_part_arr {e : TypeId} {k : IntKind} {n : Nat} {f : Nat → Int} {i : Nat} (he : P.underlying e = some (.int k)) (hi : i < n) : (part e (arr k n f) i).run P w = .ok (.int k (f i)) w := by
  unfold part isAgg
  simp only [Sem.run_bind, run_underlying he, Result.andThen_ok, Sem.run_pure]
  simp only [Bool.false_eq_true, if_false, arr_get _ _ _ _ hi]
  rfl
def sameTo (f g : Nat → Int) : Nat → Nat → Bool
  | 0, _ => true
  | m + 1, s => decide (f s = g s) && sameTo f g m (s + 1)
theorem sameTo_iff (f g : Nat → Int) : ∀ m s, sameTo f g m s = true ↔ ∀ i, i < m → f (s + i) = g (s + i)
  | 0, s => by simp [sameTo]
  | m + 1, s => by
    simp only [sameTo, Bool.and_eq_true, decide_eq_true_eq, sameTo_iff f g m (s + 1)]
    constructor
    · rintro ⟨h0, h⟩ i hi
      cases i with
      | zero => simpa using h0
      | succ i => have := h i (by omega); rwa [show s + 1 + i = s + (i + 1) by omega] at this
    · intro h
      exact ⟨by simpa using h 0 (by omega), fun i hi => by have := h (i + 1) (by omega); rwa [show s + (i + 1) = s + 1 + i by omega] at this⟩
theorem run_equalIn_arr {d t e : TypeId} {k : IntKind} {n : Nat} {f g : Nat → Int} (ht : P.underlying t = some (.array n e)) (he : P.underlying e = some (.int k)) (hs : (P.info? e).map (·.size) = some 1) :
    (Op.equalIn (d + 2) t (.agg (arr k n f)) (.agg (arr k n g))).run P w = .ok (sameTo f g n 0) w := by
  have hsz : (sizeOf e).run P w = .ok 1 w := by
    cases hq : P.info? e with
    | none => simp [hq] at hs
    | some i =>
      have : i.size = 1 := by simpa [hq] using hs
      simp [sizeOf, typeInfo, hq, this]
  obtain ⟨D, hD⟩ : ∃ D, D = d + 1 := ⟨_, rfl⟩
  rw [show d + 2 = D + 1 from by rw [hD]]
  simp only [Op.equalIn, Sem.run_bind, run_underlying ht, Result.andThen_ok, hsz]
  rw [Std.Legacy.Range.forIn_eq_forIn_range']
  simp only [Std.Legacy.Range.size, Nat.sub_zero, Nat.add_sub_cancel, Nat.div_one]
  have key : ∀ m s, s + m ≤ n → ((forIn (List.range' s m) (none, ()) fun i (_ : Option Bool × Unit) => do
      let x ← part e (arr k n f) (i * 1)
      let y ← part e (arr k n g) (i * 1)
      let r ← Op.equalIn D e x y
      if (!r) = true then pure (ForInStep.done (some false, ())) else pure (ForInStep.yield (none, ())) : Sem (Option Bool × Unit))).run P w = .ok (if sameTo f g m s then none else some false, ()) w := by
    intro m
    induction m with
    | zero => intro s _; simp [sameTo]
    | succ m ih =>
      intro s hs
      rw [List.range'_succ, List.forIn_cons]
      simp only [Sem.run_bind, Nat.mul_one, run_part_arr he (show s < n by omega), Result.andThen_ok, hD, run_equalIn_int w d e k k _ _ he]
      by_cases hfg : f s = g s
      · simp [hfg, sameTo]
        have := ih (s + 1) (by omega)
        rw [hD] at this
        simpa using this
      · simp [hfg, sameTo]
  rw [key n 0 (by omega)]
  cases h : sameTo f g n 0 <;> simp
theorem run_op_neArr {op : BinOp} {t u : TypeId} {x y : Operand} {k : IntKind} {n : Nat} {f g : Nat → Int} (ho : o.op = .binOp .neq t x y u) (hT : IntsT P t k n) (hx : a.eval x = .agg (arr k n f)) (hy : a.eval y = .agg (arr k n g)) :
    (execOp a.eval o).run P w = .ok (.value (.bool (!sameTo f g n 0))) w := by
  obtain ⟨e, h1, h2, h3, h4⟩ := hT
  unfold execOp
  simp only [ho, hx, hy, Sem.run_bind, run_eqGuard_agg w _ t x y _ _ h4, Result.andThen_ok, run_neq_struct, run_equalIn_arr (d := 9998) h1 h2 h3, Sem.run_pure]
end
end Go.Proofs.Yteefhbpmeajbfaa
namespace Go.Proofs.Yteefhbpmeajbfaa
set_option linter.unusedSimpArgs false
set_option linter.unusedVariables false
open Go.RowKit
attribute [local irreducible] beL beK
theorem RTProp : RowT Try.prog 79 34 := ⟨_, Try.underlying79, rfl, by kernel_rfl⟩
theorem RTStep : RowT Try.prog 84 3 := ⟨_, Try.underlying84, rfl, by kernel_rfl⟩
theorem RTKey : RowT Try.prog 36 32 := ⟨_, Try.underlying36, rfl, by kernel_rfl⟩
theorem ITKey : IntsT Try.prog 36 .u8 32 := ⟨_, Try.underlying36, Try.underlying5, by kernel_rfl, by kernel_rfl⟩
theorem cell_arrV {w : World} {g N t : Nat} {f : Nat → Value} {fr : Nat × Nat} (h : w.heap[g]? = some (.cells (arrV N f) t fr)) (i : Nat) (hi : i < N) : w.cell? ⟨g, i, none⟩ = some (f i) := by
  rw [cell_of_row _ _ _ _ _ _ h, arrV_get _ _ _ hi]

theorem badPlace_any (k : Int) (w : World) : Calls Try.prog 107 #[.int .i64 k] w fun e w' => e = .returned (.bool (!decide (OkPlace k))) ∧ w = w' := by
  obtain ⟨b, hb⟩ : ∃ b : Bool, b = decide (0 ≤ k ∧ k ≤ 4000) := ⟨_, rfl⟩
  have HB := Lib.hid hb
  clear hb
  go_enter Try.func107, Try.ntmps107
  go_wp2_with (go_at_call 81; (with_reducible refine (within_any _ _ _).mono ?_); rintro e w1 ⟨rfl, rfl⟩; rw [← HB.out])
  go_ret
  refine ⟨?_, rfl⟩
  rw [show decide (OkPlace k) = b from by rw [HB.out]; exact decide_eq_decide.2 Iff.rfl]
  rfl
theorem badBox_any (A : Option Addr) (n c : Nat) (w : World) : Calls Try.prog 87 #[.slice A n c] w fun e w' => e = .returned (.bool (!decide (n ≤ 1000))) ∧ w = w' := by
  go_enter Try.func87, Try.ntmps87
  go_wp2
  go_ret
  refine ⟨congrArg (fun b => Ending.returned (Value.bool b)) ?_, rfl⟩
  show decide (1000 < (n : Int)) = _
  by_cases h : n ≤ 1000
  · rw [decide_eq_true h, decide_eq_false (by omega)]; rfl
  · rw [decide_eq_false h, decide_eq_true (by omega)]; rfl

set_option maxRecDepth 100000 in
set_option maxHeartbeats 2000000 in
theorem badProp_any (kind id : Int) (pt : Nat → Nat) (w : World) : Calls Try.prog 83 #[.agg (arrV 34 (propV kind id pt))] w fun e w' => e = .returned (.bool (!decide (OkProp kind id pt))) ∧ Below w.heap.size w w' := by
  by_cases h1 : 1 ≤ kind
  · by_cases h3 : kind ≤ 3
    · by_cases hi : 0 ≤ id ∧ id ≤ 1048576
      · by_cases h2 : kind = 2
        · subst h2
          have E : decide (OkProp 2 id pt) = sameTo (fun i => ((pt i : Nat) : Int)) (fun _ => 0) 32 0 := by
            rw [Bool.eq_iff_iff, decide_eq_true_eq, sameTo_iff]
            unfold OkProp
            simp only [Nat.zero_add]
            constructor
            · rintro ⟨_, _, _, h⟩ i hi
              rw [h trivial i hi]; rfl
            · intro h
              exact ⟨by omega, by omega, hi, fun _ j hj => by have := h j hj; omega⟩
          have HE := Lib.hid E
          have HI := Lib.hid (decide_eq_true hi)
          clear E hi
          go_enter Try.func83, Try.ntmps83
          have g0 := heap_alloc_new w (.cells (arrV 34 (propV 2 id pt)) 79)
          have hb : Below w.heap.size w (w.alloc (.cells (arrV 34 (propV 2 id pt)) 79)) := (Below.refl _ _).alloc (Nat.le_refl _) _
          have c0 := cell_arrV g0 0 (by omega)
          have c1 := cell_arrV g0 1 (by omega)
          replace c0 : _ = some (Value.int .i64 2) := c0
          replace c1 : _ = some (Value.int .i64 id) := c1
          go_wp2_with (first | (go_at_call 81; (with_reducible refine (within_any _ _ _).mono ?_); rintro e w1 ⟨rfl, rfl⟩; rw [HI.out]) | (refine wpList_valg rfl (run_op_load_part (k := .u8) (fun i => ((pt i : Nat) : Int)) rfl RTKey rfl g0 (by omega) (fun i hi => by unfold propV; rw [if_neg (by omega), if_neg (by omega), show 2 + i - 2 = i from by omega])) ?_) | (refine wpList_valg rfl (run_op_build (c := arr .u8 32 fun _ => 0) rfl rfl (by kernel_rfl)) ?_) | (refine wpList_valg rfl (run_op_neArr (op := .neq) rfl ITKey rfl rfl) ?_))
          go_ret
          refine ⟨?_, hb⟩
          rw [HE.out]
          rfl
        · have E : decide (OkProp kind id pt) = true := decide_eq_true ⟨h1, h3, hi, fun h => absurd h h2⟩
          have HE := Lib.hid E
          have HI := Lib.hid (decide_eq_true hi)
          clear hi
          clear E
          go_enter Try.func83, Try.ntmps83
          have g0 := heap_alloc_new w (.cells (arrV 34 (propV kind id pt)) 79)
          have hb : Below w.heap.size w (w.alloc (.cells (arrV 34 (propV kind id pt)) 79)) := (Below.refl _ _).alloc (Nat.le_refl _) _
          have c0 := cell_arrV g0 0 (by omega)
          have c1 := cell_arrV g0 1 (by omega)
          replace c0 : _ = some (Value.int .i64 kind) := c0
          replace c1 : _ = some (Value.int .i64 id) := c1
          clear g0
          go_wp2_with (go_at_call 81; (with_reducible refine (within_any _ _ _).mono ?_); rintro e w1 ⟨rfl, rfl⟩; rw [HI.out])
          go_ret
          refine ⟨?_, hb⟩
          rw [HE.out]
          first | rfl | (show Ending.returned (Value.bool (decide (kind < 1) || decide (3 < kind))) = _; rw [decide_eq_false (by omega), decide_eq_false (by omega)]; rfl)
      · have E : decide (OkProp kind id pt) = false := decide_eq_false fun h => hi h.2.2.1
        have HE := Lib.hid E
        have HI := Lib.hid (decide_eq_false hi)
        clear hi
        clear E
        go_enter Try.func83, Try.ntmps83
        have g0 := heap_alloc_new w (.cells (arrV 34 (propV kind id pt)) 79)
        have hb : Below w.heap.size w (w.alloc (.cells (arrV 34 (propV kind id pt)) 79)) := (Below.refl _ _).alloc (Nat.le_refl _) _
        have c0 := cell_arrV g0 0 (by omega)
        have c1 := cell_arrV g0 1 (by omega)
        replace c0 : _ = some (Value.int .i64 kind) := c0
        replace c1 : _ = some (Value.int .i64 id) := c1
        clear g0
        go_wp2_with (go_at_call 81; (with_reducible refine (within_any _ _ _).mono ?_); rintro e w1 ⟨rfl, rfl⟩; rw [HI.out])
        go_ret
        refine ⟨?_, hb⟩
        rw [HE.out]
        first | rfl | (show Ending.returned (Value.bool (decide (kind < 1) || decide (3 < kind))) = _; rw [decide_eq_false (by omega), decide_eq_false (by omega)]; rfl)
    · have E : decide (OkProp kind id pt) = false := decide_eq_false fun h => h3 h.2.1
      have HE := Lib.hid E
      clear E
      go_enter Try.func83, Try.ntmps83
      have g0 := heap_alloc_new w (.cells (arrV 34 (propV kind id pt)) 79)
      have hb : Below w.heap.size w (w.alloc (.cells (arrV 34 (propV kind id pt)) 79)) := (Below.refl _ _).alloc (Nat.le_refl _) _
      have c0 := cell_arrV g0 0 (by omega)
      have c1 := cell_arrV g0 1 (by omega)
      replace c0 : _ = some (Value.int .i64 kind) := c0
      replace c1 : _ = some (Value.int .i64 id) := c1
      clear g0
      go_wp2
      go_ret
      refine ⟨?_, hb⟩
      rw [HE.out]
      first | rfl | (show Ending.returned (Value.bool (decide (kind < 1) || decide (3 < kind))) = _; rw [decide_eq_false (by omega), decide_eq_false (by omega)]; rfl)
  · have E : decide (OkProp kind id pt) = false := decide_eq_false fun h => h1 h.1
    have HE := Lib.hid E
    clear E
    go_enter Try.func83, Try.ntmps83
    have g0 := heap_alloc_new w (.cells (arrV 34 (propV kind id pt)) 79)
    have hb : Below w.heap.size w (w.alloc (.cells (arrV 34 (propV kind id pt)) 79)) := (Below.refl _ _).alloc (Nat.le_refl _) _
    have c0 := cell_arrV g0 0 (by omega)
    have c1 := cell_arrV g0 1 (by omega)
    replace c0 : _ = some (Value.int .i64 kind) := c0
    replace c1 : _ = some (Value.int .i64 id) := c1
    clear g0
    go_wp2
    go_ret
    refine ⟨?_, hb⟩
    rw [HE.out]
    first | rfl | (show Ending.returned (Value.bool (decide (kind < 1) || decide (3 < kind))) = _; rw [decide_eq_false (by omega), decide_eq_false (by omega)]; rfl)
end Go.Proofs.Yteefhbpmeajbfaa
