/- Lists in memory, told by their elements' kinds: read ('LiF', 'TxF'), owned ('rowC'). No program is in sight. Slices of slices; an element of an own row is taken out. No program is in sight. Words of 32 bits; rows inside own blocks; nil checks; an array's value by an index. No program is in sight. More steps: makes, copies; rows out of blocks, blocks as texts; what is given to a call. No program is in sight. The walks of texts: copies, sameness, a number's bytes. The walk of slices.Clone of a text. The walks of bits.Len64 and of wire.fits: whether a number has room in so many bytes. A region th -/
import Derived.Test.YtfolbgiekbimpaaGreatDoorKemUnboxesA
import Derived.Lib.SliceRun
import Derived.Laws.Small
import Derived.Laws.MakeOwn
import Derived.Laws.CopyRow
import Derived.Laws.IdiomCopy
import Derived.Test.YtfolbgiekbimpaaGreatDoorRows
import Derived.Laws.IdiomStrings
import Derived.Lib.Tables
import Derived.Lib.BitFns
import Derived.Test.YtfolbgiekbimpaaGreatDoorChecked
set_option linter.unusedSimpArgs false
set_option linter.unusedVariables false
set_option maxRecDepth 200000
set_option maxHeartbeats 6000000
namespace Go.Proofs.YtfolbgiekbimpaaGreatDoor
section
open Go.RowKit
structure Ty (α : Type) where
 μ : Type
 dft : μ
 sz : Nat
 pos : 0 < sz
 ch : α → μ → List Chunk
 nest : α → μ → World → Prop
 len : ∀ x m, zej (ch x m) = sz
 one : ∀ x m, zuM (ch x m)
structure LiF {α : Type} (T : Ty α) (A : Option Addr) (c : Nat) (xs : List α) (m : Nat → T.μ) (w : World) : Prop where
 cap : xs.length ≤ c
 big : xs.length ≤ 9223372036854775807
 nil : A = none → xs.length = 0 ∧ c = 0
 at_ : ∀ ad, A = some ad → ∀ i x, xs[i]? = some x → AtC (ad.add (i * T.sz)) (T.ch x (m i)) w ∧ T.nest x (m i) w
structure TxF (A : Option Addr) (c : Nat) (l : List Nat) (w : World) : Prop where
 cap : l.length ≤ c
 len : l.length ≤ 140737488355328
 byt : ∀ x ∈ l, x < 256
 nil : A = none → l.length = 0 ∧ c = 0
 at_ : ∀ ad, A = some ad → ∀ i x, l[i]? = some x → w.cell? (ad.add i) = some (bv x)
def zav : Ty (List Nat) where
 μ := Option Addr × Nat
 dft := (none, 0)
 sz := 1
 pos := by decide
 ch l m := [.one (.slice m.1 l.length m.2)]
 nest l m := TxF m.1 m.2 l
 len _ _ := rfl
 one _ _ := ⟨rfl, trivial⟩
section
variable {A : Option Addr} {c : Nat} {l : List Nat} {w : World} {Y : List Nat}
theorem TxF.txt (h : TxF A c l w) : Txt w w.heap.size A l.length c l := ⟨rfl, h.nil, fun hn => by
 cases A with
 | none => have := (h.nil rfl).1; omega
 | some ad =>
  refine ⟨ad, rfl, ?_, h.at_ ad rfl⟩
  have := h.at_ ad rfl 0 l[0] (by simp [hn])
  have h2 := World.block_lt_of_cell? _ _ this
  rwa [zdQ] at h2⟩
theorem TxF.nil_ : TxF none 0 [] w := ⟨jV _, Nat.zero_le _, by simp, fun _ => ⟨rfl, rfl⟩, fun _ h => by cases h⟩
theorem zbw : St (TxF none 0 []) w Y := fun _ _ => TxF.nil_
theorem zzV {n : Nat} (h : Txt w w.heap.size A n c l) (hc : n ≤ c) (hl : n ≤ 140737488355328) (hb : ∀ x ∈ l, x < 256) : St (TxF A c l) w [] := fun w' hk => by
 have hlen := h.len
 refine ⟨by omega, by omega, hb, fun e => by rw [hlen]; exact h.nil e, fun ad e i x hx => ?_⟩
 have hi := (List.getElem?_eq_some_iff.1 hx).1
 obtain ⟨ad', e', hbl, hcell⟩ := h.at_ (by omega)
 rw [e] at e'
 obtain rfl := Option.some.inj e'
 rw [← hcell i x hx]
 exact World.cell?_of_block (hk _ (by rw [zdQ]; exact hbl) (by simp))
theorem zxh {v : Value} {e : TypeId} (h : St (fun w => (Res.row v e 1 l.length (l.map bv)).holds w) w Y) (hl : l.length ≤ 140737488355328) (hb : ∀ x ∈ l, x < 256) : ∃ A c, v = .slice A l.length c ∧ St (TxF A c l) w Y := by
 have h0 : w.ownsRow 0 e 1 v l.length (l.map bv) := h.now
 rcases h0.2 with ⟨rfl, h1⟩ | ⟨g, cap, cur, rfl, _, hh, hn, _⟩
 ·refine ⟨none, 0, by rw [h1], fun w' hk => ⟨by omega, hl, hb, fun _ => ⟨h1, rfl⟩, fun _ h => by cases h⟩⟩
 ·refine ⟨some ⟨g, 0, none⟩, cap, rfl, fun w' hk => ⟨hn, hl, hb, (fun h => by cases h), fun ad e i x hx => ?_⟩⟩
  obtain rfl := Option.some.inj e
  have h2 : w'.ownsRow 0 _ 1 _ l.length (l.map bv) := h w' hk
  exact h2.cells rfl i (bv x) (by simp [hx])
end
section
variable {α : Type} {T : Ty α} {A : Option Addr} {c : Nat} {xs : List α} {m : Nat → T.μ} {w w' : World} {Y : List Nat}
theorem LiF.get (h : St (LiF T A c xs m) w Y) {i : Nat} {x : α} (hx : xs[i]? = some x) : ∃ ad, A = some ad ∧ St (AtC (ad.add (i * T.sz)) (T.ch x (m i))) w Y ∧ St (T.nest x (m i)) w Y := by
 cases A with
 | none =>
  have := (h.now.nil rfl).1
  have h2 := (List.getElem?_eq_some_iff.1 hx).1
  omega
 | some ad => exact ⟨ad, rfl, fun w' hk => ((h w' hk).at_ ad rfl i x hx).1, fun w' hk => ((h w' hk).at_ ad rfl i x hx).2⟩
theorem zoh : St (LiF T none 0 [] m) w Y := fun _ _ => ⟨jV _, Nat.zero_le _, fun _ => ⟨rfl, rfl⟩, fun _ h => by cases h⟩
def zcQ (T : Ty α) (xs : List α) (m : Nat → T.μ) : List (α × T.μ) := xs.mapIdx fun i x => (x, m i)
theorem zgX : (zcQ T xs m).length = xs.length := by simp [zcQ]
theorem zmO : (zcQ T xs m).map Prod.fst = xs := by
 unfold zcQ
 apply List.ext_getElem?
 intro i
 simp
 cases xs[i]? <;> rfl
theorem zph (i : Nat) : (zcQ T xs m)[i]? = (xs[i]?).map fun x => (x, m i) := by simp [zcQ]
def zj0 (T : Ty α) (its : List (α × T.μ)) : List Value := its.flatMap fun p => cl (T.ch p.1 p.2)
def zj1 (T : Ty α) (its : List (α × T.μ)) (w : World) : Prop := ∀ p ∈ its, T.nest p.1 p.2 w
theorem zpi (its : List (α × T.μ)) : (zj0 T its).length = its.length * T.sz := by
 unfold zj0
 induction its with
 | nil => simp
 | cons p its ih => rw [List.flatMap_cons, jQ, ih, zcn, T.len, List.length_cons, Nat.succ_mul]; omega
theorem zuO (a b : List (α × T.μ)) : zj0 T (a ++ b) = zj0 T a ++ zj0 T b := by unfold zj0; rw [List.flatMap_append]
theorem zkU : ∀ (its : List (α × T.μ)) (i j : Nat) (p : α × T.μ) (u : Value), its[i]? = some p → (cl (T.ch p.1 p.2))[j]? = some u → (zj0 T its)[i * T.sz + j]? = some u
 | [], i, j, p, u, h, _ => by simp at h
 | q :: its, 0, j, p, u, h, hj => by
  obtain rfl : q = p := by simpa using h
  have hl := (List.getElem?_eq_some_iff.1 hj).1
  unfold zj0
  rw [List.flatMap_cons, Nat.zero_mul, Nat.zero_add, List.getElem?_append_left hl]
  exact hj
 | q :: its, i + 1, j, p, u, h, hj => by
  have ih := zkU its i j p u (by simpa using h) hj
  unfold zj0 at *
  have hlq : (cl (T.ch q.1 q.2)).length = T.sz := by rw [zcn, T.len]
  rw [List.flatMap_cons, List.getElem?_append_right (by rw [hlq, Nat.succ_mul]; omega), hlq, show (i + 1) * T.sz + j - T.sz = i * T.sz + j by rw [Nat.succ_mul]; omega]
  exact ih
theorem zrR (its : List (α × T.μ)) : ∀ u ∈ zj0 T its, u.oneCell' = true := fun u hu => by
 unfold zj0 at hu
 obtain ⟨p, _, hp⟩ := List.mem_flatMap.1 hu
 exact ziQ (T.one p.1 p.2) u hp
theorem zkg (h : St (LiF T A c xs m) w Y) : St (zj1 T (zcQ T xs m)) w Y := fun w' hk p hp => by
 obtain ⟨i, hi⟩ := List.mem_iff_getElem?.1 hp
 rw [zph, Option.map_eq_some_iff] at hi
 obtain ⟨x, hx, rfl⟩ := hi
 have h' := h w' hk
 cases A with
 | none =>
  have := (h'.nil rfl).1
  have h2 := (List.getElem?_eq_some_iff.1 hx).1
  omega
 | some ad => exact (h'.at_ ad rfl i x hx).2
theorem zxi {e : TypeId} {its : List (α × T.μ)} {n : Nat} (h : St (fun w => (Res.row (.slice A n c) e T.sz n (zj0 T its)).holds w) w Y) (hn : n = its.length) (hnest : St (zj1 T its) w Y) :
  St (LiF T A c (its.map Prod.fst) (fun i => ((its[i]?).map Prod.snd).getD T.dft)) w Y := fun w' hk => by
 have h' : w'.ownsRow 0 e T.sz (.slice A n c) n (zj0 T its) := h w' hk
 have hcells := fun {g} hg => h'.cells (g := g) hg
 refine ⟨?_, ?_, fun hA => ?_, fun ad hA i x hx => ?_⟩
 ·rcases h'.2 with ⟨h1, h2⟩ | ⟨g, cap, cur, h1, _, _, h2, _⟩
  ·injection h1 with _ _ h3; rw [List.length_map]; omega
  ·injection h1 with _ _ h3; subst h3; rw [List.length_map]; omega
 ·rcases h'.2 with ⟨h1, h2⟩ | ⟨g, cap, cur, h1, _, _, h2, h3, _⟩
  ·rw [List.length_map]; omega
  ·unfold maxLen at h3; rw [List.length_map]; omega
 ·rcases h'.2 with ⟨h1, h2⟩ | ⟨g, cap, cur, h1, _⟩
  ·injection h1 with _ _ h3; exact ⟨by rw [List.length_map]; omega, h3⟩
  ·injection h1 with h3; rw [hA] at h3; cases h3
 ·rw [List.getElem?_map, Option.map_eq_some_iff] at hx
  obtain ⟨p, hp, rfl⟩ := hx
  have had : ad.off = 0 ∧ ad.spot = none := by
   rcases h'.2 with ⟨h1, h2⟩ | ⟨g, cap, cur, h1, _⟩
   ·injection h1 with h3; rw [hA] at h3; cases h3
   ·injection h1 with h3; rw [hA] at h3; obtain rfl := Option.some.inj h3; exact ⟨rfl, rfl⟩
  obtain ⟨b, off, sp⟩ := ad
  obtain ⟨rfl, rfl⟩ := had
  refine ⟨fun j u hu => ?_, ?_⟩
  ·rw [Addr.add_add]
   simp only [hp, Option.map_some, jO] at hu
   exact hcells (g := b) (by rw [hA]; rfl) _ u (zkU its i j p u hp hu)
  ·simp only [hp, Option.map_some, jO]
   exact hnest w' hk p (List.mem_of_getElem? hp)
end
section
variable {P : Program} {o : Oper} {a : Act} {w ws : World} {Q : Exit → Act → World → Prop} {N d : Nat} {l : List (Nat × Value)} {v : Value} {S : Nat → Prop} {K : Act → World → Prop}
 {X G : List Nat} {w0 : World} {L L' : List Res} {R : List (World → Prop)}
theorem zio {Y : List Nat} {ad : Addr} {off n ty : Nat} {cs sub : List Chunk} {x : Operand} (h : St (AtC ad cs) ws Y) (hS : ∀ k, k < ws.heap.size → k ∉ Y → S k) (ho : o.op = .load ty x) (hx : ev l x = some (.pointer (some (ad.add off)))) (hp : zkL cs off n = some sub) (ht : tyK P ty = some (n, true)) : PK P S ws l o (.agg (ca sub)) := fun w' hk a N E =>
 zfd E ho hx ht (zkN hp).2.1 (zkQ (zgW h hk hS) hp)
theorem ziR {Y : List Nat} {ad : Addr} {off ty : Nat} {cs : List Chunk} {x : Operand} (h : St (AtC ad cs) ws Y) (hS : ∀ k, k < ws.heap.size → k ∉ Y → S k) (ho : o.op = .load ty x) (hx : ev l x = some (.pointer (some (ad.add off)))) (hp : zkL cs off 1 = some [.one v]) (ht : tyK P ty = some (1, false)) : PK P S ws l o v := fun w' hk a N E =>
 zde E ho hx ht (zkQ (zgW h hk hS) hp)
theorem zff {Y : List Nat} {ad : Addr} {n ty : Nat} {cs : List Chunk} {x : Operand} (h : St (AtC ad cs) ws Y) (hS : ∀ k, k < ws.heap.size → k ∉ Y → S k) (ho : o.op = .load ty x) (hx : ev l x = some (.pointer (some ad))) (hn : zej cs = n) (ht : tyK P ty = some (n, true)) : PK P S ws l o (.agg (ca cs)) := fun w' hk a N E =>
 zfd E ho hx ht hn (zgW h hk hS)
theorem zcB {Y : List Nat} {ad : Addr} {ty : Nat} {cs : List Chunk} {x : Operand} (h : St (AtC ad cs) ws Y) (hS : ∀ k, k < ws.heap.size → k ∉ Y → S k) (ho : o.op = .load ty x) (hx : ev l x = some (.pointer (some ad))) (hp : cs = [.one v]) (ht : tyK P ty = some (1, false)) : PK P S ws l o v := fun w' hk a N E =>
 zde E ho hx ht (by rw [← hp]; exact zgW h hk hS)
theorem zc6 {Y : List Nat} {A : Option Addr} {c i ty : Nat} {m : List Nat} {ad : Addr} {b : Nat} {x : Operand} (h : St (TxF A c m) ws Y) (hS : ∀ k, k < ws.heap.size → k ∉ Y → S k) (hA : A = some ad) (ho : o.op = .load ty x) (hx : ev l x = some (.pointer (some (ad.add (i * 1))))) (hb : m[i]? = some b) (ht : tyK P ty = some (1, false)) : PK P S ws l o (bv b) := fun w' hk a N E =>
 zde E ho hx ht (fun j u hu => by
  cases j with
  | zero =>
   obtain rfl : bv b = u := by simpa [cl, Chunk.cells] using hu
   rw [zb2, Nat.mul_one]
   exact (zgW h hk hS).at_ ad hA i b hb
  | succ j => simp [cl, Chunk.cells] at hu)
structure AppK (P : Program) (t e sz by_ : Nat) : Prop where
 sl : P.underlying t = some (.slice e)
 info : (P.info? e).map (fun i => (i.zero.map (·.cells.size), i.size, i.bytes)) = some (some sz, sz, by_)
theorem zxj {t e ty : TypeId} {sz by_ n m c : Nat} {xs news : List Value} {A : Option Addr} (hT : AppK P t e sz by_) (h0 : 0 < sz) (hown : w.ownsRow 0 e sz v n xs) (hl : news.length = m * sz) (hnil : A = none → m = 0 ∧ c = 0) (hsrc : ∀ ad, A = some ad → ∀ j u, news[j]? = some u → w.cell? (ad.add j) = some u) (h1 : ∀ u ∈ news, u.oneCell' = true)
  (hn : n + m ≤ 9223372036854775807) (hby : (n + m) * by_ ≤ 140737488355328) :
  ∃ v' w', (Builtin.append_ #[t, t] ty #[v, .slice A m c]).run P w = .ok v' w' ∧ w'.ownsRow 0 e sz v' (n + m) (xs ++ news) ∧ w.grownBy w' v.ownBlock ∧ (v'.ownBlock = v.ownBlock ∨ v'.ownBlock = some w.heap.size) := by
 have hinfo := hT.info
 cases hi : P.info? e with
 | none => rw [hi] at hinfo; cases hinfo
 | some i =>
  rw [hi] at hinfo
  simp only [Option.map_some, Option.some.injEq, Prod.mk.injEq] at hinfo
  obtain ⟨hz, hs, hbt⟩ := hinfo
  cases hzz : i.zero with
  | none => rw [hzz] at hz; cases hz
  | some z =>
   rw [hzz] at hz
   simp only [Option.map_some, Option.some.injEq] at hz
   cases A with
   | none =>
    obtain ⟨rfl, rfl⟩ := hnil rfl
    obtain rfl : news = [] := List.eq_nil_of_length_eq_zero (by simpa using hl)
    exact ⟨v, w, run_append_owned_none (P := P) (w := w) 0 t ty e i sz hT.sl hi v n xs hown, by simpa using hown, World.grownBy.refl w _, .inl rfl⟩
   | some ad =>
    obtain ⟨v', w', hrun, h5, h6, _, h7⟩ := run_append_own_at (P := P) w 0 t ty e i z sz by_ hT.sl hi hzz hs hbt hz h0 v n xs hown ad m c news hl (hsrc ad rfl) h1 (by unfold maxLen; omega) hby (Nat.zero_le _)
    exact ⟨v', w', hrun, h5, h6, h7⟩
theorem zoi {t e sz by_ n m c : Nat} {xs news : List Value} {A : Option Addr} {s x : Operand} (i : Nat) (E : Env a N l) (H : Sep X G w0 w L R) (ho : o.op = .call { callee := .builtin .append, args := #[s, x], argTypes := #[t, t] }) (hs : ev l s = some v) (hx : ev l x = some (.slice A m c)) (hi : L[i]? = some (.row v e sz n xs))
  (hT : AppK P t e sz by_) (h0 : 0 < sz) (hl : news.length = m * sz) (hnil : A = none → m = 0 ∧ c = 0) (hsrc : ∀ ad, A = some ad → ∀ j u, news[j]? = some u → w.cell? (ad.add j) = some u) (h1 : ∀ u ∈ news, u.oneCell' = true) (hn : n + m ≤ 9223372036854775807) (hby : (n + m) * by_ ≤ 140737488355328)
  (h : ∀ A' c' w', n + m ≤ c' → Sep X G w0 w' (L.set i (.row (.slice A' (n + m) c') e sz (n + m) (xs ++ news))) R → Frm v.ownBlock.toList w w' → K (a.put o.dst (.slice A' (n + m) c')) w') : o.wp P a w K Q := by
 have hown : w.ownsRow 0 e sz v n xs := H.holds _ (List.mem_of_getElem? hi)
 obtain ⟨v', w', hrun, h2, h3, h4⟩ := zxj (P := P) (ty := o.type) hT h0 hown hl hnil hsrc h1 hn hby
 obtain ⟨A', c', rfl, hc'⟩ : ∃ A' c', v' = .slice A' (n + m) c' ∧ n + m ≤ c' := by
  rcases h2.2 with ⟨e1, e2⟩ | ⟨g, cap, cur, e1, _, _, e2, _⟩
  ·exact ⟨none, 0, by rw [e1, e2], by omega⟩
  ·exact ⟨_, _, e1, e2⟩
 unfold Oper.wp execOp
 simp only [ho, resolve, invoke, builtin, Sem.run_bind, Sem.run_pure, Result.andThen_ok, List.map_toArray, List.map_cons, List.map_nil, E.ev hs, E.ev hx, hrun]
 refine h A' c' w' hc' (H.turnAt (q' := .row (.slice A' (n + m) c') e sz (n + m) (xs ++ news)) i hi (Frm.of_grown h3) h2 (fun k hk => ?_) ?_ rfl) (Frm.of_grown h3)
 ·simp only [Res.keys, Option.mem_toList] at hk ⊢
  rcases h4 with h4 | h4
  ·rw [← h4]; exact .inl hk
  ·rw [h4] at hk
   obtain rfl := Option.some.inj hk
   exact .inr (jV _)
 ·simp only [Res.keys]
  cases (Value.slice A' (n + m) c').ownBlock <;> simp
theorem zpj {α : Type} {T : Ty α} {t e by_ c : Nat} {A : Option Addr} {xs : List α} {m : Nat → T.μ} {its : List (α × T.μ)} {Y : List Nat} {s x : Operand} (i : Nat) (E : Env a N l) (H : Sep X G w0 w L R) (hr : St (LiF T A c xs m) w Y) (ho : o.op = .call { callee := .builtin .append, args := #[s, x], argTypes := #[t, t] }) (hs : ev l s = some v) (hx : ev l x = some (.slice A xs.length c)) (hi : L[i]? = some (.row v e T.sz its.length (zj0 T its)))
  (hT : AppK P t e T.sz by_) (hn : its.length + xs.length ≤ 9223372036854775807) (hby : (its.length + xs.length) * by_ ≤ 140737488355328)
  (h : ∀ A' c' w', its.length + xs.length ≤ c' → Sep X G w0 w' (L.set i (.row (.slice A' (its ++ zcQ T xs m).length c') e T.sz (its ++ zcQ T xs m).length (zj0 T (its ++ zcQ T xs m)))) R → Frm v.ownBlock.toList w w' → K (a.put o.dst (.slice A' (its ++ zcQ T xs m).length c')) w') : o.wp P a w K Q := by
 have hnow := hr.now
 refine zoi (news := zj0 T (zcQ T xs m)) i E H ho hs hx hi hT T.pos (by rw [zpi, zgX]) (fun h => hnow.nil h) (fun ad he k u hu => ?_) (zrR _) hn hby fun A' c' w' h1 h2 h3 => ?_
 ·-- a cell of an element
  have hk : k < xs.length * T.sz := by
   have := (List.getElem?_eq_some_iff.1 hu).1
   rw [zpi, zgX] at this
   exact this
  have hlt : k / T.sz < xs.length := (Nat.div_lt_iff_lt_mul T.pos).2 hk
  have hx' : xs[k / T.sz]? = some xs[k / T.sz] := jP hlt
  have hat := (hnow.at_ ad he _ _ hx').1
  have hmod := Nat.mod_lt k T.pos
  have hcl : k % T.sz < (cl (T.ch xs[k / T.sz] (m (k / T.sz)))).length := by rw [zcn, T.len]; exact hmod
  have hu' := zkU (T := T) (zcQ T xs m) (k / T.sz) (k % T.sz) _ _ (by rw [zph, hx']; rfl) (jP hcl)
  rw [show k / T.sz * T.sz + k % T.sz = k by rw [Nat.mul_comm]; exact Nat.div_add_mod k T.sz] at hu'
  rw [hu] at hu'
  obtain rfl := Option.some.inj hu'
  have := hat _ _ (jP hcl)
  rwa [Addr.add_add, show k / T.sz * T.sz + k % T.sz = k by rw [Nat.mul_comm]; exact Nat.div_add_mod k T.sz] at this
 ·have e1 : its.length + xs.length = (its ++ zcQ T xs m).length := by rw [jQ, zgX]
  rw [e1, ← zuO] at h2
  rw [e1]
  exact h A' c' w' h1 h2 h3
end
end
section
open Go.RowKit
section
variable {P : Program} {ops : Array Oper} {rest : List Oper} {o : Oper} {a : Act} {w ws : World} {Q : Exit → Act → World → Prop} {N d : Nat} {l : List (Nat × Value)} {v : Value} {S : Nat → Prop} {T : Act → World → Prop} {p : List (Oper × Bool)}
 {X G D : List Nat} {w0 : World} {L : List Res} {R : List (World → Prop)}
theorem zxk (E : Env a N l) (hd : o.dst = some d) (hN : Nat.blt d N = true) (h : ∀ a', Env a' N ((d, v) :: l) → wpList P ops Q rest a' w) : wpList P ops Q rest (a.put o.dst v) w := h _ (by rw [hd]; exact E.put hN)
theorem zdn (hd : o.dst = none) (h : wpList P ops Q rest a w) : wpList P ops Q rest (a.put o.dst v) w := by rw [hd]; exact h
theorem zfD (E : Env a N l) (hd : o.dst = some d) (hN : Nat.blt d N = true) (h : ∀ a', Env a' N ((d, v) :: l) → CanB.wpCan P ops Q S T p a' w) : CanB.wpCan P ops Q S T p (a.put o.dst v) w := h _ (by rw [hd]; exact E.put hN)
theorem Sep.inS (H : Sep X G w0 ws L R) {b t : Nat} {c : Array Value} (i : Nat) (hi : L[i]? = some (.blk b c t)) (hD : b ∉ D) : b < ws.heap.size ∧ b ∉ D := ⟨zkd (H.holds _ (List.mem_of_getElem? hi)) b (by simp [Res.keys]), hD⟩
theorem zau {g : Prop} {β : Bool} (E : Env a N l) (hv : zjW l d = some (.bool β)) (ht : β = true → Env a N ((d, .bool true) :: l) → g) (hf : β = false → Env a N ((d, .bool false) :: l) → g) : g := by
 have key : ∀ b, β = b → Env a N ((d, .bool b) :: l) := fun b hb => E.sub fun i u hu => by
  simp only [zjW] at hu
  cases hq : Nat.beq d i
  ·rw [hq] at hu; exact hu
  ·rw [hq] at hu
   have := Nat.eq_of_beq_eq_true hq
   subst this
   rw [hv, hb]
   exact hu
 cases hβ : β
 ·exact hf hβ (key _ hβ)
 ·exact ht hβ (key _ hβ)
end
theorem zdf {z : Int} (h1 : -9223372036854775808 ≤ z) (h2 : z ≤ 9223372036854775807) : IntKind.i64.wrap z = z := IntWalk.i64_in z ⟨h1, h2⟩
theorem zrS {z : Int} (h1 : 0 ≤ z) (h2 : z ≤ 18446744073709551615) : IntKind.u64.wrap z = z := by
 simp [IntKind.wrap, IntKind.bits, IntKind.signed]
 omega
theorem wU8 {z : Int} (h1 : 0 ≤ z) (h2 : z ≤ 255) : IntKind.u8.wrap z = z := by
 simp [IntKind.wrap, IntKind.bits, IntKind.signed]
 omega
end
section
open Go.RowKit
theorem za9 {K : Act → World → Prop} {Q : Exit → Act → World → Prop} {a : Act} {w : World} (h : K a w) : Exit.then K Q .normal a w := h
section
variable {K : Act → World → Prop} {Q : Exit → Act → World → Prop} {a : Act} {w : World} {i j : Nat}
theorem zat (h : Q .ret a w) : Exit.then K Q .ret a w := h
theorem zap (h : Q .ret a w) : Exit.inBlock i Q .ret a w := h
theorem za4 (h : Q (.exit i) a w) : Exit.then K Q (.exit i) a w := h
theorem za5 (h : Q .normal a w) : Exit.inBlock i Q (.exit i) a w := by
 show (if i = i then _ else _)
 rw [if_pos rfl]
 exact h
theorem zaW (hne : j ≠ i) (h : Q (.exit j) a w) : Exit.inBlock i Q (.exit j) a w := by
 show (if j = i then _ else _)
 rw [if_neg hne]
 exact h
end
def zkV : List Nat → List (Nat × Value) → List (Nat × Value)
 | [], _ => []
 | i :: is, l => match zjW l i with
  | some v => (i, v) :: zkV is l
  | none => zkV is l
theorem ziS (l : List (Nat × Value)) : ∀ is, Sub l (zkV is l)
 | [] => trivial
 | i :: is => by
  unfold zkV
  cases h : zjW l i with
  | none => exact ziS l is
  | some v => exact ⟨h, ziS l is⟩
theorem Sub.app {l a b : List (Nat × Value)} (h1 : Sub l a) (h2 : Sub l b) : Sub l (a ++ b) := by
 induction a with
 | nil => exact h2
 | cons p a ih => exact ⟨h1.1, ih h1.2⟩
section
variable {P : Program} {a : Act} {w : World} {Q : Exit → Act → World → Prop} {N : Nat} {l : List (Nat × Value)} {X G : List Nat} {w0 : World} {L : List Res} {R : List (World → Prop)} {c : Code} {γ : Type}
theorem zbC (live : List Nat) (var : γ → List (Nat × Value)) (Lf : γ → List Res) (Rf : γ → List (World → Prop)) (φ : γ → Prop) (μ : γ → Nat) (g0 : γ) (E : Env a N l) (H : Sep X G w0 w (Lf g0) (Rf g0)) (h0 : Sub l (var g0)) (hφ : φ g0)
  (round : ∀ g a w, Env a N (var g ++ zkV live l) → Sep X G w0 w (Lf g) (Rf g) → φ g → c.wp P (Exit.then (fun a' w' => ∃ g', (Env a' N (var g' ++ zkV live l) ∧ Sep X G w0 w' (Lf g') (Rf g') ∧ φ g') ∧ μ g' < μ g) Q) a w) : (Code.loop c).wp P Q a w :=
 zzU (fun g a w => Env a N (var g ++ zkV live l) ∧ Sep X G w0 w (Lf g) (Rf g) ∧ φ g) μ g0 ⟨E.to (h0.app (ziS l live)), H, hφ⟩ fun g a w h => round g a w h.1 h.2.1 h.2.2
theorem zoj (live : List Nat) (var : γ → List (Nat × Value)) (φ : γ → Prop) (μ : γ → Nat) (g0 : γ) (E : Env a N l) (H : Sep X G w0 w L R) (h0 : Sub l (var g0)) (hφ : φ g0)
  (round : ∀ g a w, Env a N (var g ++ zkV live l) → Sep X G w0 w L R → φ g → c.wp P (Exit.then (fun a' w' => ∃ g', (Env a' N (var g' ++ zkV live l) ∧ Sep X G w0 w' L R ∧ φ g') ∧ μ g' < μ g) Q) a w) : (Code.loop c).wp P Q a w :=
 zbC live var (fun _ => L) (fun _ => R) φ μ g0 E H h0 hφ round
end
end
section
open Go.RowKit
section
variable {P : Program} {o : Oper} {a : Act} {w ws : World} {N : Nat} {l : List (Nat × Value)} {v : Value} {S : Nat → Prop} {X G : List Nat} {w0 : World} {L : List Res} {R : List (World → Prop)}
theorem zxm {t : Nat} (h : zzK P t = true) : ∃ e, P.underlying t = some (.slice e) := by
 unfold zzK at h
 split at h
 ·rename_i e he; exact ⟨e, he⟩
 ·cases h
theorem Sep.rownil (H : Sep X G w0 w L R) (e sz : Nat) : Sep X G w0 w (.row (.slice none 0 0) e sz 0 [] :: L) R :=
 H.own (Frm.refl _ _) (World.ownsRow_nil w 0 e sz) (by simp [Res.keys, Value.ownBlock]) (by simp [Res.keys, Value.ownBlock])
theorem zaX {α : Type} {T : Ty α} {its : List (α × T.μ)} {q : α × T.μ} {Y : List Nat} (h : St (zj1 T its) w Y) (hq : St (T.nest q.1 q.2) w Y) : St (zj1 T (its ++ [q])) w Y := fun w' hk p hp => by
 rcases List.mem_append.1 hp with h1 | h1
 ·exact h w' hk p h1
 ·rw [List.mem_singleton.1 h1]; exact hq w' hk
theorem zpk {α : Type} {T : Ty α} {a b : List (α × T.μ)} {Y : List Nat} (h : St (zj1 T a) w Y) (h' : St (zj1 T b) w Y) : St (zj1 T (a ++ b)) w Y := fun w' hk p hp => by
 rcases List.mem_append.1 hp with h1 | h1
 ·exact h w' hk p h1
 ·exact h' w' hk p h1
theorem zb3 {α : Type} {T : Ty α} {Y : List Nat} : St (zj1 T []) w Y := fun _ _ _ h => by cases h
theorem Sep.freezeL {α : Type} {T : Ty α} {A : Option Addr} {n c e : Nat} {its : List (α × T.μ)} {xs : List α} (H : Sep X [] w0 w (.row (.slice A n c) e T.sz n (zj0 T its) :: L) R) (hn : n = its.length) (hnest : zj1 T its ∈ R) (hxs : its.map Prod.fst = xs) : ∃ m, Sep X [] w0 w L (LiF T A c xs m :: R) := by
 subst hxs
 have hf := H.freeze (fun k hk => by
  rcases H.mine k (List.mem_append_left _ hk) with h | h
  ·cases h
  ·exact h)
 refine ⟨_, hf.pop.know (zxi (e := e) (n := n) (hf.facts _ (by simp)) hn (hf.facts _ (by simp [hnest])))⟩
end
end
section
theorem Sep.drop2 {X G : List Nat} {w0 w : World} {L : List Res} {r a b : World → Prop} {R : List (World → Prop)} (H : Sep X G w0 w L (r :: a :: b :: R)) : Sep X G w0 w L (r :: R) := H.sub fun q hq => by
 rcases List.mem_cons.1 hq with rfl | hq
 ·exact List.mem_cons_self ..
 ·exact List.mem_cons_of_mem _ (List.mem_cons_of_mem _ (List.mem_cons_of_mem _ hq))
theorem Sep.drop1 {X G : List Nat} {w0 w : World} {L : List Res} {r a : World → Prop} {R : List (World → Prop)} (H : Sep X G w0 w L (r :: a :: R)) : Sep X G w0 w L (r :: R) := H.sub fun q hq => by
 rcases List.mem_cons.1 hq with rfl | hq
 ·exact List.mem_cons_self ..
 ·exact List.mem_cons_of_mem _ (List.mem_cons_of_mem _ hq)
end
section
section
variable {X G D : List Nat} {w0 w ws : World} {L : List Res} {R : List (World → Prop)}
theorem Sep.lend (H : Sep X [] w0 w L R) {b t : Nat} {cs : List Chunk} (i : Nat) (hi : L[i]? = some (.blk b (ca cs) t)) : Sep X [] w0 w (L.eraseIdx i) (AtC ⟨b, 0, none⟩ cs :: R) := by
 have h := H.at_ i _ hi
 have hf := h.freeze (fun k hk => by
  rcases h.mine k (List.mem_append_left _ hk) with h | h
  ·cases h
  ·exact h)
 exact hf.pop.know ((hf.facts _ (List.mem_cons_self ..)).imp fun w hw => zhS (t := t) (fr := (0, 0)) hw)
end
end
section
theorem Sep.keepLR {X G : List Nat} {w0 w : World} {L L' : List Res} {R R' : List (World → Prop)} (H : Sep X G w0 w (L ++ L') (R ++ R')) : Sep X G w0 w L R := by
 have h1 : Sep X G w0 w (L ++ L') R := H.sub fun r hr => List.mem_append_left _ hr
 have h2 : Sep X G w0 w (L' ++ L) R := h1.perm List.perm_append_comm
 clear H h1
 induction L' with
 | nil => exact h2
 | cons q L' ih => exact ih h2.popL
end
section
theorem Sep.refacts {X G : List Nat} {w0 w : World} {L : List Res} {R R' : List (World → Prop)} (H : Sep X G w0 w L R) (hf : ∀ r ∈ R', St r w (X ++ zbz L)) : Sep X G w0 w L R' := ⟨H.frm, H.xlt, H.holds, H.apart, H.mine, hf⟩
end
section
section
variable {X G : List Nat} {w0 w w1 : World} {L L1 : List Res} {R R1 : List (World → Prop)} {q : Res}
end
end
section
theorem zkW {w : World} {b e sz n c : Nat} {A : Option Addr} {xs : List Value} (h : w.ownsRow b e sz (.slice A n c) n xs) : n ≤ c := by
 rcases h.2 with ⟨e1, e2⟩ | ⟨g, cap, cur, e1, _, _, h2, _⟩
 ·omega
 ·injection e1 with _ _ e3; omega
end
section
section
variable {P : Program} {o : Oper} {ws : World} {l : List (Nat × Value)} {S : Nat → Prop}
theorem zzW {ts : Array TypeId} {x y : Operand} {k : IntKind} {m n : Int} (ho : o.op = .call { callee := .builtin .min, args := #[x, y], argTypes := ts }) (hx : ev l x = some (.int k m)) (hy : ev l y = some (.int k n)) : PK P S ws l o (.int k (min m n)) := fun w' _ a N E => by
 unfold execOp; rw [ho]
 simp only [resolve, Sem.run_bind, Sem.run_pure, Result.andThen_ok, List.map_toArray, List.map_cons, List.map_nil, E.ev hx, E.ev hy, invoke, builtin, run_min_int2]
 rw [show (if n < m then n else m) = min m n from by rw [Int.min_def]; split <;> split <;> omega]
end
section
variable {P : Program} {ops : Array Oper} {Q : Exit → Act → World → Prop} {rest : List Oper} {o : Oper} {a : Act} {w : World} {N d : Nat} {l : List (Nat × Value)} {v : Value} {K : Act → World → Prop} {X G : List Nat} {w0 : World} {L L' : List Res} {R : List (World → Prop)}
theorem Vv (E : Env a N l) (hv : PK P zzQ w l o v) (h : ∀ a', Env a' N ((d, v) :: l) → wpList P ops Q rest a' w) (hg : gd ops l o = some true := by rfl) (hd : o.dst = some d := by rfl) (hN : Nat.blt d N = true := by rfl) : wpList P ops Q (o :: rest) a w := zgV E hv hg hd hN h
theorem Ve (E : Env a N l) (h : o.wp P a w (fun a' w' => wpList P ops Q rest a' w') Q) (hg : gd ops l o = some true := by rfl) : wpList P ops Q (o :: rest) a w := zBj E hg fun K hK => Oper.wp_mono hK h
theorem Vp (E : Env a N l) (h : ∀ a', Env a' N ((d, v) :: l) → wpList P ops Q rest a' w) (hd : o.dst = some d := by rfl) (hN : Nat.blt d N = true := by rfl) : wpList P ops Q rest (a.put o.dst v) w := zxk E hd hN h
theorem Vs {ty b t off : Nat} {cs new cs' : List Chunk} {x y : Operand} (i : Nat) (E : Env a N l) (H : Sep X G w0 w L R) (h : ∀ w', Sep X G w0 w' L' R → Frm [b] w w' → K (a.put o.dst undef) w') (ho : o.op = .store ty x y := by rfl) (hx : ev l x = some (.pointer (some ⟨b, off, none⟩)) := by rfl) (hy : ev l y = some v := by rfl) (hv : v.cells = ca new := by rfl) (hi : L[i]? = some (.blk b (ca cs) t) := by rfl) (h1 : zuM new := by repeat (first | exact trivial | refine ⟨rfl, ?_⟩ | refine ⟨fun _ _ => rfl, ?_⟩)) (hp : zqG cs off new = some cs' := by rfl) (hs : zjY P ty = some (zej new) := by kernel_rfl)
  (hL : L.set i (.blk b (ca cs') t) = L' := by rfl) : o.wp P a w K Q := zmN i E H ho hx hy hv hi h1 hp hs hL h
theorem Vc {f : FuncId} {x : Operand} {xs : Array Operand} {ts : Array TypeId} {fs cs : Array Value} {vs : List Value} (E : Env a N l)
  (h : Calls P f (fs ++ vs.toArray ++ cs) w fun
   | .returned v, w'' => K (a.put o.dst v) w''
   | .panicked chain, w'' => Q (.panic chain) a w''
   | .outgrown, _ => LetsOut Q) (ho : o.op = .call { callee := .value x, args := xs, argTypes := ts } := by rfl) (hx : ev l x = some (.func (.func f) fs cs) := by rfl) (hargs : evs l xs.toList = some vs := by rfl) (hf : fnB P f = true := by kernel_rfl) : o.wp P a w K Q := zuN E ho hx hargs hf h
theorem Wa {ty : TypeId} {z : List Chunk} (E : Env a N l) (H : Sep X G w0 w L R) (h : ∀ b w' a', Sep X G w0 w' (.blk b (ca z) ty :: L) R → Env a' N ((d, .pointer (some ⟨b, 0, none⟩)) :: l) → wpList P ops Q rest a' w') (ho : o.op = .alloc ty := by rfl) (hz : zjX P ty = some (ca z) := by kernel_rfl) (hd : o.dst = some d := by rfl) (hN : Nat.blt d N = true := by rfl) (hg : gd ops l o = some true := by rfl) : wpList P ops Q (o :: rest) a w :=
 Ve E (zrP H ho hz fun b w' H' _ => zxk E hd hN fun a' E' => h b w' a' H' E') hg
theorem Wb {ty : TypeId} {x : Operand} {z : List Chunk} (E : Env a N l) (H : Sep X G w0 w L R) (h : ∀ b w' a', Sep X G w0 w' (.blk b (ca z) ty :: L) R → Env a' N ((d, .pointer (some ⟨b, 0, none⟩)) :: l) → wpList P ops Q rest a' w') (ho : o.op = .box ty x := by rfl) (hx : ev l x = some v := by rfl) (hz : v.cells = ca z := by rfl) (hd : o.dst = some d := by rfl) (hN : Nat.blt d N = true := by rfl) (hg : gd ops l o = some true := by rfl) : wpList P ops Q (o :: rest) a w :=
 Ve E (zxg E H ho hx hz fun b w' H' _ => zxk E hd hN fun a' E' => h b w' a' H' E') hg
theorem Ws {ty b t off : Nat} {cs new cs' : List Chunk} {x y : Operand} (i : Nat) (E : Env a N l) (H : Sep X G w0 w L R) (h : ∀ w', Sep X G w0 w' L' R → wpList P ops Q rest a w') (ho : o.op = .store ty x y := by rfl) (hx : ev l x = some (.pointer (some ⟨b, off, none⟩)) := by rfl) (hy : ev l y = some v := by rfl) (hv : v.cells = ca new := by rfl) (hi : L[i]? = some (.blk b (ca cs) t) := by rfl) (h1 : zuM new := by repeat (first | exact trivial | refine ⟨rfl, ?_⟩ | refine ⟨fun _ _ => rfl, ?_⟩)) (hp : zqG cs off new = some cs' := by rfl) (hs : zjY P ty = some (zej new) := by kernel_rfl)
  (hL : L.set i (.blk b (ca cs') t) = L' := by rfl) (hd : o.dst = none := by rfl) (hg : gd ops l o = some true := by rfl) : wpList P ops Q (o :: rest) a w := Ve E (zmN i E H ho hx hy hv hi h1 hp hs hL fun w' H' _ => zdn hd (h w' H')) hg
theorem Cw {S : Nat → Prop} {T : Act → World → Prop} {p : List (Oper × Bool)} {ws : World} (E : Env a N l) (HK : CanB.Keep S ws w) (hv : PK P S ws l o v) (h : ∀ a', Env a' N ((d, v) :: l) → CanB.wpCan P ops Q S T p a' w) (hg : gd ops l o = some true := by rfl) (hd : o.dst = some d := by rfl) (hN : Nat.blt d N = true := by rfl) (hQ : ∀ c a v w, Q (.panic c) (a.put o.dst v) w → Q (.panic c) a w := by exact fun _ _ _ _ h => h) : CanB.wpCan P ops Q S T ((o, false) :: p) a w := zof E HK hv hg hd hN hQ h
theorem Vr {id : Nat} {lo : List Oper} {y : Code} (h : wpList P lo.toArray (Exit.then (y.wp P Q) Q) lo a w) : (Code.seq (Code.region id lo.toArray false) y).wp P Q a w := wp_seq (zaB h)
theorem Vn {T : Act → World → Prop} (h : T a w) : wpList P ops (Exit.then T Q) [] a w := h
end
section
variable {P : Program} {o : Oper} {w : World} {l : List (Nat × Value)} {v : Value} {S : Nat → Prop} {X G : List Nat} {w0 : World} {L : List Res} {R : List (World → Prop)}
theorem pkl {b t off ty : Nat} {cs sub : List Chunk} {x : Operand} (n : Nat) (H : Sep X G w0 w L R) (i : Nat) (ho : o.op = .load ty x := by rfl) (hx : ev l x = some (.pointer (some ⟨b, off, none⟩)) := by rfl) (hi : L[i]? = some (.blk b (ca cs) t) := by rfl) (hp : zkL cs off n = some sub := by rfl) (ht : tyK P ty = some (n, true) := by kernel_rfl) : PK P zzQ w l o (.agg (ca sub)) := zcr H i ho hx hi trivial hp ht
theorem pko {b t off ty : Nat} {cs : List Chunk} {x : Operand} (H : Sep X G w0 w L R) (i : Nat) (ho : o.op = .load ty x := by rfl) (hx : ev l x = some (.pointer (some ⟨b, off, none⟩)) := by rfl) (hi : L[i]? = some (.blk b (ca cs) t) := by rfl) (hp : zkL cs off 1 = some [.one v] := by rfl) (ht : tyK P ty = some (1, false) := by kernel_rfl) : PK P zzQ w l o v := zkS H i ho hx hi trivial hp ht
theorem pkn {t : TypeId} {x : Operand} {A : Option Addr} {n c : Nat} (ho : o.op = .call { callee := .builtin .len, args := #[x], argTypes := #[t] } := by rfl) (hx : ev l x = some (.slice A n c) := by rfl) (ht : zzK P t = true := by kernel_rfl) : PK P S w l o (.int .i64 n) := zzT ho hx ht
theorem pki {op : BinOp} {t u : TypeId} {x y : Operand} {k : IntKind} {m n : Int} (ho : o.op = .binOp op t x y u := by rfl) (hx : ev l x = some (.int k m) := by rfl) (hy : ev l y = some (.int k n) := by rfl) (hr : zke op k m n = some v := by rfl) : PK P S w l o v := zbD ho hx hy hr
theorem pkm {x : Operand} (ho : o.op = .move x := by rfl) (hx : ev l x = some v := by rfl) : PK P S w l o v := zgy ho hx
theorem pka {x : Operand} (ho : o.op = .assign x := by rfl) (hx : ev l x = some v := by rfl) : PK P S w l o v := zcA ho hx
theorem pkx {x : Operand} {i : Nat} {vs : Array Value} (ho : o.op = .extract x i := by rfl) (hx : ev l x = some (.tuple vs) := by rfl) (hn : zxf vs.toList i = some v := by rfl) : PK P S w l o v := zaV ho hx hn
end
end
section
open Go.RowKit
section
variable {P : Program} {o : Oper} {a : Act} {w ws : World} {Q : Exit → Act → World → Prop} {N d : Nat} {l : List (Nat × Value)} {v : Value} {S : Nat → Prop} {K : Act → World → Prop}
 {X G : List Nat} {w0 : World} {L L' : List Res} {R : List (World → Prop)}
theorem zdR {j : Int} {b y : Nat} {code : BoundsCode} (hj : j = (b : Int)) (hb : b ≤ y) : (Instr.sliceBound (.int .i64 j) y code).run P w = .ok b w := by
 subst hj
 unfold Instr.sliceBound
 simp [asIntOf, hb]
def zib (A : Option Addr) (sz lo hi mx : Nat) : Value := .slice (if mx = lo then A else A.map (·.add (lo * sz))) (hi - lo) (mx - lo)
theorem zxn {t e sz : Nat} {A : Option Addr} {n c lo hi mx : Nat} {vl vh vm : Option Value} (ht : P.underlying t = some (.slice e)) (hs : (P.info? e).map (·.size) = some sz) (hb : (Instr.sliceBounds true n c vl vh vm).run P w = .ok (lo, hi, mx) w) :
  (Instr.sliceAt t (.slice A n c) vl vh vm).run P w = .ok (zib A sz lo hi mx) w := by
 unfold Instr.sliceAt
 rw [Sem.run_bind, run_underlying ht]
 simp only [Result.andThen_ok]
 unfold Instr.slice
 rw [Sem.run_bind, run_underlying ht]
 simp only [Result.andThen_ok, Sem.run_bind, hb, zby hs]
 rfl
theorem zpm {t sz : Nat} {A : Option Addr} {n c lo hi mx : Nat} {x : Operand} {ol oh om : Option Operand} (ho : o.op = .slice t x ol oh om) (ht : elK P t = some sz) (hx : ev l x = some (.slice A n c))
  (hb : ∀ a N w, Env a N l → (Instr.sliceBounds true n c (ol.map a.eval) (oh.map a.eval) (om.map a.eval)).run P w = .ok (lo, hi, mx) w) : PK P S ws l o (zib A sz lo hi mx) := fun w' _ a N E => by
 obtain ⟨e, h1, h2⟩ := zpe ht
 unfold execOp
 rw [ho]
 simp only [E.ev hx, Sem.run_bind, zxn h1 h2 (hb a N w' E), Result.andThen_ok, Sem.run_pure]
theorem zeq {t sz : Nat} {A : Option Addr} {n c hi : Nat} {x xh : Operand} {j : Int} (ho : o.op = .slice t x none (some xh) none) (ht : elK P t = some sz) (hx : ev l x = some (.slice A n c)) (hh : ev l xh = some (.int .i64 j)) (hj : j = (hi : Int)) (hc : hi ≤ c) : PK P S ws l o (zib A sz 0 hi c) :=
 zpm ho ht hx fun a N w E => by
  unfold Instr.sliceBounds
  simp [E.ev hh, zdR hj hc, Sem.run_bind]
theorem zdS {t sz : Nat} {A : Option Addr} {n c lo : Nat} {x xl : Operand} {j : Int} (ho : o.op = .slice t x (some xl) none none) (ht : elK P t = some sz) (hx : ev l x = some (.slice A n c)) (hl : ev l xl = some (.int .i64 j)) (hj : j = (lo : Int)) (hc : lo ≤ n) : PK P S ws l o (zib A sz lo n c) :=
 zpm ho ht hx fun a N w E => by
  unfold Instr.sliceBounds
  simp [E.ev hl, zdR hj hc, Sem.run_bind]
theorem zrT {t sz : Nat} {A : Option Addr} {n c lo hi : Nat} {x xl xh : Operand} {j k : Int} (ho : o.op = .slice t x (some xl) (some xh) none) (ht : elK P t = some sz) (hx : ev l x = some (.slice A n c)) (hl : ev l xl = some (.int .i64 j)) (hh : ev l xh = some (.int .i64 k)) (hj : j = (lo : Int)) (hk : k = (hi : Int)) (hlh : lo ≤ hi) (hc : hi ≤ c) : PK P S ws l o (zib A sz lo hi c) :=
 zpm ho ht hx fun a N w E => by
  unfold Instr.sliceBounds
  simp [E.ev hl, E.ev hh, zdR hj hlh, zdR hk hc, Sem.run_bind]
theorem sub_zero (A : Option Addr) (sz hi c : Nat) : zib A sz 0 hi c = .slice A hi c := by
 unfold zib
 have : (A.map fun x => x.add (0 * sz)) = A := by cases A <;> simp [zb2]
 rw [this]
 simp
end
end
section
open Go.RowKit
theorem zhw {Q : Exit → Act → World → Prop} {i : Nat} {a : Act} {w : World} (h : Q .normal a w) : Exit.inBlock i Q .normal a w := h
def zdg (x y : Nat) : Nat := (x + y) % 4294967296
def zdM (x y : Nat) : Nat := (x % 4294967296) ^^^ (y % 4294967296)
def zfE (x y : Nat) : Nat := (x % 4294967296) &&& (y % 4294967296)
def orW (x y : Nat) : Nat := (x % 4294967296) ||| (y % 4294967296)
def zjU (x k : Nat) : Nat := (x * 2 ^ (min k 32)) % 4294967296
def ziT (x k : Nat) : Nat := x / 2 ^ (min k 32)
abbrev u32 (x : Nat) : Value := .int .u32 ((x : Nat) : Int)
theorem zgz (z : Nat) : IntKind.u32.wrap (z : Int) = ((z % 4294967296 : Nat) : Int) := by
 have e : IntKind.u32.wrap (z : Int) = (z : Int) % 4294967296 := by simp [IntKind.wrap, IntKind.bits, IntKind.signed]
 rw [e]; omega
theorem zuP (z : Nat) : IntKind.u8.wrap (z : Int) = ((z % 256 : Nat) : Int) := by
 have e : IntKind.u8.wrap (z : Int) = (z : Int) % 256 := by simp [IntKind.wrap, IntKind.bits, IntKind.signed]
 rw [e]; omega
theorem zxo (z : Nat) : IntKind.u64.wrap (z : Int) = ((z % 18446744073709551616 : Nat) : Int) := by
 have e : IntKind.u64.wrap (z : Int) = (z : Int) % 18446744073709551616 := by simp [IntKind.wrap, IntKind.bits, IntKind.signed]
 rw [e]; omega
theorem zzM (x : Nat) : (BitVec.ofInt 32 (x : Int)).toNat = x % 4294967296 := by
 rw [BitVec.toNat_ofInt]; omega
theorem bv8 (x : Nat) : (BitVec.ofInt 8 (x : Int)).toNat = x % 256 := by
 rw [BitVec.toNat_ofInt]; omega
theorem zzX (m n : Nat) : IntKind.u32.wrap (((BitVec.ofInt 32 (m : Int) ^^^ BitVec.ofInt 32 (n : Int)).toNat : Nat) : Int) = ((zdM m n : Nat) : Int) := by
 have h : (m % 4294967296) ^^^ (n % 4294967296) < 2 ^ 32 := Nat.xor_lt_two_pow (by omega) (by omega)
 rw [zgz, BitVec.toNat_xor, zzM, zzM, Nat.mod_eq_of_lt h]
 rfl
theorem zBm (m n : Nat) : IntKind.u32.wrap (((BitVec.ofInt 32 (m : Int) &&& BitVec.ofInt 32 (n : Int)).toNat : Nat) : Int) = ((zfE m n : Nat) : Int) := by
 have h : (m % 4294967296) &&& (n % 4294967296) < 2 ^ 32 := Nat.and_lt_two_pow _ (by omega)
 rw [zgz, BitVec.toNat_and, zzM, zzM, Nat.mod_eq_of_lt h]
 rfl
theorem zCv (m n : Nat) : IntKind.u32.wrap (((BitVec.ofInt 32 (m : Int) ||| BitVec.ofInt 32 (n : Int)).toNat : Nat) : Int) = ((orW m n : Nat) : Int) := by
 have h : (m % 4294967296) ||| (n % 4294967296) < 2 ^ 32 := Nat.or_lt_two_pow (by omega) (by omega)
 rw [zgz, BitVec.toNat_or, zzM, zzM, Nat.mod_eq_of_lt h]
 rfl
theorem zCw (m n : Nat) : IntKind.u8.wrap (((BitVec.ofInt 8 (m : Int) ^^^ BitVec.ofInt 8 (n : Int)).toNat : Nat) : Int) = (((m % 256) ^^^ (n % 256) : Nat) : Int) := by
 have h : (m % 256) ^^^ (n % 256) < 2 ^ 8 := Nat.xor_lt_two_pow (by omega) (by omega)
 rw [zuP, BitVec.toNat_xor, bv8, bv8, Nat.mod_eq_of_lt h]
theorem or8 (m n : Nat) : IntKind.u8.wrap (((BitVec.ofInt 8 (m : Int) ||| BitVec.ofInt 8 (n : Int)).toNat : Nat) : Int) = (((m % 256) ||| (n % 256) : Nat) : Int) := by
 have h : (m % 256) ||| (n % 256) < 2 ^ 8 := Nat.or_lt_two_pow (by omega) (by omega)
 rw [zuP, BitVec.toNat_or, bv8, bv8, Nat.mod_eq_of_lt h]
theorem zzY (x n : Nat) : ((x : Int)).fdiv ((2 : Int) ^ n) = ((x / 2 ^ n : Nat) : Int) := by
 rw [Int.fdiv_eq_ediv_of_nonneg _ (Int.le_of_lt (Int.pow_pos (by decide)))]
 norm_cast
section
variable {P : Program} {o : Oper} {ws : World} {l : List (Nat × Value)} {S : Nat → Prop} {t u : TypeId} {x y : Operand} {m n : Nat}
theorem zbO (ho : o.op = .binOp .add t x y u) (hx : ev l x = some (u32 m)) (hy : ev l y = some (u32 n)) : PK P S ws l o (u32 (zdg m n)) :=
 zbD ho hx hy (by
  simp only [zke, zdg, ← zgz]
  norm_cast)
theorem zcC (ho : o.op = .binOp .xor t x y u) (hx : ev l x = some (u32 m)) (hy : ev l y = some (u32 n)) : PK P S ws l o (u32 (zdM m n)) :=
 zbD ho hx hy (congrArg (fun z => some (Value.int .u32 z)) (zzX m n))
theorem zfK (ho : o.op = .binOp .and t x y u) (hx : ev l x = some (u32 m)) (hy : ev l y = some (u32 n)) : PK P S ws l o (u32 (zfE m n)) :=
 zbD ho hx hy (congrArg (fun z => some (Value.int .u32 z)) (zBm m n))
theorem ziU (ho : o.op = .binOp .or t x y u) (hx : ev l x = some (u32 m)) (hy : ev l y = some (u32 n)) : PK P S ws l o (u32 (orW m n)) :=
 zbD ho hx hy (congrArg (fun z => some (Value.int .u32 z)) (zCv m n))
theorem ziV {k' : IntKind} {j : Int} {k : Nat} (ho : o.op = .binOp .shl t x y u) (hx : ev l x = some (u32 m)) (hy : ev l y = some (.int k' j)) (hj : j = (k : Int)) : PK P S ws l o (u32 (zjU m k)) := by
 have h := zwK (S := S) (ws := ws) (P := P) ho hx hy (by omega)
 have e : IntKind.u32.wrap ((m : Int) * 2 ^ (min j.toNat IntKind.u32.bits)) = ((zjU m k : Nat) : Int) := by
  unfold zjU
  rw [← zgz, hj, Int.toNat_natCast]
  have : IntKind.u32.bits = 32 := rfl
  rw [this]
  norm_cast
 rw [e] at h
 exact h
theorem zfL {k' : IntKind} {j : Int} {k : Nat} (ho : o.op = .binOp .shr t x y u) (hx : ev l x = some (u32 m)) (hy : ev l y = some (.int k' j)) (hj : j = (k : Int)) : PK P S ws l o (u32 (ziT m k)) := by
 have h := zwL (S := S) (ws := ws) (P := P) ho hx hy (by omega)
 have e : ((m : Int)).fdiv (2 ^ (min j.toNat IntKind.u32.bits)) = ((ziT m k : Nat) : Int) := by
  unfold ziT
  rw [zzY, hj, Int.toNat_natCast]
  rfl
 rw [e] at h
 exact h
theorem zhU (ho : o.op = .convert t u x) (hx : ev l x = some (bv m)) (hs : (P.underlying t).isSome = true) (ht : zzS P u = some .u32) : PK P S ws l o (u32 (m % 4294967296)) := by
 have h := zkP (S := S) (ws := ws) (P := P) ho hx hs ht
 rw [zgz] at h
 exact h
theorem ziW {k : IntKind} (ho : o.op = .convert t u x) (hx : ev l x = some (.int k ((m : Nat) : Int))) (hs : (P.underlying t).isSome = true) (ht : zzS P u = some .u8) : PK P S ws l o (bv (m % 256)) := by
 have h := zkP (S := S) (ws := ws) (P := P) ho hx hs ht
 rw [zuP] at h
 exact h
theorem zxp {k' : IntKind} {j : Int} {k : Nat} (ho : o.op = .binOp .shr t x y u) (hx : ev l x = some (.int .u64 ((m : Nat) : Int))) (hy : ev l y = some (.int k' j)) (hj : j = (k : Int)) (hk : k ≤ 64) : PK P S ws l o (.int .u64 ((m / 2 ^ k : Nat) : Int)) := by
 have h := zwL (S := S) (ws := ws) (P := P) ho hx hy (by omega)
 have e : ((m : Int)).fdiv (2 ^ (min j.toNat IntKind.u64.bits)) = ((m / 2 ^ k : Nat) : Int) := by
  rw [zzY, hj, Int.toNat_natCast]
  have : IntKind.u64.bits = 64 := rfl
  rw [this, Nat.min_eq_left hk]
 rw [e] at h
 exact h
theorem zok (ho : o.op = .binOp .xor t x y u) (hx : ev l x = some (bv m)) (hy : ev l y = some (bv n)) : PK P S ws l o (bv ((m % 256) ^^^ (n % 256))) :=
 zbD ho hx hy (congrArg (fun z => some (Value.int .u8 z)) (zCw m n))
theorem zzZ (ho : o.op = .binOp .or t x y u) (hx : ev l x = some (bv m)) (hy : ev l y = some (bv n)) : PK P S ws l o (bv ((m % 256) ||| (n % 256))) :=
 zbD ho hx hy (congrArg (fun z => some (Value.int .u8 z)) (or8 m n))
theorem zbF {ad : Addr} (ho : o.op = .nilCheck x) (hx : ev l x = some (.pointer (some ad))) : PK P S ws l o (.pointer (some ad)) := fun w' _ a N E => by
 unfold execOp; rw [ho]; simp only [E.ev hx]; rfl
def arK (P : Program) (t : TypeId) : Option (Nat × Nat) := match P.underlying t with | some (.array n e) => (P.info? e).map fun i => (n, i.size) | _ => none
theorem ziX {n sz : Nat} (h : arK P t = some (n, sz)) : ∃ e, P.underlying t = some (.array n e) ∧ (P.info? e).map (·.size) = some sz := by
 unfold arK at h
 split at h
 ·rename_i n' e he
  rw [Option.map_eq_some_iff] at h
  obtain ⟨i, hi, h⟩ := h
  injection h with h1 h2
  subst h1
  exact ⟨e, he, by rw [hi]; exact congrArg some h2⟩
 ·cases h
theorem zz0 {sz N i : Nat} {ad : Addr} {j : Int} {k : IntKind} (ho : o.op = .indexAddr t x y) (ht : arK P t = some (N, sz)) (hx : ev l x = some (.pointer (some ad))) (hy : ev l y = some (.int k j)) (hj : j = (i : Int)) (hi : i < N) : PK P S ws l o (.pointer (some (ad.add (i * sz)))) := fun w' _ a _ E => by
 obtain ⟨e, h1, h2⟩ := ziX ht
 subst hj
 have h3 : (0 : Int) ≤ (i : Int) ∧ (i : Int) < (N : Int) := by omega
 unfold execOp
 rw [ho]
 simp only [E.ev hx, E.ev hy, Instr.indexAt, asIntOf, Sem.run_bind, Sem.run_pure, Result.andThen_ok, run_underlying h1, Instr.sureAddr, zby h2, h3, and_self, if_true, Int.toNat_natCast]
def zBn (P : Program) (t : TypeId) : Option Nat := match P.underlying t with | some (.array n e) => (match tyK P e with | some (1, false) => some n | _ => none) | _ => none
theorem zxq {n : Nat} (h : zBn P t = some n) : ∃ e, P.underlying t = some (.array n e) ∧ tyK P e = some (1, false) := by
 unfold zBn at h
 split at h
 ·rename_i n' e he
  split at h
  ·rename_i h2
   injection h with h
   subst h
   exact ⟨e, he, h2⟩
  ·cases h
 ·cases h
theorem ziq {N i : Nat} {f : Nat → Value} {j : Int} {k : IntKind} (ho : o.op = .index t x y) (ht : zBn P t = some N) (hx : ev l x = some (.agg (ca [.row N f]))) (hy : ev l y = some (.int k j)) (hj : j = (i : Int)) (hi : i < N) : PK P S ws l o (f i) := fun w' _ a _ E => by
 obtain ⟨e, h1', h2⟩ := zxq ht
 subst hj
 have h3 : (0 : Int) ≤ (i : Int) ∧ (i : Int) < (N : Int) := by omega
 obtain ⟨d, h4, h5, h6⟩ := zrL h2
 have hc : (ca [.row N f])[i]? = some (f i) := by simp [ca, cl, Chunk.cells, hi]
 have hagg : (isAgg e).run P w' = .ok false w' := by
  unfold isAgg
  simp only [Sem.run_bind, run_underlying h4, Result.andThen_ok]
  cases d <;> first | rfl | (simp at h5; done)
 have hpart : (part e (ca [.row N f]) (i * 1)).run P w' = .ok (f i) w' := by
  unfold part
  simp only [Sem.run_bind, hagg, Result.andThen_ok, Nat.mul_one, hc]
  rfl
 unfold execOp
 rw [ho]
 simp only [E.ev hx, E.ev hy, Instr.index, asIntOf, Sem.run_bind, Sem.run_pure, Result.andThen_ok, run_underlying h1', zby h6, h3, and_self, if_true, Int.toNat_natCast, hpart]
theorem zc7 {N sz : Nat} {ad : Addr} (ho : o.op = .slice t x none none none) (ht : arK P t = some (N, sz)) (hx : ev l x = some (.pointer (some ad))) : PK P S ws l o (.slice (some ad) N N) := fun w' _ a _ E => by
 obtain ⟨e, h1, h2⟩ := ziX ht
 unfold execOp
 rw [ho]
 simp only [E.ev hx, Instr.sliceAt, Instr.sliceBounds, Instr.sureAddr, Option.map_none, Sem.run_bind, Sem.run_pure, Result.andThen_ok, run_underlying h1, zby h2, Nat.zero_mul, zb2, ite_self, Nat.sub_zero]
theorem zuQ {N sz lo : Nat} {ad : Addr} {j : Int} (ho : o.op = .slice t x (some y) none none) (ht : arK P t = some (N, sz)) (hx : ev l x = some (.pointer (some ad))) (hy : ev l y = some (.int .i64 j)) (hj : j = (lo : Int)) (hlo : lo < N) : PK P S ws l o (.slice (some (ad.add (lo * sz))) (N - lo) (N - lo)) := fun w' _ a _ E => by
 obtain ⟨e, h1, h2⟩ := ziX ht
 unfold execOp
 rw [ho]
 simp only [E.ev hx, E.ev hy, Instr.sliceAt, Instr.sliceBounds, Instr.sureAddr, Option.map_none, Option.map_some, Sem.run_bind, Sem.run_pure, Result.andThen_ok, run_underlying h1, zby h2, zdR hj (show lo ≤ N by omega), if_neg (show ¬ N = lo by omega)]
end
theorem ziY : ∀ {cs r : List Chunk} {off : Nat}, zgm cs off = some r → ∃ pre, zh9 cs off = some pre ∧ cs = pre ++ r ∧ zej pre = off
 | cs, r, 0, h => by
  rw [zgm] at h
  obtain rfl := Option.some.inj h
  exact ⟨[], by cases cs <;> rfl, rfl, rfl⟩
 | [], r, off + 1, h => by cases h
 | c :: cs, r, off + 1, h => by
  rw [zgm] at h
  cases hb : Nat.ble c.len (off + 1)
  ·rw [hb] at h; cases h
  ·rw [hb] at h
   have hle := Nat.le_of_ble_eq_true hb
   simp only [cond_true] at h
   obtain ⟨pre, h1, h2, h3⟩ := ziY h
   refine ⟨c :: pre, ?_, by rw [h2]; rfl, by rw [zej, h3]; omega⟩
   rw [zh9, hb]
   simp only [cond_true, h1]
theorem zz1 {pre post : List Chunk} {n i : Nat} {f : Nat → Value} (hi : i < n) : (cl (pre ++ .row n f :: post))[zej pre + i]? = some (f i) := by
 rw [zmL, List.getElem?_append_right (by rw [zcn]; omega), zcn, Nat.add_sub_cancel_left, cl, List.getElem?_append_left (by simp [Chunk.cells]; exact hi)]
 simp [Chunk.cells, hi]
theorem zxr (n i : Nat) (f : Nat → Value) (v : Value) : (List.range n).map (upd f i v) = ((List.range n).map f).set i v := by
 apply List.ext_getElem?
 intro j
 by_cases hj : j < n
 ·rw [List.getElem?_set]
  simp only [List.getElem?_map, List.getElem?_range hj, Option.map_some, List.length_map, List.length_range]
  by_cases hij : i = j
  ·subst hij; simp [upd, hj]
  ·rw [if_neg hij]; simp [upd, Ne.symm hij]
 ·rw [List.getElem?_eq_none (by simp; omega), List.getElem?_eq_none (by simp; omega)]
theorem zxs {α : Type} {l : List α} {i : Nat} {v : α} (h : i < l.length) : l.set i v = l.take i ++ v :: l.drop (i + 1) := by
 rw [List.set_eq_take_append_cons_drop, if_pos h]
theorem zz2 {pre post : List Chunk} {n i : Nat} {f : Nat → Value} {v : Value} (hi : i < n) :
  cl (pre ++ .row n (upd f i v) :: post) = (cl (pre ++ .row n f :: post)).take (zej pre + i) ++ [v] ++ (cl (pre ++ .row n f :: post)).drop (zej pre + i + 1) := by
 have hl : zej pre + i < (cl (pre ++ .row n f :: post)).length := by
  rw [zcn, zpc, zej]; simp only [Chunk.len]; omega
 rw [List.append_assoc, List.singleton_append, ← zxs hl]
 rw [zmL, zmL, cl, cl, List.set_append_right _ _ (by rw [zcn]; omega), zcn, Nat.add_sub_cancel_left, List.set_append_left _ _ (by simp [Chunk.cells]; exact hi)]
 simp only [Chunk.cells, zxr]
section
variable {P : Program} {o : Oper} {a : Act} {w ws : World} {Q : Exit → Act → World → Prop} {N d : Nat} {l : List (Nat × Value)} {v : Value} {S : Nat → Prop} {K : Act → World → Prop}
 {X G : List Nat} {w0 : World} {L L' : List Res} {R : List (World → Prop)}
theorem zaE {b t off n i ty : Nat} {cs post : List Chunk} {f : Nat → Value} {x : Operand} {pa : Addr} (H : Sep X G w0 ws L R) (j : Nat) (hj : L[j]? = some (.blk b (ca cs) t)) (hS : S b) (hd : zgm cs off = some (.row n f :: post)) (hi : i < n) (ho : o.op = .load ty x) (hx : ev l x = some (.pointer (some pa))) (hpa : pa = (⟨b, off, none⟩ : Addr).add i) (ht : tyK P ty = some (1, false)) : PK P S ws l o (f i) := fun w' hk a N E => by
 obtain ⟨pre, _, h2, h3⟩ := ziY hd
 subst hpa
 refine zde E ho hx ht fun j' u hu => ?_
 cases j' with
 | succ j' => simp [cl, Chunk.cells] at hu
 | zero =>
  obtain rfl : f i = u := by simpa [cl, Chunk.cells] using hu
  rw [zb2, zkR, Addr.add_add]
  refine zrM H j hj hS hk _ _ ?_
  rw [h2, ← h3]
  exact zz1 hi
theorem zmP {b t off n i ty : Nat} {cs pre post : List Chunk} {f : Nat → Value} {x y : Operand} {pa : Addr} (j : Nat) (E : Env a N l) (H : Sep X G w0 w L R) (hj : L[j]? = some (.blk b (ca cs) t)) (hd : zgm cs off = some (.row n f :: post)) (hp : zh9 cs off = some pre) (hi : i < n) (ho : o.op = .store ty x y) (hx : ev l x = some (.pointer (some pa))) (hpa : pa = (⟨b, off, none⟩ : Addr).add i) (hy : ev l y = some v) (h1 : v.oneCell' = true) (hc : v.cells = #[v]) (hs : zjY P ty = some 1)
  (hL : L.set j (.blk b (ca (pre ++ .row n (upd f i v) :: post)) t) = L') (h : ∀ w', Sep X G w0 w' L' R → Frm [b] w w' → K (a.put o.dst undef) w') : o.wp P a w K Q := by
 obtain ⟨pre', h1', h2, h3⟩ := ziY hd
 rw [hp] at h1'
 obtain rfl := Option.some.inj h1'
 subst hpa h2
 have hb : w.heap[b]? = some (.cells (ca (pre ++ .row n f :: post)) t (0, 0)) := H.holds _ (List.mem_of_getElem? hj)
 have hfit : off + i + [v].length ≤ (ca (pre ++ .row n f :: post)).size := by
  rw [zfc, zpc, zej, h3]; simp only [Chunk.len, List.length_singleton]; omega
 have h4 := run_storeCells_at P b (off + i) t [v] 0 (ca (pre ++ .row n f :: post)) w hb hfit (fun u hu => by rw [List.mem_singleton.1 hu]; exact h1)
 have e : ((ca (pre ++ .row n f :: post)).toList.take (off + i + 0) ++ [v] ++ (ca (pre ++ .row n f :: post)).toList.drop (off + i + 0 + [v].length)).toArray = ca (pre ++ .row n (upd f i v) :: post) := by
  unfold ca
  rw [zz2 hi, h3]
  rfl
 rw [e] at h4
 have hsv : (storeVar ty ⟨b, off + i, none⟩ v).run P w = .ok () (w.setRow b (ca (pre ++ .row n (upd f i v) :: post))) := by
  unfold zjY at hs
  rw [Option.map_eq_some_iff] at hs
  obtain ⟨ii, hii, hsz⟩ := hs
  unfold storeVar
  simp only [sizeOf, typeInfo, Sem.run_bind, hc]
  simp [hii, hsz]
  exact h4
 have hr := zdc ho (E.ev (by rw [hx, zcu])) (E.ev hy) hsv
 unfold Oper.wp
 rw [hr]
 exact h _ (H.turnAt (q' := .blk b (ca (pre ++ .row n (upd f i v) :: post)) t) j hj (zeW b _ w) (zan hb) (by simp [Res.keys]) (by simp [Res.keys]) hL) (zeW b _ w)
end
end
section
open Go.RowKit
theorem zuR (n : Nat) : madeCells #[Value.int .u8 0] n = ca [.row n fun _ => bv 0] := by
 apply Array.ext_getElem?
 intro i
 by_cases hi : i < n
 ·simp [madeCells, hi, Nat.mod_one, ca, cl, Chunk.cells, bv]
 ·rw [Array.getElem?_eq_none (by rw [size_madeCells]; omega), Array.getElem?_eq_none (by rw [zfc]; simp [zej, Chunk.len]; omega)]
section
variable {P : Program} {o : Oper} {a : Act} {w ws : World} {Q : Exit → Act → World → Prop} {N d : Nat} {l : List (Nat × Value)} {v : Value} {S : Nat → Prop} {K : Act → World → Prop}
 {X G : List Nat} {w0 w1 : World} {L L' L1 L2 : List Res} {R R1 : List (World → Prop)} {q q1 q2 : Res}
theorem zir {t e : TypeId} {x y : Operand} {n c : Nat} {i j : Int} (E : Env a N l) (H : Sep X G w0 w L R) (ho : o.op = .makeSlice t x y) (hT : ByteT P t e) (hx : ev l x = some (.int .i64 i)) (hy : ev l y = some (.int .i64 j)) (hi : i = (n : Int)) (hj : j = (c : Int)) (hnc : n ≤ c) (hc : c ≤ 140737488355328)
  (h : ∀ b w', Sep X G w0 w' (.blk b (ca [.row c fun _ => bv 0]) e :: L) R → Frm [] w w' → K (a.put o.dst (.slice (some ⟨b, 0, none⟩) n c)) w') : o.wp P a w K Q := by
 subst hi hj
 have hinfo := hT.info
 obtain ⟨ti, hti, hz⟩ := Option.map_eq_some_iff.1 hinfo
 simp only [Prod.mk.injEq] at hz
 obtain ⟨hz1, hz2, hz3⟩ := hz
 have hr := run_make (P := P) w t e ti _ hT.sl hti hz1 .i64 .i64 n c (by omega) (by omega) (by rw [hz3]; omega) (by omega)
 simp only [Int.toNat_natCast, hz2, Nat.mul_one] at hr
 have e1 : madeCells (Value.int .u8 0).cells c = ca [.row c fun _ => bv 0] := zuR c
 rw [e1] at hr
 have hf : Frm [] w (w.alloc (.cells (ca [.row c fun _ => bv 0]) e)) := Frm.of_below ((Below.refl _ _).alloc (jV _) _)
 unfold Oper.wp execOp
 simp only [ho, E.ev hx, E.ev hy, Sem.run_bind, hr, Result.andThen_ok, Sem.run_pure]
 exact h w.heap.size _ (H.own hf (heap_alloc_new w _) (by simp [Res.keys]) (by simp [Res.keys])) hf
theorem zkX {dT sT b t off dn dc n c m : Nat} {cs cs' : List Chunk} {news : List Value} {A : Option Addr} {x y : Operand} {pa : Addr} (i : Nat) (E : Env a N l) (H : Sep X G w0 w L R) (ho : o.op = .call { callee := .builtin .copy, args := #[x, y], argTypes := #[dT, sT] })
  (hx : ev l x = some (.slice (some pa) dn dc)) (hpa : pa = ⟨b, off, none⟩) (hy : ev l y = some (.slice A n c)) (hT : elK P dT = some 1) (hi : L[i]? = some (.blk b (ca cs) t)) (hm : m = min n dn) (hnew : news.length = m) (hnil : A = none → n = 0)
  (hsrc : ∀ ad, A = some ad → ∀ j u, news[j]? = some u → w.cell? (ad.add j) = some u) (h1 : ∀ u ∈ news, u.oneCell' = true) (hcl : cl cs' = (cl cs).take off ++ news ++ (cl cs).drop (off + m)) (hfit : off + m ≤ zej cs)
  (hL : L.set i (.blk b (ca cs') t) = L') (h : ∀ w', Sep X G w0 w' L' R → Frm [b] w w' → K (a.put o.dst (.int .i64 m)) w') : o.wp P a w K Q := by
 subst hpa
 obtain ⟨e, he, hs⟩ := zpe hT
 have hb : w.heap[b]? = some (.cells (ca cs) t (0, 0)) := H.holds _ (List.mem_of_getElem? hi)
 have fin : ∀ w', (Builtin.copy_ #[dT, sT] o.type #[.slice (some ⟨b, off, none⟩) dn dc, .slice A n c]).run P w = .ok (goInt m) w' → w'.heap[b]? = some (.cells (ca cs') t (0, 0)) → Frm [b] w w' → o.wp P a w K Q := fun w' hr hw hf => by
  unfold Oper.wp execOp
  simp only [ho, resolve, invoke, builtin, Sem.run_bind, Sem.run_pure, Result.andThen_ok, List.map_toArray, List.map_cons, List.map_nil, E.ev hx, E.ev hy, hr]
  exact h w' (H.turnAt (q' := .blk b (ca cs') t) i hi hf hw (by simp [Res.keys]) (by simp [Res.keys]) hL) hf
 by_cases h0 : m = 0
 ·subst h0
  obtain rfl : news = [] := List.eq_nil_of_length_eq_zero hnew
  have hce : ca cs' = ca cs := by unfold ca; rw [hcl]; simp
  refine fin w ?_ (by rw [hce]; exact hb) (Frm.refl _ _)
  exact run_copy_none (P := P) w dT sT o.type e _ A dn dc n c he hs hm.symm
 ·cases A with
  | none => have := hnil rfl; omega
  | some ad =>
   have hr := run_copy_row P w dT sT o.type e b off dn dc ad n c (ca cs) t news he hs hb (by rw [hnew, hm]) (hsrc ad rfl) (by rw [zfc, hnew]; exact hfit) h1
   rw [hnew] at hr
   have e1 : ((ca cs).toList.take off ++ news ++ (ca cs).toList.drop (off + m)).toArray = ca cs' := by unfold ca; rw [hcl]
   rw [e1] at hr
   exact fin _ hr (zan hb) (zeW b _ w)
theorem zfM {A : Option Addr} {c : Nat} {k : List Nat} {m : Nat} (h : TxF A c k w) : ∀ ad, A = some ad → ∀ j u, ((k.take m).map bv)[j]? = some u → w.cell? (ad.add j) = some u := fun ad hA j u hu => by
 rw [List.getElem?_map, Option.map_eq_some_iff] at hu
 obtain ⟨x, hx, rfl⟩ := hu
 exact h.at_ ad hA j x (by
  have := (List.getElem?_eq_some_iff.1 hx).1
  rw [List.length_take] at this
  rwa [List.getElem?_take_of_lt (by omega)] at hx)
theorem zmQ {dT sT b t off dn dc c m : Nat} {cs cs' new : List Chunk} {k : List Nat} {A : Option Addr} {x y : Operand} {pa : Addr} {Y : List Nat} (i : Nat) (E : Env a N l) (H : Sep X G w0 w L R) (hr : St (TxF A c k) w Y) (ho : o.op = .call { callee := .builtin .copy, args := #[x, y], argTypes := #[dT, sT] })
  (hx : ev l x = some (.slice (some pa) dn dc)) (hpa : pa = ⟨b, off, none⟩) (hy : ev l y = some (.slice A k.length c)) (hT : elK P dT = some 1) (hi : L[i]? = some (.blk b (ca cs) t)) (hm : m = min k.length dn) (hnew : cl new = (k.take m).map bv) (hp : zqG cs off new = some cs')
  (hL : L.set i (.blk b (ca cs') t) = L') (h : ∀ w', Sep X G w0 w' L' R → Frm [b] w w' → K (a.put o.dst (.int .i64 m)) w') : o.wp P a w K Q := by
 have hl : ((k.take m).map bv).length = m := by rw [List.length_map, List.length_take]; omega
 have hln : zej new = m := by rw [← zcn, hnew, hl]
 obtain ⟨h2, h3⟩ := zkO _ _ _ _ hp
 exact zkX (news := (k.take m).map bv) i E H ho hx hpa hy hT hi hm hl (fun hA => (hr.now.nil hA).1) (zfM hr.now) (fun u hu => by obtain ⟨z, _, rfl⟩ := List.mem_map.1 hu; rfl) (by rw [h2, hnew, hln]) (by omega) hL h
theorem zuS {k m : List Nat} (h : k.length + m.length ≤ 32) : zoe (k ++ m) = (zoe k).take k.length ++ m.map bv ++ (zoe k).drop (k.length + m.length) := by
 have hl : (zoe k).length = 32 := by simp [zoe]
 have at_ : ∀ (z : List Nat) (i : Nat), i < 32 → (zoe z)[i]? = some (bv (z.getD i 0)) := fun z i hi => by simp [zoe, hi]
 apply List.ext_getElem?
 intro i
 by_cases hi : i < 32
 ·rw [at_ _ i hi]
  rcases Nat.lt_or_ge i k.length with h1 | h1
  ·rw [List.append_assoc, List.getElem?_append_left (by rw [List.length_take, hl]; omega), List.getElem?_take_of_lt h1, at_ _ i hi]
   simp [jR, List.getElem?_append_left h1]
  ·rcases Nat.lt_or_ge i (k.length + m.length) with h2 | h2
   ·rw [List.getElem?_append_left (by rw [jQ, List.length_take, hl, List.length_map]; omega), List.getElem?_append_right (by rw [List.length_take, hl]; omega), List.length_take, hl, Nat.min_eq_left (by omega), List.getElem?_map, jP (by omega)]
    simp [jR, List.getElem?_append_right h1, jP (show i - k.length < m.length by omega)]
   ·rw [List.getElem?_append_right (by rw [jQ, List.length_take, hl, List.length_map]; omega), List.getElem?_drop]
    have e1 : ((zoe k).take k.length ++ m.map bv).length = k.length + m.length := by rw [jQ, List.length_take, hl, List.length_map]; omega
    rw [e1, show k.length + m.length + (i - (k.length + m.length)) = i by omega, at_ _ i hi]
    simp [jR, List.getElem?_append_right h1, List.getElem?_eq_none h1, List.getElem?_eq_none (show m.length ≤ i - k.length by omega)]
 ·rw [List.getElem?_eq_none (by simp [zoe]; omega), List.getElem?_eq_none (by simp only [jQ, List.length_take, List.length_drop, hl, List.length_map]; omega)]
theorem zom {dT sT b t dn dc c : Nat} {k m : List Nat} {A : Option Addr} {x y : Operand} {pa : Addr} {Y : List Nat} (i : Nat) (E : Env a N l) (H : Sep X G w0 w L R) (hr : St (TxF A c m) w Y) (ho : o.op = .call { callee := .builtin .copy, args := #[x, y], argTypes := #[dT, sT] })
  (hx : ev l x = some (.slice (some pa) dn dc)) (hpa : pa = ⟨b, k.length, none⟩) (hy : ev l y = some (.slice A m.length c)) (hT : elK P dT = some 1) (hi : L[i]? = some (.blk b (ca [.key k]) t)) (hm : m.length ≤ dn) (hk : k.length + m.length ≤ 32)
  (hL : L.set i (.blk b (ca [.key (k ++ m)]) t) = L') (h : ∀ w', Sep X G w0 w' L' R → Frm [b] w w' → K (a.put o.dst (.int .i64 m.length)) w') : o.wp P a w K Q :=
 zkX (news := (m.take m.length).map bv) i E H ho hx hpa hy hT hi (by omega) (by simp) (fun hA => (hr.now.nil hA).1) (zfM hr.now) (fun u hu => by obtain ⟨z, _, rfl⟩ := List.mem_map.1 hu; rfl)
  (by simp only [cl, Chunk.cells, List.append_nil, List.take_length]; exact zuS hk) (by simp [zej, Chunk.len]; omega) hL h
theorem Sep.rowOf {b e n c : Nat} {f : Nat → Value} (H : Sep X G w0 w (.blk b (ca [.row c f]) e :: L) R) (hn : n ≤ c) (hc : c ≤ 140737488355328) : Sep X G w0 w (.row (.slice (some ⟨b, 0, none⟩) n c) e 1 n ((List.range n).map f) :: L) R :=
 H.turn (Frm.refl _ _) ⟨by simp, .inr ⟨b, c, _, rfl, Nat.zero_le _, H.holds _ (List.mem_cons_self ..), hn, by unfold maxLen; omega, by rw [zfc]; simp [zej, Chunk.len], by
  simp only [ca, cl, Chunk.cells, List.append_nil, Nat.mul_one]
  rw [← List.map_take, List.take_range, Nat.min_eq_left hn]⟩⟩ (fun k hk => .inl (by simpa [Res.keys, Value.ownBlock] using hk)) (by simp [Res.keys, Value.ownBlock])
theorem zbP {ad : Addr} {cs : List Chunk} {k : List Nat} {c : Nat} {Y : List Nat} (h : St (AtC ad cs) w Y) (hl : cl cs = k.map bv) (hc : k.length ≤ c) (hn : k.length ≤ 140737488355328) (hb : ∀ x ∈ k, x < 256) : St (TxF (some ad) c k) w Y := fun w' hk => ⟨hc, hn, hb, fun h => (by cases h), fun ad' e i x hx => by
 obtain rfl := Option.some.inj e
 refine h w' hk i (bv x) ?_
 rw [hl, List.getElem?_map, hx]
 rfl⟩
def zmR (k : List Nat) : List Nat := (List.range 32).map fun i => k.getD i 0
theorem zpn (k : List Nat) : (zmR k).length = 32 := by simp [zmR]
theorem zcO (k : List Nat) : cl [.key k] = (zmR k).map bv := by simp [cl, Chunk.cells, zoe, zmR, Function.comp_def]
theorem zbo {k : List Nat} (h : k.length = 32) : zmR k = k := by
 apply List.ext_getElem?
 intro i
 by_cases hi : i < 32
 ·simp [zmR, hi, jR, jP (show i < k.length by omega)]
 ·rw [List.getElem?_eq_none (by rw [zpn]; omega), List.getElem?_eq_none (by omega)]
theorem Sep.giveA (H : Sep X G w0 w (L1 ++ L) R) : Sep (X ++ zbz L) (zbz L1) w w L1 R :=
 ⟨Frm.refl _ _, fun k hk => by
  rcases List.mem_append.1 hk with h | h
  ·exact jT (H.xlt k h) H.frm.size
  ·exact H.lt k (by rw [zbS]; exact List.mem_append_right _ h), fun r hr => H.holds _ (List.mem_append_left _ hr), by
   have := H.apart
   rw [zbS] at this
   exact (List.nodup_append.1 this).1, fun k hk => .inl hk, fun r hr => (H.facts r hr).mono fun k hk => by
   rw [zbS]
   simp only [List.mem_append] at hk ⊢
   rcases hk with (h | h) | h
   ·exact .inl h
   ·exact .inr (.inr h)
   ·exact .inr (.inl h)⟩
theorem Sep.callA (H : Sep X G w0 w (L1 ++ L) R) (H1 : Sep (X ++ zbz L) (zbz L1) w w1 L2 R1) : Sep X G w0 w1 (L2 ++ L) (R1 ++ R) := by
 have hap : (zbz L1 ++ zbz L).Nodup := by rw [← zbS]; exact H.apart
 have hap := List.nodup_append.1 hap
 have hs := H.frm.size
 have hm : ∀ k ∈ zbz L1, k ∈ zbz (L1 ++ L) := fun k hk => by rw [zbS]; exact List.mem_append_left _ hk
 have hm2 : ∀ k ∈ zbz L, k ∈ zbz (L1 ++ L) := fun k hk => by rw [zbS]; exact List.mem_append_right _ hk
 have keep : ∀ k ∈ zbz L, w1.heap[k]? = w.heap[k]? := fun k hk => H1.frm.block k (H.lt k (hm2 k hk)) fun hm => hap.2.2 k hm k hk rfl
 refine ⟨H.frm.trans H1.frm fun k hk => H.mine k (hm k hk), H.xlt, fun r hr => ?_, ?_, fun k hk => ?_, fun r hr => ?_⟩
 ·rcases List.mem_append.1 hr with h | h
  ·exact H1.holds r h
  ·exact zgT (H.holds r (List.mem_append_right _ h)) fun k hk => keep k (zgU.2 ⟨r, h, hk⟩)
 ·rw [zbS]
  refine List.nodup_append.2 ⟨H1.apart, hap.2.1, fun a ha b hb e => ?_⟩
  subst e
  rcases H1.mine a ha with h | h
  ·exact hap.2.2 a h a hb rfl
  ·have := H.lt a (hm2 a hb)
   omega
 ·rw [zbS] at hk
  rcases List.mem_append.1 hk with h | h
  ·rcases H1.mine k h with h2 | h2
   ·exact H.mine k (hm k h2)
   ·exact .inr (jU hs h2)
  ·exact H.mine k (hm2 k h)
 ·rw [zbS]
  rcases List.mem_append.1 hr with h | h
  ·refine (H1.facts r h).mono fun k hk => ?_
   simp only [List.mem_append] at hk ⊢
   rcases hk with h3 | h3 | h3
   ·exact .inl (.inl h3)
   ·exact .inr h3
   ·exact .inl (.inr h3)
  ·refine (H.facts r h).step H1.frm.size (fun k hk hn => H1.frm.block k hk fun hmm => hn (List.mem_append_right _ (hm k hmm))) fun k hk => ?_
   simp only [List.mem_append] at hk
   rcases hk with h3 | h3 | h3
   ·exact .inl (List.mem_append_left _ h3)
   ·rcases H1.mine k h3 with h4 | h4
    ·exact .inl (List.mem_append_right _ (hm k h4))
    ·exact .inr h4
   ·exact .inl (List.mem_append_right _ (hm2 k h3))
theorem Sep.giveD (H : Sep X [] w0 w (L1 ++ L) R) : ∀ k ∈ zbz L1, k ∉ X ++ zbz L := fun k hk hm => by
 rcases List.mem_append.1 hm with h | h
 ·have := H.xlt k h
  rcases H.mine k (by rw [zbS]; exact List.mem_append_left _ hk) with h2 | h2
  ·cases h2
  ·omega
 ·have hap : (zbz L1 ++ zbz L).Nodup := by rw [← zbS]; exact H.apart
  exact (List.nodup_append.1 hap).2.2 k hk k h rfl
theorem Sep.freezeX (h : Sep X G w0 w (q :: L) R) (hG : ∀ k ∈ q.keys, k ∉ X) : Sep X G w0 w L ((fun w => q.holds w) :: R) := by
 refine h.popL.know fun w' hk => zgT (h.holds q (List.mem_cons_self ..)) fun k hq => hk k (zkd (h.holds q (List.mem_cons_self ..)) k hq) fun hm => ?_
 rcases List.mem_append.1 hm with h1 | h1
 ·exact hG k hq h1
 ·exact (List.nodup_append.1 h.apart).2.2 k hq k h1 rfl
theorem Sep.rowTx {e c : Nat} {A : Option Addr} {k : List Nat} (H : Sep X G w0 w (.row (.slice A k.length c) e 1 k.length (k.map bv) :: L) R) (hX : ∀ i ∈ (Res.row (.slice A k.length c) e 1 k.length (k.map bv)).keys, i ∉ X) (hl : k.length ≤ 140737488355328) (hb : ∀ x ∈ k, x < 256) : Sep X G w0 w L (TxF A c k :: R) := by
 have hf := H.freezeX hX
 obtain ⟨A', c', h1, h2⟩ := zxh (e := e) (v := .slice A k.length c) (hf.facts _ (List.mem_cons_self ..)) hl hb
 injection h1 with h1 _ h3
 subst h1 h3
 exact hf.pop.know h2
theorem Sep.new_x (H : Sep X [] w0 w (q :: L) R) : ∀ k ∈ q.keys, k ∉ X := fun k hk hm => by
 have := H.xlt k hm
 rcases H.mine k (List.mem_append_left _ hk) with h2 | h2
 ·cases h2
 ·omega
theorem zfg {e : TypeId} {k : List Nat} {w' : World} (hX : ∀ k ∈ X, k < w0.heap.size) (h : Own w' w0.heap.size e v k) (hb : Below w0.heap.size w0 w') : ∃ A c, v = .slice A k.length c ∧ Sep X [] w0 w' [.row (.slice A k.length c) e 1 k.length (k.map bv)] [] := by
 have hq : w'.ownsRow 0 e 1 v k.length (k.map bv) := h.mono (Nat.zero_le _)
 obtain ⟨A, c, hv, _⟩ := h.txt
 subst hv
 refine ⟨A, c, rfl, (Sep.start hX (R := []) fun _ h => by cases h).own (Frm.of_below hb) hq (fun i hi => ?_) ?_⟩
 ·simp only [Res.keys, Option.mem_toList] at hi
  exact (h.lt i hi).1
 ·cases hq : (Value.slice A k.length c).ownBlock <;> simp [Res.keys, hq]
end
end
section
open Go.RowKit
theorem BT : ByteT Tryz.prog 24 5 := ⟨Tryz.underlying24, Tryz.underlying5, by kernel_rfl⟩
def zrU (w : World) (l : List Nat) (e : Ending) (w' : World) : Prop := ∃ v, e = .returned v ∧ Own w' w.heap.size 5 v l ∧ Below w.heap.size w w'
theorem zuT (A : Option Addr) (n c : Nat) (l : List Nat) (w : World) (h : Txt w w.heap.size A n c l) (hn : n ≤ 140737488355328) :
  Calls Tryz.prog 40 #[.slice A n c] w (zrU w l) := by
 go_enter Tryz.func40, Tryz.ntmps40
 go_wp2_with (refine zcI rfl rfl BT (v := .slice none 0 0) (l := []) rfl rfl Own.nil_ h (by simpa using hn) (jV _) ?_; intro v1 w1 hown hg hat)
 go_ret
 exact ⟨v1, rfl, by simpa using hown, (Below.refl _ _).grown hg (jV _) (fun k hk => by cases hk)⟩
theorem zrV (w : World) (e : TypeId) : Own (w.alloc (.cells #[] e)) w.heap.size e (.slice (some ⟨w.heap.size, 0, none⟩) 0 0) [] :=
 ⟨rfl, .inr ⟨w.heap.size, 0, #[], rfl, jV _, heap_alloc_new w _, jV _, Nat.zero_le _, rfl, rfl⟩⟩
theorem zuU (A : Option Addr) (n c : Nat) (l : List Nat) (A' : Option Addr) (n' c' : Nat) (l' : List Nat) (B : Nat) (w : World) (h : Txt w B A n c l) (h' : Txt w B A' n' c' l') (hl : ∀ x ∈ l, x < 256) (hl' : ∀ x ∈ l', x < 256) :
  Calls Tryz.prog 11 #[.slice A n c, .slice A' n' c'] w fun e w' => e = .returned (.bool (decide (l = l'))) ∧ w = w' := by
 have e1 := zfz (P := Tryz.prog) (dst := 9) BT Tryz.underlying9 h hl
 have e2 := zfz (P := Tryz.prog) (dst := 9) BT Tryz.underlying9 h' hl'
 go_enter Tryz.func11, Tryz.ntmps11
 go_wp2
 go_ret
 refine ⟨?_, rfl⟩
 show Ending.returned (Value.bool _) = Ending.returned (Value.bool _)
 rw [show (List.map UInt8.ofNat l == List.map UInt8.ofNat l') = decide (l = l') from by rw [Bool.eq_iff_iff, beq_iff_eq, jS, zrI hl hl']]
def beK (w n k : Nat) : List Nat := (List.range k).map fun i => n / 2 ^ (8 * (w - 1 - i)) % 256
def beL (w n : Nat) : List Nat := beK w n w
theorem zrW (w n k : Nat) : (beK w n k).length = k := by unfold beK; simp
theorem zuV (w n k : Nat) : beK w n (k + 1) = beK w n k ++ [n / 2 ^ (8 * (w - 1 - k)) % 256] := by unfold beK; rw [List.range_succ, List.map_append]; rfl
theorem zmS (w n : Nat) : ∀ x ∈ beL w n, x < 256 := fun x hx => by
 unfold beL beK at hx
 obtain ⟨i, _, rfl⟩ := List.mem_map.1 hx
 exact Nat.mod_lt _ (by omega)
attribute [local irreducible] beK
theorem zrX (w : World) (e : TypeId) (x : Nat) : Txt (w.alloc (.cells #[bv x] e)) (w.heap.size + 1) (some ⟨w.heap.size, 0, none⟩) 1 1 [x] :=
 ⟨rfl, (fun e => by cases e), fun _ => ⟨_, rfl, Nat.lt_succ_self _, fun i y hy => by
  cases i with
  | zero =>
   simp only [jD, Option.some.injEq] at hy
   subst hy
   rw [zcu, cell_of_row _ _ _ _ _ _ (heap_alloc_new w (.cells #[bv x] e))]
   rfl
  | succ i => simp at hy⟩⟩
end
section
open Go.RowKit
theorem zmT (A : Option Addr) (n c : Nat) (l : List Nat) (w : World) (h : Txt w w.heap.size A n c l) (hn : n ≤ 140737488355328) :
  Calls Tryz.prog 96 #[.slice A n c] w (zrU w l) := by
 cases A with
 | none =>
  obtain ⟨rfl, rfl⟩ := h.nil rfl
  obtain rfl : l = [] := List.eq_nil_of_length_eq_zero h.len
  have he := fun w => Lib.run_eql_slice_nil (P := Tryz.prog) w 24 5 none 0 0 0 0 Tryz.underlying24
  go_enter Tryz.func96, Tryz.ntmps96
  go_wp2
  go_ret
  exact ⟨_, rfl, Own.nil_, Below.refl _ _⟩
 | some ad =>
  have he := fun w => Lib.run_eql_slice_nil (P := Tryz.prog) w 24 5 (some ad) n c 0 0 Tryz.underlying24
  have ho := zrV w 5
  have hb : Below w.heap.size w (w.alloc (.cells #[] 5)) := (Below.refl _ _).alloc (jV _) _
  go_enter Tryz.func96, Tryz.ntmps96
  go_wp2_with (refine zcI rfl rfl BT (l := []) rfl rfl ho (h.below hb) (by simpa using hn) (by simp) ?_; intro v1 w1 hown hg hat)
  go_ret
  exact ⟨v1, rfl, by simpa using hown, zfI hb ho hg (jV _) (by simp)⟩
theorem zrY (v : Value) (l : List Nat) (base : Nat) (W n : Nat) (hW : W ≤ 8) (hn : n < 18446744073709551616) (hl : l.length + 8 ≤ 140737488355328) (w : World) (hown : Own w base 5 v l) (hbase : base ≤ w.heap.size) :
  Calls Tryz.prog 78 #[v, .int .i64 W, .int .u64 n] w fun e w' => (∃ v', e = .returned v' ∧ Own w' base 5 v' (l ++ beL W n)) ∧ Below base w w' := by
 go_enter Tryz.func78, Tryz.ntmps78
 go_wp2
 have hown' := Lib.hid hown
 clear hown
 go_loopg [0, 7] W (fun k v i wr => i = .int .i64 ((k : Int) - 1) ∧ k ≤ W ∧ Own wr base 5 v (l ++ beK W n (W - k)) ∧ Below base w wr ∧ base ≤ wr.heap.size)
 case atStart => exact ⟨rfl, jV _, (by rw [Nat.sub_self]; unfold beK; simpa using hown'.out), Below.refl _ _, hbase⟩
 case round =>
  obtain ⟨rfl, hk, ho, hB, hs⟩ := hrel
  have ho' := Lib.hid ho
  clear ho
  rcases Nat.eq_zero_or_pos gk with hz | hz
  ·subst hz
   go_wp2
   go_ret
   refine ⟨⟨_, rfl, ?_⟩, hB⟩
   exact ho'.out
  ·obtain ⟨k, rfl⟩ : ∃ k, gk = k + 1 := ⟨gk - 1, by omega⟩
   have ek : ((k + 1 : Nat) : Int) - 1 = (k : Int) := by omega
   rw [ek]
   obtain ⟨x, hx⟩ : ∃ x, x = n / 2 ^ (8 * k) % 256 := ⟨_, rfl⟩
   have ex : (n : Int) / 2 ^ (8 * k) % 256 = (x : Int) := by rw [hx, Int.natCast_emod, Int.natCast_ediv, Int.natCast_pow]; rfl
   have en : beK W n (W - (k + 1)) ++ [x] = beK W n (W - k) := by
    rw [show W - k = (W - (k + 1)) + 1 from by omega, zuV, hx, show W - 1 - (W - (k + 1)) = k from by omega]
   have EN := Lib.hid en
   have bl := zrW W n (W - (k + 1))
   have BL := Lib.hid bl
   clear hz ek hx en bl
   go_wp2_with (refine zcI rfl rfl BT rfl rfl (ho'.out.alloc (.cells #[bv x] 5)) (zrX wr 5 x) (by have := BL.out; simp; omega) (by simp; omega) ?_; intro v1 w1 hown hg hat)
   have hb1 := zfI (hB.alloc hs (.cells #[bv x] 5)) (ho'.out.alloc (.cells #[bv x] 5)) hg (jV _) (by simp; omega)
   go_roundg k
   case measure => omega
   case rel => exact ⟨by go_num, by omega, (by rw [← EN.out, ← List.append_assoc]; exact hown), hb1, jU hs (jU (by simp) hg.size)⟩
end
section
open Go.RowKit
theorem zxt : ∀ i : Fin 256, 0 ≤ Lib.len8 (i.val : Int) ∧ Lib.len8 (i.val : Int) ≤ 8 ∧ (i.val ≠ 0 → 1 ≤ Lib.len8 (i.val : Int)) ∧ (i.val = 0 → Lib.len8 (i.val : Int) = 0) := by decide +kernel
theorem zxu (n r k : Nat) (h1 : k = 0 ∨ 256 ^ k ≤ n) (h2 : n < 256 ^ (k + 1)) (h3 : (8 * k + 1 ≤ r ∧ 1 ≤ n) ∨ (n = 0 ∧ r = 0)) (h4 : r ≤ 8 * k + 8) (W : Nat) : r ≤ 8 * W ↔ n < 256 ^ W := by
 have hp : 0 < 256 ^ W := Nat.pow_pos (by omega)
 rcases h3 with ⟨h3, h5⟩ | ⟨rfl, rfl⟩
 ·rcases Nat.lt_or_ge k W with h | h
  ·have := Nat.pow_le_pow_right (n := 256) (by omega) h
   constructor
   ·intro _; exact jT h2 this
   ·intro _; omega
  ·have hle := Nat.pow_le_pow_right (n := 256) (by omega) h
   constructor
   ·intro hr; omega
   ·intro hn
    rcases h1 with rfl | h1
    ·obtain rfl : W = 0 := by omega
     rw [Nat.pow_zero] at hn
     omega
    ·omega
 ·exact ⟨fun _ => hp, fun _ => Nat.zero_le _⟩
theorem zfN (n k : Nat) (hk : k < 8) (h1 : k = 0 ∨ 256 ^ k ≤ n) (h2 : n < 256 ^ (k + 1)) (h0 : n = 0 ∨ 1 ≤ n / 256 ^ k) (W : Nat) :
  (8 * k + (Lib.len8 ((n / 256 ^ k : Nat) : Int)).toNat ≤ 8 * W ↔ n < 256 ^ W) ∧ 0 ≤ Lib.len8 ((n / 256 ^ k : Nat) : Int) ∧ Lib.len8 ((n / 256 ^ k : Nat) : Int) ≤ 8 := by
 have hlt : n / 256 ^ k < 256 := by
  rw [Nat.pow_succ] at h2
  exact Nat.div_lt_of_lt_mul h2
 obtain ⟨a, b, c, d⟩ := zxt ⟨n / 256 ^ k, hlt⟩
 simp only at a b c d
 refine ⟨zxu n _ k h1 h2 ?_ (by omega) W, a, b⟩
 rcases h0 with rfl | h0
 ·rcases h1 with rfl | h1
  ·rw [Nat.zero_div] at d
   have := d rfl
   rw [Nat.zero_div, this]
   exact .inr ⟨rfl, rfl⟩
  ·have : 0 < 256 ^ k := Nat.pow_pos (by omega)
   omega
 ·have := c (by omega)
  refine .inl ⟨by omega, ?_⟩
  rcases Nat.eq_zero_or_pos n with hz | hz
  ·rw [hz, Nat.zero_div] at h0; omega
  ·exact hz
theorem zxv (x : Int) (h0 : 0 ≤ x) (h1 : x < 256) (w : World) :
  Calls Tryz.prog 121 #[.int .u64 x] w fun e w' => (∃ r : Nat, e = .returned (.int .i64 r) ∧ ∀ W, r ≤ 8 * W ↔ x.toNat < 256 ^ W) ∧ w = w' := by
 have d_x1 : decide ((4294967296 : Int) ≤ x) = false := decide_eq_false (by omega)
 have d_x2 : decide ((65536 : Int) ≤ x) = false := decide_eq_false (by omega)
 have d_x3 : decide ((256 : Int) ≤ x) = false := decide_eq_false (by omega)
 have q0 : 0 ≤ x := by omega
 have q1 : x ≤ 255 := by omega
 have q2 : x = ((x.toNat / 256 ^ 0 : Nat) : Int) := by rw [show (256 : Nat) ^ 0 = 1 from rfl]; omega
 have rm := zfN x.toNat 0 (by omega) (.inl rfl) (by rw [show (256 : Nat) ^ (0 + 1) = 256 from rfl]; omega) (by rw [show (256 : Nat) ^ 0 = 1 from rfl]; omega)
 rw [← q2] at rm
 have bd := (rm 0).2
 obtain ⟨l, hl⟩ := Int.eq_ofNat_of_zero_le bd.1
 have tb := fun (w : World) => Lib.run_index_len8tab (P := Tryz.prog) (w := w) 9 .u8 x Tryz.underlying9 q0 q1
 rw [hl] at tb bd
 have bl : l ≤ 8 := by omega
 have RM := Lib.hid (fun W => (rm W).1)
 rw [hl, Int.toNat_natCast] at RM
 clear rm q2 hl bd
 go_enter Tryz.func121, Tryz.ntmps121
 go_wp2
 go_ret
 refine ⟨⟨0 + l, ?_, RM.out⟩, rfl⟩
 first | rfl | (congr 2; omega) | (show Ending.returned (Value.int .i64 _) = Ending.returned (Value.int .i64 _); congr 2; omega)
theorem zxw (x : Int) (h0 : 256 ≤ x) (h1 : x < 65536) (w : World) :
  Calls Tryz.prog 121 #[.int .u64 x] w fun e w' => (∃ r : Nat, e = .returned (.int .i64 r) ∧ ∀ W, r ≤ 8 * W ↔ x.toNat < 256 ^ W) ∧ w = w' := by
 have d_x1 : decide ((4294967296 : Int) ≤ x) = false := decide_eq_false (by omega)
 have d_x2 : decide ((65536 : Int) ≤ x) = false := decide_eq_false (by omega)
 have d_x3 : decide ((256 : Int) ≤ x) = true := decide_eq_true (by omega)
 obtain ⟨x3, hx3⟩ : ∃ y, y = x / 256 := ⟨_, rfl⟩
 have e_x3 : x / 256 = x3 := hx3.symm
 have q0 : 0 ≤ x3 := by omega
 have q1 : x3 ≤ 255 := by omega
 have q2 : x3 = ((x.toNat / 256 ^ 1 : Nat) : Int) := by rw [show (256 : Nat) ^ 1 = 256 from rfl]; omega
 have rm := zfN x.toNat 1 (by omega) (.inr (by rw [show (256 : Nat) ^ 1 = 256 from rfl]; omega)) (by rw [show (256 : Nat) ^ (1 + 1) = 65536 from rfl]; omega) (by rw [show (256 : Nat) ^ 1 = 256 from rfl]; omega)
 rw [← q2] at rm
 have bd := (rm 0).2
 obtain ⟨l, hl⟩ := Int.eq_ofNat_of_zero_le bd.1
 have tb := fun (w : World) => Lib.run_index_len8tab (P := Tryz.prog) (w := w) 9 .u8 x3 Tryz.underlying9 q0 q1
 rw [hl] at tb bd
 have bl : l ≤ 8 := by omega
 have RM := Lib.hid (fun W => (rm W).1)
 rw [hl, Int.toNat_natCast] at RM
 clear rm q2 hl bd hx3
 go_enter Tryz.func121, Tryz.ntmps121
 go_wp2
 go_ret
 refine ⟨⟨8 + l, ?_, RM.out⟩, rfl⟩
 first | rfl | (congr 2; omega) | (show Ending.returned (Value.int .i64 _) = Ending.returned (Value.int .i64 _); congr 2; omega)
theorem zxx (x : Int) (h0 : 65536 ≤ x) (h1 : x < 16777216) (w : World) :
  Calls Tryz.prog 121 #[.int .u64 x] w fun e w' => (∃ r : Nat, e = .returned (.int .i64 r) ∧ ∀ W, r ≤ 8 * W ↔ x.toNat < 256 ^ W) ∧ w = w' := by
 have d_x1 : decide ((4294967296 : Int) ≤ x) = false := decide_eq_false (by omega)
 have d_x2 : decide ((65536 : Int) ≤ x) = true := decide_eq_true (by omega)
 obtain ⟨x2, hx2⟩ : ∃ y, y = x / 65536 := ⟨_, rfl⟩
 have e_x2 : x / 65536 = x2 := hx2.symm
 have d_x3 : decide ((256 : Int) ≤ x2) = false := decide_eq_false (by omega)
 have q0 : 0 ≤ x2 := by omega
 have q1 : x2 ≤ 255 := by omega
 have q2 : x2 = ((x.toNat / 256 ^ 2 : Nat) : Int) := by rw [show (256 : Nat) ^ 2 = 65536 from rfl]; omega
 have rm := zfN x.toNat 2 (by omega) (.inr (by rw [show (256 : Nat) ^ 2 = 65536 from rfl]; omega)) (by rw [show (256 : Nat) ^ (2 + 1) = 16777216 from rfl]; omega) (by rw [show (256 : Nat) ^ 2 = 65536 from rfl]; omega)
 rw [← q2] at rm
 have bd := (rm 0).2
 obtain ⟨l, hl⟩ := Int.eq_ofNat_of_zero_le bd.1
 have tb := fun (w : World) => Lib.run_index_len8tab (P := Tryz.prog) (w := w) 9 .u8 x2 Tryz.underlying9 q0 q1
 rw [hl] at tb bd
 have bl : l ≤ 8 := by omega
 have RM := Lib.hid (fun W => (rm W).1)
 rw [hl, Int.toNat_natCast] at RM
 clear rm q2 hl bd hx2
 go_enter Tryz.func121, Tryz.ntmps121
 go_wp2
 go_ret
 refine ⟨⟨16 + l, ?_, RM.out⟩, rfl⟩
 first | rfl | (congr 2; omega) | (show Ending.returned (Value.int .i64 _) = Ending.returned (Value.int .i64 _); congr 2; omega)
theorem zxy (x : Int) (h0 : 16777216 ≤ x) (h1 : x < 4294967296) (w : World) :
  Calls Tryz.prog 121 #[.int .u64 x] w fun e w' => (∃ r : Nat, e = .returned (.int .i64 r) ∧ ∀ W, r ≤ 8 * W ↔ x.toNat < 256 ^ W) ∧ w = w' := by
 have d_x1 : decide ((4294967296 : Int) ≤ x) = false := decide_eq_false (by omega)
 have d_x2 : decide ((65536 : Int) ≤ x) = true := decide_eq_true (by omega)
 obtain ⟨x2, hx2⟩ : ∃ y, y = x / 65536 := ⟨_, rfl⟩
 have e_x2 : x / 65536 = x2 := hx2.symm
 have d_x3 : decide ((256 : Int) ≤ x2) = true := decide_eq_true (by omega)
 obtain ⟨x3, hx3⟩ : ∃ y, y = x2 / 256 := ⟨_, rfl⟩
 have e_x3 : x2 / 256 = x3 := hx3.symm
 have q0 : 0 ≤ x3 := by omega
 have q1 : x3 ≤ 255 := by omega
 have q2 : x3 = ((x.toNat / 256 ^ 3 : Nat) : Int) := by rw [show (256 : Nat) ^ 3 = 16777216 from rfl]; omega
 have rm := zfN x.toNat 3 (by omega) (.inr (by rw [show (256 : Nat) ^ 3 = 16777216 from rfl]; omega)) (by rw [show (256 : Nat) ^ (3 + 1) = 4294967296 from rfl]; omega) (by rw [show (256 : Nat) ^ 3 = 16777216 from rfl]; omega)
 rw [← q2] at rm
 have bd := (rm 0).2
 obtain ⟨l, hl⟩ := Int.eq_ofNat_of_zero_le bd.1
 have tb := fun (w : World) => Lib.run_index_len8tab (P := Tryz.prog) (w := w) 9 .u8 x3 Tryz.underlying9 q0 q1
 rw [hl] at tb bd
 have bl : l ≤ 8 := by omega
 have RM := Lib.hid (fun W => (rm W).1)
 rw [hl, Int.toNat_natCast] at RM
 clear rm q2 hl bd hx2 hx3
 go_enter Tryz.func121, Tryz.ntmps121
 go_wp2
 go_ret
 refine ⟨⟨24 + l, ?_, RM.out⟩, rfl⟩
 first | rfl | (congr 2; omega) | (show Ending.returned (Value.int .i64 _) = Ending.returned (Value.int .i64 _); congr 2; omega)
theorem zxz (x : Int) (h0 : 4294967296 ≤ x) (h1 : x < 1099511627776) (w : World) :
  Calls Tryz.prog 121 #[.int .u64 x] w fun e w' => (∃ r : Nat, e = .returned (.int .i64 r) ∧ ∀ W, r ≤ 8 * W ↔ x.toNat < 256 ^ W) ∧ w = w' := by
 have d_x1 : decide ((4294967296 : Int) ≤ x) = true := decide_eq_true (by omega)
 obtain ⟨x1, hx1⟩ : ∃ y, y = x / 4294967296 := ⟨_, rfl⟩
 have e_x1 : x / 4294967296 = x1 := hx1.symm
 have d_x2 : decide ((65536 : Int) ≤ x1) = false := decide_eq_false (by omega)
 have d_x3 : decide ((256 : Int) ≤ x1) = false := decide_eq_false (by omega)
 have q0 : 0 ≤ x1 := by omega
 have q1 : x1 ≤ 255 := by omega
 have q2 : x1 = ((x.toNat / 256 ^ 4 : Nat) : Int) := by rw [show (256 : Nat) ^ 4 = 4294967296 from rfl]; omega
 have rm := zfN x.toNat 4 (by omega) (.inr (by rw [show (256 : Nat) ^ 4 = 4294967296 from rfl]; omega)) (by rw [show (256 : Nat) ^ (4 + 1) = 1099511627776 from rfl]; omega) (by rw [show (256 : Nat) ^ 4 = 4294967296 from rfl]; omega)
 rw [← q2] at rm
 have bd := (rm 0).2
 obtain ⟨l, hl⟩ := Int.eq_ofNat_of_zero_le bd.1
 have tb := fun (w : World) => Lib.run_index_len8tab (P := Tryz.prog) (w := w) 9 .u8 x1 Tryz.underlying9 q0 q1
 rw [hl] at tb bd
 have bl : l ≤ 8 := by omega
 have RM := Lib.hid (fun W => (rm W).1)
 rw [hl, Int.toNat_natCast] at RM
 clear rm q2 hl bd hx1
 go_enter Tryz.func121, Tryz.ntmps121
 go_wp2
 go_ret
 refine ⟨⟨32 + l, ?_, RM.out⟩, rfl⟩
 first | rfl | (congr 2; omega) | (show Ending.returned (Value.int .i64 _) = Ending.returned (Value.int .i64 _); congr 2; omega)
theorem zxA (x : Int) (h0 : 1099511627776 ≤ x) (h1 : x < 281474976710656) (w : World) :
  Calls Tryz.prog 121 #[.int .u64 x] w fun e w' => (∃ r : Nat, e = .returned (.int .i64 r) ∧ ∀ W, r ≤ 8 * W ↔ x.toNat < 256 ^ W) ∧ w = w' := by
 have d_x1 : decide ((4294967296 : Int) ≤ x) = true := decide_eq_true (by omega)
 obtain ⟨x1, hx1⟩ : ∃ y, y = x / 4294967296 := ⟨_, rfl⟩
 have e_x1 : x / 4294967296 = x1 := hx1.symm
 have d_x2 : decide ((65536 : Int) ≤ x1) = false := decide_eq_false (by omega)
 have d_x3 : decide ((256 : Int) ≤ x1) = true := decide_eq_true (by omega)
 obtain ⟨x3, hx3⟩ : ∃ y, y = x1 / 256 := ⟨_, rfl⟩
 have e_x3 : x1 / 256 = x3 := hx3.symm
 have q0 : 0 ≤ x3 := by omega
 have q1 : x3 ≤ 255 := by omega
 have q2 : x3 = ((x.toNat / 256 ^ 5 : Nat) : Int) := by rw [show (256 : Nat) ^ 5 = 1099511627776 from rfl]; omega
 have rm := zfN x.toNat 5 (by omega) (.inr (by rw [show (256 : Nat) ^ 5 = 1099511627776 from rfl]; omega)) (by rw [show (256 : Nat) ^ (5 + 1) = 281474976710656 from rfl]; omega) (by rw [show (256 : Nat) ^ 5 = 1099511627776 from rfl]; omega)
 rw [← q2] at rm
 have bd := (rm 0).2
 obtain ⟨l, hl⟩ := Int.eq_ofNat_of_zero_le bd.1
 have tb := fun (w : World) => Lib.run_index_len8tab (P := Tryz.prog) (w := w) 9 .u8 x3 Tryz.underlying9 q0 q1
 rw [hl] at tb bd
 have bl : l ≤ 8 := by omega
 have RM := Lib.hid (fun W => (rm W).1)
 rw [hl, Int.toNat_natCast] at RM
 clear rm q2 hl bd hx1 hx3
 go_enter Tryz.func121, Tryz.ntmps121
 go_wp2
 go_ret
 refine ⟨⟨40 + l, ?_, RM.out⟩, rfl⟩
 first | rfl | (congr 2; omega) | (show Ending.returned (Value.int .i64 _) = Ending.returned (Value.int .i64 _); congr 2; omega)
theorem zxB (x : Int) (h0 : 281474976710656 ≤ x) (h1 : x < 72057594037927936) (w : World) :
  Calls Tryz.prog 121 #[.int .u64 x] w fun e w' => (∃ r : Nat, e = .returned (.int .i64 r) ∧ ∀ W, r ≤ 8 * W ↔ x.toNat < 256 ^ W) ∧ w = w' := by
 have d_x1 : decide ((4294967296 : Int) ≤ x) = true := decide_eq_true (by omega)
 obtain ⟨x1, hx1⟩ : ∃ y, y = x / 4294967296 := ⟨_, rfl⟩
 have e_x1 : x / 4294967296 = x1 := hx1.symm
 have d_x2 : decide ((65536 : Int) ≤ x1) = true := decide_eq_true (by omega)
 obtain ⟨x2, hx2⟩ : ∃ y, y = x1 / 65536 := ⟨_, rfl⟩
 have e_x2 : x1 / 65536 = x2 := hx2.symm
 have d_x3 : decide ((256 : Int) ≤ x2) = false := decide_eq_false (by omega)
 have q0 : 0 ≤ x2 := by omega
 have q1 : x2 ≤ 255 := by omega
 have q2 : x2 = ((x.toNat / 256 ^ 6 : Nat) : Int) := by rw [show (256 : Nat) ^ 6 = 281474976710656 from rfl]; omega
 have rm := zfN x.toNat 6 (by omega) (.inr (by rw [show (256 : Nat) ^ 6 = 281474976710656 from rfl]; omega)) (by rw [show (256 : Nat) ^ (6 + 1) = 72057594037927936 from rfl]; omega) (by rw [show (256 : Nat) ^ 6 = 281474976710656 from rfl]; omega)
 rw [← q2] at rm
 have bd := (rm 0).2
 obtain ⟨l, hl⟩ := Int.eq_ofNat_of_zero_le bd.1
 have tb := fun (w : World) => Lib.run_index_len8tab (P := Tryz.prog) (w := w) 9 .u8 x2 Tryz.underlying9 q0 q1
 rw [hl] at tb bd
 have bl : l ≤ 8 := by omega
 have RM := Lib.hid (fun W => (rm W).1)
 rw [hl, Int.toNat_natCast] at RM
 clear rm q2 hl bd hx1 hx2
 go_enter Tryz.func121, Tryz.ntmps121
 go_wp2
 go_ret
 refine ⟨⟨48 + l, ?_, RM.out⟩, rfl⟩
 first | rfl | (congr 2; omega) | (show Ending.returned (Value.int .i64 _) = Ending.returned (Value.int .i64 _); congr 2; omega)
theorem zxC (x : Int) (h0 : 72057594037927936 ≤ x) (h1 : x ≤ 18446744073709551615) (w : World) :
  Calls Tryz.prog 121 #[.int .u64 x] w fun e w' => (∃ r : Nat, e = .returned (.int .i64 r) ∧ ∀ W, r ≤ 8 * W ↔ x.toNat < 256 ^ W) ∧ w = w' := by
 have d_x1 : decide ((4294967296 : Int) ≤ x) = true := decide_eq_true (by omega)
 obtain ⟨x1, hx1⟩ : ∃ y, y = x / 4294967296 := ⟨_, rfl⟩
 have e_x1 : x / 4294967296 = x1 := hx1.symm
 have d_x2 : decide ((65536 : Int) ≤ x1) = true := decide_eq_true (by omega)
 obtain ⟨x2, hx2⟩ : ∃ y, y = x1 / 65536 := ⟨_, rfl⟩
 have e_x2 : x1 / 65536 = x2 := hx2.symm
 have d_x3 : decide ((256 : Int) ≤ x2) = true := decide_eq_true (by omega)
 obtain ⟨x3, hx3⟩ : ∃ y, y = x2 / 256 := ⟨_, rfl⟩
 have e_x3 : x2 / 256 = x3 := hx3.symm
 have q0 : 0 ≤ x3 := by omega
 have q1 : x3 ≤ 255 := by omega
 have q2 : x3 = ((x.toNat / 256 ^ 7 : Nat) : Int) := by rw [show (256 : Nat) ^ 7 = 72057594037927936 from rfl]; omega
 have rm := zfN x.toNat 7 (by omega) (.inr (by rw [show (256 : Nat) ^ 7 = 72057594037927936 from rfl]; omega)) (by rw [show (256 : Nat) ^ (7 + 1) = 18446744073709551616 from rfl]; omega) (by rw [show (256 : Nat) ^ 7 = 72057594037927936 from rfl]; omega)
 rw [← q2] at rm
 have bd := (rm 0).2
 obtain ⟨l, hl⟩ := Int.eq_ofNat_of_zero_le bd.1
 have tb := fun (w : World) => Lib.run_index_len8tab (P := Tryz.prog) (w := w) 9 .u8 x3 Tryz.underlying9 q0 q1
 rw [hl] at tb bd
 have bl : l ≤ 8 := by omega
 have RM := Lib.hid (fun W => (rm W).1)
 rw [hl, Int.toNat_natCast] at RM
 clear rm q2 hl bd hx1 hx2 hx3
 go_enter Tryz.func121, Tryz.ntmps121
 go_wp2
 go_ret
 refine ⟨⟨56 + l, ?_, RM.out⟩, rfl⟩
 first | rfl | (congr 2; omega) | (show Ending.returned (Value.int .i64 _) = Ending.returned (Value.int .i64 _); congr 2; omega)
theorem zrZ (x : Int) (h0 : 0 ≤ x) (h1 : x ≤ 18446744073709551615) (w : World) :
  Calls Tryz.prog 121 #[.int .u64 x] w fun e w' => (∃ r : Nat, e = .returned (.int .i64 r) ∧ ∀ W, r ≤ 8 * W ↔ x.toNat < 256 ^ W) ∧ w = w' := by
 by_cases g0 : x < 256
 ·exact zxv x (by omega) g0 w
 by_cases g1 : x < 65536
 ·exact zxw x (by omega) g1 w
 by_cases g2 : x < 16777216
 ·exact zxx x (by omega) g2 w
 by_cases g3 : x < 4294967296
 ·exact zxy x (by omega) g3 w
 by_cases g4 : x < 1099511627776
 ·exact zxz x (by omega) g4 w
 by_cases g5 : x < 281474976710656
 ·exact zxA x (by omega) g5 w
 by_cases g6 : x < 72057594037927936
 ·exact zxB x (by omega) g6 w
 exact zxC x (by omega) h1 w
end
section
open Go.RowKit
abbrev zfF := Value → World → Prop
def zbQ : List Oper → Act → List Value → Act
 | o :: l, a, x :: xs => zbQ l (a.put o.dst x) xs
 | _, a, _ => a
def zfO : Nat → (List Value → Prop) → Prop
 | 0, p => p []
 | n + 1, p => ∀ x, zfO n fun xs => p (x :: xs)
theorem zgA : ∀ (n : Nat) (p : List Value → Prop), zfO n p → ∀ xs, xs.length = n → p xs
 | 0, p, h, xs, hx => by cases xs with | nil => exact h | cons x xs => simp at hx
 | n + 1, p, h, xs, hx => by
  cases xs with
  | nil => simp at hx
  | cons x xs => exact zgA n (fun xs => p (x :: xs)) (h x) xs (by simpa using hx)
def zbA (R : List zfF) (xs : List Value) (w : World) (j : Nat) : Prop :=
 match R[j]?, xs[j]? with
 | some r, some x => r x w
 | _, _ => True
def zcD (R : List zfF) (xs : List Value) (w : World) : List Nat → Prop → Prop
 | [], p => p
 | j :: js, p => zbA R xs w j → zcD R xs w js p
theorem zfh {R : List zfF} {xs : List Value} {w : World} {p : Prop} : ∀ (js : List Nat), zcD R xs w js p → (∀ j ∈ js, zbA R xs w j) → p
 | [], h, _ => h
 | j :: js, h, hj => zfh js (h (hj j (by simp))) (fun k hk => hj k (by simp [hk]))
def zbX (P : Program) (ops : Array Oper) (Q : Exit → Act → World → Prop) (o : Oper) (r : zfF) (a : Act) (w : World) : Prop :=
 if Region.wanted o (yielded ops a.tmps) then o.wp P a w (fun a' w' => Below w.heap.size w w' ∧ ∃ v, a' = a.put o.dst v ∧ r v w') Q else r undef w
def zdZ (P : Program) (ops : Array Oper) (Q : Exit → Act → World → Prop) (n : Nat) (hd : List Oper) (a : Act) (w0 : World) (R : List zfF) : List (Oper × zfF × List Nat) → Prop
 | [] => True
 | (o, r, js) :: l => (zfO n fun xs => ∀ w', Below w0.heap.size w0 w' → zcD R xs w' js (zbX P ops Q o r (zbQ hd a xs) w')) ∧ zdZ P ops Q n hd a w0 R l
def zr0 : List Oper → Bool
 | [] => true
 | o :: l => (o.dst.isNone || l.all fun o' => o'.dst != o.dst) && zr0 l
def zmU (ops : List Oper) : Nat → List (List Nat) → Bool
 | _, [] => true
 | i, js :: l => (match ops[i]? with | some o => (o.after.all fun e => !Region.binds .any e || decide (e.on < i)) && js.all (fun j => o.after.any fun e => Region.binds .any e && e.on == j) | none => false) && zmU ops (i + 1) l
def zqK (l : List Oper) (n : Nat) (ps : List (List Nat)) : Bool :=
 Region.noSelect l.toArray && decide (n < l.length) && decide (ps.length = n) && Region.sinkB .any l.toArray n && Region.chainB .any l.toArray n && zr0 (l.take n) && zmU l 0 ps &&
  Region.seqB .any l.toArray (l.length - n) n (List.replicate n true ++ List.replicate (l.length - n) false).toArray
theorem zuW (a : Act) {d d' : Option Tmp} (x y : Value) (h : d = none ∨ d' = none ∨ d ≠ d') : (a.put d x).put d' y = (a.put d' y).put d x := by
 cases d with
 | none => rfl
 | some d =>
  cases d' with
  | none => rfl
  | some d' =>
   have hne : d ≠ d' := by
    rcases h with h | h | h
    ·cases h
    ·cases h
    ·exact fun e => h (by rw [e])
   simp only [Act.put]
   rw [Array.setIfInBounds_comm _ _ hne]
theorem zxD (a : Act) (d : Option Tmp) (x y : Value) : (a.put d x).put d y = a.put d y := by
 cases d with
 | none => rfl
 | some d => simp only [Act.put]; rw [Array.setIfInBounds_setIfInBounds]
theorem zxE (a : Act) (d : Option Tmp) : ∃ x, a.put d x = a := by
 cases d with
 | none => exact ⟨undef, rfl⟩
 | some d =>
  by_cases h : d < a.tmps.size
  ·refine ⟨a.tmps[d], ?_⟩
   simp only [Act.put]
   rw [Array.setIfInBounds_def, dif_pos h, Array.set_getElem_self]
  ·refine ⟨undef, ?_⟩
   simp only [Act.put]
   rw [Array.setIfInBounds_def, dif_neg h]
theorem zis : ∀ (l : List Oper) (a : Act), ∃ xs, xs.length = l.length ∧ zbQ l a xs = a
 | [], a => ⟨[], rfl, rfl⟩
 | o :: l, a => by
  obtain ⟨x, hx⟩ := zxE a o.dst
  obtain ⟨xs, hl, hf⟩ := zis l a
  exact ⟨x :: xs, by simp [hl], by simp only [zbQ]; rw [hx, hf]⟩
theorem zpo : ∀ (l : List Oper) (a : Act) (xs : List Value) (d : Option Tmp) (y : Value), (d = none ∨ ∀ o ∈ l, o.dst ≠ d) → (zbQ l a xs).put d y = zbQ l (a.put d y) xs
 | [], a, xs, d, y, _ => rfl
 | o :: l, a, [], d, y, _ => rfl
 | o :: l, a, x :: xs, d, y, h => by
  simp only [zbQ]
  rw [zpo l _ xs d y (h.imp id fun h o' ho' => h o' (by simp [ho']))]
  rw [zuW a x y (by rcases h with h | h; exact .inr (.inl h); exact .inr (.inr (h o (by simp))))]
theorem zit : ∀ (l : List Oper) (i : Nat) (o : Oper) (a : Act) (xs : List Value) (v : Value), zr0 l = true → l[i]? = some o → i < xs.length → (zbQ l a xs).put o.dst v = zbQ l a (xs.set i v)
 | [], _, _, _, _, _, _, h, _ => by simp at h
 | p :: l, i, o, a, [], v, _, _, h => by simp at h
 | p :: l, 0, o, a, x :: xs, v, hd, ho, _ => by
  simp only [jD, Option.some.injEq] at ho
  subst ho
  simp only [zbQ, jB]
  simp only [zr0, Bool.and_eq_true, Bool.or_eq_true, Option.isNone_iff_eq_none, List.all_eq_true, bne_iff_ne] at hd
  rw [zpo l _ xs _ v hd.1, zxD]
 | p :: l, i + 1, o, a, x :: xs, v, hd, ho, hi => by
  simp only [jE] at ho
  simp only [zbQ, jC]
  simp only [zr0, Bool.and_eq_true] at hd
  exact zit l i o _ xs v hd.2 ho (by simpa using hi)
def zhx (n : Nat) (listed : Array Bool) : Nat := ((List.range n).filter fun i => !listed.getD i true).length
theorem zkY (n : Nat) (listed : Array Bool) (i : Nat) (hi : i < n) (hl : listed.getD i true = false) : zhx n listed = zhx n (listed.setIfInBounds i true) + 1 := by
 have key : ∀ m, ((List.range m).filter fun k => !listed.getD k true).length = ((List.range m).filter fun k => !(listed.setIfInBounds i true).getD k true).length + if i < m then 1 else 0 := by
  intro m
  induction m with
  | zero => rfl
  | succ m ih =>
   rw [List.range_succ, List.filter_append, List.filter_append, jQ, jQ, ih]
   by_cases h : i = m
   ·subst h
    have hs : (listed.setIfInBounds i true).getD i true = true := getD_set_true' listed i
    simp only [List.filter_cons, List.filter_nil, hl, hs]
    simp
   ·have hs : (listed.setIfInBounds i true).getD m true = listed.getD m true := getD_set_ne true h
    simp only [List.filter_cons, List.filter_nil, hs]
    by_cases h2 : i < m
    ·simp only [if_pos h2, if_pos (show i < m + 1 by omega)]; omega
    ·simp only [if_neg h2, if_neg (show ¬ i < m + 1 by omega)]; omega
 have := key n
 rw [if_pos hi] at this
 exact this
where
 getD_set_true' (listed : Array Bool) (i : Nat) : (listed.setIfInBounds i true).getD i true = true := by
  simp [Array.getElem?_setIfInBounds]
  split <;> simp
theorem zdo (n : Nat) (listed : Array Bool) (h : zhx n listed = 0) (i : Nat) (hi : i < n) : listed.getD i true = true := by
 unfold zhx at h
 rw [List.length_eq_zero_iff, List.filter_eq_nil_iff] at h
 have := h i (List.mem_range.2 hi)
 simpa using this
theorem zkZ (n : Nat) (listed : Array Bool) {f : Nat} (h : zhx n listed = f + 1) : ∃ i, i < n ∧ listed.getD i true = false ∧ ∀ j, j < i → listed.getD j true = true := by
 have hex : ∃ i, i < n ∧ listed.getD i true = false := by
  refine Classical.byContradiction fun hno => ?_
  have : zhx n listed = 0 := by
   unfold zhx
   rw [List.length_eq_zero_iff, List.filter_eq_nil_iff]
   intro i hi
   have hi' := List.mem_range.1 hi
   cases hb : listed.getD i true
   ·exact absurd ⟨i, hi', hb⟩ hno
   ·simp
  omega
 obtain ⟨i, hi, hl⟩ := hex
 induction i using Nat.strongRecOn with
 | _ i ih =>
  by_cases hm : ∃ j, j < i ∧ listed.getD j true = false
  ·obtain ⟨j, hj, hjl⟩ := hm
   exact ih j hj (by omega) hjl
  ·refine ⟨i, hi, hl, fun j hj => ?_⟩
   cases hb : listed.getD j true
   ·exact absurd ⟨j, hj, hb⟩ hm
   ·rfl
section
variable {P : Program} {Q : Exit → Act → World → Prop} {l : List Oper} {n : Nat} {a : Act} {w0 : World}
theorem ziZ {R : List zfF} {hd : List Oper} : ∀ (items : List (Oper × zfF × List Nat)), zdZ P l.toArray Q n hd a w0 R items → ∀ (i : Nat) (o : Oper) (r : zfF) (js : List Nat), items[i]? = some (o, r, js) →
  zfO n fun xs => ∀ w', Below w0.heap.size w0 w' → zcD R xs w' js (zbX P l.toArray Q o r (zbQ hd a xs) w')
 | [], _, _, _, _, _, h => by simp at h
 | (o', r', js') :: items, h, 0, o, r, js, hi => by
  simp only [jD, Option.some.injEq, Prod.mk.injEq] at hi
  obtain ⟨rfl, rfl, rfl⟩ := hi
  exact h.1
 | (o', r', js') :: items, h, i + 1, o, r, js, hi => ziZ items h.2 i o r js (by simpa using hi)
theorem zdG (ops : List Oper) : ∀ (ps : List (List Nat)) (k : Nat), zmU ops k ps = true → ∀ i js, ps[i]? = some js → ∃ o, ops[k + i]? = some o ∧ (∀ e ∈ o.after, Region.binds .any e = true → e.on < k + i) ∧ ∀ j ∈ js, ∃ e ∈ o.after, Region.binds .any e = true ∧ e.on = j
 | [], _, _, _, _, h => by simp at h
 | js :: ps, k, hB, 0, js', h => by
  simp only [zmU, Bool.and_eq_true] at hB
  obtain ⟨h1, _⟩ := hB
  simp only [jD, Option.some.injEq] at h
  subst h
  cases ho : ops[k]? with
  | none => rw [ho] at h1; cases h1
  | some o =>
   rw [ho] at h1
   simp only [Bool.and_eq_true, Array.all_eq_true', List.all_eq_true, Bool.or_eq_true, Bool.not_eq_true', jS, Array.any_eq_true', beq_iff_eq] at h1
   refine ⟨o, rfl, fun e he hb => ?_, fun j hj => ?_⟩
   ·rcases h1.1 e he with h | h
    ·rw [hb] at h; cases h
    ·simpa using h
   ·obtain ⟨e, he, hb, h⟩ := h1.2 j hj
    exact ⟨e, he, hb, h⟩
 | js :: ps, k, hB, i + 1, js', h => by
  simp only [zmU, Bool.and_eq_true] at hB
  have := zdG ops ps (k + 1) hB.2 i js' (by simpa using h)
  rwa [show k + 1 + i = k + (i + 1) from by omega] at this
def zhy (r : zfF) : Prop := ∀ v w w', Below w.heap.size w w' → r v w → r v w'
theorem zcW {id : Nat} {w : World} (n : Nat) (R : List zfF) (ps : List (List Nat)) (hm : P.follows .mixedOrders = true) (hB : zqK l n ps = true) (hR : R.length = n) (hst : ∀ r ∈ R, zhy r)
  (hop : zdZ P l.toArray Q n (l.take n) a w.drew R ((l.take n).zip (R.zip ps)))
  (hend : zfO n fun xs => ∀ w', Below w.heap.size w.drew w' → zcD R xs w' (List.range n) (wpList P l.toArray Q (l.drop n) (zbQ (l.take n) a xs) w')) : (Code.region id l.toArray true).wp P Q a w := by
 simp only [zqK, Bool.and_eq_true, jS] at hB
 obtain ⟨⟨⟨⟨⟨⟨⟨hsel, hn⟩, hp⟩, hs⟩, hc⟩, hd⟩, hps⟩, hseq⟩ := hB
 have hn' : n < l.toArray.size := by simpa using hn
 have inv0 : HeadInv .any l.toArray n (Array.replicate l.toArray.size false) :=
  ⟨by simp, fun j oj _ hl => (by rw [getD_replicate_false] at hl; cases hl), fun t _ ht => getD_in (by simpa using ht) (getD_replicate_false _ _)⟩
 have main : ∀ (f : Nat) (listed : Array Bool) (xs : List Value) (w' : World), HeadInv .any l.toArray n listed → zhx n listed = f → xs.length = n → Below w.heap.size w.drew w' →
   (∀ j, j < n → listed.getD j true = true → zbA R xs w' j) →
   zcc P .any l.toArray Q (fun _ => True) n (fun listed' a' w' => Region.seqB .any l.toArray (l.toArray.size - n) n listed' = true ∧ wpList P l.toArray Q (l.drop n) a' w') f listed (zbQ (l.take n) a xs) w' := by
  intro f
  induction f with
  | zero =>
   intro listed xs w' inv hr hx hb hf
   refine ⟨?_, zfh _ (zgA n _ hend xs hx w' hb) (fun j hj => hf j (List.mem_range.1 hj) (zdo n listed hr j (List.mem_range.1 hj)))⟩
   have e : listed = (List.replicate n true ++ List.replicate (l.length - n) false).toArray := by
    apply Array.ext_getElem?
    intro i
    have hsz := inv.size
    simp only [List.size_toArray] at hsz
    by_cases hi : i < n
    ·have h1 := zdo n listed hr i hi
     have h2 : i < listed.size := by omega
     simp [h2] at h1
     simp [List.getElem?_append, hi, h2, h1]
    ·by_cases hi2 : i < l.length
     ·have h1 := inv.tail i (by omega) (by simpa using hi2)
      have h2 : i < listed.size := by omega
      simp [h2] at h1
      simp only [jL, List.getElem?_append, List.length_replicate, hi, if_false, List.getElem?_replicate]
      rw [if_pos (by omega), Array.getElem?_eq_getElem h2, h1]
     ·rw [Array.getElem?_eq_none (by omega)]
      simp only [jL, List.getElem?_append, List.length_replicate, hi, if_false, List.getElem?_replicate]
      rw [if_neg (by omega)]
   rw [e]
   simpa using hseq
  | succ f ih =>
   intro listed xs w' inv hr hx hb hf
   obtain ⟨i, hi, hil, hmin⟩ := zkZ n listed hr
   refine ⟨?_, fun j hj => ?_⟩
   ·intro h0
    obtain ⟨o, ho, he, _⟩ := zdG l ps 0 hps i ps[i] (by simp)
    have : i ∈ Region.ready .any l.toArray listed := mem_ready.2 ⟨hil, o, by simpa using ho, fun e hee hbe => by
     have h1 := he e hee hbe
     have h2 := hmin e.on (by omega)
     have h3 : e.on < listed.size := by rw [inv.size]; simp; omega
     simp [h3] at h2 ⊢
     exact h2⟩
    rw [h0] at this
    cases this
   ·have hjn : j < n := by
     rcases Nat.lt_or_ge j n with h | h
     ·exact h
     ·exact absurd hj (tail_waits hs hc hn' inv _ i rfl hi hil j h)
    refine ⟨hjn, ?_⟩
    obtain ⟨hjl, oj, hoj, hall⟩ := mem_ready.1 hj
    have hoj' : l[j]? = some oj := by simpa using hoj
    have hjp : j < ps.length := by omega
    have hjR : j < R.length := by omega
    have hit : ((l.take n).zip (R.zip ps))[j]? = some (oj, R[j], ps[j]) := by
     rw [List.getElem?_zip_eq_some]
     refine ⟨by rw [List.getElem?_take, if_pos hjn]; exact hoj', ?_⟩
     rw [List.getElem?_zip_eq_some]
     exact ⟨by simp [hjR], by simp [hjp]⟩
    obtain ⟨oj', hoj2, _, hpj⟩ := zdG l ps 0 hps j ps[j] (by simp [hjp])
    obtain rfl : oj' = oj := by
     rw [Nat.zero_add, hoj'] at hoj2
     exact (Option.some.inj hoj2).symm
    have hfree := zfh _ (zgA n _ (ziZ _ hop j oj' R[j] ps[j] hit) xs hx w' hb) (fun k hk => by
     obtain ⟨e, hee, hbe, hek⟩ := hpj k hk
     have h1 := hall e hee hbe
     rw [hek] at h1
     by_cases hkn : k < n
     ·refine hf k hkn ?_
      by_cases h2 : k < listed.size
      ·simp [h2] at h1 ⊢; exact h1
      ·simp [Array.getElem?_eq_none (Nat.le_of_not_lt h2)] at h1
     ·unfold zbA
      rw [List.getElem?_eq_none (l := R) (by omega)]
      trivial)
    have go : ∀ (v : Value) (w2 : World), Below w'.heap.size w' w2 → R[j] v w2 →
      zcc P .any l.toArray Q (fun _ => True) n (fun listed' a' w' => Region.seqB .any l.toArray (l.toArray.size - n) n listed' = true ∧ wpList P l.toArray Q (l.drop n) a' w') f (listed.setIfInBounds j true) ((zbQ (l.take n) a xs).put oj'.dst v) w2 := by
     intro v w2 hb2 hv
     rw [zit (l.take n) j oj' a xs v hd (by rw [List.getElem?_take, if_pos hjn]; exact hoj') (by omega)]
     refine ih _ _ _ (inv.set hj hjn) ?_ (by simpa using hx) (hb.trans (hb2.mono hb.size)) (fun k hk hkl => ?_)
     ·have := zkY n listed j hjn hjl
      omega
     ·by_cases hkj : k = j
      ·subst hkj
       unfold zbA
       simp only [jP hjR, List.getElem?_set_self (show k < xs.length by omega)]
       exact hv
      ·have h1 := hf k hk (by rwa [getD_set_ne true (Ne.symm hkj)] at hkl)
       unfold zbA at h1 ⊢
       rw [List.getElem?_set_ne (Ne.symm hkj)]
       have hkR : k < R.length := by omega
       have hkx : k < xs.length := by omega
       simp only [jP hkR, jP hkx] at h1 ⊢
       exact hst _ (List.getElem_mem hkR) _ _ _ hb2 h1
    unfold wpOp
    simp only [hoj]
    unfold zbX at hfree
    split
    ·rename_i hw
     rw [if_pos hw] at hfree
     refine .inl (Oper.wp_mono (fun a' w2 h => ?_) hfree)
     obtain ⟨hb2, v, rfl, hv⟩ := h
     exact ⟨trivial, go v w2 hb2 hv⟩
    ·rename_i hw
     rw [if_neg hw] at hfree
     exact ⟨trivial, go undef w' (Below.refl _ _) hfree⟩
 obtain ⟨xs0, hx0, hf0⟩ := zis (l.take n) a
 have H := main n (Array.replicate l.toArray.size false) xs0 w.drew inv0 (by
  unfold zhx
  rw [List.filter_eq_self.2 (fun i hi => ?_)]
  ·simp
  ·have := List.mem_range.1 hi
   have : i < l.length := by omega
   simp [this]) (by simp at hx0; omega) (Below.refl _ _) (fun j hj hl => by
  have : j < l.length := by omega
  simp [this] at hl)
 rw [hf0] at H
 refine wp_region_any hm ?_
 have hdl : (l.drop n).length = l.toArray.size - n := by simp
 have := zbE (g := l.toArray.size - n) (fun listed a' w' hL => by
  have := wpAny_of_seq (md := .any) (Q' := Q) (l.drop n) n listed a' w' (fun j => by simp [List.getElem?_drop]) (by rw [hdl]; exact hL.1) hL.2
  rwa [hdl] at this) _ _ _ _ H
 rw [show n + (l.toArray.size - n) = l.toArray.size by omega] at this
 exact this
variable {ops : Array Oper} {o : Oper} {r : zfF} {w : World}
theorem zpp {v : Value} (hg : Region.wanted o (yielded ops a.tmps) = true) (hr : (execOp a.eval o).run P w = .ok (.value v) w) (h : r v w) : zbX P ops Q o r a w := by
 unfold zbX
 rw [if_pos hg]
 unfold Oper.wp
 rw [hr]
 exact ⟨Below.refl _ _, v, rfl, h⟩
theorem zaS (hg : Region.wanted o (yielded ops a.tmps) = true) (h : ∀ K : Act → World → Prop, (∀ v w', Below w.heap.size w w' → r v w' → K (a.put o.dst v) w') → o.wp P a w K Q) : zbX P ops Q o r a w := by
 unfold zbX
 rw [if_pos hg]
 exact h _ fun v w' hb hv => ⟨hb, v, rfl, hv⟩
theorem zgY {x : Operand} (hg : Region.wanted o (yielded ops a.tmps) = true) (ho : o.op = .move x) (h : r (a.eval x) w) : zbX P ops Q o r a w :=
 zpp hg (by unfold execOp; rw [ho]; rfl) h
theorem zgp {ty m : Nat} {k : IntKind} (hg : Region.wanted o (yielded ops a.tmps) = true) (ho : o.op = .alloc ty) (hz : zcy P ty k m)
  (h : r (.pointer (some ⟨w.heap.size, 0, none⟩)) (w.alloc (.cells (arr k m fun _ => 0) ty))) : zbX P ops Q o r a w := by
 unfold zbX
 rw [if_pos hg]
 unfold Oper.wp
 rw [zdd ho hz]
 exact ⟨(Below.refl _ _).alloc (jV _) _, _, rfl, h⟩
theorem zbs {ty : TypeId} {x : Operand} {m t g : Nat} {k : IntKind} {f : Nat → Int} {fr : Nat × Nat} (hg : Region.wanted o (yielded ops a.tmps) = true) (ho : o.op = .load ty x) (hx : a.eval x = .pointer (some ⟨g, 0, none⟩)) (hT : zeT P ty m)
  (hc : w.heap[g]? = some (.cells (arr k m f) t fr)) (h : r (.agg (arr k m f)) w) : zbX P ops Q o r a w := zpp hg (zce ho hx (zbM hT hc)) h
theorem zi0 : ∀ r ∈ ([] : List zfF), zhy r := fun _ h => by cases h
theorem zaG {r : zfF} {R : List zfF} (h : zhy r) (hR : ∀ r ∈ R, zhy r) : ∀ r' ∈ r :: R, zhy r' := fun r' hr => by
 rcases List.mem_cons.1 hr with rfl | hr
 ·exact h
 ·exact hR _ hr
def Is (v : Value) : zfF := fun x _ => x = v
theorem zaF (v : Value) : zhy (Is v) := fun _ _ _ _ h => h
def zi1 (N : Nat) (b : Obj) : zfF := fun x w => ∃ B, x = .pointer (some ⟨B, 0, none⟩) ∧ N ≤ B ∧ w.heap[B]? = some b
theorem zcX (N : Nat) (b : Obj) : zhy (zi1 N b) := fun _ _ _ hb ⟨B, h1, h2, h3⟩ => ⟨B, h1, h2, (hb.block B (jM h3)).trans h3⟩
end
end
section
open Go.RowKit
def zwO (x s : Nat) : Nat := orW (zjU x s) (ziT x (32 - s))
def zfA (x a b sh : Nat) : Nat := zdM (zdM (zwO x (32 - a)) (zwO x (32 - b))) (ziT x sh)
def zeD (x a b c : Nat) : Nat := zdM (zdM (zwO x (32 - a)) (zwO x (32 - b))) (zwO x (32 - c))
def zic (l : List Nat) : Nat := orW (orW (orW (zjU (l.getD 0 0 % 4294967296) 24) (zjU (l.getD 1 0 % 4294967296) 16)) (zjU (l.getD 2 0 % 4294967296) 8)) (l.getD 3 0 % 4294967296)
theorem zxF : ∀ a : Fin 32, 1 ≤ a.val → IntKind.u64.wrap (((BitVec.ofInt 64 (IntKind.u64.wrap (-((a.val : Nat) : Int))) &&& BitVec.ofInt 64 31).toNat : Nat) : Int) = (((32 - a.val : Nat)) : Int) := by decide
section
variable {P : Program} {o : Oper} {ws : World} {l : List (Nat × Value)} {S : Nat → Prop} {t u : TypeId} {x y : Operand} {m n : Nat}
theorem zi2 {j : Int} (ho : o.op = .unOp .neg t x) (hx : ev l x = some (.int .i64 j)) (hj : j = (n : Int)) (hn : n ≤ 100) : PK P S ws l o (.int .i64 (-((n : Nat) : Int))) := by
 have h := zzR (S := S) (ws := ws) (P := P) ho hx
 rw [zdf (by omega) (by omega), hj, show (0 : Int) - (n : Int) = -(n : Int) by omega] at h
 exact h
theorem zr1 (ho : o.op = .binOp .and t x y u) (hx : ev l x = some (.int .u64 (IntKind.u64.wrap (-((n : Nat) : Int))))) (hy : ev l y = some (.int .u64 31)) (h1 : 1 ≤ n) (h2 : n < 32) : PK P S ws l o (.int .u64 ((32 - n : Nat) : Int)) :=
 zbD ho hx hy (congrArg (fun z => some (Value.int .u64 z)) (zxF ⟨n, h2⟩ h1))
theorem zuX {n : Nat} (ho : o.op = .binOp .sub t x y u) (hx : ev l x = some (.int .u64 32)) (hy : ev l y = some (.int .u64 ((n : Nat) : Int))) (h2 : n ≤ 32) : PK P S ws l o (.int .u64 ((32 - n : Nat) : Int)) := by
 have h := zaK (S := S) (ws := ws) (P := P) (z := 32 - (n : Int)) ho hx hy rfl (zrS (by omega) (by omega))
 rw [show (32 : Int) - (n : Int) = ((32 - n : Nat) : Int) by omega] at h
 exact h
end
theorem zeX {x n : Nat} (h1 : 1 ≤ n) (h2 : n < 32) {X : List Nat} {w0 : World} (hX : ∀ k ∈ X, k < w0.heap.size) :
  Calls Tryz.prog 141 #[u32 x, .int .i64 (-((n : Nat) : Int))] w0 fun e w' => e = .returned (u32 (zwO x (32 - n))) ∧ w0 = w' := by
 refine zaz Tryz.ntmps141 Tryz.func141 rfl rfl fun a E => ?_; replace E : Env a _ [(0, _), (1, _)] := E
 have H : Sep X [] w0 w0 [] [] := Sep.start hX (fun _ h => by cases h)
 refine Vr ?_; refine Vv E pka fun a E => ?_; refine Vn ?_; refine Vr ?_; refine Vv E pkm fun a E => ?_; refine Vv E (zkP (k := .u64) rfl rfl (by kernel_rfl) (by kernel_rfl)) fun a E => ?_; refine Vv E (zr1 rfl rfl rfl h1 h2) fun a E => ?_; refine Vv E pka fun a E => ?_; refine Vn ?_; refine Vr ?_; refine Vv E pkm fun a E => ?_; refine Vv E pkm fun a E => ?_; refine Vv E (ziV rfl rfl rfl rfl) fun a E => ?_; refine Vv E pkm fun a E => ?_; refine Vv E pkm fun a E => ?_; refine Vv E (zuX rfl rfl rfl (by omega)) fun a E => ?_; refine Vv E (zfL rfl rfl rfl rfl) fun a E => ?_; refine Vv E (ziU rfl rfl rfl) fun a E => ?_; refine Vv E pka fun a E => ?_; refine Vn ?_; refine wp_ret ?_
 repeat (first | refine zat ?_ | refine zap ?_)
 refine zf8 rfl E (zbT rfl) ?_
 exact ⟨rfl, rfl⟩
theorem zmV {x n1 n2 n3 : Nat} (ha : 1 ≤ n1) (ha2 : n1 < 32) (hb : 1 ≤ n2) (hb2 : n2 < 32) (hc : 1 ≤ n3) (hc2 : n3 < 32) {X : List Nat} {w0 : World} (hX : ∀ k ∈ X, k < w0.heap.size) :
  Calls Tryz.prog 138 #[u32 x, .int .i64 ((n1 : Nat) : Int), .int .i64 ((n2 : Nat) : Int), .int .i64 ((n3 : Nat) : Int)] w0 fun e w' => e = .returned (u32 (zfA x n1 n2 n3)) ∧ Sep X [] w0 w' [] [] := by
 refine zaz Tryz.ntmps138 Tryz.func138 rfl rfl fun a E => ?_; replace E : Env a _ [(0, _), (1, _), (2, _), (3, _)] := E
 have H : Sep X [] w0 w0 [] [] := Sep.start hX (fun _ h => by cases h)
 refine Vr ?_; refine Vv E pka fun a E => ?_; refine Vn ?_; refine wp_seq_k fun K1 hK1 => ?_; refine zbr E H [] 12 [(0, false), (1, false), (2, false), (4, false), (5, false), (6, false), (9, false), (10, false), (11, false), (3, true), (7, true), (8, false)] (by kernel_rfl) (by kernel_rfl) (fun w HS => ?_)
 (simp only [canOps, jD, jE, jF, jG])
 clear H
 have H := HS
 have hsz : w.heap.size ≤ w.heap.size := jV _
 have HK : CanB.Keep (fun k => k < w.heap.size ∧ k ∉ []) w w := CanB.Keep.refl _ _
 refine Cw E HK pkm fun a E => ?_; refine Cw E HK pkm fun a E => ?_; refine Cw E HK (zi2 rfl rfl rfl (by omega)) fun a E => ?_; refine Cw E HK pkm fun a E => ?_; refine Cw E HK pkm fun a E => ?_; refine Cw E HK (zi2 rfl rfl rfl (by omega)) fun a E => ?_; refine Cw E HK pkm fun a E => ?_; refine Cw E HK pkm fun a E => ?_; refine Cw E HK (zfL rfl rfl rfl rfl) fun a E => ?_
 refine zfC E rfl (fun K hK => ?_); refine Vc E ?_; refine (zeX (n := n1) (by omega) (by omega) (X := []) (by simp)).mono ?_; rintro e w ⟨rfl, rfl⟩
 have F := Frm.refl [] w
 have hk := zaI (D := []) F hsz (by simp)
 refine hK _ _ hk ?_; clear hK K
 replace HK := HK.trans hk
 replace hsz := jU hsz (F).size
 clear hk; refine zfD E rfl rfl ?_; clear E a; intro a E; clear F; refine zfC E rfl (fun K hK => ?_); refine Vc E ?_; refine (zeX (n := n2) (by omega) (by omega) (X := []) (by simp)).mono ?_; rintro e w ⟨rfl, rfl⟩
 have F := Frm.refl [] w
 have hk := zaI (D := []) F hsz (by simp)
 refine hK _ _ hk ?_; clear hK K
 replace HK := HK.trans hk
 replace hsz := jU hsz (F).size
 clear hk; refine zfD E rfl rfl ?_; clear E a; intro a E; clear F; refine Cw E HK (zcC rfl rfl rfl) fun a E => ?_; refine CanB.wpCan_nil ?_
 try (simp only [jH, jI, jF, jG])
 clear HS HK hsz; refine Vv E (zcC rfl rfl rfl) fun a E => ?_; refine Vv E pka fun a E => ?_; refine hK1 _ _ ?_; refine wp_ret ?_
 repeat (first | refine zat ?_ | refine zap ?_)
 refine zf8 rfl E (zbT rfl) ?_
 exact ⟨rfl, H⟩
theorem zmW {x n1 n2 n3 : Nat} (ha : 1 ≤ n1) (ha2 : n1 < 32) (hb : 1 ≤ n2) (hb2 : n2 < 32) (hc : 1 ≤ n3) (hc2 : n3 < 32) {X : List Nat} {w0 : World} (hX : ∀ k ∈ X, k < w0.heap.size) :
  Calls Tryz.prog 139 #[u32 x, .int .i64 ((n1 : Nat) : Int), .int .i64 ((n2 : Nat) : Int), .int .i64 ((n3 : Nat) : Int)] w0 fun e w' => e = .returned (u32 (zeD x n1 n2 n3)) ∧ w0 = w' := by
 refine zaz Tryz.ntmps139 Tryz.func139 rfl rfl fun a E => ?_; replace E : Env a _ [(0, _), (1, _), (2, _), (3, _)] := E
 have H : Sep X [] w0 w0 [] [] := Sep.start hX (fun _ h => by cases h)
 refine Vr ?_; refine Vv E pka fun a E => ?_; refine Vn ?_; refine Vr ?_; refine Vv E pkm fun a E => ?_; refine Vv E pkm fun a E => ?_; refine Vv E (zi2 rfl rfl rfl (by omega)) fun a E => ?_; refine Ve E ?_; refine Vc E ?_; refine (zeX (n := n1) (by omega) (by omega) (X := []) (by simp)).mono ?_; rintro e w ⟨rfl, rfl⟩; refine Vp E fun a E => ?_; refine Vv E pkm fun a E => ?_; refine Vv E pkm fun a E => ?_
 refine Vv E (zi2 rfl rfl rfl (by omega)) fun a E => ?_; refine Ve E ?_; refine Vc E ?_; refine (zeX (n := n2) (by omega) (by omega) (X := []) (by simp)).mono ?_; rintro e w ⟨rfl, rfl⟩; refine Vp E fun a E => ?_; refine Vv E (zcC rfl rfl rfl) fun a E => ?_; refine Vv E pkm fun a E => ?_; refine Vv E pkm fun a E => ?_; refine Vv E (zi2 rfl rfl rfl (by omega)) fun a E => ?_; refine Ve E ?_; refine Vc E ?_; refine (zeX (n := n3) (by omega) (by omega) (X := []) (by simp)).mono ?_; rintro e w ⟨rfl, rfl⟩; refine Vp E fun a E => ?_; refine Vv E (zcC rfl rfl rfl) fun a E => ?_; refine Vv E pka fun a E => ?_; refine Vn ?_; refine wp_ret ?_
 repeat (first | refine zat ?_ | refine zap ?_)
 refine zf8 rfl E (zbT rfl) ?_
 exact ⟨rfl, rfl⟩
theorem zuY {A : Option Addr} {c : Nat} {k : List Nat} (h4 : 4 ≤ k.length) {X : List Nat} {w0 : World} (hX : ∀ k ∈ X, k < w0.heap.size) (hk : St (TxF A c k) w0 X) :
  Calls Tryz.prog 137 #[.slice A k.length c] w0 fun e w' => e = .returned (u32 (zic k)) ∧ Sep X [] w0 w' [] [] := by
 obtain ⟨ad, hA⟩ : ∃ ad, A = some ad := by
  cases hq : A with
  | some ad => exact ⟨ad, rfl⟩
  | none => have := (hk.now.nil hq).1; omega
 have hg : ∀ i, i < 4 → k[i]? = some (k.getD i 0) := fun i hi => by rw [jR, jP (show i < k.length by omega)]; rfl
 refine zaz Tryz.ntmps137 Tryz.func137 rfl rfl fun a E => ?_; replace E : Env a _ [(0, _)] := E
 have H : Sep X [] w0 w0 [] [(TxF A c k)] := Sep.start hX (jJ.2 ⟨hk, fun _ h => by cases h⟩)
 refine Vr ?_; refine Vv E pka fun a E => ?_; refine Vn ?_; refine wp_seq_k fun K1 hK1 => ?_; refine zbr E H [] 21 [(0, false), (1, false), (2, false), (3, false), (4, false), (5, false), (6, false), (7, false), (8, false), (9, false), (10, false), (11, false), (12, false), (13, false), (14, false), (15, false), (16, false), (17, false), (18, false), (19, false), (20, false)] (by kernel_rfl) (by kernel_rfl) (fun w HS => ?_)
 (simp only [canOps, jD, jE, jF, jG])
 clear H
 have H := HS
 have hsz : w.heap.size ≤ w.heap.size := jV _
 have HK : CanB.Keep (fun k => k < w.heap.size ∧ k ∉ []) w w := CanB.Keep.refl _ _
 refine Cw E HK pkm fun a E => ?_; refine Cw E HK (zb7 (sz := 1) (i := 0) hA rfl (by kernel_rfl) rfl rfl rfl (by omega)) fun a E => ?_; refine Cw E HK (zc6 (HS.fact 0 rfl) (fun k h _ => ⟨h, by simp⟩) hA rfl rfl (hg 0 (by omega)) (by kernel_rfl)) fun a E => ?_; refine Cw E HK (zhU rfl rfl (by kernel_rfl) (by kernel_rfl)) fun a E => ?_; refine Cw E HK (ziV (k := 24) rfl rfl rfl rfl) fun a E => ?_; refine Cw E HK pkm fun a E => ?_; refine Cw E HK (zb7 (sz := 1) (i := 1) hA rfl (by kernel_rfl) rfl rfl rfl (by omega)) fun a E => ?_; refine Cw E HK (zc6 (HS.fact 0 rfl) (fun k h _ => ⟨h, by simp⟩) hA rfl rfl (hg 1 (by omega)) (by kernel_rfl)) fun a E => ?_; refine Cw E HK (zhU rfl rfl (by kernel_rfl) (by kernel_rfl)) fun a E => ?_; refine Cw E HK (ziV (k := 16) rfl rfl rfl rfl) fun a E => ?_; refine Cw E HK (ziU rfl rfl rfl) fun a E => ?_; refine Cw E HK pkm fun a E => ?_; refine Cw E HK (zb7 (sz := 1) (i := 2) hA rfl (by kernel_rfl) rfl rfl rfl (by omega)) fun a E => ?_
 refine Cw E HK (zc6 (HS.fact 0 rfl) (fun k h _ => ⟨h, by simp⟩) hA rfl rfl (hg 2 (by omega)) (by kernel_rfl)) fun a E => ?_; refine Cw E HK (zhU rfl rfl (by kernel_rfl) (by kernel_rfl)) fun a E => ?_; refine Cw E HK (ziV (k := 8) rfl rfl rfl rfl) fun a E => ?_; refine Cw E HK (ziU rfl rfl rfl) fun a E => ?_; refine Cw E HK pkm fun a E => ?_; refine Cw E HK (zb7 (sz := 1) (i := 3) hA rfl (by kernel_rfl) rfl rfl rfl (by omega)) fun a E => ?_
 refine Cw E HK (zc6 (HS.fact 0 rfl) (fun k h _ => ⟨h, by simp⟩) hA rfl rfl (hg 3 (by omega)) (by kernel_rfl)) fun a E => ?_; refine Cw E HK (zhU rfl rfl (by kernel_rfl) (by kernel_rfl)) fun a E => ?_; refine CanB.wpCan_nil ?_
 try (simp only [jH, jI, jF, jG])
 clear HS HK hsz; refine Vv E (ziU rfl rfl rfl) fun a E => ?_; refine Vv E pka fun a E => ?_; refine hK1 _ _ ?_; refine wp_ret ?_
 repeat (first | refine zat ?_ | refine zap ?_)
 refine zf8 rfl E (zbT rfl) ?_
 exact ⟨rfl, H.pop⟩
end
section
open Go.RowKit
def zi3 (k : List Nat) (n : Nat) : Nat → Nat := fun i => if i < n then zic (k.drop (4 * i)) else 0
def zfi (w : Nat → Nat) (t : Nat) : Nat → Nat := if 16 ≤ t then upd w (t % 16) (zdg (w (t % 16)) (zdg (zdg (zfA (w ((t + 1) % 16)) 7 18 3) (w ((t + 9) % 16))) (zfA (w ((t + 14) % 16)) 17 19 10))) else w
def zuF (gt w v : Nat → Nat) (t : Nat) : Nat := zdg (zdg (zdg (zdg (v 7) (zeD (v 4) 6 11 25)) (zdM (v 6) (zfE (v 4) (zdM (v 5) (v 6))))) (gt t)) (w (t % 16))
def zwP (v : Nat → Nat) : Nat := zdg (zeD (v 0) 2 13 22) (orW (zfE (v 0) (v 1)) (zfE (v 2) (orW (v 0) (v 1))))
def zgn (v : Nat → Nat) (one two : Nat) : Nat → Nat
 | 0 => zdg one two
 | 1 => v 0
 | 2 => v 1
 | 3 => v 2
 | 4 => zdg (v 3) one
 | 5 => v 4
 | 6 => v 5
 | _ => v 6
def zkh (gt : Nat → Nat) (k : List Nat) (h : Nat → Nat) : Nat → (Nat → Nat) × (Nat → Nat)
 | 0 => (zi3 k 16, h)
 | t + 1 => (zfi (zkh gt k h t).1 t, zgn (zkh gt k h t).2 (zuF gt (zfi (zkh gt k h t).1 t) (zkh gt k h t).2 t) (zwP (zkh gt k h t).2))
theorem zxG (v : Nat → Nat) (one two : Nat) : zgn v one two 0 = zdg one two := rfl
theorem zxH (v : Nat → Nat) (one two : Nat) : zgn v one two 1 = v 0 := rfl
theorem zxI (v : Nat → Nat) (one two : Nat) : zgn v one two 2 = v 1 := rfl
theorem zxJ (v : Nat → Nat) (one two : Nat) : zgn v one two 3 = v 2 := rfl
theorem zxK (v : Nat → Nat) (one two : Nat) : zgn v one two 4 = zdg (v 3) one := rfl
theorem zxL (v : Nat → Nat) (one two : Nat) : zgn v one two 5 = v 4 := rfl
theorem zxM (v : Nat → Nat) (one two : Nat) : zgn v one two 6 = v 5 := rfl
theorem zxN (v : Nat → Nat) (one two : Nat) : zgn v one two 7 = v 6 := rfl
theorem zxO (gt w v : Nat → Nat) (t : Nat) : zdg (zdg (zdg (zdg (v 7) (zeD (v 4) 6 11 25)) (zdM (v 6) (zfE (v 4) (zdM (v 5) (v 6))))) (gt t)) (w (t % 16)) = zuF gt w v t := by rw [zuF]
theorem zxP (v : Nat → Nat) : zdg (zeD (v 0) 2 13 22) (orW (zfE (v 0) (v 1)) (zfE (v 2) (orW (v 0) (v 1)))) = zwP v := by rw [zwP]
theorem zr2 {gt h w v : Nat → Nat} {k : List Nat} {t : Nat} (hM : (w, v) = zkh gt k h t) : (zfi w t, zgn v (zuF gt (zfi w t) v t) (zwP v)) = zkh gt k h (t + 1) := by
 rw [zkh, ← hM]
def zk0 (h v : Nat → Nat) (n : Nat) : Nat → Nat := fun i => if i < n then zdg (h i) (v i) else h i
def zcY (gt h : Nat → Nat) (k : List Nat) : Nat → Nat := zk0 h (zkh gt k h 64).2 8
theorem zk1 (f : Nat → Nat) (i v j : Nat) : upd (fun i => u32 (f i)) i (u32 v) j = u32 (upd f i v j) := by
 unfold upd; split <;> rfl
theorem zqL (k : List Nat) (n j : Nat) : upd (fun i => u32 (zi3 k n i)) n (u32 (zic (k.drop (4 * n)))) j = u32 (zi3 k (n + 1) j) := by
 rw [zk1]
 congr 2
 unfold upd zi3
 by_cases h : j = n
 ·subst h; simp
 ·rw [if_neg h]
  by_cases h2 : j < n
  ·rw [if_pos h2, if_pos (by omega)]
  ·rw [if_neg h2, if_neg (by omega)]
theorem zmX (h v : Nat → Nat) (n j : Nat) : upd (fun i => u32 (zk0 h v n i)) n (u32 (zdg (h n) (v n))) j = u32 (zk0 h v (n + 1) j) := by
 rw [zk1]
 congr 2
 unfold upd zk0
 by_cases hj : j = n
 ·subst hj; simp
 ·rw [if_neg hj]
  by_cases h2 : j < n
  ·rw [if_pos h2, if_pos (by omega)]
  ·rw [if_neg h2, if_neg (by omega)]
theorem zr3 (h v : Nat → Nat) (n : Nat) : zk0 h v n n = h n := by simp [zk0]
theorem zBo (m : Nat) : (BitVec.ofInt 64 (m : Int) &&& BitVec.ofInt 64 15).toNat = m % 16 := by
 have e : (BitVec.ofInt 64 15).toNat = 15 := rfl
 rw [BitVec.toNat_and, e, BitVec.toNat_ofInt, Nat.and_two_pow_sub_one_eq_mod _ 4]
 omega
attribute [local irreducible] zdg zdM zfE orW zjU ziT zfA zeD zic
section
variable {P : Program} {o : Oper} {a : Act} {w ws : World} {Q : Exit → Act → World → Prop} {N d : Nat} {l : List (Nat × Value)} {v : Value} {S : Nat → Prop} {K : Act → World → Prop}
 {X G : List Nat} {w0 : World} {L L' : List Res} {R : List (World → Prop)} {t u : TypeId} {x y : Operand}
theorem zeY {u' : Value} (ho : o.op = .assign x) (hx : ev l x = some u') (he : u' = v) : PK P S ws l o v := by subst he; exact zcA ho hx
theorem zgZ {j : Int} {m : Nat} (ho : o.op = .binOp .and t x y u) (hx : ev l x = some (.int .i64 j)) (hy : ev l y = some (.int .i64 15)) (hj : j = (m : Int)) : PK P S ws l o (.int .i64 ((m % 16 : Nat) : Int)) := by
 subst hj
 refine zbD ho hx hy (congrArg (fun z => some (Value.int .i64 z)) ?_)
 show IntKind.i64.wrap ((((BitVec.ofInt 64 (m : Int) &&& BitVec.ofInt 64 15).toNat : Nat)) : Int) = _
 rw [zBo]
 exact zdf (by omega) (by omega)
theorem zaY {M i : Nat} {ad : Addr} {j : Int} {k : IntKind} (ho : o.op = .indexAddr t x y) (ht : arK P t = some (M, 1)) (hx : ev l x = some (.pointer (some ad))) (hy : ev l y = some (.int k j)) (hj : j = (i : Int)) (hi : i < M) : PK P S ws l o (.pointer (some (ad.add i))) := by
 have h := zz0 (S := S) (ws := ws) ho ht hx hy hj hi
 rwa [Nat.mul_one] at h
theorem zbe (f2 : Nat → Value) {b t off n i ty : Nat} {cs pre post : List Chunk} {f : Nat → Value} {pa : Addr} (j : Nat) (E : Env a N l) (H : Sep X G w0 w L R) (hj : L[j]? = some (.blk b (ca cs) t)) (hd : zgm cs off = some (.row n f :: post)) (hp : zh9 cs off = some pre) (hi : i < n) (ho : o.op = .store ty x y) (hx : ev l x = some (.pointer (some pa))) (hpa : pa = (⟨b, off, none⟩ : Addr).add i) (hy : ev l y = some v) (h1 : v.oneCell' = true) (hc : v.cells = #[v]) (hs : zjY P ty = some 1)
  (hf : ∀ j, upd f i v j = f2 j) (hL : L.set j (.blk b (ca (pre ++ .row n f2 :: post)) t) = L') (h : ∀ w', Sep X G w0 w' L' R → Frm [b] w w' → K (a.put o.dst undef) w') : o.wp P a w K Q := by
 obtain rfl : upd f i v = f2 := funext hf
 exact zmP j E H hj hd hp hi ho hx hpa hy h1 hc hs hL h
theorem zg0 {ty : TypeId} {parts : Array (Nat × Operand)} {z r : List Chunk} {n : Nat} (f : Nat → Value) (ho : o.op = .build ty parts) (ht : arK P ty = some (n, 1)) (hz : zjX P ty = some (ca z)) (hp : zqI (fun i => some (i * 1, 1)) l parts.toList z r) (hr : ca r = ca [.row n f]) : PK P S ws l o (.agg (ca [.row n f])) := fun w' _ a N E => by
 obtain ⟨i, zv, h1, h2, h3⟩ := zfe hz
 obtain ⟨e, h4, h5⟩ := ziX ht
 obtain ⟨ie, h6, h7⟩ := Option.map_eq_some_iff.1 h5
 have hb : P.built ty (parts.toList.map fun (i, x) => (i, a.eval x)) = some (ca [.row n f]) := by
  unfold Program.built
  simp only [h1, h4, h2, h6, h3, h7]
  rw [← hr]
  exact zeV E _ _ _ hp
 unfold execOp
 rw [ho]
 simp only [Sem.run_bind]
 rw [run_build w' ty (parts.map fun (i, x) => (i, a.eval x)) _ (by rw [Array.toList_map]; exact hb)]
 rfl
theorem zeE {A : Option Addr} {c lo : Nat} {k : List Nat} {Y : List Nat} (h : St (TxF A c k) w Y) (hlo : lo ≤ k.length) : ∃ A' c', zib A 1 lo k.length c = .slice A' (k.drop lo).length c' ∧ St (TxF A' c' (k.drop lo)) w Y := by
 have hn := h.now
 refine ⟨if c = lo then A else A.map (·.add (lo * 1)), c - lo, by unfold zib; rw [List.length_drop], fun w' hk => ?_⟩
 have h' := h w' hk
 refine ⟨by rw [List.length_drop]; have := h'.cap; omega, by rw [List.length_drop]; have := h'.len; omega, fun x hx => h'.byt x (List.mem_of_mem_drop hx), fun hA => ?_, fun ad hA i x hx => ?_⟩
 ·have hA0 : A = none := by
   split at hA
   ·exact hA
   ·cases A with
    | none => rfl
    | some _ => cases hA
  have := h'.nil hA0
  rw [List.length_drop]
  omega
 ·have hi := (List.getElem?_eq_some_iff.1 hx).1
  rw [List.length_drop] at hi
  rw [List.getElem?_drop] at hx
  have hcap := h'.cap
  rw [if_neg (by omega)] at hA
  cases A with
  | none => cases hA
  | some ad0 =>
   obtain rfl := Option.some.inj hA
   rw [Nat.mul_one, Addr.add_add]
   exact h'.at_ ad0 rfl _ x hx
theorem zdN {A : Option Addr} {c hi : Nat} {k : List Nat} {Y : List Nat} (h : St (TxF A c k) w Y) (hh : hi ≤ k.length) : St (TxF A c (k.take hi)) w Y := fun w' hk => by
 have h' := h w' hk
 refine ⟨by rw [List.length_take]; have := h'.cap; omega, by rw [List.length_take]; have := h'.len; omega, fun x hx => h'.byt x (List.mem_of_mem_take hx), fun hA => ?_, fun ad hA i x hx => ?_⟩
 ·have := h'.nil hA
  rw [List.length_take]
  omega
 ·have hi := (List.getElem?_eq_some_iff.1 hx).1
  rw [List.length_take] at hi
  rw [List.getElem?_take_of_lt (by omega)] at hx
  exact h'.at_ ad hA i x hx
end
theorem zxQ {hb ht c : Nat} {h gt : Nat → Nat} {cs : List Chunk} {A : Option Addr} {tx : List Nat} (hl : tx.length = 64) {X : List Nat} {w0 : World} (hX : ∀ k ∈ X, k < w0.heap.size) (H0 : Sep X [hb] w0 w0 [.blk hb (ca (.row 8 (fun i => u32 (h i)) :: cs)) ht] [TxF A c tx, AtC ⟨2, 0, none⟩ [.row 64 fun i => u32 (gt i)]]) :
  Calls Tryz.prog 130 #[.pointer (some ⟨hb, 0, none⟩), .slice A tx.length c] w0 fun e w' => e = .returned (.tuple #[]) ∧ Sep X [hb] w0 w' [.blk hb (ca (.row 8 (fun i => u32 (zcY gt h tx i)) :: cs)) ht] [] := by
 refine zaz Tryz.ntmps130 Tryz.func130 rfl rfl fun a E => ?_; replace E : Env a _ [(0, _), (1, _)] := E
 have H := H0
 refine Vr ?_; refine Wa (z := [.row 16 fun _ => .int .u32 0]) E H fun b4 w a H E => ?_; refine Vn ?_; refine wp_seq_k fun K1 hK1 => ?_; refine Vr ?_; refine Vv E pkm fun a E => ?_; refine Vn ?_; refine wp_block ?_
 have e0 : (fun i => u32 (zi3 tx 0 i)) = fun _ => Value.int .u32 0 := by funext i; simp [zi3]
 rw [← e0] at H
 refine zbC (γ := Nat) [0, 1, 4] (fun n => [(20, .int .i64 (n : Int))]) (fun n => [.blk b4 (ca [.row 16 fun i => u32 (zi3 tx n i)]) 176, .blk hb (ca (.row 8 (fun i => u32 (h i)) :: cs)) ht]) (fun n => [TxF A c tx, AtC ⟨2, 0, none⟩ [.row 64 fun i => u32 (gt i)]]) (fun n => n ≤ 16) (fun n => 16 - n) (0) E H (by repeat (first | exact trivial | refine ⟨rfl, ?_⟩)) (by omega) ?_; clear E H; intro n a w E H hφ; replace E : Env a _ [(20, _), (0, _), (1, _), (4, _)] := E; replace H : Sep _ _ _ _ [_, _] [_, _] := H; refine Vr ?_; refine Vv E pki fun a E => ?_; refine Vn ?_; refine wp_seq_k fun K4 hK4 => ?_; refine zau (d := 21) E rfl ?_ ?_
 ·skip
  clear E; intro c21 E
  have hn : n < 16 := by have := c21; simp only [jS] at this; omega
  refine za7 E rfl ?_; refine wp_skip ?_; refine hK4 _ _ ?_; refine wp_seq_k fun K5 hK5 => ?_; refine wp_block ?_; refine Vr ?_; refine Vv E pkm fun a E => ?_; refine Vv E pka fun a E => ?_; refine Vn ?_; refine zaB ?_; refine Vv E pkm fun a E => ?_; refine Vv E pkm fun a E => ?_; refine Vv E pkm fun a E => ?_; refine Vv E (zaK rfl rfl rfl rfl (zdf (by omega) (by omega))) fun a E => ?_
  obtain ⟨A27, c27, h27, hT27⟩ := zeE (lo := 4 * n) (H.fact 0 rfl) (by omega)
  refine Vv E (zdS (sz := 1) (lo := 4 * n) rfl (by kernel_rfl) rfl rfl (by omega) (by omega)) fun a E => ?_
  rw [h27] at E
  replace H := H.know hT27
  clear h27 hT27; replace H : Sep _ _ _ _ _ [_, _, _] := H; refine Ve E ?_; refine Vc E ?_; refine (zuY (k := tx.drop (4 * n)) (by rw [List.length_drop]; omega) H.xk (H.fact 0 rfl)).mono ?_; rintro e w ⟨rfl, H1⟩
  replace H := H.call H1
  clear H1; replace H : Sep _ _ _ _ [_, _] [_, _, _] := H; refine Vp E fun a E => ?_; refine Vv E (zaY (i := n) rfl (by kernel_rfl) rfl rfl rfl hn) fun a E => ?_; refine Ve E ?_; refine zbe (off := 0) (fun i => u32 (zi3 tx (n + 1) i)) 0 E H rfl rfl rfl hn rfl rfl rfl rfl rfl rfl (by kernel_rfl) (zqL tx n) rfl ?_; clear H; intro w H F; replace H : Sep _ _ _ _ [_, _] _ := H; refine zdn rfl ?_; clear F; refine hK5 _ _ ?_; refine zaB ?_; refine Vv E (zaK rfl rfl rfl rfl (zdf (by omega) (by omega))) fun a E => ?_; refine Vv E pkm fun a E => ?_; refine za9 ?_
  exact ⟨n + 1, ⟨E.to (by repeat (first | exact trivial | refine ⟨rfl, ?_⟩)), H.pop, by omega⟩, by omega⟩
 ·skip
  clear E; intro c21 E
  obtain rfl : n = 16 := by have := c21; simp only [decide_eq_false_iff_not] at this; omega
  refine zaN E rfl ?_; refine wp_exit ?_
  repeat (first | refine za4 ?_ | refine za5 ?_ | refine zaW (by decide) ?_)
  refine hK1 _ _ ?_; refine wp_seq_k fun K7 hK7 => ?_; refine zbr E H [] 39 [(0, false), (1, false), (2, false), (3, false), (4, false), (5, false), (6, false), (7, false), (8, false), (9, false), (10, false), (11, false), (12, false), (13, false), (14, false), (15, false), (16, false), (17, false), (18, false), (19, false), (20, false), (21, false), (22, false), (23, false), (24, false), (25, false), (26, false), (27, false), (28, false), (29, false), (30, false), (31, false), (32, false), (33, false), (34, false), (35, false), (36, false), (37, false), (38, false)] (by kernel_rfl) (by kernel_rfl) (fun w HS => ?_)
  (simp only [canOps, jD, jE, jF, jG])
  clear H
  have H := HS
  have hsz : w.heap.size ≤ w.heap.size := jV _
  have HK : CanB.Keep (fun k => k < w.heap.size ∧ k ∉ []) w w := CanB.Keep.refl _ _
  refine Cw E HK pkm fun a E => ?_; refine Cw E HK (zbF rfl rfl) fun a E => ?_; refine Cw E HK (zaY (i := 0) rfl (by kernel_rfl) rfl rfl rfl (show 0 < 8 by decide)) fun a E => ?_; refine Cw E HK (zaE (i := 0) (off := 0) HS 1 rfl (HS.inS 1 rfl (by simp)) rfl (show 0 < 8 by decide) rfl rfl rfl (by kernel_rfl)) fun a E => ?_; refine Cw E HK pkm fun a E => ?_; refine Cw E HK (zbF rfl rfl) fun a E => ?_; refine Cw E HK (zaY (i := 1) rfl (by kernel_rfl) rfl rfl rfl (show 1 < 8 by decide)) fun a E => ?_
  refine Cw E HK (zaE (i := 1) (off := 0) HS 1 rfl (HS.inS 1 rfl (by simp)) rfl (show 1 < 8 by decide) rfl rfl rfl (by kernel_rfl)) fun a E => ?_; refine Cw E HK pkm fun a E => ?_; refine Cw E HK (zbF rfl rfl) fun a E => ?_; refine Cw E HK (zaY (i := 2) rfl (by kernel_rfl) rfl rfl rfl (show 2 < 8 by decide)) fun a E => ?_; refine Cw E HK (zaE (i := 2) (off := 0) HS 1 rfl (HS.inS 1 rfl (by simp)) rfl (show 2 < 8 by decide) rfl rfl rfl (by kernel_rfl)) fun a E => ?_; refine Cw E HK pkm fun a E => ?_
  refine Cw E HK (zbF rfl rfl) fun a E => ?_; refine Cw E HK (zaY (i := 3) rfl (by kernel_rfl) rfl rfl rfl (show 3 < 8 by decide)) fun a E => ?_; refine Cw E HK (zaE (i := 3) (off := 0) HS 1 rfl (HS.inS 1 rfl (by simp)) rfl (show 3 < 8 by decide) rfl rfl rfl (by kernel_rfl)) fun a E => ?_; refine Cw E HK pkm fun a E => ?_; refine Cw E HK (zbF rfl rfl) fun a E => ?_; refine Cw E HK (zaY (i := 4) rfl (by kernel_rfl) rfl rfl rfl (show 4 < 8 by decide)) fun a E => ?_
  refine Cw E HK (zaE (i := 4) (off := 0) HS 1 rfl (HS.inS 1 rfl (by simp)) rfl (show 4 < 8 by decide) rfl rfl rfl (by kernel_rfl)) fun a E => ?_; refine Cw E HK pkm fun a E => ?_; refine Cw E HK (zbF rfl rfl) fun a E => ?_; refine Cw E HK (zaY (i := 5) rfl (by kernel_rfl) rfl rfl rfl (show 5 < 8 by decide)) fun a E => ?_; refine Cw E HK (zaE (i := 5) (off := 0) HS 1 rfl (HS.inS 1 rfl (by simp)) rfl (show 5 < 8 by decide) rfl rfl rfl (by kernel_rfl)) fun a E => ?_; refine Cw E HK pkm fun a E => ?_
  refine Cw E HK (zbF rfl rfl) fun a E => ?_; refine Cw E HK (zaY (i := 6) rfl (by kernel_rfl) rfl rfl rfl (show 6 < 8 by decide)) fun a E => ?_; refine Cw E HK (zaE (i := 6) (off := 0) HS 1 rfl (HS.inS 1 rfl (by simp)) rfl (show 6 < 8 by decide) rfl rfl rfl (by kernel_rfl)) fun a E => ?_; refine Cw E HK pkm fun a E => ?_; refine Cw E HK (zbF rfl rfl) fun a E => ?_; refine Cw E HK (zaY (i := 7) rfl (by kernel_rfl) rfl rfl rfl (show 7 < 8 by decide)) fun a E => ?_
  refine Cw E HK (zaE (i := 7) (off := 0) HS 1 rfl (HS.inS 1 rfl (by simp)) rfl (show 7 < 8 by decide) rfl rfl rfl (by kernel_rfl)) fun a E => ?_; refine Cw E HK (zcA rfl rfl) fun a E => ?_; refine Cw E HK (zcA rfl rfl) fun a E => ?_; refine Cw E HK (zcA rfl rfl) fun a E => ?_; refine Cw E HK (zcA rfl rfl) fun a E => ?_; refine Cw E HK (zcA rfl rfl) fun a E => ?_; refine Cw E HK (zcA rfl rfl) fun a E => ?_; refine Cw E HK (zcA rfl rfl) fun a E => ?_
  refine CanB.wpCan_nil ?_
  try (simp only [jH, jI, jF, jG])
  clear HS HK hsz; refine Vv E pka fun a E => ?_; refine hK7 _ _ ?_; refine wp_seq_k fun K8 hK8 => ?_; refine Vr ?_; refine Vv E (zff (n := 64) (H.fact 1 rfl) (fun _ _ _ => trivial) rfl rfl rfl (by kernel_rfl)) fun a E => ?_; refine Vv E pkm fun a E => ?_; refine Vn ?_; refine wp_block ?_
  refine zbC (γ := Nat × (Nat → Nat) × (Nat → Nat)) [0, 4, 63] (fun g => [(6, u32 (g.2.2 0)), (7, u32 (g.2.2 1)), (8, u32 (g.2.2 2)), (9, u32 (g.2.2 3)), (10, u32 (g.2.2 4)), (11, u32 (g.2.2 5)), (12, u32 (g.2.2 6)), (13, u32 (g.2.2 7)), (64, .int .i64 (g.1 : Int))]) (fun g => [.blk b4 (ca [.row 16 fun i => u32 (g.2.1 i)]) 176, .blk hb (ca (.row 8 (fun i => u32 (h i)) :: cs)) ht]) (fun g => [TxF A c tx, AtC ⟨2, 0, none⟩ [.row 64 fun i => u32 (gt i)]]) (fun g => g.1 ≤ 64 ∧ (g.2.1, g.2.2) = zkh gt tx h g.1) (fun g => 64 - g.1) ((0, zi3 tx 16, h)) E H (by repeat (first | exact trivial | refine ⟨rfl, ?_⟩)) (⟨by omega, rfl⟩) ?_; clear E H; intro g a w E H hφ; replace E : Env a _ [(6, _), (7, _), (8, _), (9, _), (10, _), (11, _), (12, _), (13, _), (64, _), (0, _), (4, _), (63, _)] := E; replace H : Sep _ _ _ _ [_, _] [_, _] := H
  obtain ⟨t, wv, vv⟩ := g
  simp only at E H hφ ⊢
  obtain ⟨hφ, hM⟩ := hφ
  refine Vr ?_; refine Vv E pki fun a E => ?_; refine Vn ?_; refine wp_seq_k fun K11 hK11 => ?_; refine zau (d := 65) E rfl ?_ ?_
  ·skip
   clear E; intro c65 E
   have ht64 : t < 64 := by have := c65; simp only [jS] at this; omega
   refine za7 E rfl ?_; refine wp_skip ?_; refine hK11 _ _ ?_; refine wp_seq_k fun K12 hK12 => ?_; refine wp_block ?_; refine Vr ?_; refine Vv E pkm fun a E => ?_; refine Vv E (ziq (i := t) rfl (by kernel_rfl) rfl rfl rfl ht64) fun a E => ?_; refine Vv E pka fun a E => ?_; refine Vv E pka fun a E => ?_; refine Vn ?_
   refine zrQ (fun a w => Env a 162 [(14, .int .i64 (t : Int)), (15, u32 (gt t)), (64, .int .i64 (t : Int)), (63, .agg (ca [.row 64 fun i => u32 (gt i)])), (6, u32 (vv 0)), (7, u32 (vv 1)), (8, u32 (vv 2)), (9, u32 (vv 3)), (10, u32 (vv 4)), (11, u32 (vv 5)), (12, u32 (vv 6)), (13, u32 (vv 7)), (0, .pointer (some ⟨hb, 0, none⟩)), (4, .pointer (some ⟨b4, 0, none⟩))] ∧ Sep X [hb] w0 w [.blk b4 (ca [.row 16 fun i => u32 (zfi wv t i)]) 176, .blk hb (ca (.row 8 (fun i => u32 (h i)) :: cs)) ht] [TxF A c tx, AtC ⟨2, 0, none⟩ [.row 64 fun i => u32 (gt i)]]) ?_ ?_
   ·skip
    refine Vr ?_; refine Vv E pkm fun a E => ?_; refine Vv E pki fun a E => ?_; refine Vn ?_; refine zau (d := 69) E rfl ?_ ?_
    ·skip
     clear E; intro c69 E
     have h16 : 16 ≤ t := by have := c69; simp only [jS] at this; omega
     refine za7 E rfl ?_; refine zbr E H [] 23 [(0, false), (1, false), (2, false), (3, false), (4, false), (5, false), (6, false), (7, false), (8, false), (10, false), (11, false), (12, false), (13, false), (14, false), (16, false), (17, false), (18, false), (19, false), (20, false), (9, true), (15, false), (21, true), (22, false)] (by kernel_rfl) (by kernel_rfl) (fun w HS => ?_)
     (simp only [canOps, jD, jE, jF, jG])
     clear H
     have H := HS
     have hsz : w.heap.size ≤ w.heap.size := jV _
     have HK : CanB.Keep (fun k => k < w.heap.size ∧ k ∉ []) w w := CanB.Keep.refl _ _
     refine Cw E HK pkm fun a E => ?_; refine Cw E HK (zgZ (m := t) rfl rfl rfl rfl) fun a E => ?_; refine Cw E HK (zaY (i := t % 16) rfl (by kernel_rfl) rfl rfl rfl (Nat.mod_lt _ (show 0 < 16 by decide))) fun a E => ?_; refine Cw E HK (zaE (i := t % 16) (off := 0) HS 0 rfl (HS.inS 0 rfl (by simp)) rfl (Nat.mod_lt _ (show 0 < 16 by decide)) rfl rfl rfl (by kernel_rfl)) fun a E => ?_; refine Cw E HK pkm fun a E => ?_; refine Cw E HK (zaK rfl rfl rfl rfl (zdf (by omega) (by omega))) fun a E => ?_
     refine Cw E HK (zgZ (m := t + 1) rfl rfl rfl rfl) fun a E => ?_; refine Cw E HK (zaY (i := (t + 1) % 16) rfl (by kernel_rfl) rfl rfl rfl (Nat.mod_lt _ (show 0 < 16 by decide))) fun a E => ?_; refine Cw E HK (zaE (i := (t + 1) % 16) (off := 0) HS 0 rfl (HS.inS 0 rfl (by simp)) rfl (Nat.mod_lt _ (show 0 < 16 by decide)) rfl rfl rfl (by kernel_rfl)) fun a E => ?_; refine Cw E HK pkm fun a E => ?_; refine Cw E HK (zaK rfl rfl rfl rfl (zdf (by omega) (by omega))) fun a E => ?_; refine Cw E HK (zgZ (m := t + 9) rfl rfl rfl rfl) fun a E => ?_
     refine Cw E HK (zaY (i := (t + 9) % 16) rfl (by kernel_rfl) rfl rfl rfl (Nat.mod_lt _ (show 0 < 16 by decide))) fun a E => ?_; refine Cw E HK (zaE (i := (t + 9) % 16) (off := 0) HS 0 rfl (HS.inS 0 rfl (by simp)) rfl (Nat.mod_lt _ (show 0 < 16 by decide)) rfl rfl rfl (by kernel_rfl)) fun a E => ?_; refine Cw E HK pkm fun a E => ?_; refine Cw E HK (zaK rfl rfl rfl rfl (zdf (by omega) (by omega))) fun a E => ?_; refine Cw E HK (zgZ (m := t + 14) rfl rfl rfl rfl) fun a E => ?_
     refine Cw E HK (zaY (i := (t + 14) % 16) rfl (by kernel_rfl) rfl rfl rfl (Nat.mod_lt _ (show 0 < 16 by decide))) fun a E => ?_; refine Cw E HK (zaE (i := (t + 14) % 16) (off := 0) HS 0 rfl (HS.inS 0 rfl (by simp)) rfl (Nat.mod_lt _ (show 0 < 16 by decide)) rfl rfl rfl (by kernel_rfl)) fun a E => ?_; refine zfC E rfl (fun K hK => ?_); refine Vc E ?_; refine (zmV (n1 := 7) (n2 := 18) (n3 := 3) (by omega) (by omega) (by omega) (by omega) (by omega) (by omega) H.xk).mono ?_; rintro e w ⟨rfl, H1⟩
     have F := H1.frm
     replace H := H.call H1
     clear H1; replace H : Sep _ _ _ _ [_, _] [_, _] := H
     have hk := zaI (D := []) F hsz (by simp)
     refine hK _ _ hk ?_; clear hK K
     replace HK := HK.trans hk
     replace hsz := jU hsz (F).size
     clear hk; refine zfD E rfl rfl ?_; clear E a; intro a E; clear F; refine Cw E HK (zbO rfl rfl rfl) fun a E => ?_; refine zfC E rfl (fun K hK => ?_); refine Vc E ?_; refine (zmV (n1 := 17) (n2 := 19) (n3 := 10) (by omega) (by omega) (by omega) (by omega) (by omega) (by omega) H.xk).mono ?_; rintro e w ⟨rfl, H1⟩
     have F := H1.frm
     replace H := H.call H1
     clear H1; replace H : Sep _ _ _ _ [_, _] [_, _] := H
     have hk := zaI (D := []) F hsz (by simp)
     refine hK _ _ hk ?_; clear hK K
     replace HK := HK.trans hk
     replace hsz := jU hsz (F).size
     clear hk; refine zfD E rfl rfl ?_; clear E a; intro a E; clear F; refine Cw E HK (zbO rfl rfl rfl) fun a E => ?_; refine CanB.wpCan_nil ?_
     try (simp only [jH, jI, jF, jG])
     clear HS HK hsz; refine Vv E (zbO rfl rfl rfl) fun a E => ?_; refine Vv E (zaY (i := t % 16) rfl (by kernel_rfl) rfl rfl rfl (Nat.mod_lt _ (show 0 < 16 by decide))) fun a E => ?_; refine Ve E ?_; refine zbe (off := 0) (fun i => u32 (zfi wv t i)) 0 E H rfl rfl rfl (Nat.mod_lt _ (show 0 < 16 by decide)) rfl rfl rfl rfl rfl rfl (by kernel_rfl) (fun j => by rw [zk1, zfi, if_pos h16]) rfl ?_; clear H; intro w H F; replace H : Sep _ _ _ _ [_, _] _ := H; refine zdn rfl ?_; clear F
     exact ⟨E.to (by repeat (first | exact trivial | refine ⟨rfl, ?_⟩)), H⟩
    ·skip
     clear E; intro c69 E
     have h16 : ¬ 16 ≤ t := by have := c69; simp only [decide_eq_false_iff_not] at this; omega
     refine zaN E rfl ?_; refine wp_skip ?_
     exact ⟨E.to (by repeat (first | exact trivial | refine ⟨rfl, ?_⟩)), by rw [zfi, if_neg h16]; exact H⟩
   ·skip
    intro a w hJ
    obtain ⟨E, H⟩ := hJ
    replace H : Sep _ _ _ _ [_, _] [_, _] := H; refine wp_seq_k fun K16 hK16 => ?_; refine zbr E H [] 18 [(0, false), (1, false), (4, false), (5, false), (6, false), (7, false), (8, false), (9, false), (10, false), (12, false), (14, false), (15, false), (16, false), (17, false), (2, true), (3, false), (11, false), (13, false)] (by kernel_rfl) (by kernel_rfl) (fun w HS => ?_)
    (simp only [canOps, jD, jE, jF, jG])
    clear H
    have H := HS
    have hsz : w.heap.size ≤ w.heap.size := jV _
    have HK : CanB.Keep (fun k => k < w.heap.size ∧ k ∉ []) w w := CanB.Keep.refl _ _
    refine Cw E HK pkm fun a E => ?_; refine Cw E HK pkm fun a E => ?_; refine Cw E HK pkm fun a E => ?_; refine Cw E HK pkm fun a E => ?_; refine Cw E HK pkm fun a E => ?_; refine Cw E HK pkm fun a E => ?_; refine Cw E HK (zcC rfl rfl rfl) fun a E => ?_; refine Cw E HK (zfK rfl rfl rfl) fun a E => ?_; refine Cw E HK (zcC rfl rfl rfl) fun a E => ?_
    refine Cw E HK pkm fun a E => ?_; refine Cw E HK pkm fun a E => ?_; refine Cw E HK (zgZ (m := t) rfl rfl rfl rfl) fun a E => ?_; refine Cw E HK (zaY (i := t % 16) rfl (by kernel_rfl) rfl rfl rfl (Nat.mod_lt _ (show 0 < 16 by decide))) fun a E => ?_; refine Cw E HK (zaE (i := t % 16) (off := 0) HS 0 rfl (HS.inS 0 rfl (by simp)) rfl (Nat.mod_lt _ (show 0 < 16 by decide)) rfl rfl rfl (by kernel_rfl)) fun a E => ?_; refine zfC E rfl (fun K hK => ?_); refine Vc E ?_
    refine (zmW (n1 := 6) (n2 := 11) (n3 := 25) (by omega) (by omega) (by omega) (by omega) (by omega) (by omega) H.xk).mono ?_; rintro e w ⟨rfl, rfl⟩
    have F := Frm.refl [] w
    have hk := zaI (D := []) F hsz (by simp)
    refine hK _ _ hk ?_; clear hK K
    replace HK := HK.trans hk
    replace hsz := jU hsz (F).size
    clear hk; refine zfD E rfl rfl ?_; clear E a; intro a E; clear F; refine Cw E HK (zbO rfl rfl rfl) fun a E => ?_; refine Cw E HK (zbO rfl rfl rfl) fun a E => ?_; refine Cw E HK (zbO rfl rfl rfl) fun a E => ?_; refine CanB.wpCan_nil ?_
    try (simp only [jH, jI, jF, jG])
    clear HS HK hsz; refine Vv E (zbO rfl rfl rfl) fun a E => ?_; refine Vv E (zeY rfl rfl (congrArg (fun z => u32 z) (zxO gt (zfi wv t) vv t))) fun a E => ?_; refine hK16 _ _ ?_; refine Vr ?_; refine Vv E pkm fun a E => ?_; refine Ve E ?_; refine Vc E ?_; refine (zmW (n1 := 2) (n2 := 13) (n3 := 22) (by omega) (by omega) (by omega) (by omega) (by omega) (by omega) H.xk).mono ?_; rintro e w ⟨rfl, rfl⟩; refine Vp E fun a E => ?_; refine Vv E pkm fun a E => ?_; refine Vv E pkm fun a E => ?_; refine Vv E (zfK rfl rfl rfl) fun a E => ?_; refine Vv E pkm fun a E => ?_; refine Vv E pkm fun a E => ?_; refine Vv E pkm fun a E => ?_; refine Vv E (ziU rfl rfl rfl) fun a E => ?_; refine Vv E (zfK rfl rfl rfl) fun a E => ?_; refine Vv E (ziU rfl rfl rfl) fun a E => ?_; refine Vv E (zbO rfl rfl rfl) fun a E => ?_; refine Vv E (zeY rfl rfl (congrArg (fun z => u32 z) (zxP vv))) fun a E => ?_; refine Vn ?_; refine zaB ?_; refine Vv E pkm fun a E => ?_; refine Vv E pkm fun a E => ?_; refine Vv E pkm fun a E => ?_; refine Vv E pkm fun a E => ?_; refine Vv E pkm fun a E => ?_; refine Vv E (zbO rfl rfl rfl) fun a E => ?_; refine Vv E pkm fun a E => ?_; refine Vv E pkm fun a E => ?_; refine Vv E pkm fun a E => ?_; refine Vv E pkm fun a E => ?_; refine Vv E pkm fun a E => ?_; refine Vv E (zbO rfl rfl rfl) fun a E => ?_; refine Vv E pka fun a E => ?_; refine Vv E pka fun a E => ?_; refine Vv E pka fun a E => ?_
    refine Vv E pka fun a E => ?_; refine Vv E pka fun a E => ?_; refine Vv E pka fun a E => ?_; refine Vv E pka fun a E => ?_; refine Vv E pka fun a E => ?_; refine hK12 _ _ ?_; refine zaB ?_; refine Vv E (zaK rfl rfl rfl rfl (zdf (by omega) (by omega))) fun a E => ?_; refine Vv E pkm fun a E => ?_
    obtain ⟨v2, hv2⟩ : ∃ z, z = zgn vv (zuF gt (zfi wv t) vv t) (zwP vv) := ⟨_, rfl⟩
    have e0 : v2 0 = zdg (zuF gt (zfi wv t) vv t) (zwP vv) := by rw [hv2]; exact zxG _ _ _
    have e1 : v2 1 = vv 0 := by rw [hv2]; exact zxH _ _ _
    have e2 : v2 2 = vv 1 := by rw [hv2]; exact zxI _ _ _
    have e3 : v2 3 = vv 2 := by rw [hv2]; exact zxJ _ _ _
    have e4 : v2 4 = zdg (vv 3) (zuF gt (zfi wv t) vv t) := by rw [hv2]; exact zxK _ _ _
    have e5 : v2 5 = vv 4 := by rw [hv2]; exact zxL _ _ _
    have e6 : v2 6 = vv 5 := by rw [hv2]; exact zxM _ _ _
    have e7 : v2 7 = vv 6 := by rw [hv2]; exact zxN _ _ _
    replace E : Env a _ [(6, u32 (zdg (zuF gt (zfi wv t) vv t) (zwP vv))), (7, u32 (vv 0)), (8, u32 (vv 1)), (9, u32 (vv 2)), (10, u32 (zdg (vv 3) (zuF gt (zfi wv t) vv t))), (11, u32 (vv 4)), (12, u32 (vv 5)), (13, u32 (vv 6)), (64, .int .i64 (((t + 1 : Nat)) : Int)), (0, .pointer (some ⟨hb, 0, none⟩)), (4, .pointer (some ⟨b4, 0, none⟩)), (63, .agg (ca [.row 64 fun i => u32 (gt i)]))] := E.to (by repeat (first | exact trivial | refine ⟨rfl, ?_⟩))
    rw [← e0, ← e4, ← e1, ← e2, ← e3, ← e5, ← e6, ← e7] at E
    clear e0 e1 e2 e3 e4 e5 e6 e7; refine za9 ?_
    exact ⟨(t + 1, zfi wv t, v2), ⟨E.to (by repeat (first | exact trivial | refine ⟨rfl, ?_⟩)), H, ⟨by show t + 1 ≤ 64; omega, by rw [hv2]; exact zr2 hM⟩⟩, by show 64 - (t + 1) < 64 - t; omega⟩
  ·skip
   clear E; intro c65 E
   obtain rfl : t = 64 := by have := c65; simp only [decide_eq_false_iff_not] at this; omega
   refine zaN E rfl ?_; refine wp_exit ?_
   repeat (first | refine za4 ?_ | refine za5 ?_ | refine zaW (by decide) ?_)
   refine hK8 _ _ ?_; refine Vr ?_; refine Vv E pkm fun a E => ?_; refine Vv E pkm fun a E => ?_; refine Vv E pkm fun a E => ?_; refine Vv E pkm fun a E => ?_; refine Vv E pkm fun a E => ?_; refine Vv E pkm fun a E => ?_; refine Vv E pkm fun a E => ?_; refine Vv E pkm fun a E => ?_
   refine Vv E (zg0 (n := 8) (z := [.one (.int .u32 0), .one (.int .u32 0), .one (.int .u32 0), .one (.int .u32 0), .one (.int .u32 0), .one (.int .u32 0), .one (.int .u32 0), .one (.int .u32 0)]) (f := fun i => u32 (vv i)) rfl (by kernel_rfl) (by kernel_rfl) (⟨_, [.one _], 0, _, rfl, rfl, rfl, rfl, ⟨_, [.one _], 1, _, rfl, rfl, rfl, rfl, ⟨_, [.one _], 2, _, rfl, rfl, rfl, rfl, ⟨_, [.one _], 3, _, rfl, rfl, rfl, rfl, ⟨_, [.one _], 4, _, rfl, rfl, rfl, rfl, ⟨_, [.one _], 5, _, rfl, rfl, rfl, rfl, ⟨_, [.one _], 6, _, rfl, rfl, rfl, rfl, ⟨_, [.one _], 7, _, rfl, rfl, rfl, rfl, rfl⟩⟩⟩⟩⟩⟩⟩⟩) rfl) fun a E => ?_; refine Vv E pkm fun a E => ?_; refine Vn ?_; refine wp_block ?_
   have e0 : (fun i => u32 (zk0 h vv 0 i)) = fun i => u32 (h i) := by funext i; simp [zk0]
   rw [← e0] at H
   refine zbC (γ := Nat) [0, 147] (fun n => [(148, .int .i64 (n : Int))]) (fun n => [.blk b4 (ca [.row 16 fun i => u32 (wv i)]) 176, .blk hb (ca (.row 8 (fun i => u32 (zk0 h vv n i)) :: cs)) ht]) (fun n => [TxF A c tx, AtC ⟨2, 0, none⟩ [.row 64 fun i => u32 (gt i)]]) (fun n => n ≤ 8) (fun n => 8 - n) (0) E H (by repeat (first | exact trivial | refine ⟨rfl, ?_⟩)) (by omega) ?_; clear E H; intro n a w E H hφ; replace E : Env a _ [(148, _), (0, _), (147, _)] := E; replace H : Sep _ _ _ _ [_, _] [_, _] := H; refine Vr ?_; refine Vv E pki fun a E => ?_; refine Vn ?_; refine wp_seq_k fun K20 hK20 => ?_; refine zau (d := 149) E rfl ?_ ?_
   ·skip
    clear E; intro c149 E
    have hn : n < 8 := by have := c149; simp only [jS] at this; omega
    refine za7 E rfl ?_; refine wp_skip ?_; refine hK20 _ _ ?_; refine wp_seq_k fun K21 hK21 => ?_; refine wp_block ?_; refine Vr ?_; refine Vv E pkm fun a E => ?_; refine Vv E (ziq (i := n) rfl (by kernel_rfl) rfl rfl rfl hn) fun a E => ?_; refine Vv E pka fun a E => ?_; refine Vv E pka fun a E => ?_; refine Vn ?_; refine zbr E H [] 8 [(0, false), (1, false), (2, false), (3, false), (4, false), (5, false), (6, false), (7, false)] (by kernel_rfl) (by kernel_rfl) (fun w HS => ?_)
    (simp only [canOps, jD, jE, jF, jG])
    clear H
    have H := HS
    have hsz : w.heap.size ≤ w.heap.size := jV _
    have HK : CanB.Keep (fun k => k < w.heap.size ∧ k ∉ []) w w := CanB.Keep.refl _ _
    refine Cw E HK pkm fun a E => ?_; refine Cw E HK pkm fun a E => ?_; refine Cw E HK (zbF rfl rfl) fun a E => ?_; refine Cw E HK (zaY (i := n) rfl (by kernel_rfl) rfl rfl rfl hn) fun a E => ?_; refine Cw E HK (zaE (i := n) (off := 0) HS 1 rfl (HS.inS 1 rfl (by simp)) rfl hn rfl rfl rfl (by kernel_rfl)) fun a E => ?_; refine Cw E HK pkm fun a E => ?_; refine Cw E HK (zbO rfl rfl rfl) fun a E => ?_; refine Cw E HK (zbF rfl rfl) fun a E => ?_
    refine CanB.wpCan_nil ?_
    try (simp only [jH, jI, jF, jG])
    clear HS HK hsz; refine Vv E (zaY (i := n) rfl (by kernel_rfl) rfl rfl rfl hn) fun a E => ?_; refine Ve E ?_; refine zbe (off := 0) (fun i => u32 (zk0 h vv (n + 1) i)) 1 E H rfl rfl rfl hn rfl rfl rfl rfl rfl rfl (by kernel_rfl) (fun j => by rw [zr3]; exact zmX _ _ n j) rfl ?_; clear H; intro w H F; replace H : Sep _ _ _ _ [_, _] _ := H; refine zdn rfl ?_; clear F; refine hK21 _ _ ?_; refine zaB ?_; refine Vv E (zaK rfl rfl rfl rfl (zdf (by omega) (by omega))) fun a E => ?_; refine Vv E pkm fun a E => ?_; refine za9 ?_
    exact ⟨n + 1, ⟨E.to (by repeat (first | exact trivial | refine ⟨rfl, ?_⟩)), H, by omega⟩, by omega⟩
   ·skip
    clear E; intro c149 E
    obtain rfl : n = 8 := by have := c149; simp only [decide_eq_false_iff_not] at this; omega
    refine zaN E rfl ?_; refine wp_exit ?_
    repeat (first | refine za4 ?_ | refine za5 ?_ | refine zaW (by decide) ?_)
    refine bodyPost_end (fn := Tryz.f130) (results_none rfl _ _ _) E.defers ?_
    have hB : zcY gt h tx = zk0 h vv 8 := by rw [zcY, ← hM]
    rw [hB]
    exact ⟨rfl, H.popL.pop.pop⟩
end
section
open Go.RowKit
def zhr (gt h : Nat → Nat) (l : List Nat) : (Nat → Nat) × List Nat := if 64 ≤ l.length then zhr gt (zcY gt h (l.take 64)) (l.drop 64) else (h, l)
termination_by l.length
decreasing_by simp only [List.length_drop]; omega
theorem zeZ {gt h : Nat → Nat} {l : List Nat} (hl : 64 ≤ l.length) : zhr gt h l = zhr gt (zcY gt h (l.take 64)) (l.drop 64) := by rw [zhr, if_pos hl]
theorem zd8 {gt h : Nat → Nat} {l : List Nat} (hl : ¬ 64 ≤ l.length) : zhr gt h l = (h, l) := by rw [zhr, if_neg hl]
theorem zk2 (gt : Nat → Nat) : ∀ (n : Nat) (h : Nat → Nat) (l : List Nat), l.length ≤ n → (zhr gt h l).2.length < 64
 | 0, h, l, hl => by rw [zd8 (by omega)]; show l.length < 64; omega
 | n + 1, h, l, hl => by
  by_cases h1 : 64 ≤ l.length
  ·rw [zeZ h1]; exact zk2 gt n _ _ (by rw [List.length_drop]; omega)
  ·rw [zd8 h1]; show l.length < 64; omega
attribute [local irreducible] zdg zdM zfE orW zjU ziT zfA zeD zic zcY
section
variable {P : Program} {o : Oper} {a : Act} {w ws : World} {Q : Exit → Act → World → Prop} {N d : Nat} {l : List (Nat × Value)} {v : Value} {S : Nat → Prop} {K : Act → World → Prop}
 {X G : List Nat} {w0 : World} {L L' : List Res} {R : List (World → Prop)} {t u : TypeId} {x y : Operand}
theorem zdO {e : TypeId} {k m : List Nat} {c rc : Nat} {A RA : Option Addr} {Y : List Nat} {s : Operand} (i : Nat) (E : Env a N l) (H : Sep X G w0 w L R) (hr : St (TxF A c m) w Y) (ho : o.op = .call { callee := .builtin .append, args := #[s, x], argTypes := #[t, t] }) (hs : ev l s = some (.slice RA k.length rc)) (hx : ev l x = some (.slice A m.length c))
  (hi : L[i]? = some (.row (.slice RA k.length rc) e 1 k.length (k.map bv))) (hT : AppK P t e 1 1) (hn : k.length + m.length ≤ 140737488355328)
  (h : ∀ A' c' w', Sep X G w0 w' (L.set i (.row (.slice A' (k ++ m).length c') e 1 (k ++ m).length ((k ++ m).map bv))) R → Frm (Value.slice RA k.length rc).ownBlock.toList w w' → K (a.put o.dst (.slice A' (k ++ m).length c')) w') : o.wp P a w K Q := by
 refine zoi (news := m.map bv) i E H ho hs hx hi hT (by omega) (by simp) (fun hA => hr.now.nil hA) (by have := zfM (m := m.length) hr.now; rwa [List.take_length] at this) (fun u hu => by obtain ⟨z, _, rfl⟩ := List.mem_map.1 hu; rfl) (by omega) (by omega) fun A' c' w' _ H' F => ?_
 rw [← jQ, ← List.map_append] at H'
 rw [← jQ]
 exact h A' c' w' H' F
theorem zk3 {e tb : TypeId} {k : List Nat} {z rc b : Nat} {RA : Option Addr} {s : Operand} (i j : Nat) (E : Env a N l) (H : Sep X G w0 w L R) (ho : o.op = .call { callee := .builtin .append, args := #[s, x], argTypes := #[t, t] }) (hs : ev l s = some (.slice RA k.length rc)) (hx : ev l x = some (.slice (some ⟨b, 0, none⟩) 1 1))
  (hi : L[i]? = some (.row (.slice RA k.length rc) e 1 k.length (k.map bv))) (hj : L[j]? = some (.blk b (ca [.one (bv z)]) tb)) (hT : AppK P t e 1 1) (hn : k.length + 1 ≤ 140737488355328)
  (h : ∀ A' c' w', Sep X G w0 w' (L.set i (.row (.slice A' (k ++ [z]).length c') e 1 (k ++ [z]).length ((k ++ [z]).map bv))) R → Frm (Value.slice RA k.length rc).ownBlock.toList w w' → K (a.put o.dst (.slice A' (k ++ [z]).length c')) w') : o.wp P a w K Q := by
 have hat : AtC ⟨b, 0, none⟩ [.one (bv z)] w := zhS (t := tb) (fr := (0, 0)) (H.holds _ (List.mem_of_getElem? hj))
 refine zoi (news := [bv z]) i E H ho hs hx hi hT (by omega) (by simp) (fun hA => by cases hA) (fun ad hA j u hu => by obtain rfl := Option.some.inj hA; exact hat j u hu) (fun u hu => by rw [List.mem_singleton.1 hu]; rfl) (by omega) (by omega) fun A' c' w' _ H' F => ?_
 have e1 : k.length + 1 = (k ++ [z]).length := by simp
 have e2 : k.map bv ++ [bv z] = (k ++ [z]).map bv := by simp
 rw [e1, e2] at H'
 rw [e1]
 exact h A' c' w' H' F
theorem Sep.keys_x (H : Sep X G w0 w L R) (hd : ∀ k ∈ G, k ∉ X) : ∀ k ∈ zbz L, k ∉ X := fun k hk hm => by
 rcases H.mine k hk with h | h
 ·exact hd k h hm
 ·have := H.xlt k hm; omega
end
theorem zmY {X : List Nat} {w0 : World} {A : Option Addr} {c : Nat} {k : List Nat} (hX : ∀ k ∈ X, k < w0.heap.size) (h : St (TxF A c k) w0 X) :
  Calls Tryz.prog 96 #[.slice A k.length c] w0 fun e w' => ∃ A' c', e = .returned (.slice A' k.length c') ∧ Sep X [] w0 w' [.row (.slice A' k.length c') 5 1 k.length (k.map bv)] [] := by
 have hn := h.now
 refine (zmT A k.length c k w0 hn.txt hn.len).mono ?_
 rintro e w' ⟨v, rfl, ho, hb⟩
 obtain ⟨A', c', rfl, h1⟩ := zfg hX ho hb
 exact ⟨A', c', rfl, h1⟩
theorem zpq {sb ht n rc c : Nat} {h gt h2 : Nat → Nat} {RA A : Option Addr} {rest bs r2 : List Nat} (hF : zhr gt h (rest ++ bs) = (h2, r2)) (hN : n + bs.length ≤ 4611686018427387904) (hrl : rest.length ≤ 64) (hbl : bs.length ≤ 100000000) (hrb : ∀ x ∈ rest, x < 256) {X : List Nat} {w0 : World} (hX : ∀ k ∈ X, k < w0.heap.size) (H0 : Sep X (zbz [.blk sb (ca [.row 8 (fun i => u32 (h i)), .one (.int .u64 ((n : Nat) : Int)), .one (.slice RA rest.length rc)]) ht, .row (.slice RA rest.length rc) 5 1 rest.length (rest.map bv)]) w0 w0 [.blk sb (ca [.row 8 (fun i => u32 (h i)), .one (.int .u64 ((n : Nat) : Int)), .one (.slice RA rest.length rc)]) ht, .row (.slice RA rest.length rc) 5 1 rest.length (rest.map bv)] [TxF A c bs, AtC ⟨2, 0, none⟩ [.row 64 fun i => u32 (gt i)]]) (hd : ∀ k ∈ zbz [.blk sb (ca [.row 8 (fun i => u32 (h i)), .one (.int .u64 ((n : Nat) : Int)), .one (.slice RA rest.length rc)]) ht, .row (.slice RA rest.length rc) 5 1 rest.length (rest.map bv)], k ∉ X) :
  Calls Tryz.prog 109 #[.pointer (some ⟨sb, 0, none⟩), .slice A bs.length c] w0 fun e w' => e = .returned (.tuple #[]) ∧ ∃ RA2 rc2, Sep X (zbz [.blk sb (ca [.row 8 (fun i => u32 (h i)), .one (.int .u64 ((n : Nat) : Int)), .one (.slice RA rest.length rc)]) ht, .row (.slice RA rest.length rc) 5 1 rest.length (rest.map bv)]) w0 w' [.blk sb (ca [.row 8 (fun i => u32 (h2 i)), .one (.int .u64 ((n + bs.length : Nat) : Int)), .one (.slice RA2 r2.length rc2)]) ht, .row (.slice RA2 r2.length rc2) 5 1 r2.length (r2.map bv)] [] := by
 refine zaz Tryz.ntmps109 Tryz.func109 rfl rfl fun a E => ?_; replace E : Env a _ [(0, _), (1, _)] := E
 have H := H0
 have hbs := St.now (H0.fact 0 rfl)
 refine Vr ?_; refine Vv E pkm fun a E => ?_; refine Vv E (zbF rfl rfl) fun a E => ?_; refine Vv E (zaM (off := 8) rfl rfl (by kernel_rfl)) fun a E => ?_; refine Vv E (pko H 0) fun a E => ?_; refine Vv E pkm fun a E => ?_; refine Vv E pkn fun a E => ?_; refine Vv E (zd7 rfl rfl (by kernel_rfl) (by kernel_rfl) (zrS (by omega) (by omega))) fun a E => ?_; refine Vv E (zaK rfl rfl rfl rfl (zrS (by omega) (by omega))) fun a E => ?_
 rw [show ((n : Nat) : Int) + ((bs.length : Nat) : Int) = ((n + bs.length : Nat) : Int) from by omega] at E
 refine Vv E (zbF rfl rfl) fun a E => ?_; refine Vv E (zaM (off := 8) rfl rfl (by kernel_rfl)) fun a E => ?_; refine Ws 0 (new := [.one _]) E H fun w H => ?_; replace H : Sep _ _ _ _ [_, _] _ := H; refine Vn ?_; refine Vr ?_; refine Vv E pkm fun a E => ?_; refine Vv E (zbF rfl rfl) fun a E => ?_; refine Vv E (zaM (off := 9) rfl rfl (by kernel_rfl)) fun a E => ?_
 refine Vv E (pko H 0) fun a E => ?_; refine Vv E pkm fun a E => ?_; refine Ve E ?_; refine zdO (k := rest) (m := bs) 1 E H (H.fact 0 rfl) rfl rfl rfl rfl ⟨Tryz.underlying24, by kernel_rfl⟩ (by omega) ?_; clear H; intro A4 c4 w H F; replace H : Sep _ _ _ _ [_, _] _ := H; refine Vp E fun a E => ?_; clear F
 replace H := (H.at_ 1 _ rfl).rowTx (fun k hk => H.keys_x hd k (by simp only [zbz, List.mem_append]; exact .inr (.inl hk))) (by rw [jQ]; omega) (fun z hz => by rcases List.mem_append.1 hz with h1 | h1; exact hrb z h1; exact hbs.byt z h1)
 replace H : Sep _ _ _ _ [_] [_, _, _] := H; refine Vv E pka fun a E => ?_; refine Vn ?_; refine wp_seq_k fun K2 hK2 => ?_; refine wp_block ?_; refine zbC (γ := (Nat → Nat) × List Nat × Option Addr × Nat) [0] (fun g => [(4, .slice g.2.2.1 g.2.1.length g.2.2.2)]) (fun g => [.blk sb (ca [.row 8 (fun i => u32 (g.1 i)), .one (.int .u64 ((n + bs.length : Nat) : Int)), .one (.slice RA rest.length rc)]) ht]) (fun g => [TxF g.2.2.1 g.2.2.2 g.2.1, AtC ⟨2, 0, none⟩ [.row 64 fun i => u32 (gt i)]]) (fun g => zhr gt g.1 g.2.1 = (h2, r2)) (fun g => g.2.1.length) ((h, rest ++ bs, A4, c4)) E H.drop1 (by repeat (first | exact trivial | refine ⟨rfl, ?_⟩)) (hF) ?_; clear E H; intro g a w E H hφ; replace E : Env a _ [(4, _), (0, _)] := E; replace H : Sep _ _ _ _ [_] [_, _] := H
 obtain ⟨hh, tx, Ag, cg⟩ := g
 simp only at E H hφ ⊢
 refine wp_seq_k fun K3 hK3 => ?_; refine Vr ?_; refine Vv E pkm fun a E => ?_; refine Vv E pkn fun a E => ?_; refine Vv E pki fun a E => ?_; refine Vn ?_; refine zau (d := 23) E rfl ?_ ?_
 ·skip
  clear E; intro c23 E
  have h64 : 64 ≤ tx.length := by have := c23; simp only [jS] at this; omega
  refine za7 E rfl ?_; refine wp_skip ?_; refine hK3 _ _ ?_; refine wp_block ?_; refine wp_seq_k fun K5 hK5 => ?_; refine zbr E H [] 5 [(0, false), (1, false), (2, false), (3, false), (4, false)] (by kernel_rfl) (by kernel_rfl) (fun w HS => ?_)
  (simp only [canOps, jD, jE, jF, jG])
  clear H
  have H := HS
  have hsz : w.heap.size ≤ w.heap.size := jV _
  have HK : CanB.Keep (fun k => k < w.heap.size ∧ k ∉ []) w w := CanB.Keep.refl _ _
  refine Cw E HK pkm fun a E => ?_; refine Cw E HK (zbF rfl rfl) fun a E => ?_; refine Cw E HK (zaM (off := 0) rfl rfl (by kernel_rfl)) fun a E => ?_; refine Cw E HK pkm fun a E => ?_; refine Cw E HK (zeq (sz := 1) (hi := 64) rfl (by kernel_rfl) rfl rfl rfl (jU h64 (St.now (HS.fact 0 rfl)).cap)) fun a E => ?_
  rw [sub_zero, show (64 : Nat) = (tx.take 64).length from by rw [List.length_take]; omega] at E
  refine CanB.wpCan_nil ?_
  try (simp only [jH, jI, jF, jG])
  clear HS HK hsz; refine Ve E ?_; refine Vc E ?_
  have HG := (Sep.giveA (L1 := [_]) (L := []) (H.know (zdN (H.fact 0 rfl) h64))).refacts (R' := [_, _]) (jJ.2 ⟨((Sep.giveA (L1 := [_]) (L := []) (H.know (zdN (H.fact 0 rfl) h64))).fact 0 rfl), jJ.2 ⟨((Sep.giveA (L1 := [_]) (L := []) H).fact 1 rfl), jK _⟩⟩)
  refine (zxQ (hb := sb) (tx := tx.take 64) (by rw [List.length_take]; omega) HG.xlt HG).mono ?_; rintro e w ⟨rfl, H1⟩
  replace H := Sep.callA (L1 := [_]) (L := []) H H1
  clear H1; replace H : Sep _ _ _ _ [_] [_, _] := H; refine Vp E fun a E => ?_; clear HG; refine hK5 _ _ ?_; refine zaB ?_; refine Vv E pkm fun a E => ?_
  obtain ⟨A31, c31, h31, hT31⟩ := zeE (lo := 64) (H.fact 0 rfl) h64
  refine Vv E (zdS (sz := 1) (lo := 64) rfl (by kernel_rfl) rfl rfl rfl (by omega)) fun a E => ?_
  rw [h31] at E
  replace H := H.know hT31
  clear h31 hT31; replace H : Sep _ _ _ _ _ [_, _, _] := H; refine Vv E pka fun a E => ?_; refine zhw (za9 ?_)
  exact ⟨(zcY gt hh (tx.take 64), tx.drop 64, A31, c31), ⟨E.to (by repeat (first | exact trivial | refine ⟨rfl, ?_⟩)), H.drop1, by show zhr gt (zcY gt hh (tx.take 64)) (tx.drop 64) = (h2, r2); rw [← zeZ h64]; exact hφ⟩, by show (tx.drop 64).length < tx.length; rw [List.length_drop]; omega⟩
 ·skip
  clear E; intro c23 E
  have h64 : ¬ 64 ≤ tx.length := by have := c23; simp only [decide_eq_false_iff_not] at this; omega
  rw [zd8 h64] at hφ
  obtain ⟨rfl, rfl⟩ := Prod.mk.inj hφ
  refine zaN E rfl ?_; refine wp_exit ?_
  repeat (first | refine za4 ?_ | refine za5 ?_ | refine zaW (by decide) ?_)
  refine hK2 _ _ ?_; refine zaB ?_; refine Vv E pkm fun a E => ?_; refine Vv E pkm fun a E => ?_; refine Ve E ?_; refine Vc E ?_; refine (zmY H.xk (H.fact 0 rfl)).mono ?_; rintro e w ⟨A34, c34, rfl, H1⟩
  replace H := H.call H1
  clear H1; replace H : Sep _ _ _ _ [_, _] [_, _] := H; refine Vp E fun a E => ?_; refine Vv E (zbF rfl rfl) fun a E => ?_; refine Vv E (zaM (off := 9) rfl rfl (by kernel_rfl)) fun a E => ?_; refine Ws 1 (new := [.one _]) E H fun w H => ?_; replace H : Sep _ _ _ _ [_, _] _ := H; refine bodyPost_end (fn := Tryz.f109) (results_none rfl _ _ _) E.defers ?_
  exact ⟨rfl, _, _, (H.perm (List.Perm.swap _ _ _)).refacts (jK _)⟩
end
end Go.Proofs.YtfolbgiekbimpaaGreatDoor
