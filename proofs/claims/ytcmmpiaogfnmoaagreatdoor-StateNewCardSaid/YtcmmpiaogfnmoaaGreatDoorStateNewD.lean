/- Walks by computing: rows of one's own. No program is in sight. Walks by computing: functions that are given what is owned. No program is in sight. Walks by computing: texts that are read. No program is in sight. The lists of a tree's nodes. Trees with points: their nodes, their sums. Walks by computing: rows of bytes of one's own. No program is in sight. Walks by computing: lists behind own rows; nil. No program is in sight. Walks by computing: lists of texts in own blocks; what is lent. No program is in sight. Walks by computing: constants, strings, texts as keys. No program is in sight. The  -/
import Derived.Test.YtcmmpiaogfnmoaaGreatDoorStateNewC
import Derived.Laws.IdiomStrings
import Derived.Test.YtcmmpiaogfnmoaaGreatDoorRows
import Derived.Laws.Bits64b
set_option linter.unusedSimpArgs false
set_option linter.unusedVariables false
set_option maxRecDepth 200000
set_option maxHeartbeats 6000000
namespace Go.Proofs.YtcmmpiaogfnmoaaGreatDoor
section
open Go.RowKit
class Dec {α : Type} (T : Ty α) where
 dec : List Qd → T.μ
 enc : T.μ → List Qd
 de : ∀ m, dec (enc m) = m
instance : Dec zaF := ⟨fun _ => (), fun _ => [], fun _ => rfl⟩
instance : Dec zb5 := ⟨fun _ => (), fun _ => [], fun _ => rfl⟩
instance {α : Type} (T : Ty α) : Dec (zcM T) := ⟨fun l => qs l 0, fun m => [m], fun _ => rfl⟩
section
variable {α : Type} (T : Ty α) [Dec T]
def itQ (xs : List α) (g : Nat → List Qd) : List (α × T.μ) := zaH T xs fun i => Dec.dec (g i)
def zba (xs : List α) (e : Nat) : RB := .row e T.sz xs.length fun g => zbV T (itQ T xs g)
def zbS (xs : List α) (g : Nat → List Qd) (w : World) : Prop := zgG T (itQ T xs g) w
end
section
variable {P : Program} {Tb : Tab} {N k k0 ix : Nat} {l : LE} {m : MB} {R : List SF} {o : Oper} {sv : SV} {K : KS} {dst : Option Nat} {vis : List Nat} {gs : List GO} {KG : Nat → List GO → Prop}
variable {α : Type} {T : Ty α} [Dec T] {xs : List α} {x : α} {i j n0 off n ty e : Nat}
theorem zbX {g : Nat → List Qd} : (itQ T xs g).length = xs.length := zbk
theorem zpN {g : Nat → List Qd} (hj : xs[j]? = some x) : (itQ T xs g)[j]? = some (x, Dec.dec (g j)) := by unfold itQ; rw [zcm, hj]; rfl
theorem ztg {g : Nat → List Qd} : (itQ T xs g).map Prod.fst = xs := zsm
theorem zth {g : Nat → List Qd} (hj : xs[j]? = some x) (x' : α) : (itQ T xs g).set j (x', Dec.dec (g j)) = itQ T (xs.set j x') g := by
 refine List.ext_getElem? fun t => ?_
 have hl : j < xs.length := (List.getElem?_eq_some_iff.1 hj).1
 rw [List.getElem?_set, zbX]
 unfold itQ
 rw [zcm, zcm, List.getElem?_set]
 by_cases ht : j = t
 ·subst ht; simp [hl]
 ·simp [ht]
theorem zwR {g g' : Nat → List Qd} (hg : ∀ t, t < xs.length → g' t = g t) : itQ T (xs ++ [x]) g' = itQ T xs g ++ [(x, Dec.dec (g' xs.length))] := by
 refine List.ext_getElem? fun t => ?_
 unfold itQ
 rw [zcm]
 by_cases ht : t < xs.length
 ·rw [List.getElem?_append_left ht, List.getElem?_append_left (by rw [zbk]; exact ht), zcm, hg t ht]
 ·rw [List.getElem?_append_right (by omega), List.getElem?_append_right (by rw [zbk]; omega), zbk]
  by_cases h0 : t - xs.length = 0
  ·have : t = xs.length := by omega
   subst this
   simp
  ·obtain ⟨c, hc⟩ : ∃ c, t - xs.length = c + 1 := ⟨t - xs.length - 1, by omega⟩
   rw [hc]
   simp
theorem zti {X : List Nat} {w : World} {Rr : List (World → Prop)} {h : Hn} (H : Sp X w (zae h [] m) Rr) (hm : zaA m i = some (zba T xs e)) : w.ownsRow 0 e T.sz (.slice (h.r i).1 xs.length (h.r i).2) xs.length (zbV T (itQ T xs (h.q i))) :=
 H.holds _ ((zaM h m [] i _ hm (by simp)).mem_iff.2 (List.mem_cons_self ..))
theorem zyX {X : List Nat} {w : World} {Rr : List (World → Prop)} {h : Hn} (H : Sp X w (zae h [] m) Rr) (hm : zaA m i = some (zba T xs e)) (hj : xs[j]? = some x) : ∃ g, (h.r i).1 = some ⟨g, 0, none⟩ ∧ AtC ((⟨g, 0, none⟩ : Addr).add (j * T.sz)) (T.ch x (Dec.dec (h.q i j))) w := by
 have hown := zti H hm
 obtain ⟨g, hg⟩ := zwt hown (by have := (List.getElem?_eq_some_iff.1 hj).1; omega)
 refine ⟨g, hg, fun t u hu => ?_⟩
 rw [hg] at hown
 rw [Addr.add_add]
 exact World.ownsRow.cells hown (g := g) rfl _ u (zhJ _ _ _ _ u (zpN hj) hu)
theorem zyY {h : Hn} {g : Nat} {A : Option Addr} (hg : A = some ⟨g, 0, none⟩) (hr : (h.r i).1 = A) {s : Nat} : (hpS i j s off).den h = .pointer (some (((⟨g, 0, none⟩ : Addr).add (j * s)).add off)) := by
 show Value.pointer (some ((((h.r i).1.getD ⟨0, 0, none⟩).add (j * s)).add off)) = _
 rw [hr, hg]
 rfl
theorem zg2 {ag : Bool} {sub : List Chunk} {xop : Operand} (hm : zaA m i = some (zba T xs e)) (hj : xs[j]? = some x) (hp : ∀ μ, ziW (T.ch x μ) off n = some sub) (ho : o.op = .load ty xop) (hx : evS l xop = some (hpS i j T.sz off)) (ht : tyK P ty = some (n, ag)) (hv : ∀ h, (ag = true ∧ sv.den h = .agg (ca sub)) ∨ (ag = false ∧ n = 1 ∧ sub = [.one (sv.den h)])) : zfk P N l m R o sv := fun h X a w E H => by
 obtain ⟨g, hg, h1⟩ := zyX H hm hj
 have h2 := zgF h1 (hp _)
 have hx' := (zaf (h := h) hx).trans (by rw [zyY hg rfl])
 rcases hv h with ⟨rfl, e⟩ | ⟨rfl, rfl, e⟩
 ·rw [e]
  exact zbM E ho hx' ht (zeR (hp (Dec.dec (h.q i j)))).2.1 h2
 ·rw [e] at h2
  exact za0 E ho hx' ht h2
theorem zdA {m2 m' : MB} {R2 R' : List SF} {k2 : Nat} (hk : Nat.ble k k2 = true) (hc : ∀ (h : Hn) (X : List Nat) (w : World), Sp X w (zae h [] m) (zaT h R) → ∃ h2, AgS (lt_ k) h h2 ∧ Sp X w (zae h2 [] m2) (zaT h2 R2) ∧ ∀ j ∈ zad (zae h2 [] m2), j ∈ zad (zae h [] m)) (wl : wfE (lt_ k) l = true) (hs : zcj P N k2 l m2 R2 o sv m' R') : zcj P N k l m R o sv m' R' := fun Q h X a w E H Kk hK => by
 obtain ⟨h2, ha, H2, hkk⟩ := hc h X w H
 refine hs Q h2 X a w (by rw [zk9 ha wl]; exact E) H2 Kk fun h1 w' h3 h4 h5 h6 => ?_
 refine hK h1 w' (fun i hi => ?_) ⟨h4.os, h4.tape, h4.output, h4.size, fun j hj hn => h4.block j hj fun hm => hn (hkk j hm)⟩ h5 fun j hj => ?_
 ·have e1 := ha i hi
  have e2 := h3 i (zdf (Nat.le_of_ble_eq_true hk) i hi)
  exact ⟨e2.1.trans e1.1, e2.2.1.trans e1.2.1, e2.2.2.trans e1.2.2⟩
 ·exact (h6 j hj).imp_left (hkk j)
theorem zdV {h : Hn} {i k : Nat} (hi : i ≠ k) (wm : wfM (lt_ k) m = true) : zae h [k] ((i, .gone) :: m) = zae h [i] m := by
 have h1 : zaX i [k] = false := by
  cases hq : zaX i [k] with
  | false => rfl
  | true => exact absurd (List.mem_singleton.1 (zax.1 hq)) hi
 rw [zae, h1, cond_false, zcK h m [i, k] (k :: [i]) (fun j => by simp [or_comm]), zce h m [i] k fun p hp => Nat.ne_of_lt (zbG (zfm wm p hp))]
theorem zmA {new : List SC} {nn : Nat × Bool} {xop y : Operand} (x' : α) (hT : zbC P Tb) (hm : zaA m i = some (zba T xs e)) (hj : xs[j]? = some x) (ho : o.op = .store ty xop y) (hx : evS l xop = some (hpS i j T.sz off)) (hy : zf4 (evS l y) = some new) (hn : szT Tb ty = some nn) (hl : zfh new = nn.1) (h1 : ∀ h, zo9 (zaD h new)) (hp : ∀ h μ, ziX (T.ch x μ) off (zaD h new) = some (T.ch x' μ)) : zcj P N k l m R o (zeq undef) ((i, zba T (xs.set j x') e) :: m) R := fun Q h X a w E H Kk hK => by
 obtain ⟨g, hg, _⟩ := zyX H hm hj
 have H1 : Sp X w (.row (.slice (h.r i).1 xs.length (h.r i).2) e T.sz xs.length (zbV T (itQ T xs (h.q i))) :: zae h [i] m) (zaT h R) := H.numAt hm
 cases hv : evS l y with
 | none => rw [hv] at hy; cases hy
 | some v =>
  rw [hv] at hy
  have hx' := (zaf (h := h) hx).trans (by rw [zyY hg rfl])
  have hkm : ∀ j, j ∈ zad (zae h [] m) ↔ j ∈ zad (.row (.slice (h.r i).1 xs.length (h.r i).2) e T.sz xs.length (zbV T (itQ T xs (h.q i))) :: zae h [i] m) := fun j => (zaw (zaM h m [] i _ hm (by simp))).mem_iff
  refine zq6 (T := T) (its := itQ T xs (h.q i)) (p := (x, Dec.dec (h.q i j))) (x', Dec.dec (h.q i j)) 0 E H1.sep rfl hg zbX.symm (zpN hj) ho hx' rfl (zaf hv) (zeu hy) (h1 h) (hp h _) (by rw [zbf, hl]; exact zjV (zfn hT hn)) fun w' HS hF => ?_
  have e1 : zae h [] ((i, zba T (xs.set j x') e) :: m) = .row (.slice (h.r i).1 xs.length (h.r i).2) e T.sz xs.length (zbV T ((itQ T xs (h.q i)).set j (x', Dec.dec (h.q i j)))) :: zae h [i] m := by
   rw [zth hj, zap]
   show RB.den h i (zba T (xs.set j x') e) ++ zae h [i] m = _
   simp only [zba, RB.den, List.length_set]
   rfl
  have hk2 : ∀ j', j' ∈ zad (zae h [] ((i, zba T (xs.set j x') e) :: m)) → j' ∈ zad (zae h [] m) := fun j' hj' => by
   rw [e1] at hj'
   exact (hkm j').2 hj'
  refine hK h w' (fun _ _ => ⟨rfl, rfl, rfl⟩) ⟨hF.os, hF.tape, hF.output, hF.size, fun t ht hn => hF.block t ht fun hm' => hn ?_⟩ ?_ fun j' hj' => .inl (hk2 j' hj')
  ·rcases List.mem_singleton.1 hm' with rfl
   rw [hkm]
   exact List.mem_append_left _ (by simp [Res.keys, Value.ownBlock, hg])
  ·rw [e1]
   exact Sp.of_sep HS fun t ht hX => H1.xap t ht hX
theorem zwS {g : Nat → List Qd} {w : World} {x' : α} (hj : xs[j]? = some x) (hn : ∀ μ, T.nest x μ w → T.nest x' μ w) (H : zbS T xs g w) : zbS T (xs.set j x') g w := by
 unfold zbS at H ⊢
 rw [← zth hj]
 intro p hp
 rcases List.mem_or_eq_of_mem_set hp with h1 | rfl
 ·exact H p h1
 ·exact hn _ (H (x, Dec.dec (g j)) (List.mem_of_getElem? (zpN hj)))
theorem zmB {sv : SV} {m' : MB} {R' R2 : List SF} (hs : zcj P N k l m R o sv m' R') (hc : ∀ (h : Hn) (w : World) (Y : List Nat), (∀ r ∈ R', St (r.den h) w Y) → ∀ r ∈ R2, St (r.den h) w Y) : zcj P N k l m R o sv m' R2 := fun Q h X a w E H Kk hK => hs Q h X a w E H Kk fun h1 w' a1 a2 a3 a4 => hK h1 w' a1 a2 (a3.refacts fun r hr => by
 obtain ⟨q, hq, rfl⟩ := zay.1 hr
 exact hc h1 w' _ (fun r hr => a3.facts _ (zay.2 ⟨r, hr, rfl⟩)) q hq) a4
theorem zz8 {new : List SC} {nn : Nat × Bool} {xop y : Operand} (x' : α) (hT : zbC P Tb) (hm : zaA m i = some (zba T xs e)) (hj : xs[j]? = some x) (hr : .q i (zbS T xs) ∈ R) (hnest : ∀ μ w, T.nest x μ w → T.nest x' μ w) (ho : o.op = .store ty xop y) (hx : evS l xop = some (hpS i j T.sz off)) (hy : zf4 (evS l y) = some new) (hn : szT Tb ty = some nn) (hl : zfh new = nn.1) (h1 : ∀ h, zo9 (zaD h new)) (hp : ∀ h μ, ziX (T.ch x μ) off (zaD h new) = some (T.ch x' μ)) : zcj P N k l m R o (zeq undef) ((i, zba T (xs.set j x') e) :: m) (.q i (zbS T (xs.set j x')) :: R) :=
 zmB (zmA x' hT hm hj ho hx hy hn hl h1 hp) fun h w Y hY r hr' => by
  rcases List.mem_cons.1 hr' with rfl | hr'
  ·have h2 : St (zbS T xs (h.q i)) w Y := hY _ hr
   exact h2.imp fun w' hw => zwS hj (fun μ => hnest μ w') hw
  ·exact hY r hr'
theorem zpO {cs : List SC} {μs : Hn → List Qd} {t by_ : Nat} {s y : Operand} (hm : zaA m i = some (zba T xs e)) (ho : o.op = .call { callee := .builtin .append, args := #[s, y], argTypes := #[t, t] }) (hs : ∀ (h : Hn) (X : List Nat) (w : World), Sp X w (zae h [] m) (zaT h R) → ev (zcd h l) s = some (.slice (h.r i).1 n0 (h.r i).2)) (hn0 : n0 = xs.length) (hy : evS l y = some (slS j 0 1 1)) (hj : zaA m j = some (.blk cs e)) (hij : zaX j [i] = false) (hq : ∀ h, zaD h cs = T.ch x (Dec.dec (μs h)))
  (hT : AppK P t e T.sz by_) (hn : xs.length + 1 ≤ 9223372036854775807) (hby : (xs.length + 1) * by_ ≤ 140737488355328) (wm : wfM (lt_ k) m = true) (wr : wfR (lt_ k) R = true) (hr : .q i (zbS T xs) ∈ R) (hμ : ∀ h h', AgS (lt_ k) h h' → μs h' = μs h)
  (hnest : ∀ (h : Hn) (w : World) (Y : List Nat), (∀ r ∈ R, St (r.den h) w Y) → St (T.nest x (Dec.dec (μs h))) w Y) : zcj P N k l m R o (.a (.s (.p (.hd k (n0 + 1))))) ((k, zba T (xs ++ [x]) e) :: (i, .gone) :: m) (.q k (zbS T (xs ++ [x])) :: R) := fun Q h X a w E H Kk hK => by
 subst hn0
 have hji : j ∉ [i] := fun hm' => by rw [zax.2 hm'] at hij; cases hij
 have hik : i < k := by
  have key : ∀ (m : MB) q, zaA m i = some q → wfM (lt_ k) m = true → i < k := by
   intro m
   induction m with
   | nil => intro q e; cases e
   | cons p m ih =>
    intro q e hw
    unfold zaA at e
    cases hb : Nat.beq p.1 i with
    | true => rw [← Nat.eq_of_beq_eq_true hb]; exact zbG (zab hw).1
    | false => rw [hb] at e; exact ih q e (zab (zab hw).2).2
  exact key m _ hm wm
 have hp1 := zaM h m [] i _ hm (by simp)
 have hp2 := zaM h m [i] j _ hj hji
 have H1 : Sp X w (.row (.slice (h.r i).1 xs.length (h.r i).2) e T.sz (itQ T xs (h.q i)).length (zbV T (itQ T xs (h.q i))) :: .blk (h.b j) (ca (zaD h cs)) e :: zae h [j, i] m) (zaT h R) := by
  rw [zbX]
  exact (H.perm hp1).perm (List.Perm.cons _ hp2)
 refine zws (T := T) (q := (x, Dec.dec (μs h))) 0 1 E H1.sep ho (hs h X w H) (zaf hy) rfl rfl (hq h) hT (by rw [zbX]; exact hn) (by rw [zbX]; exact hby) fun A' c' w' hc HS hF => ?_
 let h1 : Hn := ⟨h.b, fun t => if t = k then (A', c') else h.r t, fun t => if t = k then (fun u => if u < xs.length then h.q i u else μs h) else h.q t⟩
 have hag : AgS (lt_ k) h h1 := fun t ht => by
  have := zbG ht
  exact ⟨rfl, if_neg (by omega), if_neg (by omega)⟩
 have er : h1.r k = (A', c') := if_pos rfl
 have eq : h1.q k = fun u => if u < xs.length then h.q i u else μs h := if_pos rfl
 have eits : itQ T xs (h.q i) ++ [(x, Dec.dec (μs h))] = itQ T (xs ++ [x]) (h1.q k) := by
  rw [zwR (g := h.q i) (fun t ht => by rw [eq]; exact if_pos ht), eq]
  simp
 have e1 : zae h1 [] ((k, zba T (xs ++ [x]) e) :: (i, .gone) :: m) = .row (.slice A' (itQ T (xs ++ [x]) (h1.q k)).length c') e T.sz (itQ T (xs ++ [x]) (h1.q k)).length (zbV T (itQ T (xs ++ [x]) (h1.q k))) :: zae h [i] m := by
  rw [zap]
  show RB.den h1 k (zba T (xs ++ [x]) e) ++ zae h1 [k] ((i, .gone) :: m) = _
  rw [zdV (by omega) wm, zaL hag wm, zbX]
  simp only [zba, RB.den, er]
  rfl
 have e2 : (a.put o.dst (.slice A' (itQ T xs (h.q i) ++ [(x, Dec.dec (μs h))]).length c')) = a.put o.dst (SV.den h1 (.a (.s (.p (.hd k (xs.length + 1)))))) := by
  show _ = a.put o.dst (.slice (h1.r k).1 (xs.length + 1) (h1.r k).2)
  rw [er, jQ, zbX]
  rfl
 rw [e2]
 have hkk : ∀ t, t ∈ zad (zae h [] m) ↔ t ∈ zad (.row (.slice (h.r i).1 xs.length (h.r i).2) e T.sz (itQ T xs (h.q i)).length (zbV T (itQ T xs (h.q i))) :: .blk (h.b j) (ca (zaD h cs)) e :: zae h [j, i] m) := fun t => (zaw (hp1.trans (List.Perm.cons _ hp2))).mem_iff
 have HS2 : Sep X (zad (zae h [] m)) w w' (zae h1 [] ((k, zba T (xs ++ [x]) e) :: (i, .gone) :: m)) (zaT h R) := by
  rw [e1]
  have HS3 := HS.perm (List.Perm.cons _ hp2.symm)
  rw [eits] at HS3
  exact ⟨⟨HS3.frm.os, HS3.frm.tape, HS3.frm.output, HS3.frm.size, fun t ht hn => HS3.frm.block t ht fun hm' => hn ((hkk t).2 hm')⟩, HS3.xlt, HS3.holds, HS3.apart, fun t ht => (HS3.mine t ht).imp_left (hkk t).2, HS3.facts⟩
 have hqR : ∀ r ∈ R, St (r.den h) w' (X ++ zad (zae h1 [] ((k, zba T (xs ++ [x]) e) :: (i, .gone) :: m))) := fun r hr => HS2.facts _ (zay.2 ⟨r, hr, rfl⟩)
 refine hK h1 w' hag HS2.frm ?_ (fun t ht => HS2.mine t ht)
 have hX : ∀ t ∈ zad (zae h1 [] ((k, zba T (xs ++ [x]) e) :: (i, .gone) :: m)), t ∉ X := fun t ht hX => by
  rcases HS2.mine t ht with h3 | h3
  ·exact H.xap t h3 hX
  ·have := H.xlt t hX; omega
 refine (Sp.of_sep HS2 hX).refacts fun r hr' => ?_
 obtain ⟨q, hq', rfl⟩ := zay.1 hr'
 rcases List.mem_cons.1 hq' with rfl | hq'
 ·show St (zbS T (xs ++ [x]) (h1.q k)) w' _
  unfold zbS
  rw [← eits]
  exact zst (hqR _ hr) (hnest h w' _ hqR)
 ·rw [SF.same hag (zbW wr _ hq')]
  exact hqR _ hq'
theorem zfz {cs : List SC} {μs : Hn → List Qd} {t by_ : Nat} {s y : Operand} (hm : zaA m i = some (zba T xs e)) (ho : o.op = .call { callee := .builtin .append, args := #[s, y], argTypes := #[t, t] }) (hs : evS l s = some (.a (.s (.p (.hd i n0))))) (hn0 : n0 = xs.length) (hy : evS l y = some (slS j 0 1 1)) (hj : zaA m j = some (.blk cs e)) (hij : zaX j [i] = false) (hq : ∀ h, zaD h cs = T.ch x (Dec.dec (μs h)))
  (hT : AppK P t e T.sz by_) (hn : xs.length + 1 ≤ 9223372036854775807) (hby : (xs.length + 1) * by_ ≤ 140737488355328) (wm : wfM (lt_ k) m = true) (wr : wfR (lt_ k) R = true) (hr : .q i (zbS T xs) ∈ R) (hμ : ∀ h h', AgS (lt_ k) h h' → μs h' = μs h)
  (hnest : ∀ (h : Hn) (w : World) (Y : List Nat), (∀ r ∈ R, St (r.den h) w Y) → St (T.nest x (Dec.dec (μs h))) w Y) : zcj P N k l m R o (.a (.s (.p (.hd k (n0 + 1))))) ((k, zba T (xs ++ [x]) e) :: (i, .gone) :: m) (.q k (zbS T (xs ++ [x])) :: R) :=
 zpO hm ho (fun h _ _ _ => zaf hs) hn0 hy hj hij hq hT hn hby wm wr hr hμ hnest
theorem zkd {X : List Nat} {w : World} {h : Hn} {cs : List SC} {t : Nat} (hm : zaA m i = some (.blk cs t)) (H : Sp X w (zae h [] m) (zaT h R)) : Sp X w (zae h [] ((i, .gone) :: m)) (zaT h (.blk i cs :: R)) ∧ ∀ j ∈ zad (zae h [] ((i, .gone) :: m)), j ∈ zad (zae h [] m) := by
 have hp := zaM h m [] i _ hm (by simp)
 have hf := (H.numAt hm).freeze
 refine ⟨hf.refacts fun r hr' => ?_, fun j hj => (zaw hp).mem_iff.2 (List.mem_append_right _ hj)⟩
 rcases List.mem_cons.1 hr' with rfl | hr'
 ·exact (hf.facts _ (List.mem_cons_self ..)).imp fun w' hw => zeo (t := t) (fr := (0, 0)) hw
 ·exact hf.facts _ (List.mem_cons_of_mem _ hr')
def zz9 : List Nat → MB → MB
 | [], m => m
 | i :: is, m => zz9 is ((i, .gone) :: m)
def zyZ : List Nat → MB → List SF → Option (List SF)
 | [], _, R => some R
 | i :: is, m, R => match zaA m i with
  | some (.blk cs _) => zyZ is ((i, .gone) :: m) (.blk i cs :: R)
  | _ => none
theorem zhx {X : List Nat} {w : World} {h : Hn} {R' : List SF} : ∀ {is : List Nat} {m : MB} {R : List SF}, zyZ is m R = some R' → Sp X w (zae h [] m) (zaT h R) → Sp X w (zae h [] (zz9 is m)) (zaT h R') ∧ ∀ j ∈ zad (zae h [] (zz9 is m)), j ∈ zad (zae h [] m)
 | [], m, R, e, H => by obtain rfl := Option.some.inj e; exact ⟨H, fun _ h => h⟩
 | i :: is, m, R, e, H => by
  unfold zyZ at e
  split at e
  ·rename_i cs t hm
   obtain ⟨h1, h2⟩ := zkd hm H
   obtain ⟨h3, h4⟩ := zhx e h1
   exact ⟨h3, fun j hj => h2 j (h4 j hj)⟩
  ·cases e
theorem zaG {sv : SV} {m' : MB} {R2 R' : List SF} (is : List Nat) (hz : zyZ is m R = some R2) (wl : wfE (lt_ k) l = true) (hs : zcj P N k l (zz9 is m) R2 o sv m' R') : zcj P N k l m R o sv m' R' :=
 zdA (Nat.ble_eq_true_of_le (jV k)) (fun h X w H => ⟨h, fun _ _ => ⟨rfl, rfl, rfl⟩, zhx hz H⟩) wl hs
theorem zke {X : List Nat} {w : World} {h : Hn} (hm : zaA m i = some (zba T xs e)) (hr : .q i (zbS T xs) ∈ R) (H : Sp X w (zae h [] m) (zaT h R)) : Sp X w (zae h [] ((i, .gone) :: m)) (zaT h (.sl i xs.length (SlF T xs) :: R)) ∧ ∀ j ∈ zad (zae h [] ((i, .gone) :: m)), j ∈ zad (zae h [] m) := by
 have hp := zaM h m [] i _ hm (by simp)
 have H1 : Sp X w (.row (.slice (h.r i).1 xs.length (h.r i).2) e T.sz xs.length (zbV T (itQ T xs (h.q i))) :: zae h [i] m) (zaT h R) := H.numAt hm
 have hf := H1.freeze
 have h1 := zzF (T := T) (its := itQ T xs (h.q i)) (e := e) (n := xs.length) (A := (h.r i).1) (c := (h.r i).2) (hf.facts _ (List.mem_cons_self ..)) zbX.symm (hf.facts _ (List.mem_cons_of_mem _ (zay.2 ⟨_, hr, rfl⟩)))
 rw [ztg] at h1
 refine ⟨hf.refacts fun r hr' => ?_, fun j hj => (zaw hp).mem_iff.2 (List.mem_append_right _ hj)⟩
 rcases List.mem_cons.1 hr' with rfl | hr'
 ·exact h1.imp fun w' hw => ⟨fun e => (hw.nil e).1, _, hw⟩
 ·exact hf.facts _ (List.mem_cons_of_mem _ hr')
theorem zwT {n : Nat} {d : α} {c : List Chunk} {g : Nat → List Qd} (hc : ∀ i, T.ch d (Dec.dec (g i)) = c) : zbV T (itQ T (List.replicate n d) g) = (madeCells (ca c) (n * T.sz)).toList := by
 have hlen : zdq c = T.sz := by rw [← hc 0]; exact T.len _ _
 refine List.ext_getElem? fun j => ?_
 by_cases hj : j < n * T.sz
 ·have hlt : j / T.sz < n := (Nat.div_lt_iff_lt_mul T.pos).2 hj
  have hmod := Nat.mod_lt j T.pos
  have hcl : j % T.sz < (cl c).length := by rw [za6, hlen]; exact hmod
  have h1 := zhJ (T := T) (itQ T (List.replicate n d) g) (j / T.sz) (j % T.sz) (d, Dec.dec (g (j / T.sz))) _ (zpN (by simp [hlt])) (by rw [hc]; exact jP hcl)
  rw [show j / T.sz * T.sz + j % T.sz = j by rw [Nat.mul_comm]; exact Nat.div_add_mod j T.sz] at h1
  rw [h1]
  have hs : (ca c).size = T.sz := by rw [zcT, hlen]
  have hl2 : (cl c).length = T.sz := by rw [za6, hlen]
  simp [madeCells, hj, ca, hl2]
  rw [jP hcl]
  rfl
 ·rw [List.getElem?_eq_none (by rw [zdv, zbX, List.length_replicate]; omega), List.getElem?_eq_none (by rw [Array.length_toList, size_madeCells]; omega)]
theorem zy0 {d : α} {c : List Chunk} {t by_ : Nat} {x y : Operand} {kx ky : IntKind} {z1 z2 : Int} (hT : AppK P t e T.sz by_) (hz : zep P e = some (ca c)) (hc : T.ch d (Dec.dec []) = c) (ho : o.op = .makeSlice t x y) (hx : evS l x = some (zam kx z1)) (hy : evS l y = some (zam ky z2)) (h1 : z1 = (n : Int)) (h2 : z2 = (n : Int)) (hb : by_ * n ≤ 281474976710656) (hn : n ≤ maxLen) : zfv P N k l m R o (.a (.s (.p (.hd k n)))) [zba T (List.replicate n d) e] [] := fun Q h X a w E H Kk hK => by
 subst h1 h2
 have hinfo := hT.info
 cases hi : P.info? e with
 | none => rw [hi] at hinfo; cases hinfo
 | some i =>
  rw [hi] at hinfo
  simp only [Option.map_some, Option.some.injEq, Prod.mk.injEq] at hinfo
  obtain ⟨hz0, hs, hbt⟩ := hinfo
  obtain ⟨i', zv, hi', hzz, hzc⟩ := zeS hz
  obtain rfl : i = i' := by rw [hi] at hi'; exact Option.some.inj hi'
  obtain ⟨w', hrun, hown, hgr⟩ := run_make_full (P := P) w 0 t e i zv T.sz hT.sl hi hzz hs kx ky n (by rw [hbt]; exact hb) hn (Nat.zero_le _)
  let h1 : Hn := ⟨h.b, fun t => if t = k then (some ⟨w.heap.size, 0, none⟩, n) else h.r t, fun t => if t = k then (fun _ => []) else h.q t⟩
  have er : h1.r k = (some ⟨w.heap.size, 0, none⟩, n) := if_pos rfl
  have eq : h1.q k = fun _ => [] := if_pos rfl
  have e1 : zdN h1 k [zba T (List.replicate n d) e] = [.row (.slice (some ⟨w.heap.size, 0, none⟩) n n) e T.sz n (madeCells zv.cells (n * T.sz)).toList] := by
   rw [hzc, ← zwT (T := T) (d := d) (g := h1.q k) (fun _ => by rw [eq]; exact hc)]
   simp only [zdN, zba, RB.den, er, List.length_replicate, List.append_nil]
  have hsv : SV.den h1 (.a (.s (.p (.hd k n)))) = .slice (some ⟨w.heap.size, 0, none⟩) n n := by
   show Value.slice (h1.r k).1 n (h1.r k).2 = _
   rw [er]
  unfold Oper.wp execOp
  simp only [ho, E.ev (zaf hx), E.ev (zaf hy), Sem.run_bind]
  have hx0 : (SV.den h (zam kx n)) = .int kx n := rfl
  have hy0 : (SV.den h (zam ky n)) = .int ky n := rfl
  rw [hx0, hy0, hrun]
  simp only [Result.andThen_ok, Sem.run_pure]
  have hf : Frm [] w w' := Frm.of_grown hgr
  have := hK h1 w' (fun t ht => ⟨rfl, if_neg (by simp at ht; omega), if_neg (by simp at ht; omega)⟩) hf (by
   rw [e1]
   exact (Sep.none_ H.xk).own hf hown (by simp [Res.keys, Value.ownBlock]) (by simp [Res.keys, Value.ownBlock]))
  rw [hsv] at this
  exact this
theorem zDa {cs : List SC} {xop : Operand} {s : Nat} (hm : zf6 R m i = some cs) (ho : o.op = .load ty xop) (hx : evS l xop = some (apS i off j s)) (ht : tyK P ty = some (1, false)) (hc : ∀ h, (cl (zaD h cs))[off + j * s]? = some (sv.den h)) : zfk P N l m R o sv := fun h X a w E H =>
 za0 E ho (zaf (h := h) hx) ht (zzU H hm (hc h))
theorem zef {w : World} {b t c : Nat} {A A' : List Chunk} {v : Value} (hg : w.heap[b]? = some (.cells (ca A) t (0, 0))) (h1 : v.oneCell' = true) (hoff : c < zdq A) (hA : cl A' = (cl A).set c v) (hs : zdr P ty = some 1) : (storeVar ty ⟨b, c, none⟩ v).run P w = .ok () (w.setRow b (ca A')) := by
 have hv : v.cells = #[v] := zme h1
 have h4 := run_storeCells_at P b c t [v] 0 (ca A) w hg (by rw [zcT]; simp; omega) (fun u hu => by rw [List.mem_singleton.1 hu]; exact h1)
 unfold zdr at hs
 rw [Option.map_eq_some_iff] at hs
 obtain ⟨i, hi, hsz⟩ := hs
 have e : ((ca A).toList.take (c + 0) ++ [v] ++ (ca A).toList.drop (c + 0 + [v].length)).toArray = ca A' := by
  unfold ca
  rw [hA, List.set_eq_take_append_cons_drop, if_pos (by rw [za6]; exact hoff)]
  simp
 rw [e] at h4
 unfold storeVar
 simp only [sizeOf, typeInfo, Sem.run_bind, hv]
 simp [hi, hsz]
 exact h4
theorem zh9 {cs cs' : List SC} {t s : Nat} {xop y : Operand} {x : SS} (hm : zaA m i = some (.blk cs t)) (ho : o.op = .store ty xop y) (hx : evS l xop = some (apS i off j s)) (hy : evS l y = some (.a (.s x))) (hok : okS x = true) (hs : zdr P ty = some 1) (hlt : off + j * s < zfh cs) (hc : ∀ h, cl (zaD h cs') = (cl (zaD h cs)).set (off + j * s) (x.den h)) : zcj P N k l m R o (zeq undef) ((i, .blk cs' t) :: m) R := fun Q h X a w E H Kk hK => by
 have hb := zco H hm
 have H1 : Sp X w (.blk (h.b i) (ca (zaD h cs)) t :: zae h [i] m) (zaT h R) := H.numAt hm
 have hr := zcb ho (E.ev (zaf hx)) (E.ev (zaf hy)) (zef (P := P) (ty := ty) (A' := zaD h cs') hb (zn8 hok) (by rw [zbf]; exact hlt) (hc h) hs)
 unfold Oper.wp
 rw [hr]
 have hf := zcc (h.b i) (ca (zaD h cs')) w
 have ht := H1.turnAt (q' := .blk (h.b i) (ca (zaD h cs')) t) 0 rfl hf (zeQ hb) (by simp [Res.keys]) (by simp [Res.keys]) rfl
 have hkm : ∀ j, j ∈ zad (.blk (h.b i) (ca (zaD h cs)) t :: zae h [i] m) ↔ j ∈ zad (zae h [] m) := fun j => (zaw (zaM h m [] i _ hm (by simp))).mem_iff.symm
 refine hK h _ (fun _ _ => ⟨rfl, rfl, rfl⟩) ⟨hf.os, hf.tape, hf.output, hf.size, fun k hk hn => hf.block k hk fun hm' => hn ?_⟩ ht.1 fun j hj => ?_
 ·exact (hkm k).1 (List.mem_append_left _ hm')
 ·rcases ht.2 j hj with h2 | h2
  ·exact .inl ((hkm j).1 h2)
  ·exact .inr h2
theorem zjg {n j : Nat} {f : Nat → Value} {post : List Chunk} {v : Value} (hj : j < n) : cl (.row n (upd f j v) :: post) = (cl (.row n f :: post)).set j v := by
 refine List.ext_getElem? fun t => ?_
 rw [List.getElem?_set]
 simp only [cl, Chunk.cells]
 by_cases ht : t < n
 ·rw [List.getElem?_append_left (by simpa using ht), List.getElem?_append_left (by simpa using ht)]
  by_cases e : j = t
  ·subst e; simp [ht, upd]; omega
  ·simp [ht, upd, e, Ne.symm e]
 ·rw [List.getElem?_append_right (by simp; omega), List.getElem?_append_right (by simp; omega)]
  simp
  omega
theorem zfA {n t : Nat} {f : Nat → Value} (f' : Nat → Value) {post : List SC} {xop y : Operand} {v : Value} (hm : zaA m i = some (.blk (.row n f :: post) t)) (ho : o.op = .store ty xop y) (hx : evS l xop = some (apS i 0 j 1)) (hy : evS l y = some (zfM v)) (hok : v.oneCell' = true) (hs : zdr P ty = some 1) (hj : j < n) (hf : ∀ u, upd f j v u = f' u) : zcj P N k l m R o (zeq undef) ((i, .blk (.row n f' :: post) t) :: m) R := by
 obtain rfl : upd f j v = f' := funext hf
 exact zh9 (x := .p (.v v)) hm ho hx hy hok hs (by simp only [zfh, SC.len]; omega) fun h => by
  rw [Nat.zero_add, Nat.mul_one]
  exact zjg hj
end
end
section
open Go.RowKit
def Hn.ext (h : Hn) (g : Nat) (bl : List Nat) (ql : List Qd) : Hn := ⟨fun i => if g ≤ i then zi3 bl (i - g) else h.b i, fun i => if g ≤ i then qs ql (i - g) else h.r i, h.q⟩
def ztj (h0 : Hn) (i : Nat) : Nat → Qd → (Nat → List Qd) → World → Prop := fun b r q _ => b = h0.b i ∧ r = h0.r i ∧ q = h0.q i
def kbF (h0 : Hn) : List Nat → List SF
 | [] => []
 | i :: kb => .nm i (ztj h0 i) :: kbF h0 kb
def kbR (f : List (Nat × Nat)) (h0 : Hn) (R : List SF) : List Nat → List Nat → Prop
 | [], _ => True
 | i :: kb, j :: js => R[j]? = some (.nm (zcR f i) (ztj h0 i)) ∧ kbR f h0 R kb js
 | _ :: _, [] => False
theorem Hn.ext_ag (h : Hn) (g : Nat) (bl : List Nat) (ql : List Qd) : AgS (lt_ g) h (h.ext g bl ql) := fun i hi => ⟨if_neg (by have := zbG hi; omega), if_neg (by have := zbG hi; omega), rfl⟩
section
variable {P : Program} {T : Tab} {N : Nat} {X : List Nat} {w0 : World}
theorem zy1 {S : Nat → Bool} {h0 : Hn} : ∀ {kb : List Nat}, (∀ i ∈ kb, S i = true) → wfR S (kbF h0 kb) = true
 | [], _ => rfl
 | i :: kb, h => zaz (h i (List.mem_cons_self ..)) (zy1 fun j hj => h j (List.mem_cons_of_mem _ hj))
theorem ztk {h0 : Hn} : ∀ {kb : List Nat} {r : SF}, r ∈ kbF h0 kb → ∃ i ∈ kb, r = .nm i (ztj h0 i)
 | [], r, h => by cases h
 | i :: kb, r, h => by
  rcases List.mem_cons.1 h with rfl | h
  ·exact ⟨i, List.mem_cons_self .., rfl⟩
  ·obtain ⟨j, h1, h2⟩ := ztk h
   exact ⟨j, List.mem_cons_of_mem _ h1, h2⟩
theorem zy2 {f : List (Nat × Nat)} {h0 : Hn} {R : List SF} : ∀ {kb js : List Nat}, kbR f h0 R kb js → ∀ i ∈ kb, .nm (zcR f i) (ztj h0 i) ∈ R
 | [], _, _, i, hi => by cases hi
 | _ :: _, [], h, _, _ => h.elim
 | i' :: kb, j :: js, h, i, hi => by
  rcases List.mem_cons.1 hi with rfl | hi
  ·exact List.mem_of_getElem? h.1
  ·exact zy2 h.2 i hi
theorem zy3 {g k0 : Nat} {f : FuncId} {fn : Func} {c : Code} {rs : List ResultVar} {svs : List SV} {h0 : Hn} {bl : List Nat} {ql : List Qd} {given : MB} {Rg : List SF} {kb : List Nat} {sv0 : SV} {m1 : MB} {R1 : List SF} (hn : fn.ntmps = N) (hf : P.funcs[f]? = some fn) (hb : fn.body = some c) (hrs : fn.results = rs.toArray) (hlen : Nat.ble rs.length 4 = true) (hT : zbC P T) (hmx : P.follows .mixedOrders = true)
  (hs : Nat.ble svs.length N = true) (hw : (bif Nat.ble g k0 then (bif wfE (lt_ k0) (zh5 0 svs) then (bif wfM (lt_ g) given then (bif ztf g kb then wfR (lt_ k0) Rg else false) else false) else false) else false) = true)
  (hsp : Sp X w0 (zae h0 [] given) (zaT (h0.ext g bl ql) Rg))
  (hv : vC P T N c k0 (zh5 0 svs) given (kbF h0 kb ++ Rg) (zwM T rs (RetOk X (zad (zae h0 [] given)) w0 fun e w' => ∃ h : Hn, AgS (fun i => zaX i kb) h0 h ∧ e = .returned (sv0.den h) ∧ Sep X (zad (zae h0 [] given)) w0 w' (zae h [] m1) (zaT h R1))) (fun _ _ _ _ _ => False) (zwM T rs (RetOk X (zad (zae h0 [] given)) w0 fun e w' => ∃ h : Hn, AgS (fun i => zaX i kb) h0 h ∧ e = .returned (sv0.den h) ∧ Sep X (zad (zae h0 [] given)) w0 w' (zae h [] m1) (zaT h R1)))) :
  CtG P f (zkZ (h0.ext g bl ql) svs) X w0 h0 given kb sv0 m1 R1 := by
 have h1 := zab hw
 have h2 := zab h1.2
 have h3 := zab h2.2
 have h4 := zab h3.2
 have hle : g ≤ k0 := Nat.le_of_ble_eq_true h1.1
 have hag := Hn.ext_ag h0 g bl ql
 have hkb := zhw h4.1
 have hmo := zdf hle
 refine zFG (k0 := k0) (h := h0.ext g bl ql) (m0 := given) hn hf hb hrs hlen hs (zaz h2.1 (zaz (zc5 hmo h3.1) ?_)) hT hmx ?_ ?_ hv
 ·have key : ∀ (A B : List SF), wfR (lt_ k0) A = true → wfR (lt_ k0) B = true → wfR (lt_ k0) (A ++ B) = true := by
   intro A B hA hB
   induction A with
   | nil => exact hB
   | cons r A ih =>
    have := zab hA
    exact zaz this.1 (ih this.2)
  exact key _ _ (zy1 fun i hi => Nat.ble_eq_true_of_le (by have := hkb i hi; omega)) h4.2
 ·rw [zaL hag h3.1]
  have := hsp.sep
  refine this.refacts fun r hr => ?_
  obtain ⟨q, hq, rfl⟩ := zay.1 hr
  rcases List.mem_append.1 hq with hq | hq
  ·obtain ⟨i, hi, rfl⟩ := ztk hq
   have hi2 := hag i (Nat.ble_eq_true_of_le (hkb i hi))
   exact fun w' _ => ⟨hi2.1, hi2.2.1, hi2.2.2⟩
  ·exact this.facts _ (zay.2 ⟨q, hq, rfl⟩)
 ·rw [zaL hag h3.1]
  exact hsp.xap
theorem zdG {G : List Nat} {k : Nat} {h0 : Hn} {kb : List Nat} {sv sv0 : SV} {m m1 : MB} {R R1 : List SF} (f : List (Nat × Nat)) (js bs : List Nat) (hv : sv = sv0.ren (zcR f) ∨ nlV k sv (sv0.ren (zcR f))) (hm : zd6 k f m [] m1) (ha : zdj (zdi f [] m1) = true) (hR : zod k f R js R1) (hb : kbR f h0 R kb bs) :
  RetOk X G w0 (fun e w' => ∃ h : Hn, AgS (fun i => zaX i kb) h0 h ∧ e = .returned (sv0.den h) ∧ Sep X G w0 w' (zae h [] m1) (zaT h R1)) k sv m R := ⟨fun h w ws wm wr H _ => by
 have hg := Hn.nil_ag h k
 refine ⟨(h.nilFrom k).ren (zcR f), fun i hi => ?_, ?_, H.subM wm wr hm ha hR⟩
 ·have hmem := zy2 hb i (zax.1 hi)
  have hf : ztj h0 i (h.b (zcR f i)) (h.r (zcR f i)) (h.q (zcR f i)) w := (H.facts _ (zay.2 ⟨_, hmem, rfl⟩)).now
  have hlt : lt_ k (zcR f i) = true := zbW wr _ hmem
  have h2 := hg _ hlt
  exact ⟨h2.1.trans hf.1, h2.2.1.trans hf.2.1, h2.2.2.trans hf.2.2⟩
 ·rw [← SV.same hg ws]
  rcases hv with hv | hv
  ·rw [hv, SV.den_ren]
  ·rw [← zoe (Hn.nil_r h k) hv, SV.den_ren]⟩
end
section
variable {P : Program} {N k k0 i : Nat} {l : LE} {m m' : MB} {R R' : List SF} {o : Oper} {sv : SV} {K : KS}
theorem zao (hs : zcj P N k l m R o sv m' R') (h : bif okN k k sv m' R' then zje N o.dst sv l (fun l' => K k l' m' R') else False) : zeg P N o k l m R K := ⟨sv, k, m', R', hs.q, h⟩
def zwU (R : List SF) : List Nat → Option (List SF)
 | [] => some []
 | i :: is => match R[i]? with
  | some r => match zwU R is with
   | some R' => some (r :: R')
   | none => none
  | none => none
theorem zmC {R : List SF} : ∀ {is : List Nat} {R' : List SF}, zwU R is = some R' → ∀ r ∈ R', r ∈ R
 | [], R', e, r, hr => by rw [← Option.some.inj e] at hr; cases hr
 | i :: is, R', e, r, hr => by
  unfold zwU at e
  split at e
  ·rename_i r0 h0
   split at e
   ·rename_i R2 h2
    rw [← Option.some.inj e] at hr
    rcases List.mem_cons.1 hr with rfl | hr
    ·exact List.mem_of_getElem? h0
    ·exact zmC h2 r hr
   ·cases e
  ·cases e
theorem Sp.pick {X : List Nat} {w : World} {L1 L2 : List Res} {h : Hn} {R R2 : List SF} (H : Sp X w (L1 ++ L2) (zaT h R)) (is : List Nat) (e : zwU R is = some R2) : Sp (X ++ zad L2) w L1 (zaT h R2) := by
 have hg : Sp (X ++ zad L2) w L1 (zaT h R) := Sp.of_sep H.giveL fun t ht hm => by
  rcases List.mem_append.1 hm with h4 | h4
  ·exact H.xap t (by rw [zak]; exact List.mem_append_left _ ht) h4
  ·have := H.apart
   rw [zak] at this
   exact (List.nodup_append.1 this).2.2 t ht t h4 rfl
 exact hg.refacts fun r hr => by
  obtain ⟨q, hq, rfl⟩ := zay.1 hr
  exact hg.facts _ (zay.2 ⟨q, zmC e q hq, rfl⟩)
theorem zdB {H H' : MB} {Rs R' : List SF} (c : Nat) (hs : zcj P N k l H R o sv H' R') (hr : ∀ r ∈ Rs, r ∈ R') (hw : (bif sv.wf (lt_ (k + c)) then (bif wfM (lt_ (k + c)) H' then wfR (lt_ (k + c)) Rs else false) else false) = true) : zj4 P N k l m R H o sv c H' Rs := fun Q h X a w E HS Kk hK => by
 have h1 := zab hw
 have h2 := zab h1.2
 have hg : Sp (X ++ zad (zae h [] m)) w (zae h [] H) (zaT h R) := by
  have h3 : Sp X w (zae h [] H ++ zae h [] m) (zaT h R) := HS
  refine Sp.of_sep h3.giveL fun t ht hm => ?_
  rcases List.mem_append.1 hm with h4 | h4
  ·exact h3.xap t (by rw [zak]; exact List.mem_append_left _ ht) h4
  ·have := h3.apart
   rw [zak] at this
   exact (List.nodup_append.1 this).2.2 t ht t h4 rfl
 refine hs Q h _ a w E hg Kk fun hn w' ha F S hm => ?_
 let h' : Hn := ⟨fun i => if i < k + c then hn.b i else h.b i, fun i => if i < k + c then hn.r i else h.r i, fun i => if i < k + c then hn.q i else h.q i⟩
 have hag : AgS (lt_ (k + c)) hn h' := fun i hi => ⟨if_pos (zbG hi), if_pos (zbG hi), if_pos (zbG hi)⟩
 have := hK h' w' (fun i hi => ?_) ?_
 ·rw [SV.same hag h1.1] at this
  exact this
 ·rcases hi with hi | hi
  ·have h5 := ha i (Nat.ble_eq_true_of_le hi)
   exact ⟨(if_pos (by omega)).trans h5.1, (if_pos (by omega)).trans h5.2.1, (if_pos (by omega)).trans h5.2.2⟩
  ·exact ⟨if_neg (by omega), if_neg (by omega), if_neg (by omega)⟩
 ·rw [zaL hag h2.1, za3 hag h2.2]
  exact ⟨F, hg.xlt, S.holds, S.apart, hm, fun r hr' => by
   obtain ⟨q, hq, rfl⟩ := zay.1 hr'
   exact S.facts _ (zay.2 ⟨q, hr q hq, rfl⟩)⟩
theorem zaI (hs : zcj P N k l m R o sv m' R') (h : zbN (k + 1) fun k' => bif okN k k' sv m' R' then zje N o.dst sv l (fun l' => K k' l' m' R') else False) : zeg P N o k l m R K := ⟨sv, k + 1, m', R', hs.q, zbb h⟩
theorem zia (c : Nat) (hs : zcj P N k l m R o sv m' R') (h : zbN (k + c) fun k' => bif okN k k' sv m' R' then zje N o.dst sv l (fun l' => K k' l' m' R') else False) : zeg P N o k l m R K := ⟨sv, k + c, m', R', hs.q, zbb h⟩
end
theorem zaB {α : Type} {T : Ty α} {k b : Nat} (hb : Nat.ble k b = true) : zEC k (.sl b 0 (SlF T [])) := fun h w Y hn => by
 show St (fun w => ((h.r b).1 = none → 0 = 0) ∧ SlF T [] (h.r b) w) w Y
 rw [hn b (Nat.le_of_ble_eq_true hb)]
 exact za7
section
variable {P : Program} {N k i : Nat} {X : List Nat} {w0 : World} {l : LE} {m m' : MB} {R R' : List SF} {o : Oper} {sv : SV} {α : Type} {T : Ty α} [Dec T] {xs : List α} {e : Nat}
theorem zcq : ∀ {m : MB} {q : RB}, zaA m i = some q → wfM (lt_ k) m = true → i < k
 | [], _, e, _ => by cases e
 | p :: m, q, e, hw => by
  unfold zaA at e
  cases hb : Nat.beq p.1 i with
  | true => rw [← Nat.eq_of_beq_eq_true hb]; exact zbG (zab hw).1
  | false => rw [hb] at e; exact zcq e (zab (zab hw).2).2
theorem zwV {t : Nat} (hm : zaA m i = some (.blk [.one (.p (.v (.slice none 0 0)))] t)) (wl : wfE (lt_ k) l = true) (wm : wfM (lt_ k) m = true) (wr : wfR (lt_ k) R = true) (hs : zcj P N (k + 1) l ((i, .blk [.one (.p (.hd k 0))] t) :: (k, zba T [] e) :: m) (.q k (zbS T []) :: R) o sv m' R') : zcj P N k l m R o sv m' R' :=
 zdA (Nat.ble_eq_true_of_le (Nat.le_succ k)) (fun h X w H => by
  have hik : i < k := zcq hm wm
  let h2 : Hn := ⟨h.b, fun t => if t = k then (none, 0) else h.r t, h.q⟩
  have er : h2.r k = (none, 0) := if_pos rfl
  have hag : AgS (lt_ k) h h2 := fun j hj => ⟨rfl, if_neg (by have := zbG hj; omega), rfl⟩
  have e1 : zae h2 [] ((i, .blk [.one (.p (.hd k 0))] t) :: (k, zba T [] e) :: m) = .blk (h.b i) (ca [.one (.slice none 0 0)]) t :: .row (.slice none 0 0) e T.sz 0 [] :: zae h [i] m := by
   have hki : zaX k [i] = false := by
    cases hq : zaX k [i] with
    | false => rfl
    | true => have := List.mem_singleton.1 (zax.1 hq); omega
   rw [zap, show zaX i [] = false from rfl, cond_false, zap, hki]
   show _ :: RB.den h2 k (zba T [] e) ++ zae h2 [k, i] m = _
   rw [zce h2 m [i] k fun p hp => Nat.ne_of_lt (zbG (zfm wm p hp)), zaL hag wm]
   simp only [zba, RB.den, er]
   show Res.blk (h.b i) (ca [.one (.slice (h2.r k).1 0 (h2.r k).2)]) t :: _ = _
   rw [er]
   rfl
  have H1 : Sp X w (.blk (h.b i) (ca [.one (.slice none 0 0)]) t :: zae h [i] m) (zaT h R) := H.numAt hm
  have H2 := (H1.nils (L1 := [.row (.slice none 0 0) e T.sz 0 []]) fun q hq => ⟨_, _, List.mem_singleton.1 hq⟩).perm (List.Perm.swap _ _ _)
  refine ⟨h2, hag, ?_, fun j hj => ?_⟩
  ·rw [e1]
   refine H2.refacts fun r hr => ?_
   obtain ⟨q, hq, rfl⟩ := zay.1 hr
   rcases List.mem_cons.1 hq with rfl | hq
   ·exact zdw
   ·rw [SF.same hag (zbW wr _ hq)]
    exact H2.facts _ (zay.2 ⟨q, hq, rfl⟩)
  ·rw [e1] at hj
   exact (zaw (zaM h m [] i _ hm (by simp))).mem_iff.2 hj) wl hs
theorem zkf {G : List Nat} {Rr : Ending → World → Prop} (i : Nat) (hm : zaA m i = some (zba T xs e)) (hr : .q i (zbS T xs) ∈ R) (hi : lt_ k i = true) (hk : RetOk X G w0 Rr k sv ((i, .gone) :: m) (.sl i xs.length (SlF T xs) :: R)) : RetOk X G w0 Rr k sv m R := ⟨fun h w ws wm wr H hX => by
 obtain ⟨h1, h2⟩ := zke hm hr (Sp.of_sep H hX)
 exact hk.ok h w ws (zaz hi (zaz rfl wm)) (zaz hi wr) ⟨H.frm, H.xlt, h1.holds, h1.apart, fun j hj => H.mine j (h2 j hj), h1.facts⟩ fun j hj => hX j (h2 j hj)⟩
theorem zmD (r : SF) (hr : ∀ (h : Hn) (w : World) (Y : List Nat), St (r.den h) w Y) (wl : wfE (lt_ k) l = true) (hs : zcj P N k l m (r :: R) o sv m' R') : zcj P N k l m R o sv m' R' :=
 zdA (Nat.ble_eq_true_of_le (jV k)) (fun h X w H => ⟨h, fun _ _ => ⟨rfl, rfl, rfl⟩, H.know (hr h w _), fun _ h => h⟩) wl hs
theorem zwW {G : List Nat} {Rr : Ending → World → Prop} (r : SF) (hr : ∀ (h : Hn) (w : World) (Y : List Nat), St (r.den h) w Y) (hw : r.wf (lt_ k) = true) (hk : RetOk X G w0 Rr k sv m (r :: R)) : RetOk X G w0 Rr k sv m R :=
 ⟨fun h w ws wm wr H hX => hk.ok h w ws wm (zaz hw wr) (H.refacts fun q hq => by
  rcases List.mem_cons.1 hq with rfl | hq
  ·exact hr h w _
  ·exact H.facts q hq) hX⟩
theorem zkg (hT : ∀ x μ w, T.nest x μ w) {i : Nat} (h : Hn) (w : World) (Y : List Nat) : St ((SF.q i (zbS T xs)).den h) w Y := fun w' _ p _ => hT _ _ _
theorem zpP {x : α} {cs : List SC} {t by_ j n0 : Nat} {s y : Operand} (hT0 : ∀ x μ w, T.nest x μ w) (hm : zaA m i = some (zba T xs e)) (ho : o.op = .call { callee := .builtin .append, args := #[s, y], argTypes := #[t, t] }) (hs : evS l s = some (.a (.s (.p (.hd i n0))))) (hn0 : n0 = xs.length) (hy : evS l y = some (slS j 0 1 1)) (hj : zaA m j = some (.blk cs e)) (hij : zaX j [i] = false) (hq : ∀ h, zaD h cs = T.ch x (Dec.dec []))
  (hT : AppK P t e T.sz by_) (hn : xs.length + 1 ≤ 9223372036854775807) (hby : (xs.length + 1) * by_ ≤ 140737488355328) (wl : wfE (lt_ k) l = true) (wm : wfM (lt_ k) m = true) (wr : wfR (lt_ k) R = true) : zcj P N k l m R o (.a (.s (.p (.hd k (n0 + 1))))) ((k, zba T (xs ++ [x]) e) :: (i, .gone) :: m) R :=
 zmB (zmD (.q i (zbS T xs)) (zkg hT0) wl (zfz (μs := fun _ => []) hm ho hs hn0 hy hj hij hq hT hn hby wm (zaz (Nat.ble_eq_true_of_le (zcq hm wm)) wr) (.head _) (fun _ _ _ => rfl) fun h w Y _ => fun w' _ => hT0 _ _ _)) fun h w Y hY r hr => hY r (.tail _ (.tail _ hr))
theorem zwX {G : List Nat} {Rr : Ending → World → Prop} (i : Nat) (hT0 : ∀ x μ w, T.nest x μ w) (hm : zaA m i = some (zba T xs e)) (hi : lt_ k i = true) (hk : RetOk X G w0 Rr k sv ((i, .gone) :: m) (.sl i xs.length (SlF T xs) :: .q i (zbS T xs) :: R)) : RetOk X G w0 Rr k sv m R :=
 zwW (.q i (zbS T xs)) (zkg hT0) hi (zkf i hm (.head _) hi hk)
end
end
section
open Go.RowKit
theorem zfB {α : Type} {l : List α} {i : Nat} (d : α) (hi : i < l.length) : l[i]? = some (l.getD i d) := by rw [jR, jP hi]; rfl
section
variable {P : Program} {N k i : Nat} {l : LE} {m : MB} {R : List SF} {o : Oper} {sv : SV}
theorem zge {h : Hn} {X : List Nat} {w : World} {r n0 : Nat} {t : List Nat} (H : Sp X w (zae h [] m) (zaT h R)) (hr : R[r]? = some (.sl i n0 (TxG t))) : St (TxF (h.r i).1 (h.r i).2 t) w (X ++ zad (zae h [] m)) := fun w' hk => by
 have hf : ((h.r i).1 = none → n0 = 0) ∧ TxG t (h.r i) w' := (H.facts _ (zaQ.2 ⟨_, List.mem_of_getElem? hr, rfl⟩)) w' hk
 exact hf.2
theorem zez {t : List Nat} {b j n0 ty : Nat} {xop : Operand} (r : Nat) (hj : t[j]? = some b) (hr : R[r]? = some (.sl i n0 (TxG t))) (ho : o.op = .load ty xop) (hx : evS l xop = some (hpS i j 1 0)) (ht : tyK P ty = some (1, false)) : zfk P N l m R o (.a (.s (.p (.v (bv b))))) := fun h X a w E H => by
 have hf := (zge H hr).now
 cases hA : (h.r i).1 with
 | none =>
  have := (hf.nil hA).1
  have := (List.getElem?_eq_some_iff.1 hj).1
  omega
 | some ad =>
  have hx' : ev (zcd h l) xop = some (.pointer (some (ad.add (j * 1)))) := by
   rw [zaf (h := h) hx]
   show some (Value.pointer (some ((((h.r i).1.getD ⟨0, 0, none⟩).add (j * 1)).add 0))) = _
   rw [hA, zav]
   rfl
  exact zzG (S := zgD) (zge H hr) (fun _ _ _ => trivial) hA ho hx' hj ht w (CanB.Keep.refl _ _) a N E
theorem zAa {A : Option Addr} {c lo hi : Nat} {t : List Nat} {w : World} {Y : List Nat} (h : St (TxF A c t) w Y) (hlo : lo ≤ hi) (hhi : hi ≤ t.length) : ∃ q : Qd, zhO A 1 lo hi c = .slice q.1 (hi - lo) q.2 ∧ St (TxQ ((t.drop lo).take (hi - lo)) q) w Y := by
 have hl : ((t.drop lo).take (hi - lo)).length = hi - lo := by rw [List.length_take, List.length_drop]; omega
 refine ⟨(if c = lo then A else A.map (·.add (lo * 1)), c - lo), rfl, zmw fun w' hk => ?_⟩
 have h' := h w' hk
 have hcap := h'.cap
 refine ⟨by rw [hl]; show hi - lo ≤ c - lo; omega, by rw [hl]; have := h'.len; omega, fun x hx => h'.byt x (List.mem_of_mem_drop (List.mem_of_mem_take hx)), fun hA => ?_, fun ad hA i x hx => ?_⟩
 ·have hA0 : A = none := by
   simp only at hA
   split at hA
   ·exact hA
   ·cases A with
    | none => rfl
    | some _ => cases hA
  have := h'.nil hA0
  rw [hl]
  show hi - lo = 0 ∧ c - lo = 0
  omega
 ·have hi' := (List.getElem?_eq_some_iff.1 hx).1
  rw [hl] at hi'
  rw [List.getElem?_take_of_lt hi', List.getElem?_drop] at hx
  simp only at hA
  rw [if_neg (by omega)] at hA
  cases A with
  | none => cases hA
  | some ad0 =>
   obtain rfl := Option.some.inj hA
   rw [Nat.mul_one, Addr.add_add]
   exact h'.at_ ad0 rfl _ x hx
theorem zpQ {t : List Nat} {lo hi n0 : Nat} (r : Nat) (hr : R[r]? = some (.sl i n0 (TxG t))) (hlo : lo ≤ hi) (hhi : hi ≤ t.length) (hp : ∀ (h : Hn) (w : World), TxF (h.r i).1 (h.r i).2 t w → PK P zgD w (zcd h l) o (zhO (h.r i).1 1 lo hi (h.r i).2)) : zfv P N k l m R o (.a (.s (.p (.hd k (hi - lo))))) [.gone] [.sl k (hi - lo) (TxG ((t.drop lo).take (hi - lo)))] := fun Q h X a w E H Kk hK => by
 have hf := zge H hr
 obtain ⟨q, hq, hs⟩ := zAa hf hlo hhi
 let h1 : Hn := ⟨h.b, fun t => if t = k then q else h.r t, h.q⟩
 have er : h1.r k = q := if_pos rfl
 have hrun := hp h w hf.now w (CanB.Keep.refl _ _) a N E
 unfold Oper.wp
 rw [hrun, hq]
 have hl : ((t.drop lo).take (hi - lo)).length = hi - lo := by rw [List.length_take, List.length_drop]; omega
 have := hK h1 w (fun t ht => ⟨rfl, if_neg (by simp at ht; omega), rfl⟩) (Frm.refl _ _) (by
  show Sep (X ++ zad (zae h [] m)) [] w w (zdN h1 k [.gone]) (zaT h1 [_])
  have e0 : zdN h1 k [RB.gone] = [] := rfl
  rw [e0]
  refine (Sep.none_ H.xk).refacts fun r hr => ?_
  rcases List.mem_singleton.1 hr with rfl
  have hs' : St (fun w => ((h1.r k).1 = none → hi - lo = 0) ∧ TxG ((t.drop lo).take (hi - lo)) (h1.r k) w) w (X ++ zad (zae h [] m)) := by
   rw [er]
   have := hs
   unfold TxQ at this
   rwa [hl] at this
  have ek : (X ++ zad (zae h [] m)) ++ zad ([] : List Res) = X ++ zad (zae h [] m) := by simp [zad]
  rw [ek]
  exact hs')
 have e1 : SV.den h1 (.a (.s (.p (.hd k (hi - lo))))) = .slice q.1 (hi - lo) q.2 := by
  show Value.slice (h1.r k).1 (hi - lo) (h1.r k).2 = _
  rw [er]
 rw [e1] at this
 exact this
theorem zDb {ad : Addr} {cs : List SC} {ty n : Nat} {xop : Operand} (r : Nat) (f : World → Prop) (hr : R[r]? = some (.c f)) (hf : ∀ w, f w → ∀ h, AtC ad (zaD h cs) w) (ho : o.op = .load ty xop) (hx : evS l xop = some (zsy ad)) (ht : tyK P ty = some (n, true)) (hn : zfh cs = n) : zfk P N l m R o (.a (.agg cs)) := fun h X a w E H =>
 zbM E ho (zaf (h := h) hx) ht (by rw [zbf, hn]) (hf w (H.facts _ (zaQ.2 ⟨_, List.mem_of_getElem? hr, rfl⟩)).now h)
end
end
section
open Go.RowKit
structure Nd where
 lv : Int
 pl : Int
 red : Bool
 fr : Int
 tt : Int
 kids : List Int
 up : Int
def zbd : Ty Nd where
 μ := Qd
 dft := (none, 0)
 sz := 7
 pos := by decide
 ch x q := [.one (.int .i64 x.lv), .one (.int .i64 x.pl), .one (.bool x.red), .one (.int .i64 x.fr), .one (.int .i64 x.tt), .one (.slice q.1 x.kids.length q.2), .one (.int .i64 x.up)]
 nest x q := SlQ zaF x.kids q
 len _ _ := rfl
 one _ _ := ⟨rfl, rfl, rfl, rfl, rfl, rfl, rfl, trivial⟩
instance : Dec zbd := ⟨fun l => qs l 0, fun m => [m], fun _ => rfl⟩
section
variable {X : List Nat} {w : World} {h0' : Hn}
def zwd (ns : List Nd) : MB := [(0, .blk [.one (.p (.hd 1 ns.length))] 110), (1, zba zbd ns 117)]
def ksI (ks : List Nat) : List Int := ks.map Int.ofNat
theorem zoj {ks : List Nat} : (ksI ks).length = ks.length := List.length_map ..
def zdH (z : Int) : SC := .one (.p (.v (.int .i64 z)))
def zrk (n : Int) (l : List Nd) (k : Nat) : List Nd := match l[k]? with
 | some x => l.set k { x with up := n }
 | none => l
def zc1 (n : Int) (ks : List Nat) (l : List Nd) : List Nd := ks.foldl (zrk n) l
theorem ztm {n : Int} {l : List Nd} {k : Nat} : (zrk n l k).length = l.length := by unfold zrk; split <;> simp
theorem zjh {n : Int} {ks : List Nat} : ∀ {l : List Nd}, (zc1 n ks l).length = l.length := by
 induction ks with
 | nil => intro l; rfl
 | cons k ks ih => intro l; show (zc1 n ks (zrk n l k)).length = _; rw [ih, ztm]
theorem zok {n : Int} {ks : List Nat} {l : List Nd} {i k : Nat} {x : Nd} (hk : ks[i]? = some k) (hx : (zc1 n (ks.take i) l)[k]? = some x) : zc1 n (ks.take (i + 1)) l = (zc1 n (ks.take i) l).set k { x with up := n } := by
 have h1 : ks.take (i + 1) = ks.take i ++ [k] := by rw [List.take_add_one, hk]; rfl
 have h2 : zc1 n (ks.take (i + 1)) l = zrk n (zc1 n (ks.take i) l) k := by unfold zc1; rw [h1, List.foldl_append]; rfl
 rw [h2]
 generalize zc1 n (ks.take i) l = l2 at hx ⊢
 unfold zrk
 rw [hx]
theorem zwY (lv pl : Int) (rd : Bool) (ns : List Nd) (ks : List Nat) (q : Qd) {i0 i1 : Nat} {a b : Nd} (hks : ∀ k ∈ ks, k < ns.length) (h0 : ks[0]? = some i0) (h1 : ks[ks.length - 1]? = some i1) (ha : ns[i0]? = some a) (hb : ns[i1]? = some b) (hkl : ks.length ≤ 3) (hn : ns.length ≤ 1000000) (hsp : Sp X w (zae h0' [] (zwd ns)) [zbS zbd ns (h0'.q 1), SlQ zaF (ksI ks) q]) :
  CtG Tryz.prog 174 [.agg (ca [.one (.int .i64 lv), .one (.int .i64 pl), .one (.bool rd), .one (.int .i64 0), .one (.int .i64 0), .one (.slice none 0 0), .one (.int .i64 0)]), .slice q.1 (ksI ks).length q.2, .pointer (some ⟨h0'.b 0, 0, none⟩)] X w h0' (zwd ns) [0] (zam .i64 ns.length) [(0, .blk [.one (.p (.hd 2 (ns.length + 1)))] 110), (2, zba zbd (zc1 ns.length ks ns ++ [⟨lv, pl, rd, a.fr, b.tt, ksI ks, -1⟩]) 117)] [.q 2 (zbS zbd (zc1 ns.length ks ns ++ [⟨lv, pl, rd, a.fr, b.tt, ksI ks, -1⟩]))] := by
 refine zy3 (g := 2) (k0 := 3) (bl := []) (ql := [q]) (svs := [.a (.agg [zdH lv, zdH pl, .one (.p (.v (.bool rd))), zdH 0, zdH 0, .one (.p (.v (.slice none 0 0))), zdH 0]), .a (.s (.p (.hd 2 (ksI ks).length))), atS 0 0]) (given := zwd ns) (Rg := [.q 1 (zbS zbd ns), .sl 2 (ksI ks).length (SlF zaF (ksI ks))]) (kb := [0]) Tryz.ntmps174 Tryz.func174 rfl rfl rfl zah (by kernel_rfl) rfl rfl hsp ?_
 have hl : (ksI ks).length = ks.length := zoj
 have hne : 0 < ks.length := (List.getElem?_eq_some_iff.1 h0).1
 have hi0 : i0 < ns.length := (List.getElem?_eq_some_iff.1 ha).1
 have hi1 : i1 < ns.length := (List.getElem?_eq_some_iff.1 hb).1
 have e0 : (ksI ks)[0]? = some (i0 : Int) := by unfold ksI; rw [List.getElem?_map, h0]; rfl
 have e1 : (ksI ks)[ks.length - 1]? = some (i1 : Int) := by unfold ksI; rw [List.getElem?_map, h1]; rfl
 have h0k : 0 < (ksI ks).length := by omega
 conv => whnf
 refine zas 22 [3] (by kernel_rfl) ?_
 conv => whnf
 refine ⟨0, ⟨rfl, h0k, h0k⟩, ?_⟩
 conv => whnf
 refine zbD (zaR (T := zaF) (sv := zam .i64 i0) 2 e0 (fun _ => rfl) rfl rfl rfl (by kernel_rfl) (fun _ => .inr ⟨rfl, rfl, rfl⟩)) ?_
 conv => whnf
 refine ⟨i0, ⟨rfl, hi0, hi0⟩, ?_⟩
 conv => whnf
 refine zbD (zg2 (T := zbd) (sv := zam .i64 a.fr) (e := 117) rfl ha (fun _ => rfl) rfl rfl (by kernel_rfl) (fun _ => .inr ⟨rfl, rfl, rfl⟩)) ?_
 conv => whnf
 have el : ((Sl.hd 2 (ksI ks).length).len : Int) - 1 = ((ks.length - 1 : Nat) : Int) := by show (((ksI ks).length : Nat) : Int) - 1 = _; omega
 refine za5 el (by omega) (by omega) ?_
 conv => whnf
 refine ⟨ks.length - 1, ⟨rfl, by omega, by omega⟩, ?_⟩
 conv => whnf
 refine zbD (zaR (T := zaF) (sv := zam .i64 i1) 2 e1 (fun _ => rfl) rfl rfl rfl (by kernel_rfl) (fun _ => .inr ⟨rfl, rfl, rfl⟩)) ?_
 conv => whnf
 refine ⟨i1, ⟨rfl, hi1, hi1⟩, ?_⟩
 conv => whnf
 refine zbD (zg2 (T := zbd) (sv := zam .i64 b.tt) (e := 117) rfl hb (fun _ => rfl) rfl rfl (by kernel_rfl) (fun _ => .inr ⟨rfl, rfl, rfl⟩)) ?_
 conv => whnf
 refine ⟨Nat, fun k l m R i => ⟨k, (32, zam .i64 i) :: zaC [2, 3, 5, 30, 31] l, (1, zba zbd (zc1 ns.length (ks.take i) ns) 117) :: m, .q 1 (zbS zbd (zc1 ns.length (ks.take i) ns)) :: R⟩, fun i => i ≤ ks.length, fun i => ks.length - i, ⟨0, [], [1, 0, 1, 2], Nat.zero_le _, zaE⟩, fun i hi => ?_⟩
 have hsl : (zc1 ns.length (ks.take i) ns).length = ns.length := zjh
 conv => whnf
 refine vIf (fun h => ?_) fun h => ?_
 ·have hj : i < ks.length := by
   have h2 : (i : Int) < ((ksI ks).length : Nat) := by simpa [Sl.len] using h
   omega
  have ek : ks[i]? = some ks[i] := jP hj
  obtain ⟨k, hk⟩ : ∃ k, ks[i]? = some k := ⟨_, ek⟩
  have hkn : k < ns.length := hks k (List.mem_of_getElem? hk)
  have eki : (ksI ks)[i]? = some (k : Int) := by unfold ksI; rw [List.getElem?_map, hk]; rfl
  obtain ⟨x, hx⟩ : ∃ x, (zc1 ns.length (ks.take i) ns)[k]? = some x := ⟨_, jP (by omega)⟩
  conv => whnf
  refine ⟨i, ⟨rfl, by omega, by omega⟩, ?_⟩
  conv => whnf
  refine za8 (zaR (T := zaF) (sv := zam .i64 k) 3 eki (fun _ => rfl) rfl rfl rfl (by kernel_rfl) (fun _ => .inr ⟨rfl, rfl, rfl⟩)) rfl rfl ?_
  conv => whnf
  refine ⟨k, ⟨rfl, by omega, by omega⟩, ?_⟩
  conv => whnf
  refine zao (zz8 (T := zbd) (e := 117) { x with up := (ns.length : Int) } zah rfl hx (List.mem_cons_self ..) (fun _ _ h => h) rfl rfl rfl rfl rfl (fun _ => ⟨rfl, trivial⟩) fun _ _ => rfl) ?_
  rw [← zok hk hx]
  conv => whnf
  refine zbq (by omega) (by omega) ?_
  conv => whnf
  exact ⟨i + 1, [], [0, 2, 3, 4], ⟨hj, Nat.sub_lt_sub_left hj (Nat.lt_succ_self i)⟩, zaE⟩
 have hi2 : i = ks.length := by
  have h2 : ¬ (i : Int) < ((ksI ks).length : Nat) := by simpa [Sl.len] using h
  omega
 rw [hi2, List.take_length]
 rw [hi2, List.take_length] at hsl
 conv => whnf
 refine zaI (zfz (T := zbd) (e := 117) (x := ⟨lv, pl, rd, a.fr, b.tt, ksI ks, -1⟩) (μs := fun h => [h.r 2]) rfl rfl rfl hsl.symm rfl rfl rfl (fun h => rfl) (by_ := 72) ⟨by kernel_rfl, by kernel_rfl⟩ (by omega) (by omega) rfl rfl (List.mem_cons_self ..) (fun h h' ag => by rw [(ag 2 rfl).2.1]) fun h w Y H => H _ (.tail _ (.tail _ (.tail _ (.head _))))) ?_
 conv => whnf
 have ez : ((Sl.hd 5 (ns.length + 1)).len : Int) - 1 = (ns.length : Int) := by show (((ns.length + 1 : Nat) : Int)) - 1 = _; omega
 refine za5 ez (show -9223372036854775808 ≤ ((ns.length + 1 : Nat) : Int) - 1 by omega) (show ((ns.length + 1 : Nat) : Int) - 1 ≤ 9223372036854775807 by omega) ?_
 conv => whnf
 exact zdG [(0, 0), (2, 5)] [0] [2] (.inl rfl) ⟨.inl rfl, .inl rfl, trivial⟩ rfl ⟨.inl rfl, trivial⟩ ⟨rfl, trivial⟩
def dNd : Nd := ⟨0, 0, false, 0, 0, [], 0⟩
def zc2 (ns : List Nd) (lv pl : Int) (rd : Bool) (ks : List Nat) : List Nd := zc1 ns.length ks ns ++ [⟨lv, pl, rd, (ns.getD (ks.getD 0 0) dNd).fr, (ns.getD (ks.getD (ks.length - 1) 0) dNd).tt, ksI ks, -1⟩]
def zbn (two : Bool) (ls : List (List Int)) : Nat → List Int × List Nd → List Int × List Nd
 | 0, s => (s.1.set 0 (s.1.getD 0 0 + 1), s.2 ++ [⟨0, s.1.getD 0 0, false, s.1.getD 0 0, s.1.getD 0 0 + 1, [], -1⟩])
 | l + 1, s =>
  let a := s.1.getD (l + 1) 0
  let s1 := zbn two ls l (s.1.set (l + 1) (a + 1), s.2)
  let s2 := zbn two ls l s1
  if (ls.getD l []).getD a.toNat 0 = 2 then (s2.1, zc2 s2.2 (l + 1) a false [s1.2.length - 1, s2.2.length - 1])
  else if two then
   let s3 := zbn two ls l s2
   (s3.1, zc2 s3.2 (l + 1) a false [s1.2.length - 1, s2.2.length - 1, s3.2.length - 1])
  else
   let s3 := zbn two ls l (s2.1, zc2 s2.2 (l + 1) a true [s1.2.length - 1, s2.2.length - 1])
   (s3.1, zc2 s3.2 (l + 1) a false [s2.2.length, s3.2.length - 1])
def okD (two : Bool) (ls : List (List Int)) : Nat → List Int × List Nd → Prop
 | 0, s => ∃ a : Nat, s.1[0]? = some (a : Int) ∧ a ≤ 1000000 ∧ s.2.length ≤ 1000000
 | l + 1, s => ∃ (a : Nat) (r : List Int) (v : Int), s.1[l + 1]? = some (a : Int) ∧ a ≤ 1000000 ∧ ls[l]? = some r ∧ r[a]? = some v ∧
  (let s1 := zbn two ls l (s.1.set (l + 1) ((a : Int) + 1), s.2)
   let s2 := zbn two ls l s1
   okD two ls l (s.1.set (l + 1) ((a : Int) + 1), s.2) ∧ okD two ls l s1 ∧ s2.2.length ≤ 1000000 ∧
   (v ≠ 2 → if two then okD two ls l s2 ∧ (zbn two ls l s2).2.length ≤ 1000000 else okD two ls l (s2.1, zc2 s2.2 ((l + 1 : Nat) : Int) a true [s1.2.length - 1, s2.2.length - 1]) ∧ (zbn two ls l (s2.1, zc2 s2.2 ((l + 1 : Nat) : Int) a true [s1.2.length - 1, s2.2.length - 1])).2.length ≤ 1000000))
def dnM (nl r : Nat) (nx : List Int) (ns : List Nd) : MB := [(0, .blk [.one (.p (.hd 1 nl))] 24), (1, zba zaF nx 3), (2, .blk [.one (.p (.hd r ns.length))] 110), (r, zba zbd ns 117)]
def dnR (nx : List Int) (ns : List Nd) (nids : Nat) (ls : List (List Int)) (kd : Int) : List SF := [.q 3 (zbS zbd ns), .blk 4 [.one (.fn (.func 175) [] [.at_ 0 0, .at_ 2 0, .at_ 4 0, .at_ 5 0, .at_ 6 0, .at_ 7 0])], .blk 5 [.one (.p (.hd 8 nids)), .one (.p (.hd 9 ls.length))], .blk 6 [.one (.fn (.func 174) [] [.at_ 2 0])], .blk 7 [zdH kd], .sl 9 ls.length (SlF (zcM zaF) ls)]
def dnA (l : Nat) (h : Hn) (bl : List Nat) : List Value := [.int .i64 l, .pointer (some ⟨h.b 0, 0, none⟩), .pointer (some ⟨h.b 2, 0, none⟩), .pointer (some ⟨zi3 bl 0, 0, none⟩), .pointer (some ⟨zi3 bl 1, 0, none⟩), .pointer (some ⟨zi3 bl 2, 0, none⟩), .pointer (some ⟨zi3 bl 3, 0, none⟩)]
def zFH (l : Nat) : List SV := [zam .i64 l, atS 0 0, atS 2 0, atS 4 0, atS 5 0, atS 6 0, atS 7 0]
def zDc (two : Bool) (ls : List (List Int)) (l : Nat) : Prop := ∀ (X : List Nat) (w : World) (h0 : Hn) (bl : List Nat) (ql : List Qd) (nl : Nat) (nx : List Int) (ns : List Nd) (nids : Nat) (kd : Int), nx.length = nl → okD two ls l (nx, ns) → (kd == 1) = two → Sp X w (zae h0 [] (dnM nl 3 nx ns)) (zaT (h0.ext 4 bl ql) (dnR nx ns nids ls kd)) →
 CtG Tryz.prog 175 (dnA l h0 bl) X w h0 (dnM nl 3 nx ns) [0, 1, 2] (zam .i64 (((zbn two ls l (nx, ns)).2.length - 1 : Nat) : Int)) (dnM nl 4 (zbn two ls l (nx, ns)).1 (zbn two ls l (nx, ns)).2) [.q 4 (zbS zbd (zbn two ls l (nx, ns)).2)]
theorem ztn (two : Bool) (ls : List (List Int)) : zDc two ls 0 := fun X w h0 bl ql nl nx ns nids kd hnl hok hkd hsp => by
 obtain ⟨a, ha, ha2, hn⟩ := hok
 simp only at ha hn
 have hl : 0 < nx.length := (List.getElem?_eq_some_iff.1 ha).1
 refine zy3 (g := 4) (k0 := 10) (bl := bl) (ql := ql) (svs := zFH 0) (given := dnM nl 3 nx ns) (Rg := dnR nx ns nids ls kd) (kb := [0, 1, 2]) Tryz.ntmps175 Tryz.func175 rfl rfl rfl zah (by kernel_rfl) rfl rfl hsp ?_
 conv => whnf
 refine ⟨0, ⟨rfl, hnl ▸ hl, hl⟩, ?_⟩
 conv => whnf
 refine za8 (zg2 (T := zaF) (sv := zam .i64 a) (e := 3) rfl ha (fun _ => rfl) rfl rfl (by kernel_rfl) (fun _ => .inr ⟨rfl, rfl, rfl⟩)) rfl rfl ?_
 conv => whnf
 refine ⟨0, ⟨rfl, hnl ▸ hl, hl⟩, ?_⟩
 conv => whnf
 refine za8 (zg2 (T := zaF) (sv := zam .i64 a) (e := 3) rfl ha (fun _ => rfl) rfl rfl (by kernel_rfl) (fun _ => .inr ⟨rfl, rfl, rfl⟩)) rfl rfl ?_
 conv => whnf
 refine zbq (by omega) (by omega) ?_
 conv => whnf
 refine ⟨0, ⟨rfl, hnl ▸ hl, hl⟩, ?_⟩
 conv => whnf
 refine zao (zmA (T := zaF) (e := 3) ((a : Int) + 1) zah rfl ha rfl rfl rfl rfl rfl (fun _ => ⟨rfl, trivial⟩) fun _ _ => rfl) ?_
 conv => whnf
 refine zbq (by omega) (by omega) ?_
 conv => whnf
 refine zaI (zfz (T := zbd) (e := 117) (x := ⟨0, a, false, a, (a : Int) + 1, [], -1⟩) (μs := fun _ => [(none, 0)]) rfl rfl rfl rfl rfl rfl rfl (fun h => rfl) (by_ := 72) ⟨by kernel_rfl, by kernel_rfl⟩ (by omega) (by omega) rfl rfl (.tail _ (.tail _ (.tail _ (.head _)))) (fun h h' ag => rfl) fun h w Y H => za7) ?_
 conv => whnf
 have ez : ((Sl.hd 11 (ns.length + 1)).len : Int) - 1 = (ns.length : Int) := by show (((ns.length + 1 : Nat) : Int)) - 1 = _; omega
 refine za5 ez (show -9223372036854775808 ≤ ((ns.length + 1 : Nat) : Int) - 1 by omega) (show ((ns.length + 1 : Nat) : Int) - 1 ≤ 9223372036854775807 by omega) ?_
 have e1 : zbn two ls 0 (nx, ns) = (nx.set 0 ((a : Int) + 1), ns ++ [⟨0, a, false, a, (a : Int) + 1, [], -1⟩]) := by
  unfold zbn
  have : nx.getD 0 0 = (a : Int) := by rw [jR, ha]; rfl
  simp only [this]
 have e2 : (ns ++ [(⟨0, a, false, a, (a : Int) + 1, [], -1⟩ : Nd)]).length - 1 = ns.length := by simp
 have e4 : ns.length + 1 = (ns ++ [(⟨0, a, false, a, (a : Int) + 1, [], -1⟩ : Nd)]).length := by simp
 rw [e1, e2]
 conv => whnf
 exact zdG [(0, 0), (1, 1), (2, 2), (4, 11)] [0] [1, 2, 3] (.inl rfl) ⟨.inl rfl, .inl rfl, .inl (by rw [← e4]; rfl), .inl rfl, trivial⟩ rfl ⟨.inl rfl, trivial⟩ ⟨rfl, rfl, rfl, trivial⟩
theorem zbF {ns : List Nd} {lv pl : Int} {rd : Bool} {ks : List Nat} : (zc2 ns lv pl rd ks).length = ns.length + 1 := by unfold zc2; simp [zjh]
theorem ze3 {two : Bool} {ls : List (List Int)} : ∀ {l : Nat} {s : List Int × List Nd}, (zbn two ls l s).1.length = s.1.length
 | 0, s => by simp [zbn]
 | l + 1, s => by
  unfold zbn
  simp only
  split
  ·simp [ze3 (l := l)]
  ·split <;> simp [ze3 (l := l)]
theorem zcg {two : Bool} {ls : List (List Int)} : ∀ {l : Nat} {s : List Int × List Nd}, s.2.length < (zbn two ls l s).2.length
 | 0, s => by simp [zbn]
 | l + 1, s => by
  have h1 := zcg (two := two) (ls := ls) (l := l) (s := (s.1.set (l + 1) (s.1.getD (l + 1) 0 + 1), s.2))
  have h2 := zcg (two := two) (ls := ls) (l := l) (s := zbn two ls l (s.1.set (l + 1) (s.1.getD (l + 1) 0 + 1), s.2))
  unfold zbn
  simp only at h1 ⊢
  split
  ·simp only [zbF]; omega
  ·split
   ·have h3 := zcg (two := two) (ls := ls) (l := l) (s := zbn two ls l (zbn two ls l (s.1.set (l + 1) (s.1.getD (l + 1) 0 + 1), s.2)))
    simp only [zbF]; omega
   ·have h3 := zcg (two := two) (ls := ls) (l := l) (s := ((zbn two ls l (zbn two ls l (s.1.set (l + 1) (s.1.getD (l + 1) 0 + 1), s.2))).1, zc2 (zbn two ls l (zbn two ls l (s.1.set (l + 1) (s.1.getD (l + 1) 0 + 1), s.2))).2 (l + 1) (s.1.getD (l + 1) 0) true [(zbn two ls l (s.1.set (l + 1) (s.1.getD (l + 1) 0 + 1), s.2)).2.length - 1, (zbn two ls l (zbn two ls l (s.1.set (l + 1) (s.1.getD (l + 1) 0 + 1), s.2))).2.length - 1]))
    simp only [zbF] at h3 ⊢
    omega
def ksC (ks : List Nat) : List SC := ks.map fun k : Nat => zdH (Int.ofNat k)
theorem zto {h : Hn} : ∀ {ks : List Nat}, zaD h (ksC ks) = (ksI ks).map fun z => Chunk.one (.int .i64 z)
 | [] => rfl
 | k :: ks => by
  show Chunk.one (.int .i64 (Int.ofNat k)) :: zaD h (ksC ks) = _
  rw [zto]
  rfl
theorem ztp : ∀ (zs : List Int), cl (zs.map fun z => Chunk.one (.int .i64 z)) = zs.map fun z => Value.int .i64 z
 | [] => rfl
 | z :: zs => by
  show Value.int .i64 z :: cl _ = _
  rw [ztp zs]
  rfl
theorem zDd {b : Nat} {zs : List Int} {w : World} (hz : 0 < zs.length) (hb : zs.length ≤ 9223372036854775807) (H : AtC ⟨b, 0, none⟩ (zs.map fun z => Chunk.one (.int .i64 z)) w) : SlQ zaF zs (some ⟨b, 0, none⟩, zs.length) w := by
 refine ⟨fun e => (by cases e), fun _ => (), jV _, hb, fun e => (by cases e), fun ad hA i x hx => ⟨fun j u hu => ?_, trivial⟩⟩
 obtain rfl := Option.some.inj hA
 have hj : j = 0 ∧ u = .int .i64 x := by
  cases j with
  | zero => simp [zaF, cl, Chunk.cells] at hu; exact ⟨rfl, hu.symm⟩
  | succ j => simp [zaF, cl, Chunk.cells] at hu
 obtain ⟨rfl, rfl⟩ := hj
 have := H i (.int .i64 x) (by rw [ztp, List.getElem?_map, hx]; rfl)
 rw [zav]
 simpa [zaF] using this
theorem zpR (lv pl : Int) (rd : Bool) {ns : List Nd} {ks : List Nat} (hks : ∀ k ∈ ks, k < ns.length) (hne : 0 < ks.length) (hkl : ks.length ≤ 3) (hn : ns.length ≤ 1000000) {X : List Nat} {w : World} {h h0' : Hn} {r j : Nat} (hsp : Sp X w (zae h0' [] (zwd ns)) (zaT h [.q r (zbS zbd ns), .blk j (ksC ks)])) (hq : h.q r = h0'.q 1) :
  CtG Tryz.prog 174 [.agg (ca [.one (.int .i64 lv), .one (.int .i64 pl), .one (.bool rd), .one (.int .i64 0), .one (.int .i64 0), .one (.slice none 0 0), .one (.int .i64 0)]), .slice (some ⟨h.b j, 0, none⟩) (ksI ks).length (ksI ks).length, .pointer (some ⟨h0'.b 0, 0, none⟩)] X w h0' (zwd ns) [0] (zam .i64 ns.length) [(0, .blk [.one (.p (.hd 2 (ns.length + 1)))] 110), (2, zba zbd (zc2 ns lv pl rd ks) 117)] [.q 2 (zbS zbd (zc2 ns lv pl rd ks))] := by
 have e0 : ks[0]? = some (ks.getD 0 0) := zfB 0 hne
 have e1 : ks[ks.length - 1]? = some (ks.getD (ks.length - 1) 0) := zfB 0 (by omega)
 refine zwY lv pl rd ns ks (some ⟨h.b j, 0, none⟩, (ksI ks).length) hks e0 e1 (zfB dNd (hks _ (List.mem_of_getElem? e0))) (zfB dNd (hks _ (List.mem_of_getElem? e1))) hkl hn (hsp.refacts fun q' hq' => ?_)
 rcases List.mem_cons.1 hq' with rfl | hq'
 ·rw [← hq]
  exact hsp.facts _ (List.mem_cons_self ..)
 ·rcases List.mem_singleton.1 hq' with rfl
  have h1 : St (AtC ⟨h.b j, 0, none⟩ (zaD h (ksC ks))) w (X ++ zad (zae h0' [] (zwd ns))) := hsp.facts _ (List.mem_cons_of_mem _ (List.mem_cons_self ..))
  rw [zto] at h1
  exact h1.imp fun w' hw => zDd (by rw [zoj]; exact hne) (by rw [zoj]; omega) hw
theorem zmE {two : Bool} {ls : List (List Int)} {l : Nat} (ih : zDc two ls l) {nl : Nat} {nx nx1 : List Int} {ns ns1 : List Nd} {nids : Nat} {kd : Int} (e : zbn two ls l (nx, ns) = (nx1, ns1)) (hnl : nx.length = nl) (hok : okD two ls l (nx, ns)) (hkd : (kd == 1) = two) {X : List Nat} {w : World} {h0 : Hn} {bl : List Nat} {ql : List Qd} (hsp : Sp X w (zae h0 [] (dnM nl 3 nx ns)) (zaT (h0.ext 4 bl ql) (dnR nx ns nids ls kd))) :
  CtG Tryz.prog 175 (dnA l h0 bl) X w h0 (dnM nl 3 nx ns) [0, 1, 2] (zam .i64 ((ns1.length - 1 : Nat) : Int)) (dnM nl 4 nx1 ns1) [.q 4 (zbS zbd ns1)] := by
 have := ih X w h0 bl ql nl nx ns nids kd hnl hok hkd hsp
 rwa [e] at this
theorem ztq (two : Bool) (ls : List (List Int)) (l : Nat) (hl : l ≤ 1000) (ih : zDc two ls l) : zDc two ls (l + 1) := fun X w h0 bl ql nl nx ns nids kd hnl hok hkd hsp => by
 obtain ⟨a, r, v, ha, ha2, hr, hv, h1, h2, hn, h3⟩ := hok
 simp only at ha
 have hlt : l + 1 < nx.length := (List.getElem?_eq_some_iff.1 ha).1
 simp only at h1 h2 hn h3
 obtain ⟨⟨nx1, ns1⟩, e1⟩ : ∃ s, zbn two ls l (nx.set (l + 1) ((a : Int) + 1), ns) = s := ⟨_, rfl⟩
 have hl1 : nx1.length = nl := by have := ze3 (two := two) (ls := ls) (l := l) (s := (nx.set (l + 1) ((a : Int) + 1), ns)); rw [e1] at this; simpa [hnl] using this
 have hg1 : ns.length < ns1.length := by have := zcg (two := two) (ls := ls) (l := l) (s := (nx.set (l + 1) ((a : Int) + 1), ns)); rw [e1] at this; exact this
 rw [e1] at h2 hn h3
 obtain ⟨⟨nx2, ns2⟩, e2⟩ : ∃ s, zbn two ls l (nx1, ns1) = s := ⟨_, rfl⟩
 have hl2 : nx2.length = nl := by have := ze3 (two := two) (ls := ls) (l := l) (s := (nx1, ns1)); rw [e2] at this; simpa [hl1] using this
 have hg2 : ns1.length < ns2.length := by have := zcg (two := two) (ls := ls) (l := l) (s := (nx1, ns1)); rw [e2] at this; exact this
 rw [e2] at hn h3
 simp only at h2 hn h3
 refine zy3 (g := 4) (k0 := 10) (bl := bl) (ql := ql) (svs := zFH (l + 1)) (given := dnM nl 3 nx ns) (Rg := dnR nx ns nids ls kd) (kb := [0, 1, 2]) Tryz.ntmps175 Tryz.func175 rfl rfl rfl zah (by kernel_rfl) rfl rfl hsp ?_
 conv => whnf
 refine ⟨l + 1, ⟨rfl, hnl ▸ hlt, hlt⟩, ?_⟩
 conv => whnf
 refine za8 (zg2 (T := zaF) (sv := zam .i64 a) (e := 3) rfl ha (fun _ => rfl) rfl rfl (by kernel_rfl) (fun _ => .inr ⟨rfl, rfl, rfl⟩)) rfl rfl ?_
 conv => whnf
 refine ⟨l + 1, ⟨rfl, hnl ▸ hlt, hlt⟩, ?_⟩
 conv => whnf
 refine za8 (zg2 (T := zaF) (sv := zam .i64 a) (e := 3) rfl ha (fun _ => rfl) rfl rfl (by kernel_rfl) (fun _ => .inr ⟨rfl, rfl, rfl⟩)) rfl rfl ?_
 conv => whnf
 refine zbq (by omega) (by omega) ?_
 conv => whnf
 refine ⟨l + 1, ⟨rfl, hnl ▸ hlt, hlt⟩, ?_⟩
 conv => whnf
 refine zao (zmA (T := zaF) (e := 3) ((a : Int) + 1) zah rfl ha rfl rfl rfl rfl rfl (fun _ => ⟨rfl, trivial⟩) fun _ _ => rfl) ?_
 conv => whnf
 refine zas 7 [0, 1, 2, 3] (by kernel_rfl) ?_
 conv => whnf
 have el : ((l + 1 : Nat) : Int) - 1 = (l : Int) := by omega
 refine za5 el (by omega) (by omega) ?_
 conv => whnf
 refine zcL rfl (zdB 1 (za2 [0, 1, 2, 3] 1 rfl rfl rfl (by kernel_rfl) (fs := fun _ => []) (cs := fun h => zhh h [.at_ 0 0, .at_ 2 0, .at_ 4 0, .at_ 5 0, .at_ 6 0, .at_ 7 0]) (fun h => rfl) rfl rfl (given := dnM nl 3 (nx.set (l + 1) ((a : Int) + 1)) ns) ⟨rfl, rfl, rfl, rfl, trivial⟩ rfl rfl rfl rfl rfl rfl fun h X w L2 H => zmE ih e1 (by rw [List.length_set]; exact hnl) h1 hkd (bl := [h.b 4, h.b 5, h.b 6, h.b 7]) (ql := [(none, 0), (none, 0), (none, 0), (none, 0), h.r 8, h.r 9]) (H.pick [3, 4, 5, 6, 7, 8] rfl)) (fun _ => List.mem_append_left _) rfl) ?_
 conv => whnf
 refine za5 el (by omega) (by omega) ?_
 conv => whnf
 refine zaI (za2 [0, 1, 2, 11] 1 rfl rfl rfl (by kernel_rfl) (fs := fun _ => []) (cs := fun h => zhh h [.at_ 0 0, .at_ 2 0, .at_ 4 0, .at_ 5 0, .at_ 6 0, .at_ 7 0]) (fun h => rfl) rfl rfl (given := dnM nl 3 nx1 ns1) ⟨rfl, rfl, rfl, rfl, trivial⟩ rfl rfl rfl rfl rfl rfl fun h X w L2 H => zmE ih e2 hl1 h2 hkd (bl := [h.b 4, h.b 5, h.b 6, h.b 7]) (ql := [(none, 0), (none, 0), (none, 0), (none, 0), h.r 8, h.r 9]) (H.pick [0, 5, 6, 7, 8, 9] rfl)) ?_
 conv => whnf
 refine za5 el (by omega) (by omega) ?_
 have hll : l < ls.length := (List.getElem?_eq_some_iff.1 hr).1
 have har : a < r.length := (List.getElem?_eq_some_iff.1 hv).1
 conv => whnf
 refine ⟨l, ⟨rfl, hll, hll⟩, ?_⟩
 conv => whnf
 refine zew (zmx (T := zaF) 10 hr rfl rfl rfl (by kernel_rfl)) rfl rfl ?_
 conv => whnf
 refine ⟨a, ⟨rfl, har, har⟩, ?_⟩
 conv => whnf
 refine za8 (zaR (T := zaF) (sv := zam .i64 v) 0 hv (fun _ => rfl) rfl rfl rfl (by kernel_rfl) (fun _ => .inr ⟨rfl, rfl, rfl⟩)) rfl rfl ?_
 have ea : nx.getD (l + 1) 0 = (a : Int) := by rw [jR, ha]; rfl
 have er : (ls.getD l []).getD (a : Int).toNat 0 = v := by
  have h5 : ls.getD l [] = r := by rw [jR, hr]; rfl
  rw [h5]
  show r.getD a 0 = v
  rw [jR, hv]; rfl
 conv => whnf
 refine vIf (fun h => ?_) fun h => ?_
 ·have hv2 : v = 2 := by simpa using h
  have e9 : zbn two ls (l + 1) (nx, ns) = (nx2, zc2 ns2 ((l + 1 : Nat) : Int) a false [ns1.length - 1, ns2.length - 1]) := by
   unfold zbn
   simp only [ea, e1, e2, er, hv2, if_true]
   rfl
  rw [e9]
  conv => whnf
  refine zaI (zaG [14] rfl rfl (za2 [2, 12] 1 rfl rfl rfl (by kernel_rfl) (fs := fun _ => []) (cs := fun h => zhh h [.at_ 2 0]) (fun h => rfl) rfl rfl (given := zwd ns2) ⟨rfl, rfl, trivial⟩ rfl rfl rfl rfl rfl rfl fun h X w L2 H => zpR ((l + 1 : Nat) : Int) a false (ks := [ns1.length - 1, ns2.length - 1]) (by simp; omega) (by simp) (by simp) hn (r := 12) (j := 14) (H.pick [2, 0] rfl) rfl)) ?_
  conv => whnf
  exact zdG [(0, 0), (1, 1), (2, 2), (4, 15)] [0] [5, 6, 7] (.inl (by rw [zbF]; rfl)) ⟨.inl rfl, .inl rfl, .inl (by rw [zbF]; rfl), .inl rfl, trivial⟩ rfl ⟨.inl rfl, trivial⟩ ⟨rfl, rfl, rfl, trivial⟩
 have hv2 : v ≠ 2 := by simpa using h
 have h3 := h3 hv2
 conv => whnf
 refine vIf (fun hk => ?_) fun hk => ?_
 ·obtain rfl : two = true := by rw [← hkd]; exact hk
  obtain ⟨h4, hn3⟩ := (if_pos rfl : (if true = true then _ else _) = _) ▸ h3
  obtain ⟨⟨nx3, ns3⟩, e3⟩ : ∃ s, zbn true ls l (nx2, ns2) = s := ⟨_, rfl⟩
  have hg3 : ns2.length < ns3.length := by have := zcg (two := true) (ls := ls) (l := l) (s := (nx2, ns2)); rw [e3] at this; exact this
  rw [e3] at hn3
  have e9 : zbn true ls (l + 1) (nx, ns) = (nx3, zc2 ns3 ((l + 1 : Nat) : Int) a false [ns1.length - 1, ns2.length - 1, ns3.length - 1]) := by
   unfold zbn
   simp only [ea, e1, e2, e3, er, if_neg hv2, if_true]
   rfl
  rw [e9]
  conv => whnf
  refine zas 9 [0, 1, 2, 12] (by kernel_rfl) ?_
  conv => whnf
  refine za5 el (by omega) (by omega) ?_
  conv => whnf
  refine zcL rfl (zdB 1 (za2 [0, 1, 2, 12] 1 rfl rfl rfl (by kernel_rfl) (fs := fun _ => []) (cs := fun h => zhh h [.at_ 0 0, .at_ 2 0, .at_ 4 0, .at_ 5 0, .at_ 6 0, .at_ 7 0]) (fun h => rfl) rfl rfl (given := dnM nl 3 nx2 ns2) ⟨rfl, rfl, rfl, rfl, trivial⟩ rfl rfl rfl rfl rfl rfl fun h X w L2 H => zmE ih e3 hl2 h4 hkd (bl := [h.b 4, h.b 5, h.b 6, h.b 7]) (ql := [(none, 0), (none, 0), (none, 0), (none, 0), h.r 8, h.r 9]) (H.pick [1, 7, 8, 9, 10, 11] rfl)) (fun _ => List.mem_append_left _) rfl) ?_
  conv => whnf
  refine zaI (zaG [15] rfl rfl (za2 [2, 14] 1 rfl rfl rfl (by kernel_rfl) (fs := fun _ => []) (cs := fun h => zhh h [.at_ 2 0]) (fun h => rfl) rfl rfl (given := zwd ns3) ⟨rfl, rfl, trivial⟩ rfl rfl rfl rfl rfl rfl fun h X w L2 H => zpR ((l + 1 : Nat) : Int) a false (ks := [ns1.length - 1, ns2.length - 1, ns3.length - 1]) (by simp; omega) (by simp) (by simp) hn3 (r := 14) (j := 15) (H.pick [1, 0] rfl) rfl)) ?_
  conv => whnf
  exact zdG [(0, 0), (1, 1), (2, 2), (4, 16)] [0] [6, 7, 8] (.inl (by rw [zbF]; rfl)) ⟨.inl rfl, .inl rfl, .inl (by rw [zbF]; rfl), .inl rfl, trivial⟩ rfl ⟨.inl rfl, trivial⟩ ⟨rfl, rfl, rfl, trivial⟩
 obtain rfl : two = false := by rw [← hkd]; exact hk
 obtain ⟨h4, hn3⟩ := (if_neg (by decide) : (if false = true then _ else _) = _) ▸ h3
 obtain ⟨lf, elf⟩ : ∃ lf, zc2 ns2 ((l + 1 : Nat) : Int) a true [ns1.length - 1, ns2.length - 1] = lf := ⟨_, rfl⟩
 have hlf : ns2.length + 1 = lf.length := by rw [← elf, zbF]
 rw [elf] at h4 hn3
 obtain ⟨⟨nx3, ns3⟩, e3⟩ : ∃ s, zbn false ls l (nx2, lf) = s := ⟨_, rfl⟩
 have hg3 : lf.length < ns3.length := by have := zcg (two := false) (ls := ls) (l := l) (s := (nx2, lf)); rw [e3] at this; exact this
 rw [e3] at hn3
 have e9 : zbn false ls (l + 1) (nx, ns) = (nx3, zc2 ns3 ((l + 1 : Nat) : Int) a false [ns2.length, ns3.length - 1]) := by
  have elf' : zc2 ns2 ((l : Int) + 1) a true [ns1.length - 1, ns2.length - 1] = lf := elf
  unfold zbn
  simp only [ea, e1, e2, er, if_neg hv2, elf, elf', e3, Bool.false_eq_true, if_false]
  rfl
 rw [e9]
 conv => whnf
 refine zaI (zaG [14] rfl rfl (za2 [2, 12] 1 rfl rfl rfl (by kernel_rfl) (fs := fun _ => []) (cs := fun h => zhh h [.at_ 2 0]) (fun h => rfl) rfl rfl (given := zwd ns2) ⟨rfl, rfl, trivial⟩ rfl rfl rfl rfl rfl rfl fun h X w L2 H => zpR ((l + 1 : Nat) : Int) a true (ks := [ns1.length - 1, ns2.length - 1]) (by simp; omega) (by simp) (by simp) hn (r := 12) (j := 14) (H.pick [2, 0] rfl) rfl)) ?_
 rw [elf, hlf]
 conv => whnf
 refine zas 8 [0, 1, 2, 15] (by kernel_rfl) ?_
 conv => whnf
 refine za5 el (by omega) (by omega) ?_
 conv => whnf
 refine zcL rfl (zdB 1 (za2 [0, 1, 2, 15] 1 rfl rfl rfl (by kernel_rfl) (fs := fun _ => []) (cs := fun h => zhh h [.at_ 0 0, .at_ 2 0, .at_ 4 0, .at_ 5 0, .at_ 6 0, .at_ 7 0]) (fun h => rfl) rfl rfl (given := dnM nl 3 nx2 lf) ⟨rfl, rfl, rfl, rfl, trivial⟩ rfl rfl rfl rfl rfl rfl fun h X w L2 H => zmE ih e3 hl2 h4 hkd (bl := [h.b 4, h.b 5, h.b 6, h.b 7]) (ql := [(none, 0), (none, 0), (none, 0), (none, 0), h.r 8, h.r 9]) (H.pick [0, 9, 10, 11, 12, 13] rfl)) (fun _ => List.mem_append_left _) rfl) ?_
 conv => whnf
 refine zaI (zaG [17] rfl rfl (za2 [2, 16] 1 rfl rfl rfl (by kernel_rfl) (fs := fun _ => []) (cs := fun h => zhh h [.at_ 2 0]) (fun h => rfl) rfl rfl (given := zwd ns3) ⟨rfl, rfl, trivial⟩ rfl rfl rfl rfl rfl rfl fun h X w L2 H => zpR ((l + 1 : Nat) : Int) a false (ks := [ns2.length, ns3.length - 1]) (by simp; omega) (by simp) (by simp) hn3 (r := 16) (j := 17) (H.pick [1, 0] rfl) rfl)) ?_
 conv => whnf
 exact zdG [(0, 0), (1, 1), (2, 2), (4, 18)] [0] [8, 9, 10] (.inl (by rw [zbF]; rfl)) ⟨.inl rfl, .inl rfl, .inl (by rw [zbF]; rfl), .inl rfl, trivial⟩ rfl ⟨.inl rfl, trivial⟩ ⟨rfl, rfl, rfl, trivial⟩
def zbu (two : Bool) (ls : List (List Int)) (nids : Nat) : List Nd := if 0 < nids then (zbn two ls ls.length (List.replicate (ls.length + 1) 0, [])).2 else []
theorem ztr (two : Bool) (ls : List (List Int)) : ∀ l, l ≤ 1001 → zDc two ls l
 | 0, _ => ztn two ls
 | l + 1, h => ztq two ls l (by omega) (ztr two ls l (by omega))
theorem zpS (hX : ∀ k ∈ X, k < w.heap.size) (two : Bool) (kd : Int) (hkd : (kd == 1) = two) (nids : Nat) (ls : List (List Int)) (qi qL : Qd) (hls : St (SlQ (zcM zaF) ls qL) w X) (hl : ls.length ≤ 1000) (hok : 0 < nids → okD two ls ls.length (List.replicate (ls.length + 1) 0, [])) :
  Ct Tryz.prog 147 [.int .i64 kd, .agg (ca [.one (.slice qi.1 nids qi.2), .one (.slice qL.1 ls.length qL.2)])] X w (.a (.s (.p (.hd 0 (zbu two ls nids).length)))) [.gone] [.sl 0 (zbu two ls nids).length (SlF zbd (zbu two ls nids))] := by
 refine vFn (k0 := 2) (rs := [.cell 4 110]) (svs := [zam .i64 kd, .a (.agg [.one (.p (.hd 0 nids)), .one (.p (.hd 1 ls.length))])]) (R0 := [.sl 1 ls.length (SlF (zcM zaF) ls)]) (hnQ [qi, qL]) Tryz.ntmps147 Tryz.func147 rfl rfl rfl rfl rfl zah (by kernel_rfl) hX (fun r hr => by rcases List.mem_singleton.1 hr with rfl; exact hls) ?_
 conv => whnf
 refine za5 (z' := ((ls.length + 1 : Nat) : Int)) rfl (by show -9223372036854775808 ≤ ((ls.length : Nat) : Int) + 1; omega) (by show ((ls.length : Nat) : Int) + 1 ≤ 9223372036854775807; omega) ?_
 conv => whnf
 have hA : AppK Tryz.prog 24 3 zaF.sz 8 := ⟨by kernel_rfl, by kernel_rfl⟩
 have hz : zep Tryz.prog 3 = some (ca [.one (.int .i64 0)]) := by kernel_rfl
 refine zbH (zy0 (T := zaF) (n := ls.length + 1) (d := 0) hA hz rfl rfl rfl rfl rfl rfl (by omega) (by unfold maxLen; omega)) rfl rfl ?_
 conv => whnf
 refine .inl ?_
 conv => whnf
 refine vIf (fun h => ?_) fun h => ?_
 ·have hpos : 0 < nids := by
   have : (nids : Int) > 0 := by simpa [Sl.len] using h
   omega
  have hd := ztr two ls ls.length (by omega)
  obtain ⟨⟨nx1, ns1⟩, e1⟩ : ∃ s, zbn two ls ls.length (List.replicate (ls.length + 1) 0, []) = s := ⟨_, rfl⟩
  have e2 : zbu two ls nids = ns1 := by unfold zbu; rw [if_pos hpos, e1]
  rw [e2]
  conv => whnf
  refine zia 2 (zaG [8, 3, 5, 2] rfl rfl (zwV (T := zbd) (e := 117) (i := 4) rfl rfl rfl rfl (za2 [7, 6, 4, 9] 1 rfl rfl rfl (by kernel_rfl) (fs := fun _ => []) (cs := fun h => zhh h [.at_ 7 0, .at_ 4 0, .at_ 8 0, .at_ 3 0, .at_ 5 0, .at_ 2 0]) (fun h => rfl) rfl rfl (given := dnM (ls.length + 1) 3 (List.replicate (ls.length + 1) 0) []) ⟨rfl, rfl, rfl, rfl, trivial⟩ rfl rfl rfl rfl rfl rfl fun h X w L2 H => zmE hd e1 (by simp) (hok hpos) hkd (bl := [h.b 8, h.b 3, h.b 5, h.b 2]) (ql := [(none, 0), (none, 0), (none, 0), (none, 0), h.r 0, h.r 1]) (H.pick [0, 4, 3, 2, 1, 5] rfl)))) ?_
  conv => whnf
  refine zkf (T := zbd) (e := 117) (xs := ns1) 10 rfl (.head _) rfl ?_
  exact zaK [(0, 10)] [0] (.inl rfl) trivial rfl ⟨.inl rfl, trivial⟩
 have hpos : ¬ 0 < nids := by
  intro h0
  have : ¬ (nids : Int) > 0 := by simpa [Sl.len] using h
  omega
 have e2 : zbu two ls nids = [] := by unfold zbu; rw [if_neg hpos]
 rw [e2]
 conv => whnf
 exact zaK [(0, 9)] [0] (.inr rfl) trivial rfl ⟨.inr (zaB rfl), trivial⟩
def zdo (kd : Int) (ids : List Int) (ls : List (List Int)) : Bool := (kd == 1 || kd == 2) && zbp ids ls
theorem zy4 (hX : ∀ k ∈ X, k < w.heap.size) (kd : Int) (ids : List Int) (ls : List (List Int)) (q p : Qd) (hq : St (SlQ zaF ids q) w X) (hp : St (SlQ (zcM zaF) ls p) w X) (hlen : ∀ l ∈ ls, l.length ≤ 1099511627776) :
  Ct Tryz.prog 145 [.int .i64 kd, .agg (ca [.one (.slice q.1 ids.length q.2), .one (.slice p.1 ls.length p.2)])] X w (zam .i64 (if zdo kd ids ls then 0 else 1)) [] [] := by
 refine vFn (k0 := 2) (rs := [.tmp 4]) (svs := [zam .i64 kd, .a (.agg [.one (.p (.hd 0 ids.length)), .one (.p (.hd 1 ls.length))])]) (R0 := [.sl 0 ids.length (SlF zaF ids), .sl 1 ls.length (SlF (zcM zaF) ls)]) (hnQ [q, p]) Tryz.ntmps145 Tryz.func145 rfl rfl rfl rfl rfl zah (by kernel_rfl) hX (fun r hr => by rcases List.mem_cons.1 hr with rfl | hr; exact hq; rcases List.mem_singleton.1 hr with rfl; exact hp) ?_
 conv => whnf
 refine vIf (fun h1 => ?_) fun h1 => ?_
 ·conv => whnf
  refine vIf (fun h2 => ?_) fun h2 => ?_
  ·conv => whnf
   refine zag ?_
   have : zdo kd ids ls = false := by simp at h1 h2; simp [zdo, h1, h2]
   rw [this]; rfl
  conv => whnf
  refine zac rfl rfl rfl (by kernel_rfl) (fun h X w H => zmz H.xk ids ls _ _ (H.fact 0 rfl) (H.fact 1 rfl) hlen) rfl rfl rfl ?_
  conv => whnf
  refine zag ?_
  have : zdo kd ids ls = zbp ids ls := by simp at h2; simp [zdo, h2]
  rw [this]; rfl
 conv => whnf
 refine zac rfl rfl rfl (by kernel_rfl) (fun h X w H => zmz H.xk ids ls _ _ (H.fact 0 rfl) (H.fact 1 rfl) hlen) rfl rfl rfl ?_
 conv => whnf
 refine zag ?_
 have : zdo kd ids ls = zbp ids ls := by simp at h1; simp [zdo, h1]
 rw [this]; rfl
def zF2 (bl : List Nat) (ql : List Qd) : Hn := ⟨zi3 bl, qs ql, fun _ _ => []⟩
theorem zkh : Inj zbd := fun x a b h => by
 simp only [zbd, cl, Chunk.cells, List.cons_append, List.nil_append, List.cons.injEq, Value.slice.injEq, and_true, true_and] at h
 exact Prod.ext h.1 h.2
theorem zwZ (hX : ∀ k ∈ X, k < w.heap.size) (x : Nd) (μ : Qd) (b : Nat) (t : Int) (hb : St (AtC ⟨b, 0, none⟩ [.one (.int .i64 t)]) w X) :
  Ct Tryz.prog 149 [.agg (ca (zbd.ch x μ)), .pointer (some ⟨b, 0, none⟩)] X w (za4 (x.lv == 0 && x.pl == t)) [] [] := by
 refine vFn (k0 := 2) (rs := [.tmp 3]) (svs := [.a (.agg [zdH x.lv, zdH x.pl, .one (.p (.v (.bool x.red))), zdH x.fr, zdH x.tt, .one (.p (.hd 0 x.kids.length)), zdH x.up]), atS 1 0]) (R0 := [.blk 1 [zdH t]]) (zF2 [0, b] [μ]) Tryz.ntmps149 Tryz.func149 rfl rfl rfl rfl rfl zah (by kernel_rfl) hX (fun r hr => by rcases List.mem_singleton.1 hr with rfl; exact hb) ?_
 conv => whnf
 refine vIf (fun h1 => ?_) fun h1 => ?_
 ·conv => whnf
  refine vIf (fun h2 => ?_) fun h2 => ?_
  all_goals
   conv => whnf
   refine zag ?_
   rw [h1, h2]; rfl
 conv => whnf
 refine zag ?_
 rw [h1]; rfl
theorem zw0 (hX : ∀ k ∈ X, k < w.heap.size) (xs : List Nd) (q : Qd) (hq : St (SlQ zbd xs q) w X) {g : FuncId} (cs : List Value) (F : World → Prop) (hF : St F w X) (hg : fnB Tryz.prog g = true) (p : Nd → Bool) (hp : ∀ y ∈ xs, ∀ (X : List Nat) (w : World) (μ : Qd), (∀ k ∈ X, k < w.heap.size) → St F w X → Ct Tryz.prog g (.agg (ca (zbd.ch y μ)) :: cs) X w (za4 (p y)) [] []) :
  Ct Tryz.prog 148 [.slice q.1 xs.length q.2, .func (.func g) #[] cs.toArray] X w (zam .i64 (zj9 p xs)) [] [] := by
 have hbig := SlQ.big hq
 refine vFn (k0 := 1) (rs := [.tmp 4]) (svs := [.a (.s (.p (.hd 0 xs.length))), .a (.s (.p (.v (.func (.func g) #[] cs.toArray))))]) (R0 := [.sl 0 xs.length (SlF zbd xs), .c F]) (hnQ [q]) Tryz.ntmps148 Tryz.func148 rfl rfl rfl rfl rfl zah (by kernel_rfl) hX (fun r hr => by rcases List.mem_cons.1 hr with rfl | hr; exact hq; rcases List.mem_singleton.1 hr with rfl; exact hF) ?_
 conv => whnf
 refine ⟨Nat, fun k l m R i => ⟨k, (8, zam .i64 i) :: zaC [0, 1, 7] l, m, R⟩, fun i => i ≤ xs.length ∧ ∀ y ∈ xs.take i, p y = false, fun i => xs.length - i, ⟨0, [], [0, 1], ⟨by omega, by simp⟩, zaE⟩, fun i hφ => ?_⟩
 conv => whnf
 refine vIf (fun h => ?_) fun h => ?_
 ·have hi : i < xs.length := by simpa [Sl.len] using h
  obtain ⟨x, hx⟩ : ∃ x, xs[i]? = some x := ⟨_, jP hi⟩
  have hxi : xs[i] = x := (List.getElem?_eq_some_iff.1 hx).2
  conv => whnf
  refine ⟨i, ⟨rfl, hi, hi⟩, ?_⟩
  conv => whnf
  refine zew (zdF zkh (n := 7) (off := 0) (sub := [zdH x.lv, zdH x.pl, .one (.p (.v (.bool x.red))), zdH x.fr, zdH x.tt, .one (.p (.hd 1 x.kids.length)), zdH x.up]) (Rs := []) 0 (fun μ => [μ]) 1 hx rfl rfl rfl (by kernel_rfl) (.inl ⟨rfl, rfl⟩) (fun μ h hh => by
   have e : h.r 1 = μ := hh 0 (by omega)
   subst e
   rfl) fun μ h w Y hh hn r hr => by cases hr) rfl rfl ?_
  conv => whnf
  refine zew (zcE (sv := za4 (p x)) (rs := []) (Rs := []) rfl rfl rfl hg rfl (fs := fun _ => []) (cs := fun _ => cs) (fun h => rfl) fun h X w H => hp x (List.mem_of_getElem? hx) _ _ (h.r 1) H.xk (H.fact 1 rfl)) rfl rfl ?_
  conv => whnf
  refine vIf (fun he => ?_) fun he => ?_
  ·conv => whnf
   refine zag ?_
   rw [zh7 hi hφ.2 (by rw [hxi]; exact he)]; rfl
  ·conv => whnf
   refine zbq (by omega) (by omega) ?_
   conv => whnf
   exact ⟨i + 1, [], [0, 1], ⟨⟨by omega, zgd hi hφ.2 (by rw [hxi]; exact he)⟩, Nat.sub_lt_sub_left hi (Nat.lt_succ_self i)⟩, zaE⟩
 ·have hi : i = xs.length := by
   have : ¬ i < xs.length := by simpa [Sl.len] using h
   omega
  conv => whnf
  refine zag ?_
  rw [zgc (by rw [← List.take_length (l := xs), ← hi]; exact hφ.2)]; rfl
theorem zAb {α : Type} {p : α → Bool} {xs : List α} : -1 ≤ zj9 p xs ∧ zj9 p xs < xs.length := by
 unfold zj9
 cases h : xs.any p with
 | false => simp; omega
 | true =>
  obtain ⟨y, hy, hp⟩ := List.any_eq_true.1 h
  have := List.findIdx_lt_length_of_exists ⟨y, hy, hp⟩
  rw [if_pos rfl]
  exact ⟨by omega, by omega⟩
def zwe (ns : List Nd) : Nat → Int → List Int
 | 0, _ => []
 | f + 1, i => if i < 0 then [] else i :: zwe ns f (ns.getD i.toNat dNd).up
def zDe (ns : List Nd) (t : Int) : Int := zj9 (fun x : Nd => x.lv == 0 && x.pl == t) ns
def zED (ns : List Nd) (t : Int) : List Int := zwe ns ns.length (zDe ns t)
def zeA (two : Bool) (kd : Int) (ids : List Int) (ls : List (List Int)) (id : Int) : List Int × List Nd × Int :=
 if zdo kd ids ls then (if ids.any (· == id) then (zED (zbu two ls ids.length) (zeh ids id), zbu two ls ids.length, 0) else ([], [], 6)) else ([], [], 1)
def zE0 (r : List Int × List Nd × Int) : SV := .tup [.s (.p (.hd 0 r.1.length)), .s (.p (.hd 1 r.2.1.length)), .s (.p (.v (.int .i64 r.2.2)))]
def zE1 (r : List Int × List Nd × Int) : List SF := [.sl 0 r.1.length (SlF zaF r.1), .sl 1 r.2.1.length (SlF zbd r.2.1)]
theorem zAc (hX : ∀ k ∈ X, k < w.heap.size) (two : Bool) (kd : Int) (hkd : (kd == 1) = two) (ids : List Int) (ls : List (List Int)) (id : Int) (q p : Qd) (hq : St (SlQ zaF ids q) w X) (hp : St (SlQ (zcM zaF) ls p) w X) (hlen : ∀ l ∈ ls, l.length ≤ 1099511627776) (hl : ls.length ≤ 1000)
  (hok : zdo kd ids ls = true → 0 < ids.length → okD two ls ls.length (List.replicate (ls.length + 1) 0, [])) (hn : (zbu two ls ids.length).length ≤ 1000000) (hup : ∀ (j : Nat) (x : Nd), (zbu two ls ids.length)[j]? = some x → x.up < 0 ∨ (j < x.up.toNat ∧ x.up.toNat < (zbu two ls ids.length).length)) :
  Ct Tryz.prog 105 [.int .i64 kd, .agg (ca [.one (.slice q.1 ids.length q.2), .one (.slice p.1 ls.length p.2)]), .int .i64 id] X w (zE0 (zeA two kd ids ls id)) [.gone, .gone] (zE1 (zeA two kd ids ls id)) := by
 refine vFn (k0 := 2) (rs := [.tmp 6, .tmp 7, .tmp 8]) (svs := [zam .i64 kd, .a (.agg [.one (.p (.hd 0 ids.length)), .one (.p (.hd 1 ls.length))]), zam .i64 id]) (R0 := [.sl 0 ids.length (SlF zaF ids), .sl 1 ls.length (SlF (zcM zaF) ls)]) (hnQ [q, p]) Tryz.ntmps105 Tryz.func105 rfl rfl rfl rfl rfl zah (by kernel_rfl) hX (fun r hr => by rcases List.mem_cons.1 hr with rfl | hr; exact hq; rcases List.mem_singleton.1 hr with rfl; exact hp) ?_
 conv => whnf
 refine zac rfl rfl rfl (by kernel_rfl) (fun h X w H => zy4 H.xk kd ids ls _ _ (H.fact 0 rfl) (H.fact 1 rfl) hlen) rfl rfl rfl ?_
 cases hm : zdo kd ids ls with
 | false =>
  have e : zeA two kd ids ls id = ([], [], 1) := by simp [zeA, hm]
  rw [e]
  conv => whnf
  exact zaK [(0, 3), (1, 4)] [0, 0] (.inr ⟨rfl, rfl, rfl, trivial⟩) trivial rfl ⟨.inr (zaB rfl), .inr (zaB rfl), trivial⟩
 | true =>
  conv => whnf
  refine zac rfl rfl rfl (by kernel_rfl) (fun h X w H => zwP H.xk ids (.slice (h.r 1).1 ls.length (h.r 1).2) rfl id _ (H.fact 0 rfl)) rfl rfl rfl ?_
  cases ha : ids.any (· == id) with
  | false =>
   have e : zeA two kd ids ls id = ([], [], 6) := by simp [zeA, hm, ha]
   rw [e]
   conv => whnf
   exact zaK [(0, 4), (1, 5)] [0, 0] (.inr ⟨rfl, rfl, rfl, trivial⟩) trivial rfl ⟨.inr (zaB rfl), .inr (zaB rfl), trivial⟩
  | true =>
   have e : zeA two kd ids ls id = (zED (zbu two ls ids.length) (zeh ids id), zbu two ls ids.length, 0) := by simp [zeA, hm, ha]
   rw [e]
   conv => whnf
   refine zac rfl rfl rfl (by kernel_rfl) (fun h X w H => zpS H.xk two kd hkd ids.length ls (h.r 0) _ (H.fact 1 rfl) hl fun h0 => hok hm h0) rfl rfl rfl ?_
   conv => whnf
   refine zao (zaG [3] rfl rfl (zan (zaa (rs := []) (Rs := []) rfl rfl rfl (by kernel_rfl) rfl fun h X w H => zw0 H.xk (zbu two ls ids.length) _ (H.fact 1 rfl) [.pointer (some ⟨h.b 3, 0, none⟩)] (AtC ⟨h.b 3, 0, none⟩ [.one (.int .i64 (zeh ids id : Nat))]) (H.fact 0 rfl) (by kernel_rfl) (fun x => x.lv == 0 && x.pl == (zeh ids id : Nat)) fun y _ X w μ hX hF => zwZ hX y μ _ _ hF) rfl rfl)) ?_
   conv => whnf
   obtain ⟨ns, hns⟩ : ∃ ns, zbu two ls ids.length = ns := ⟨_, rfl⟩
   obtain ⟨lf, hlf⟩ : ∃ lf, zj9 (fun x : Nd => x.lv == 0 && x.pl == (zeh ids id : Nat)) ns = lf := ⟨_, rfl⟩
   have hlb := zAb (p := fun x : Nd => x.lv == 0 && x.pl == (zeh ids id : Nat)) (xs := ns)
   rw [hlf] at hlb
   have hw : zED ns (zeh ids id) = zwe ns ns.length lf := by unfold zED zDe; rw [hlf]
   rw [hns, hw, hlf]
   rw [hns] at hn hup
   refine ⟨Int × List Int × Nat × Nat, fun k l m R g => ⟨k + 1, (13, zam .i64 g.1) :: (6, .a (.s (.p (.hd k g.2.2.2)))) :: zaC [7] l, (k, zba zaF g.2.1 3) :: m, R⟩, fun g => zwe ns ns.length lf = g.2.1 ++ zwe ns g.2.2.1 g.1 ∧ g.2.2.2 = g.2.1.length ∧ g.2.1.length + g.2.2.1 = ns.length ∧ (0 ≤ g.1 → g.1.toNat < ns.length ∧ ns.length - g.1.toNat ≤ g.2.2.1), fun g => g.2.2.1, ⟨(lf, [], ns.length, 0), [], [0, 1, 2, 3], ⟨rfl, rfl, by simp, fun h => by dsimp only at h ⊢; omega⟩, zaE⟩, fun ⟨i, ds, f, n⟩ ⟨h1, h2, h3, h4⟩ => ?_⟩
   dsimp only at h1 h2 h3 h4
   conv => whnf
   refine vIf (fun h => ?_) fun h => ?_
   ·have hi : 0 ≤ i := by simpa using h
    obtain ⟨h5, h6⟩ := h4 hi
    obtain ⟨x, hx⟩ : ∃ x, ns[i.toNat]? = some x := ⟨_, jP h5⟩
    obtain ⟨f', rfl⟩ : ∃ f', f = f' + 1 := ⟨f - 1, by omega⟩
    have hx2 : ns.getD i.toNat dNd = x := by rw [jR, hx]; rfl
    have h7 : zwe ns (f' + 1) i = i :: zwe ns f' x.up := by rw [zwe, if_neg (by omega), hx2]
    conv => whnf
    refine zaI (zpP (T := zaF) (e := 3) (x := i) (fun _ _ _ => trivial) rfl rfl rfl h2 rfl rfl rfl (fun _ => rfl) (by_ := 8) ⟨by kernel_rfl, by kernel_rfl⟩ (by omega) (by omega) rfl rfl rfl) ?_
    conv => whnf
    refine ⟨i.toNat, ⟨(Int.toNat_of_nonneg hi).symm, h5, h5⟩, ?_⟩
    conv => whnf
    refine za8 (zaR (T := zbd) (sv := zam .i64 x.up) 1 hx (fun _ => rfl) rfl rfl rfl (by kernel_rfl) (fun _ => .inr ⟨rfl, rfl, rfl⟩)) rfl rfl ?_
    conv => whnf
    exact ⟨(x.up, ds ++ [i], f', n + 1), [(5, 7)], [0, 1, 2, 3], ⟨⟨by rw [h1, h7]; simp, by simp [h2], by simp; omega, fun h => by
     rcases hup _ _ hx with h8 | h8
     ·dsimp only at h; omega
     ·dsimp only at h ⊢; exact ⟨h8.2, by omega⟩⟩, Nat.lt_succ_self f'⟩, zaE⟩
   have hi : i < 0 := by simpa using h
   have h7 : zwe ns f i = [] := by
    cases f with
    | zero => rfl
    | succ f => rw [zwe, if_pos hi]
   rw [h7, List.append_nil] at h1
   rw [h1]
   subst h2
   conv => whnf
   refine zwX (T := zaF) (e := 3) (xs := ds) 5 (fun _ _ _ => trivial) rfl rfl ?_
   exact zaK [(0, 5), (1, 4)] [0, 3] (.inl rfl) trivial rfl ⟨.inl rfl, .inl rfl, trivial⟩
theorem zAd (hX : ∀ k ∈ X, k < w.heap.size) (two : Bool) (kd : Int) (hkd : (kd == 1) = two) (ids : List Int) (ls : List (List Int)) (id : Int) (q p : Qd) (hq : St (SlQ zaF ids q) w X) (hp : St (SlQ (zcM zaF) ls p) w X) (hlen : ∀ l ∈ ls, l.length ≤ 1099511627776) (hl : ls.length ≤ 1000)
  (hok : zdo kd ids ls = true → 0 < ids.length → okD two ls ls.length (List.replicate (ls.length + 1) 0, [])) (hn : (zbu two ls ids.length).length ≤ 1000000) (hup : ∀ (j : Nat) (x : Nd), (zbu two ls ids.length)[j]? = some x → x.up < 0 ∨ (j < x.up.toNat ∧ x.up.toNat < (zbu two ls ids.length).length)) :
  Ct Tryz.prog 81 [.int .i64 kd, .agg (ca [.one (.slice q.1 ids.length q.2), .one (.slice p.1 ls.length p.2)]), .int .i64 id] X w (.tup [.s (.p (.hd 0 (zeA two kd ids ls id).1.length)), .s (.p (.v (.int .i64 (zeA two kd ids ls id).2.2)))]) [.gone] [.sl 0 (zeA two kd ids ls id).1.length (SlF zaF (zeA two kd ids ls id).1)] := by
 refine vFn (k0 := 2) (rs := [.tmp 6, .tmp 7]) (svs := [zam .i64 kd, .a (.agg [.one (.p (.hd 0 ids.length)), .one (.p (.hd 1 ls.length))]), zam .i64 id]) (R0 := [.sl 0 ids.length (SlF zaF ids), .sl 1 ls.length (SlF (zcM zaF) ls)]) (hnQ [q, p]) Tryz.ntmps81 Tryz.func81 rfl rfl rfl rfl rfl zah (by kernel_rfl) hX (fun r hr => by rcases List.mem_cons.1 hr with rfl | hr; exact hq; rcases List.mem_singleton.1 hr with rfl; exact hp) ?_
 conv => whnf
 refine zac rfl rfl rfl (by kernel_rfl) (fun h X w H => zAc H.xk two kd hkd ids ls id _ _ (H.fact 0 rfl) (H.fact 1 rfl) hlen hl hok hn hup) rfl rfl rfl ?_
 obtain ⟨⟨wy, ns, er⟩, e⟩ : ∃ r, zeA two kd ids ls id = r := ⟨_, rfl⟩
 rw [e]
 conv => whnf
 exact zaK [(0, 3)] [0] (.inl rfl) trivial rfl ⟨.inl rfl, trivial⟩
def zr6 (two : Bool) (kd : Int) (ids : List Int) (ls : List (List Int)) : List Nd × Int := if zdo kd ids ls then (zbu two ls ids.length, 0) else ([], 1)
theorem zw1 (hX : ∀ k ∈ X, k < w.heap.size) (two : Bool) (kd : Int) (hkd : (kd == 1) = two) (ids : List Int) (ls : List (List Int)) (q p : Qd) (hq : St (SlQ zaF ids q) w X) (hp : St (SlQ (zcM zaF) ls p) w X) (hlen : ∀ l ∈ ls, l.length ≤ 1099511627776) (hl : ls.length ≤ 1000)
  (hok : zdo kd ids ls = true → 0 < ids.length → okD two ls ls.length (List.replicate (ls.length + 1) 0, [])) :
  Ct Tryz.prog 112 [.int .i64 kd, .agg (ca [.one (.slice q.1 ids.length q.2), .one (.slice p.1 ls.length p.2)])] X w (.tup [.s (.p (.hd 0 (zr6 two kd ids ls).1.length)), .s (.p (.v (.int .i64 (zr6 two kd ids ls).2)))]) [.gone] [.sl 0 (zr6 two kd ids ls).1.length (SlF zbd (zr6 two kd ids ls).1)] := by
 refine vFn (k0 := 2) (rs := [.tmp 4, .tmp 5]) (svs := [zam .i64 kd, .a (.agg [.one (.p (.hd 0 ids.length)), .one (.p (.hd 1 ls.length))])]) (R0 := [.sl 0 ids.length (SlF zaF ids), .sl 1 ls.length (SlF (zcM zaF) ls)]) (hnQ [q, p]) Tryz.ntmps112 Tryz.func112 rfl rfl rfl rfl rfl zah (by kernel_rfl) hX (fun r hr => by rcases List.mem_cons.1 hr with rfl | hr; exact hq; rcases List.mem_singleton.1 hr with rfl; exact hp) ?_
 conv => whnf
 refine zac rfl rfl rfl (by kernel_rfl) (fun h X w H => zy4 H.xk kd ids ls _ _ (H.fact 0 rfl) (H.fact 1 rfl) hlen) rfl rfl rfl ?_
 cases hm : zdo kd ids ls with
 | false =>
  have e : zr6 two kd ids ls = ([], 1) := by simp [zr6, hm]
  rw [e]
  conv => whnf
  exact zaK [(0, 3)] [0] (.inr ⟨rfl, rfl, trivial⟩) trivial rfl ⟨.inr (zaB rfl), trivial⟩
 | true =>
  have e : zr6 two kd ids ls = (zbu two ls ids.length, 0) := by simp [zr6, hm]
  rw [e]
  conv => whnf
  refine zac rfl rfl rfl (by kernel_rfl) (fun h X w H => zpS H.xk two kd hkd ids.length ls (h.r 0) _ (H.fact 1 rfl) hl fun h0 => hok hm h0) rfl rfl rfl ?_
  conv => whnf
  exact zaK [(0, 3)] [0] (.inl rfl) trivial rfl ⟨.inl rfl, trivial⟩
end
end
section
open Go.RowKit
section
variable {X : List Nat} {w : World}
theorem zAe (hX : ∀ k ∈ X, k < w.heap.size) (xs : List (List Nat)) (x : List Nat) (q : Qd) (hq : St (SlQ zb5 xs q) w X) :
  Ct Tryz.prog 152 [.slice q.1 xs.length q.2, .agg (ca [.key x])] X w (zam .i64 (zj9 (fun y => decide (za1 x = za1 y)) xs)) [] [] := by
 have hbig := SlQ.big hq
 refine vFn (k0 := 1) (rs := [.tmp 4]) (svs := [.a (.s (.p (.hd 0 xs.length))), .a (.agg [.key x])]) (R0 := [.sl 0 xs.length (SlF zb5 xs)]) (hnQ [q]) Tryz.ntmps152 Tryz.func152 rfl rfl rfl rfl rfl zah (by kernel_rfl) hX (fun r hr => by rcases List.mem_singleton.1 hr with rfl; exact hq) ?_
 conv => whnf
 refine ⟨Nat, fun k l m R i => ⟨k, (8, zam .i64 i) :: zaC [0, 3, 7] l, m, R⟩, fun i => i ≤ xs.length ∧ ∀ y ∈ xs.take i, decide (za1 x = za1 y) = false, fun i => xs.length - i, ⟨0, [], [0], ⟨by omega, by simp⟩, zaE⟩, fun i hφ => ?_⟩
 conv => whnf
 refine vIf (fun h => ?_) fun h => ?_
 ·have hi : i < xs.length := by simpa [Sl.len] using h
  conv => whnf
  refine zas 5 [] (by kernel_rfl) ?_
  conv => whnf
  refine ⟨i, ⟨rfl, hi, hi⟩, ?_⟩
  conv => whnf
  refine zbD (zaR (T := zb5) (n := 32) (off := 0) (sub := [.key xs[i]]) (sv := .a (.agg [.key xs[i]])) 0 (jP hi) (fun _ => rfl) rfl rfl rfl (by kernel_rfl) (fun _ => .inl ⟨rfl, rfl⟩)) ?_
  conv => whnf
  refine vIf (fun he => ?_) fun he => ?_
  ·conv => whnf
   refine zag ?_
   rw [zh7 hi hφ.2 he]; rfl
  ·conv => whnf
   refine zbq (by omega) (by omega) ?_
   conv => whnf
   exact ⟨i + 1, [], [0], ⟨⟨by omega, zgd hi hφ.2 he⟩, Nat.sub_lt_sub_left hi (Nat.lt_succ_self i)⟩, zaE⟩
 ·have hi : i = xs.length := by
   have : ¬ i < xs.length := by simpa [Sl.len] using h
   omega
  conv => whnf
  refine zag ?_
  rw [zgc (by rw [← List.take_length (l := xs), ← hi]; exact hφ.2)]; rfl
theorem zAf (hX : ∀ k ∈ X, k < w.heap.size) (xs : List (List Nat)) (x : List Nat) (q : Qd) (hq : St (SlQ zb5 xs q) w X) : Ct Tryz.prog 113 [.slice q.1 xs.length q.2, .agg (ca [.key x])] X w (za4 (xs.any fun y => decide (za1 x = za1 y))) [] [] := by
 refine vFn (k0 := 1) (rs := [.tmp 4]) (svs := [.a (.s (.p (.hd 0 xs.length))), .a (.agg [.key x])]) (R0 := [.sl 0 xs.length (SlF zb5 xs)]) (hnQ [q]) Tryz.ntmps113 Tryz.func113 rfl rfl rfl rfl rfl zah (by kernel_rfl) hX (fun r hr => by rcases List.mem_singleton.1 hr with rfl; exact hq) ?_
 conv => whnf
 refine zac rfl rfl rfl (by kernel_rfl) (fun h X w H => zAe H.xk xs x _ (H.fact 0 rfl)) rfl rfl rfl ?_
 conv => whnf
 refine vIf (fun he => ?_) fun he => ?_
 all_goals
  conv => whnf
  refine zag ?_
  rw [← zka, he]; rfl
structure Tre where
 kd : Int
 ids : List Int
 ls : List (List Int)
 ps : List (List Nat)
def Tre.two (t : Tre) : Bool := t.kd == 1
def Tre.all (t : Tre) : List Nd × Int := zr6 t.two t.kd t.ids t.ls
def Tre.ok (t : Tre) : Bool := t.all.2 == 0 && (!((t.all.1.length : Int) == 0) && ((t.all.1.length : Int) == t.ps.length && !(t.ps.any fun y => decide (za1 [] = za1 y))))
def Tre.nodes (t : Tre) : List Nd × Int := if t.ok then (t.all.1, 0) else ([], 1)
def Tre.val (t : Tre) (q p r : Qd) : Value := .agg (ca [.one (.int .i64 t.kd), .one (.slice q.1 t.ids.length q.2), .one (.slice p.1 t.ls.length p.2), .one (.slice r.1 t.ps.length r.2)])
structure Tre.fits (t : Tre) : Prop where
 len : ∀ l ∈ t.ls, l.length ≤ 1099511627776
 lv : t.ls.length ≤ 1000
 ok : zdo t.kd t.ids t.ls = true → 0 < t.ids.length → okD t.two t.ls t.ls.length (List.replicate (t.ls.length + 1) 0, [])
theorem zib (hX : ∀ k ∈ X, k < w.heap.size) (t : Tre) (ht : t.fits) (q p r : Qd) (hq : St (SlQ zaF t.ids q) w X) (hp : St (SlQ (zcM zaF) t.ls p) w X) (hr : St (SlQ zb5 t.ps r) w X) :
  Ct Tryz.prog 90 [t.val q p r] X w (.tup [.s (.p (.hd 0 t.nodes.1.length)), .s (.p (.v (.int .i64 t.nodes.2)))]) [.gone] [.sl 0 t.nodes.1.length (SlF zbd t.nodes.1)] := by
 refine vFn (k0 := 3) (rs := [.tmp 2, .tmp 3]) (svs := [.a (.agg [zdH t.kd, .one (.p (.hd 0 t.ids.length)), .one (.p (.hd 1 t.ls.length)), .one (.p (.hd 2 t.ps.length))])]) (R0 := [.sl 0 t.ids.length (SlF zaF t.ids), .sl 1 t.ls.length (SlF (zcM zaF) t.ls), .sl 2 t.ps.length (SlF zb5 t.ps)]) (hnQ [q, p, r]) Tryz.ntmps90 Tryz.func90 rfl rfl rfl rfl rfl zah (by kernel_rfl) hX (fun r hr' => by rcases List.mem_cons.1 hr' with rfl | hr'; exact hq; rcases List.mem_cons.1 hr' with rfl | hr'; exact hp; rcases List.mem_singleton.1 hr' with rfl; exact hr) ?_
 conv => whnf
 refine zac rfl rfl rfl (by kernel_rfl) (fun h X w H => zw1 H.xk t.two t.kd rfl t.ids t.ls _ _ (H.fact 0 rfl) (H.fact 1 rfl) ht.len ht.lv ht.ok) rfl rfl rfl ?_
 obtain ⟨⟨ns, er⟩, e⟩ : ∃ r, t.all = r := ⟨_, rfl⟩
 have e' : zr6 t.two t.kd t.ids t.ls = (ns, er) := e
 rw [e']
 have bad : t.ok = false → t.nodes = ([], 1) := fun h => by simp [Tre.nodes, h]
 have okE : t.ok = (er == 0 && (!((ns.length : Int) == 0) && ((ns.length : Int) == t.ps.length && !(t.ps.any fun y => decide (za1 [] = za1 y))))) := by unfold Tre.ok; rw [e]
 conv => whnf
 refine vIf (fun h1 => ?_) fun h1 => ?_
 ·rw [bad (by rw [okE]; simp at h1; simp [h1])]
  conv => whnf
  exact zaK [(0, 5)] [0] (.inr ⟨rfl, rfl, trivial⟩) trivial rfl ⟨.inr (zaB rfl), trivial⟩
 have h1 : er = 0 := by simpa using h1
 conv => whnf
 refine vIf (fun h2 => ?_) fun h2 => ?_
 ·have h2 : ((ns.length : Int) == 0) = true := h2
  rw [bad (by rw [okE, h2]; simp)]
  conv => whnf
  exact zaK [(0, 5)] [0] (.inr ⟨rfl, rfl, trivial⟩) trivial rfl ⟨.inr (zaB rfl), trivial⟩
 have h2 : ((ns.length : Int) == 0) = false := h2
 conv => whnf
 refine vIf (fun h3 => ?_) fun h3 => ?_
 ·have h3 : ((ns.length : Int) != t.ps.length) = true := h3
  rw [bad (by rw [okE]; simp only [bne_iff_ne] at h3; simp [h3])]
  conv => whnf
  exact zaK [(0, 5)] [0] (.inr ⟨rfl, rfl, trivial⟩) trivial rfl ⟨.inr (zaB rfl), trivial⟩
 have h3 : ((ns.length : Int) != t.ps.length) = false := h3
 have h3' : ((ns.length : Int) == t.ps.length) = true := by simpa [bne] using h3
 conv => whnf
 refine zdk rfl rfl rfl (by kernel_rfl) (fun h X w H => zAf H.xk t.ps [] _ (H.fact 3 rfl)) rfl rfl (fun h4 => ?_) fun h4 => ?_
 ·rw [bad (by rw [okE, h4]; simp)]
  conv => whnf
  exact zaK [(0, 5)] [0] (.inr ⟨rfl, rfl, trivial⟩) trivial rfl ⟨.inr (zaB rfl), trivial⟩
 have hgood : t.nodes = (ns, 0) := by
  unfold Tre.nodes
  rw [okE, h1, h2, h3', h4, e]
  rfl
 rw [hgood]
 conv => whnf
 exact zaK [(0, 4)] [0] (.inl rfl) trivial rfl ⟨.inl rfl, trivial⟩
theorem zji (hX : ∀ k ∈ X, k < w.heap.size) (t : Tre) (ht : t.fits) (q p r : Qd) (hq : St (SlQ zaF t.ids q) w X) (hp : St (SlQ (zcM zaF) t.ls p) w X) (hr : St (SlQ zb5 t.ps r) w X) :
  Ct Tryz.prog 80 [t.val q p r] X w (zam .i64 t.nodes.2) [] [] := by
 refine vFn (k0 := 3) (rs := [.tmp 2]) (svs := [.a (.agg [zdH t.kd, .one (.p (.hd 0 t.ids.length)), .one (.p (.hd 1 t.ls.length)), .one (.p (.hd 2 t.ps.length))])]) (R0 := [.sl 0 t.ids.length (SlF zaF t.ids), .sl 1 t.ls.length (SlF (zcM zaF) t.ls), .sl 2 t.ps.length (SlF zb5 t.ps)]) (hnQ [q, p, r]) Tryz.ntmps80 Tryz.func80 rfl rfl rfl rfl rfl zah (by kernel_rfl) hX (fun r hr' => by rcases List.mem_cons.1 hr' with rfl | hr'; exact hq; rcases List.mem_cons.1 hr' with rfl | hr'; exact hp; rcases List.mem_singleton.1 hr' with rfl; exact hr) ?_
 conv => whnf
 refine zac rfl rfl rfl (by kernel_rfl) (fun h X w H => zib H.xk t ht _ _ _ (H.fact 0 rfl) (H.fact 1 rfl) (H.fact 2 rfl)) rfl rfl rfl ?_
 obtain ⟨⟨ns, er⟩, e⟩ : ∃ r, t.nodes = r := ⟨_, rfl⟩
 rw [e]
 conv => whnf
 refine zag ?_
 rfl
end
end
section
open Go.RowKit
def ByT : Ty Nat where
 μ := Unit
 dft := ()
 sz := 1
 pos := by decide
 ch x _ := [.one (bv x)]
 nest _ _ _ := True
 len _ _ := rfl
 one _ _ := ⟨rfl, trivial⟩
instance : Dec ByT := ⟨fun _ => (), fun _ => [], fun _ => rfl⟩
abbrev zdI (xs : List Nat) (e : Nat) : RB := zba ByT xs e
theorem zpT (x : Nat) (μ : ByT.μ) (w : World) : ByT.nest x μ w := trivial
theorem zw2 {xs : List Nat} {g : Nat → List Qd} : zbV ByT (itQ ByT xs g) = xs.map bv := by
 have h : ∀ its : List (Nat × ByT.μ), zbV ByT its = (its.map Prod.fst).map bv := fun its => by
  unfold zbV
  induction its with
  | nil => rfl
  | cons p its ih => rw [List.flatMap_cons, ih]; rfl
 rw [h, ztg]
section
variable {P : Program} {Tb : Tab} {N k k0 ix : Nat} {l : LE} {m : MB} {R : List SF} {o : Oper} {sv : SV} {K : KS}
variable {xs : List Nat} {i j n0 n e : Nat}
theorem ze4 {h : Hn} {i : Nat} : RB.den h i (zdI xs e) = [.row (.slice (h.r i).1 xs.length (h.r i).2) e 1 xs.length (xs.map bv)] := by
 simp only [zba, RB.den, zw2]
 rfl
theorem zki {X : List Nat} {w : World} {Rr : List (World → Prop)} {h : Hn} (H : Sp X w (zae h [] m) Rr) (hm : zaA m i = some (zdI xs e)) : Sp X w (.row (.slice (h.r i).1 xs.length (h.r i).2) e 1 xs.length (xs.map bv) :: zae h [i] m) Rr := by
 have := H.perm (zaM h m [] i _ hm (by simp))
 rw [ze4] at this
 exact this
theorem zts {xs' : List Nat} (hm : zaA m i = some (zdI xs e)) (wm : wfM (lt_ k) m = true) (wr : wfR (lt_ k) R = true)
  (hop : ∀ (Q : Exit → Act → World → Prop) (h : Hn) (X : List Nat) (a : Act) (w : World), Env a N (zcd h l) → Sp X w (zae h [] m) (zaT h R) → ∀ Kk : Act → World → Prop, (∀ A' c' w', Sep X (zad (.row (.slice (h.r i).1 xs.length (h.r i).2) e 1 xs.length (xs.map bv) :: zae h [i] m)) w w' (.row (.slice A' xs'.length c') e 1 xs'.length (xs'.map bv) :: zae h [i] m) (zaT h R) → Kk (a.put o.dst (.slice A' xs'.length c')) w') → o.wp P a w Kk Q) :
  zcj P N k l m R o (.a (.s (.p (.hd k xs'.length)))) ((k, zdI xs' e) :: (i, .gone) :: m) R := fun Q h X a w E H Kk hK => by
 have hik : i < k := zcq hm wm
 have hp1 := zaM h m [] i _ hm (by simp)
 have H1 := zki H hm
 refine hop Q h X a w E H Kk fun A' c' w' HS => ?_
 let h1 : Hn := ⟨h.b, fun t => if t = k then (A', c') else h.r t, h.q⟩
 have hag : AgS (lt_ k) h h1 := fun t ht => by
  have := zbG ht
  exact ⟨rfl, if_neg (by omega), rfl⟩
 have er : h1.r k = (A', c') := if_pos rfl
 have e1 : zae h1 [] ((k, zdI xs' e) :: (i, .gone) :: m) = .row (.slice A' xs'.length c') e 1 xs'.length (xs'.map bv) :: zae h [i] m := by
  rw [zap]
  show RB.den h1 k (zdI xs' e) ++ zae h1 [k] ((i, .gone) :: m) = _
  rw [zdV (by omega) wm, zaL hag wm, ze4, er]
  rfl
 have e2 : SV.den h1 (.a (.s (.p (.hd k xs'.length)))) = .slice A' xs'.length c' := by
  show Value.slice (h1.r k).1 xs'.length (h1.r k).2 = _
  rw [er]
 have hkk : ∀ t, t ∈ zad (zae h [] m) ↔ t ∈ zad (.row (.slice (h.r i).1 xs.length (h.r i).2) e 1 xs.length (xs.map bv) :: zae h [i] m) := fun t => by
  have := (zaw hp1).mem_iff (a := t)
  rw [ze4] at this
  exact this
 have hX : ∀ t ∈ zad (.row (.slice A' xs'.length c') e 1 xs'.length (xs'.map bv) :: zae h [i] m), t ∉ X := fun t ht hX => by
  rcases HS.mine t ht with h3 | h3
  ·exact H1.xap t h3 hX
  ·have := H.xlt t hX; omega
 have := hK h1 w' hag ⟨HS.frm.os, HS.frm.tape, HS.frm.output, HS.frm.size, fun t ht hn => HS.frm.block t ht fun hm' => hn ((hkk t).2 hm')⟩ (by
  rw [e1, za3 hag wr]
  exact Sp.of_sep HS hX) fun t ht => by
   rw [e1] at ht
   exact (HS.mine t ht).imp_left (hkk t).2
 rw [e2] at this
 exact this
theorem zgM {t r ny : Nat} {ys : List Nat} {s y : Operand} (hm : zaA m i = some (zdI xs e)) (hr : R[r]? = some (.sl j ny (TxG ys))) (hny : ny = ys.length) (ho : o.op = .call { callee := .builtin .append, args := #[s, y], argTypes := #[t, t] }) (hs : evS l s = some (.a (.s (.p (.hd i xs.length))))) (hy : evS l y = some (.a (.s (.p (.hd j ny)))))
  (hT : AppK P t e 1 1) (hn : xs.length + ys.length ≤ 140737488355328) (wm : wfM (lt_ k) m = true) (wr : wfR (lt_ k) R = true) : zcj P N k l m R o (.a (.s (.p (.hd k (xs ++ ys).length)))) ((k, zdI (xs ++ ys) e) :: (i, .gone) :: m) R :=
 zts hm wm wr fun Q h X a w E H Kk hK => by
  subst hny
  have hf := (zge H hr).now
  have H1 := zki H hm
  refine zhK (news := ys.map bv) 0 E H1.sep ho (zaf hs) (zaf hy) rfl hT (by omega) (by simp) (fun hA => hf.nil hA) (by have := zf0 (m := ys.length) hf; rwa [List.take_length] at this) (fun u hu => by obtain ⟨z, _, rfl⟩ := List.mem_map.1 hu; rfl) (by omega) (by omega) fun A' c' w' _ HS F => ?_
  rw [← jQ, ← List.map_append] at HS
  have := hK A' c' w' HS
  rw [jQ] at this
  exact this
theorem zE2 {q : Qd} {w : World} (hl : xs.length ≤ 140737488355328) (hb : ∀ x ∈ xs, x < 256) (h : SlF ByT xs q w) : TxG xs q w := by
 obtain ⟨mm, hm⟩ := h
 refine ⟨hm.cap, hl, hb, hm.nil, fun ad hA i x hx => ?_⟩
 have := (hm.at_ ad hA i x hx).1 0 (bv x) rfl
 rwa [zav, show i * ByT.sz = i from Nat.mul_one i] at this
theorem zom {X : List Nat} {w : World} {h : Hn} (hm : zaA m i = some (zdI xs e)) (hl : xs.length ≤ 140737488355328) (hb : ∀ x ∈ xs, x < 256) (H : Sp X w (zae h [] m) (zaT h R)) : Sp X w (zae h [] ((i, .gone) :: m)) (zaT h (.sl i xs.length (TxG xs) :: R)) ∧ ∀ j ∈ zad (zae h [] ((i, .gone) :: m)), j ∈ zad (zae h [] m) := by
 obtain ⟨h1, h2⟩ := zke (R := .q i (zbS ByT xs) :: R) hm (.head _) (H.know (zkg zpT h w _))
 refine ⟨h1.refacts fun r hr => ?_, h2⟩
 rcases List.mem_cons.1 hr with rfl | hr
 ·have h3 := h1.facts _ (List.mem_cons_self ..)
  exact h3.imp fun w' hw => ⟨hw.1, zE2 hl hb hw.2⟩
 ·exact h1.facts _ (List.mem_cons_of_mem _ (List.mem_cons_of_mem _ hr))
theorem zgf {m' : MB} {R' : List SF} (i : Nat) (hm : zaA m i = some (zdI xs e)) (hl : xs.length ≤ 140737488355328) (hb : ∀ x ∈ xs, x < 256) (wl : wfE (lt_ k) l = true) (hs : zcj P N k l ((i, .gone) :: m) (.sl i xs.length (TxG xs) :: R) o sv m' R') : zcj P N k l m R o sv m' R' :=
 zdA (Nat.ble_eq_true_of_le (jV k)) (fun h X w H => ⟨h, fun _ _ => ⟨rfl, rfl, rfl⟩, zom hm hl hb H⟩) wl hs
theorem ztt {m' m2 : MB} {R' R2 : List SF} (hs : zcj P N k l m R o sv m' R') (hc : ∀ (h : Hn) (X : List Nat) (w : World), Sp X w (zae h [] m') (zaT h R') → Sp X w (zae h [] m2) (zaT h R2) ∧ ∀ j ∈ zad (zae h [] m2), j ∈ zad (zae h [] m')) : zcj P N k l m R o sv m2 R2 := fun Q h X a w E H Kk hK =>
 hs Q h X a w E H Kk fun h1 w' a1 a2 a3 a4 => hK h1 w' a1 a2 (hc h1 X w' a3).1 fun j hj => a4 j ((hc h1 X w' a3).2 j hj)
theorem zjj {m' : MB} {R' : List SF} (i : Nat) (hs : zcj P N k l m R o sv m' R') (hm : zaA m' i = some (zdI xs e)) (hl : xs.length ≤ 140737488355328) (hb : ∀ x ∈ xs, x < 256) : zcj P N k l m R o sv ((i, .gone) :: m') (.sl i xs.length (TxG xs) :: R') := ztt hs fun h X w H => zom hm hl hb H
theorem zkj {X G : List Nat} {w0 : World} {Rr : Ending → World → Prop} (i : Nat) (hm : zaA m i = some (zdI xs e)) (hl : xs.length ≤ 140737488355328) (hb : ∀ x ∈ xs, x < 256) (hi : lt_ k i = true) (hk : RetOk X G w0 Rr k sv ((i, .gone) :: m) (.sl i xs.length (TxG xs) :: R)) : RetOk X G w0 Rr k sv m R := ⟨fun h w ws wm wr H hX => by
 obtain ⟨h1, h2⟩ := zom hm hl hb (Sp.of_sep H hX)
 exact hk.ok h w ws (zaz hi (zaz rfl wm)) (zaz hi wr) ⟨H.frm, H.xlt, h1.holds, h1.apart, fun j hj => H.mine j (h2 j hj), h1.facts⟩ fun j hj => hX j (h2 j hj)⟩
theorem zy5 {t c : Nat} {x y : Operand} {z1 z2 : Int} (n : Nat) (hT : ByteT P t e) (ho : o.op = .makeSlice t x y) (hx : evS l x = some (zam .i64 z1)) (hy : evS l y = some (zam .i64 z2)) (h1 : z1 = (n : Int)) (h2 : z2 = (c : Int)) (hnc : n ≤ c) (hc : c ≤ 140737488355328) : zfv P N k l m R o (.a (.s (.p (.hd k n)))) [zdI (List.replicate n 0) e] [] := fun Q h X a w E H Kk hK => by
 refine zpg E (Sep.none_ H.xk) ho hT (zaf hx) (zaf hy) h1 h2 hnc hc fun b w' HS F => ?_
 let h1 : Hn := ⟨h.b, fun t => if t = k then (some ⟨b, 0, none⟩, c) else h.r t, h.q⟩
 have er : h1.r k = (some ⟨b, 0, none⟩, c) := if_pos rfl
 have := hK h1 w' (fun t ht => ⟨rfl, if_neg (by simp at ht; omega), rfl⟩) F (by
  have e1 : zdN h1 k [zdI (List.replicate n 0) e] = [.row (.slice (some ⟨b, 0, none⟩) n c) e 1 n ((List.range n).map fun _ => bv 0)] := by
   rw [zdN, ze4, er]
   simp [zdN, List.map_const']
  rw [e1]
  exact HS.rowOf hnc hc)
 rw [show SV.den h1 (.a (.s (.p (.hd k n)))) = .slice (some ⟨b, 0, none⟩) n c by show Value.slice (h1.r k).1 n (h1.r k).2 = _; rw [er]] at this
 exact this
theorem zw3 {dT sT off dn dc t r : Nat} {cs cs' : List SC} {ys : List Nat} {x y : Operand} (mm : Nat) (hm : zaA m i = some (.blk cs t)) (hr : R[r]? = some (.sl j ys.length (TxG ys))) (ho : o.op = .call { callee := .builtin .copy, args := #[x, y], argTypes := #[dT, sT] }) (hx : evS l x = some (slS i off dn dc)) (hy : evS l y = some (.a (.s (.p (.hd j ys.length))))) (hT : elK P dT = some 1)
  (hmm : mm = min ys.length dn) (hfit : off + mm ≤ zfh cs) (hcl : ∀ h, cl (zaD h cs') = (cl (zaD h cs)).take off ++ (ys.take mm).map bv ++ (cl (zaD h cs)).drop (off + mm)) : zcj P N k l m R o (zam .i64 (mm : Int)) ((i, .blk cs' t) :: m) R := fun Q h X a w E H Kk hK => by
 have hf := (zge H hr).now
 have H1 : Sp X w (.blk (h.b i) (ca (zaD h cs)) t :: zae h [i] m) (zaT h R) := H.numAt hm
 have hkm : ∀ j, j ∈ zad (.blk (h.b i) (ca (zaD h cs)) t :: zae h [i] m) ↔ j ∈ zad (zae h [] m) := fun j => (zaw (zaM h m [] i _ hm (by simp))).mem_iff.symm
 refine zph (news := (ys.take mm).map bv) 0 E H1.sep ho (zaf hx) rfl (zaf hy) hT rfl hmm (by rw [List.length_map, List.length_take]; omega) (fun hA => (hf.nil hA).1) (zf0 hf) (fun u hu => by obtain ⟨z, _, rfl⟩ := List.mem_map.1 hu; rfl) (hcl h) (by rw [zbf]; exact hfit) rfl fun w' HS F => ?_
 have e1 : zae h [] ((i, .blk cs' t) :: m) = .blk (h.b i) (ca (zaD h cs')) t :: zae h [i] m := by rw [zap]; rfl
 have hX : ∀ t' ∈ zad (.blk (h.b i) (ca (zaD h cs')) t :: zae h [i] m), t' ∉ X := fun t' ht' hX => H.xap t' ((hkm t').1 ht') hX
 refine hK h w' (fun _ _ => ⟨rfl, rfl, rfl⟩) ⟨F.os, F.tape, F.output, F.size, fun t' ht' hn => F.block t' ht' fun hm' => hn ?_⟩ ?_ fun t' ht' => ?_
 ·exact (hkm t').1 (List.mem_append_left _ hm')
 ·rw [e1]
  exact Sp.of_sep HS hX
 ·rw [e1] at ht'
  exact .inl ((hkm t').1 ht')
theorem zgg {t : List Nat} {lo hi n0 : Nat} (ys : List Nat) (r : Nat) (hys : ys = (t.drop lo).take (hi - lo)) (hr : R[r]? = some (.sl i n0 (TxG t))) (hlo : lo ≤ hi) (hhi : hi ≤ t.length) (hp : ∀ (h : Hn) (w : World), TxF (h.r i).1 (h.r i).2 t w → PK P zgD w (zcd h l) o (zhO (h.r i).1 1 lo hi (h.r i).2)) : zfv P N k l m R o (.a (.s (.p (.hd k ys.length)))) [.gone] [.sl k ys.length (TxG ys)] := by
 have hl : ys.length = hi - lo := by rw [hys, List.length_take, List.length_drop]; omega
 rw [hl, hys]
 exact zpQ r hr hlo hhi hp
theorem zon {b t : Nat} {s y : Operand} (xs' : List Nat) (hxs : xs ++ [b] = xs') (hm : zaA m i = some (zdI xs e)) (ho : o.op = .call { callee := .builtin .append, args := #[s, y], argTypes := #[t, t] }) (hs : evS l s = some (.a (.s (.p (.hd i xs.length))))) (hy : evS l y = some (slS j 0 1 1)) (hj : zaA m j = some (.blk [.one (.p (.v (bv b)))] e)) (hij : zaX j [i] = false) (hT : AppK P t e 1 1) (hn : xs.length + 1 ≤ 140737488355328) (wl : wfE (lt_ k) l = true) (wm : wfM (lt_ k) m = true) (wr : wfR (lt_ k) R = true) : zcj P N k l m R o (.a (.s (.p (.hd k xs'.length)))) ((k, zdI xs' e) :: (i, .gone) :: m) R := by
 subst hxs
 have := zpP (N := N) (T := ByT) (x := b) (by_ := 1) zpT hm ho hs rfl hy hj hij (fun _ => rfl) hT (by omega) (by omega) wl wm wr
 rw [jQ]
 exact this
theorem zDf {b ty : Nat} {xop y : Operand} (xs' : List Nat) (hxs : xs.set j b = xs') (hT : zbC P Tb) (hm : zaA m i = some (zdI xs e)) (hj : j < xs.length) (ho : o.op = .store ty xop y) (hx : evS l xop = some (hpS i j 1 0)) (hy : evS l y = some (zfM (bv b))) (hs : szT Tb ty = some (1, false)) : zcj P N k l m R o (zeq undef) ((i, zdI xs' e) :: m) R := by
 subst hxs
 exact zmA (T := ByT) (new := [.one (.p (.v (bv b)))]) b hT hm (jP hj) ho hx (by rw [hy]; rfl) hs rfl (fun _ => ⟨rfl, trivial⟩) fun _ _ => rfl
theorem zw4 {dT sT off dn dc t tj n : Nat} {cs cs' cj : List SC} {ys : List Nat} {x y : Operand} (hm : zaA m i = some (.blk cs t)) (hmj : zaA m j = some (.blk cj tj)) (hcj : ∀ h, cl (zaD h cj) = ys.map bv) (ho : o.op = .call { callee := .builtin .copy, args := #[x, y], argTypes := #[dT, sT] }) (hx : evS l x = some (slS i off dn dc)) (hy : evS l y = some (slS j 0 n n)) (hn : n = ys.length) (hT : elK P dT = some 1)
  (hfit : n ≤ dn) (hfit2 : off + n ≤ zfh cs) (hcl : ∀ h, cl (zaD h cs') = (cl (zaD h cs)).take off ++ ys.map bv ++ (cl (zaD h cs)).drop (off + n)) : zcj P N k l m R o (zam .i64 (n : Int)) ((i, .blk cs' t) :: m) R := fun Q h X a w E H Kk hK => by
 subst hn
 have hat : AtC ⟨h.b j, 0, none⟩ (zaD h cj) w := zeo (zco H hmj)
 have H1 : Sp X w (.blk (h.b i) (ca (zaD h cs)) t :: zae h [i] m) (zaT h R) := H.numAt hm
 have hkm : ∀ j, j ∈ zad (.blk (h.b i) (ca (zaD h cs)) t :: zae h [i] m) ↔ j ∈ zad (zae h [] m) := fun j => (zaw (zaM h m [] i _ hm (by simp))).mem_iff.symm
 refine zph (news := ys.map bv) (A := some ⟨h.b j, 0, none⟩) 0 E H1.sep ho (zaf hx) rfl (zaf hy) hT rfl (m := ys.length) (by omega) (by simp) (fun hA => by cases hA) (fun ad hA t u hu => by
  obtain rfl := Option.some.inj hA
  exact hat t u (by rw [hcj]; exact hu)) (fun u hu => by obtain ⟨z, _, rfl⟩ := List.mem_map.1 hu; rfl) (hcl h) (by rw [zbf]; exact hfit2) rfl fun w' HS F => ?_
 have e1 : zae h [] ((i, .blk cs' t) :: m) = .blk (h.b i) (ca (zaD h cs')) t :: zae h [i] m := by rw [zap]; rfl
 have hX : ∀ t' ∈ zad (.blk (h.b i) (ca (zaD h cs')) t :: zae h [i] m), t' ∉ X := fun t' ht' hX => H.xap t' ((hkm t').1 ht') hX
 refine hK h w' (fun _ _ => ⟨rfl, rfl, rfl⟩) ⟨F.os, F.tape, F.output, F.size, fun t' ht' hn => F.block t' ht' fun hm' => hn ?_⟩ ?_ fun t' ht' => ?_
 ·exact (hkm t').1 (List.mem_append_left _ hm')
 ·rw [e1]
  exact Sp.of_sep HS hX
 ·rw [e1] at ht'
  exact .inl ((hkm t').1 ht')
theorem zw5 {dT sT off dn dc t tj n : Nat} {kk : List Nat} {cj : List SC} {ys : List Nat} {x y : Operand} (kk' : List Nat) (hkk : kk ++ ys = kk') (hm : zaA m i = some (.blk [.key kk] t)) (hmj : zaA m j = some (.blk cj tj)) (hcj : ∀ h, cl (zaD h cj) = ys.map bv) (ho : o.op = .call { callee := .builtin .copy, args := #[x, y], argTypes := #[dT, sT] }) (hx : evS l x = some (slS i off dn dc)) (hy : evS l y = some (slS j 0 n n)) (hn : n = ys.length) (hoff : off = kk.length) (hT : elK P dT = some 1) (hfit : n ≤ dn) (hfit2 : off + n ≤ 32) : zcj P N k l m R o (zam .i64 (n : Int)) ((i, .blk [.key kk'] t) :: m) R := by
 subst hkk hoff
 exact zw4 hm hmj hcj ho hx hy hn hT hfit hfit2 fun h => by
  rw [hn]
  simp only [zaD, SC.den, cl, Chunk.cells, List.append_nil]
  exact zwz (by rw [← hn]; exact hfit2)
theorem zDg {t M lo : Nat} {x y : Operand} {z : Int} (ho : o.op = .slice t x (some y) none none) (ht : arK P t = some (M, 1)) (hx : evS l x = some (atS i 0)) (hy : evS l y = some (zam .i64 z)) (hz : z = (lo : Int)) (hlo : lo < M) : ∀ (h : Hn) (w : World), PK P zgD w (zcd h l) o ((slS i lo (M - lo) (M - lo)).den h) := fun h w => by
 have := zwx (S := zgD) (ws := w) ho ht (zaf (h := h) hx) (zaf hy) hz hlo
 rw [Nat.mul_one, zhU, Nat.zero_add] at this
 exact this
end
end
section
open Go.RowKit
section
variable {P : Program} {Tb : Tab} {N k k0 ix : Nat} {l : LE} {m : MB} {R : List SF} {o : Oper} {sv : SV} {K : KS}
variable {α : Type} {T : Ty α} [D : Dec T] {xs ys : List α} {i j n0 n e : Nat}
theorem zy6 : Inj ByT := fun _ _ _ _ => rfl
theorem zE3 {xs : List Nat} {q : Qd} {w : World} (h : TxG xs q w) : SlF ByT xs q w := by
 have h : TxF q.1 q.2 xs w := h
 refine ⟨fun _ => (), h.cap, by have := h.len; omega, h.nil, fun ad hA i x hx => ⟨fun j u hu => ?_, trivial⟩⟩
 cases j with
 | zero =>
  have : u = bv x := by simpa [ByT, cl, Chunk.cells] using hu.symm
  rw [this, zav, show i * ByT.sz = i from Nat.mul_one i]
  exact h.at_ ad hA i x hx
 | succ j => simp [ByT, cl, Chunk.cells] at hu
theorem zpU {xs : List Nat} {q : Qd} {w : World} {Y : List Nat} (h : St (TxQ xs q) w Y) : St (SlQ ByT xs q) w Y := h.imp fun w' hw => ⟨hw.1, zE3 hw.2⟩
theorem zw6 {q : Qd} {t u : TypeId} {x y : Operand} (r : Nat) (hr : R[r]? = some (.h i fun q' _ => q' = q)) (ho : o.op = .binOp .eql t x y u) (hx : evS l x = some (.a (.s (.p (.hd i n))))) (hy : evS l y = some (zfM (.slice none 0 0))) (ht : zv6 P t = true) : zfk P N l m R o (za4 q.1.isNone) := fun h X a w E H => by
 have hq : h.r i = q := (H.facts _ (zaQ.2 ⟨_, List.mem_of_getElem? hr, rfl⟩)).now
 have := zwv (P := P) (S := zgD) (ws := w) (A := (h.r i).1) (n := n) (c := (h.r i).2) ho (zaf (h := h) hx) (zaf hy) ht w (CanB.Keep.refl _ _) a N E
 rw [hq] at this
 exact this
theorem zw7 {t : Nat} (ho : o.op = .buildSlice t 0 #[]) (hu : P.underlying t = some (.slice e)) (hs : zdr P e = some T.sz) : zfv P N k l m R o (.a (.s (.p (.hd k 0)))) [zba T [] e] [] := fun Q h X a w E H Kk hK => by
 refine znZ (Sep.none_ H.xk) ho hu hs fun b w' HS F => ?_
 let h1 : Hn := ⟨h.b, fun t => if t = k then (some ⟨b, 0, none⟩, 0) else h.r t, h.q⟩
 have er : h1.r k = (some ⟨b, 0, none⟩, 0) := if_pos rfl
 have := hK h1 w' (fun t ht => ⟨rfl, if_neg (by simp at ht; omega), rfl⟩) F (by
  have e1 : zdN h1 k [zba T [] e] = [.row (.slice (some ⟨b, 0, none⟩) 0 0) e T.sz 0 []] := by
   simp only [zdN, zba, RB.den, er]
   rfl
  rw [e1]
  exact HS)
 rw [show SV.den h1 (.a (.s (.p (.hd k 0)))) = .slice (some ⟨b, 0, none⟩) 0 0 by show Value.slice (h1.r k).1 0 (h1.r k).2 = _; rw [er]] at this
 exact this
theorem ztu {g g' : Nat → List Qd} {mm : Nat → T.μ} (h1 : ∀ t, t < xs.length → g' t = g t) (h2 : ∀ t, t < ys.length → g' (xs.length + t) = Dec.enc (mm t)) : itQ T (xs ++ ys) g' = itQ T xs g ++ zaH T ys mm := by
 refine List.ext_getElem? fun t => ?_
 unfold itQ
 rw [zcm]
 by_cases ht : t < xs.length
 ·rw [List.getElem?_append_left ht, List.getElem?_append_left (by rw [zbk]; exact ht), zcm, h1 t ht]
 ·rw [List.getElem?_append_right (by omega), List.getElem?_append_right (by rw [zbk]; omega), zbk, zcm]
  by_cases hy : t - xs.length < ys.length
  ·have := h2 (t - xs.length) hy
   rw [show xs.length + (t - xs.length) = t by omega] at this
   rw [this, D.de]
  ·rw [List.getElem?_eq_none (by omega)]
   rfl
theorem zpV {t by_ r : Nat} {s y : Operand} (hI : Inj T) (hm : zaA m i = some (zba T xs e)) (hrr : R[r]? = some (.sl j ys.length (SlF T ys))) (ho : o.op = .call { callee := .builtin .append, args := #[s, y], argTypes := #[t, t] }) (hs : ∀ (h : Hn) (X : List Nat) (w : World), Sp X w (zae h [] m) (zaT h R) → ev (zcd h l) s = some (.slice (h.r i).1 xs.length (h.r i).2)) (hy : evS l y = some (.a (.s (.p (.hd j ys.length)))))
  (hT : AppK P t e T.sz by_) (hn : xs.length + ys.length ≤ 9223372036854775807) (hby : (xs.length + ys.length) * by_ ≤ 140737488355328) (wm : wfM (lt_ k) m = true) (wr : wfR (lt_ k) R = true) (hr : .q i (zbS T xs) ∈ R) : zcj P N k l m R o (.a (.s (.p (.hd k (xs ++ ys).length)))) ((k, zba T (xs ++ ys) e) :: (i, .gone) :: m) (.q k (zbS T (xs ++ ys)) :: R) := fun Q h X a w E H Kk hK => by
 have hik : i < k := zcq hm wm
 have hp1 := zaM h m [] i _ hm (by simp)
 have hSl : St (SlQ T ys (h.r j)) w (X ++ zad (zae h [] m)) := H.facts _ (zaQ.2 ⟨_, List.mem_of_getElem? hrr, rfl⟩)
 obtain ⟨mm, hmm⟩ := zog hI hSl
 have H1 : Sp X w (.row (.slice (h.r i).1 xs.length (h.r i).2) e T.sz (itQ T xs (h.q i)).length (zbV T (itQ T xs (h.q i))) :: zae h [i] m) (LiF T (h.r j).1 (h.r j).2 ys mm :: zaT h R) := by
  rw [zbX]
  exact (H.know hmm).perm hp1
 refine zpc (T := T) 0 E H1.sep hmm ho (hs h X w H) (zaf hy) rfl hT (by rw [zbX]; exact hn) (by rw [zbX]; exact hby) fun A' c' w' hc HS hF => ?_
 let h1 : Hn := ⟨h.b, fun t => if t = k then (A', c') else h.r t, fun t => if t = k then (fun u => if u < xs.length then h.q i u else Dec.enc (mm (u - xs.length))) else h.q t⟩
 have hag : AgS (lt_ k) h h1 := fun t ht => by
  have := zbG ht
  exact ⟨rfl, if_neg (by omega), if_neg (by omega)⟩
 have er : h1.r k = (A', c') := if_pos rfl
 have eq : h1.q k = fun u => if u < xs.length then h.q i u else Dec.enc (mm (u - xs.length)) := if_pos rfl
 have eits : itQ T xs (h.q i) ++ zaH T ys mm = itQ T (xs ++ ys) (h1.q k) := by
  rw [ztu (g := h.q i) (mm := mm) (fun t ht => by rw [eq]; exact if_pos ht) fun t ht => by
   rw [eq]
   show (if xs.length + t < xs.length then h.q i (xs.length + t) else Dec.enc (mm (xs.length + t - xs.length))) = _
   rw [if_neg (by omega), Nat.add_sub_cancel_left]]
 have e1 : zae h1 [] ((k, zba T (xs ++ ys) e) :: (i, .gone) :: m) = .row (.slice A' (itQ T (xs ++ ys) (h1.q k)).length c') e T.sz (itQ T (xs ++ ys) (h1.q k)).length (zbV T (itQ T (xs ++ ys) (h1.q k))) :: zae h [i] m := by
  rw [zap]
  show RB.den h1 k (zba T (xs ++ ys) e) ++ zae h1 [k] ((i, .gone) :: m) = _
  rw [zdV (by omega) wm, zaL hag wm, zbX]
  simp only [zba, RB.den, er]
  rfl
 have e2 : (a.put o.dst (.slice A' (itQ T xs (h.q i) ++ zaH T ys mm).length c')) = a.put o.dst (SV.den h1 (.a (.s (.p (.hd k (xs ++ ys).length))))) := by
  show _ = a.put o.dst (.slice (h1.r k).1 (xs ++ ys).length (h1.r k).2)
  rw [er, eits, zbX]
 rw [e2]
 have hkk : ∀ t, t ∈ zad (zae h [] m) ↔ t ∈ zad (.row (.slice (h.r i).1 xs.length (h.r i).2) e T.sz (itQ T xs (h.q i)).length (zbV T (itQ T xs (h.q i))) :: zae h [i] m) := fun t => (zaw hp1).mem_iff
 have HS2 : Sep X (zad (zae h [] m)) w w' (zae h1 [] ((k, zba T (xs ++ ys) e) :: (i, .gone) :: m)) (LiF T (h.r j).1 (h.r j).2 ys mm :: zaT h R) := by
  rw [e1]
  rw [eits] at HS
  exact ⟨⟨HS.frm.os, HS.frm.tape, HS.frm.output, HS.frm.size, fun t ht hn => HS.frm.block t ht fun hm' => hn ((hkk t).2 hm')⟩, HS.xlt, HS.holds, HS.apart, fun t ht => (HS.mine t ht).imp_left (hkk t).2, HS.facts⟩
 have hqR : ∀ r ∈ R, St (r.den h) w' (X ++ zad (zae h1 [] ((k, zba T (xs ++ ys) e) :: (i, .gone) :: m))) := fun r hr => HS2.facts _ (List.mem_cons_of_mem _ (zay.2 ⟨r, hr, rfl⟩))
 have hX : ∀ t ∈ zad (zae h1 [] ((k, zba T (xs ++ ys) e) :: (i, .gone) :: m)), t ∉ X := fun t ht hX => by
  rcases HS2.mine t ht with h3 | h3
  ·exact H.xap t h3 hX
  ·have := H.xlt t hX; omega
 refine hK h1 w' hag HS2.frm ?_ (fun t ht => HS2.mine t ht)
 refine (Sp.of_sep HS2 hX).refacts fun r hr' => ?_
 obtain ⟨q, hq', rfl⟩ := zay.1 hr'
 rcases List.mem_cons.1 hq' with rfl | hq'
 ·show St (zbS T (xs ++ ys) (h1.q k)) w' _
  unfold zbS
  rw [← eits]
  exact zpd (hqR _ hr) (zi9 (HS2.facts _ (List.mem_cons_self ..)))
 ·rw [SF.same hag (zbW wr _ hq')]
  exact hqR _ hq'
theorem zAg {t by_ r : Nat} {s y : Operand} (hI : Inj T) (hm : zaA m i = some (zba T xs e)) (hrr : R[r]? = some (.sl j ys.length (SlF T ys))) (ho : o.op = .call { callee := .builtin .append, args := #[s, y], argTypes := #[t, t] }) (hs : evS l s = some (.a (.s (.p (.hd i xs.length))))) (hy : evS l y = some (.a (.s (.p (.hd j ys.length)))))
  (hT : AppK P t e T.sz by_) (hn : xs.length + ys.length ≤ 9223372036854775807) (hby : (xs.length + ys.length) * by_ ≤ 140737488355328) (wm : wfM (lt_ k) m = true) (wr : wfR (lt_ k) R = true) (hr : .q i (zbS T xs) ∈ R) : zcj P N k l m R o (.a (.s (.p (.hd k (xs ++ ys).length)))) ((k, zba T (xs ++ ys) e) :: (i, .gone) :: m) (.q k (zbS T (xs ++ ys)) :: R) :=
 zpV hI hm hrr ho (fun h _ _ _ => zaf hs) hy hT hn hby wm wr hr
theorem zic : Inj zat := fun x a b h => by
 simp only [zat, cl, Chunk.cells, List.append_nil, List.cons.injEq, Value.slice.injEq, and_true, true_and] at h
 exact Prod.ext h.1 h.2
theorem ztv {xs : List (List Nat)} {x : List Nat} {n0 ty : Nat} {xop : Operand} (r : Nat) (hj : xs[j]? = some x) (hr : R[r]? = some (.sl i n0 (SlF zat xs))) (ho : o.op = .load ty xop) (hx : evS l xop = some (hpS i j 1 0)) (ht : tyK P ty = some (1, false)) : zfv P N k l m R o (.a (.s (.p (.hd k x.length)))) [.gone] [.sl k x.length (TxG x)] :=
 zdF zic (sub := [.one (.p (.hd k x.length))]) r (fun μ => [μ]) 1 hj hr ho hx ht (.inr ⟨_, rfl, rfl, rfl, rfl⟩) (fun μ h hh => by
  have e : h.r k = μ := hh 0 (by omega)
  show some [Chunk.one (.slice μ.1 x.length μ.2)] = some [Chunk.one (.slice (h.r k).1 x.length (h.r k).2)]
  rw [e]) fun μ h w Y hh hn r hr => by
  have e : h.r k = μ := hh 0 (by omega)
  rcases List.mem_singleton.1 hr with rfl
  show St (fun w => ((h.r k).1 = none → x.length = 0) ∧ TxG x (h.r k) w) w Y
  rw [e]
  exact zmw hn
end
end
section
open Go.RowKit
instance : Dec zat := ⟨fun l => qs l 0, fun m => [m], fun _ => rfl⟩
def qT (ql : List Qd) : Nat → zat.μ := qs ql
def zbv : List (List Nat) → List Qd → List Chunk
 | x :: xs, q :: ql => .one (.slice q.1 x.length q.2) :: zbv xs ql
 | _, _ => []
theorem zmF : ∀ {xs : List (List Nat)} {ql : List Qd} {t : Nat} {x : List Nat}, xs.length = ql.length → xs[t]? = some x → (cl (zbv xs ql))[t]? = some (.slice (qs ql t).1 x.length (qs ql t).2)
 | [], _, t, x, _, h => by simp at h
 | y :: xs, [], _, _, hl, _ => by simp at hl
 | y :: xs, q :: ql, 0, x, hl, h => by
  rw [jD] at h
  obtain rfl := Option.some.inj h
  rfl
 | y :: xs, q :: ql, t + 1, x, hl, h => by
  rw [jE] at h
  have := zmF (ql := ql) (by simpa using hl) h
  simpa [zbv, cl, Chunk.cells, qs] using this
theorem zjk : ∀ {xs : List (List Nat)} {ql : List Qd}, xs.length = ql.length → cl (zbv xs ql) = zbV zat (zaH zat xs (qT ql))
 | [], ql, _ => by cases ql <;> rfl
 | x :: xs, [], hl => by simp at hl
 | x :: xs, q :: ql, hl => by
  have h := zjk (xs := xs) (ql := ql) (by simpa using hl)
  have e : zaH zat (x :: xs) (qT (q :: ql)) = (x, q) :: zaH zat xs (qT ql) := by
   simp only [zaH, List.mapIdx_cons]
   rfl
  rw [e, zbv, cl, h]
  rfl
theorem zAh {ad : Addr} {xs : List (List Nat)} {ql : List Qd} {w : World} (hl : xs.length = ql.length) (hb : xs.length ≤ 9223372036854775807) (hat : AtC ad (zbv xs ql) w) (hn : ∀ t x, xs[t]? = some x → TxF (qs ql t).1 (qs ql t).2 x w) : LiF zat (some ad) xs.length xs (qT ql) w :=
 ⟨jV _, hb, fun e => (by cases e), fun ad' e t x hx => by
  obtain rfl := Option.some.inj e
  refine ⟨fun j u hu => ?_, hn t x hx⟩
  cases j with
  | zero =>
   have : u = .slice (qs ql t).1 x.length (qs ql t).2 := by
    have h3 : u = .slice (qT ql t).1 x.length (qT ql t).2 := by simpa [zat, cl, Chunk.cells] using hu.symm
    exact h3
   rw [this, zav, show t * zat.sz = t from Nat.mul_one t]
   exact hat t _ (zmF hl hx)
  | succ j => simp [zat, cl, Chunk.cells] at hu⟩
theorem zbI {ad : Addr} {xs : List (List Nat)} {ql : List Qd} {w : World} {Y : List Nat} (hl : xs.length = ql.length) (hb : xs.length ≤ 9223372036854775807) (hat : St (AtC ad (zbv xs ql)) w Y) (hn : ∀ t x, xs[t]? = some x → St (TxF (qs ql t).1 (qs ql t).2 x) w Y) : St (SlQ zat xs (some ad, xs.length)) w Y := fun w' hk =>
 ⟨fun e => (by cases e), qT ql, zAh hl hb (hat w' hk) fun t x hx => hn t x hx w' hk⟩
section
variable {P : Program} {Tb : Tab} {N k k0 ix : Nat} {l : LE} {m : MB} {R : List SF} {o : Oper} {sv : SV} {K : KS} {rs : List RB}
variable {xs ys : List (List Nat)} {i j n0 n e : Nat}
theorem zmG {t by_ : Nat} {s y : Operand} {cs : List SC} (ql : Hn → List Qd) (qy : Hn → Qd) (hm : zaA m j = some (.blk cs e)) (hcs : ∀ h, zaD h cs = zbv xs (ql h)) (hql : ∀ h, xs.length = (ql h).length) (hnest : ∀ (h : Hn) (X : List Nat) (w : World), Sp X w (zae h [] m) (zaT h R) → ∀ t x, xs[t]? = some x → St (TxF (qs (ql h) t).1 (qs (ql h) t).2 x) w (X ++ zad (zae h [] m)))
  (hys : ∀ (h : Hn) (X : List Nat) (w : World), Sp X w (zae h [] m) (zaT h R) → St (SlQ zat ys (qy h)) w (X ++ zad (zae h [] m))) (ho : o.op = .call { callee := .builtin .append, args := #[s, y], argTypes := #[t, t] }) (hs : evS l s = some (slS j 0 n0 n0)) (hn0 : n0 = xs.length) (hy : ∀ h : Hn, ev (zcd h l) y = some (.slice (qy h).1 ys.length (qy h).2))
  (hT : AppK P t e 1 by_) (hn : xs.length + ys.length ≤ 140737488355328) (hby : (xs.length + ys.length) * by_ ≤ 140737488355328) (wm : wfM (lt_ k) m = true) (wr : wfR (lt_ k) R = true) : zcj P N k l m R o (.a (.s (.p (.hd k (xs ++ ys).length)))) ((k, zba zat (xs ++ ys) e) :: (j, .gone) :: m) (.q k (zbS zat (xs ++ ys)) :: R) := fun Q h X a w E H Kk hK => by
 subst hn0
 have hjk : j < k := zcq hm wm
 have hp1 := zaM h m [] j _ hm (by simp)
 have hSl : St (SlQ zat ys (qy h)) w (X ++ zad (zae h [] m)) := hys h X w H
 obtain ⟨mm, hmm⟩ := zog zic hSl
 have hN : St (zgG zat (zaH zat xs (qT (ql h)))) w (X ++ zad (zae h [] m)) := fun w' hk p hp => by
  obtain ⟨t, ht⟩ := List.mem_iff_getElem?.1 hp
  rw [zcm] at ht
  obtain ⟨x, hx, rfl⟩ := Option.map_eq_some_iff.1 ht
  exact hnest h X w H t x hx w' hk
 have hcl : cl (zaD h cs) = zbV zat (zaH zat xs (qT (ql h))) := by rw [hcs, zjk (hql h)]
 have H1 : Sp X w (.row (.slice (some ⟨h.b j, 0, none⟩) xs.length xs.length) e zat.sz (zaH zat xs (qT (ql h))).length (zbV zat (zaH zat xs (qT (ql h)))) :: zae h [j] m) (LiF zat (qy h).1 (qy h).2 ys mm :: zgG zat (zaH zat xs (qT (ql h))) :: zaT h R) := by
  have h2 := ((H.know hN).know (r := LiF zat (qy h).1 (qy h).2 ys mm) hmm).perm hp1
  have h3 : Sp X w (.blk (h.b j) (ca (zaD h cs)) e :: zae h [j] m) (LiF zat (qy h).1 (qy h).2 ys mm :: zgG zat (zaH zat xs (qT (ql h))) :: zaT h R) := h2
  have e0 : ca (zaD h cs) = ca [.row xs.length fun t => ((zbV zat (zaH zat xs (qT (ql h))))[t]?).getD (.bool false)] := by
   refine zja ?_
   rw [hcl]
   refine List.ext_getElem? fun t => ?_
   by_cases ht : t < xs.length
   ·have hlt : t < (zbV zat (zaH zat xs (qT (ql h)))).length := by rw [zdv, zbk]; simpa [zat] using ht
    simp [ht, jP hlt]
   ·rw [List.getElem?_eq_none (by rw [zdv, zbk]; simpa [zat] using ht), List.getElem?_eq_none (by simpa using ht)]
  rw [e0] at h3
  have h4 := Sep.rowOf (n := xs.length) h3.sep (jV _) (by omega)
  have e1 : ((List.range xs.length).map fun t => ((zbV zat (zaH zat xs (qT (ql h))))[t]?).getD (.bool false)) = zbV zat (zaH zat xs (qT (ql h))) := by
   refine List.ext_getElem? fun t => ?_
   by_cases ht : t < xs.length
   ·have hlt : t < (zbV zat (zaH zat xs (qT (ql h)))).length := by rw [zdv, zbk]; simpa [zat] using ht
    simp [ht, jP hlt]
   ·rw [List.getElem?_eq_none (by simpa using ht), List.getElem?_eq_none (by rw [zdv, zbk]; simpa [zat] using ht)]
  rw [e1] at h4
  rw [zbk]
  refine Sp.of_sep h4 fun t ht hX => h3.xap t ?_ hX
  simpa [zad, Res.keys, Value.ownBlock] using ht
 refine zpc (T := zat) 0 E H1.sep hmm ho (zaf hs) (hy h) rfl hT (by rw [zbk]; omega) (by rw [zbk]; exact hby) fun A' c' w' hc HS hF => ?_
 let h1 : Hn := ⟨h.b, fun t => if t = k then (A', c') else h.r t, fun t => if t = k then (fun u => if u < xs.length then [qs (ql h) u] else ([mm (u - xs.length)] : List Qd)) else h.q t⟩
 have hag : AgS (lt_ k) h h1 := fun t ht => by
  have := zbG ht
  exact ⟨rfl, if_neg (by omega), if_neg (by omega)⟩
 have er : h1.r k = (A', c') := if_pos rfl
 have eq : h1.q k = fun u => if u < xs.length then [qs (ql h) u] else ([mm (u - xs.length)] : List Qd) := if_pos rfl
 have eits : zaH zat xs (qT (ql h)) ++ zaH zat ys mm = itQ zat (xs ++ ys) (h1.q k) := by
  rw [ztu (g := fun u => [qs (ql h) u]) (mm := mm) (fun t ht => by rw [eq]; exact if_pos ht) fun t ht => by
   rw [eq]
   have h5 : (if xs.length + t < xs.length then [qs (ql h) (xs.length + t)] else ([mm (xs.length + t - xs.length)] : List Qd)) = [mm t] := by
    rw [if_neg (by omega), Nat.add_sub_cancel_left]
    try rfl
   exact h5]
  rfl
 have e1 : zae h1 [] ((k, zba zat (xs ++ ys) e) :: (j, .gone) :: m) = .row (.slice A' (itQ zat (xs ++ ys) (h1.q k)).length c') e zat.sz (itQ zat (xs ++ ys) (h1.q k)).length (zbV zat (itQ zat (xs ++ ys) (h1.q k))) :: zae h [j] m := by
  rw [zap]
  show RB.den h1 k (zba zat (xs ++ ys) e) ++ zae h1 [k] ((j, .gone) :: m) = _
  rw [zdV (by omega) wm, zaL hag wm, zbX]
  simp only [zba, RB.den, er]
  rfl
 have e2 : (a.put o.dst (.slice A' (zaH zat xs (qT (ql h)) ++ zaH zat ys mm).length c')) = a.put o.dst (SV.den h1 (.a (.s (.p (.hd k (xs ++ ys).length))))) := by
  show _ = a.put o.dst (.slice (h1.r k).1 (xs ++ ys).length (h1.r k).2)
  rw [er, eits, zbX]
 rw [e2]
 have hkk : ∀ t, t ∈ zad (zae h [] m) ↔ t ∈ zad (.row (.slice (some ⟨h.b j, 0, none⟩) xs.length xs.length) e zat.sz (zaH zat xs (qT (ql h))).length (zbV zat (zaH zat xs (qT (ql h)))) :: zae h [j] m) := fun t => by
  have := (zaw hp1).mem_iff (a := t)
  simpa [zad, RB.den, Res.keys, Value.ownBlock] using this
 have HS2 : Sep X (zad (zae h [] m)) w w' (zae h1 [] ((k, zba zat (xs ++ ys) e) :: (j, .gone) :: m)) (LiF zat (qy h).1 (qy h).2 ys mm :: zgG zat (zaH zat xs (qT (ql h))) :: zaT h R) := by
  rw [e1]
  rw [eits] at HS
  exact ⟨⟨HS.frm.os, HS.frm.tape, HS.frm.output, HS.frm.size, fun t ht hn => HS.frm.block t ht fun hm' => hn ((hkk t).2 hm')⟩, HS.xlt, HS.holds, HS.apart, fun t ht => (HS.mine t ht).imp_left (hkk t).2, HS.facts⟩
 have hX : ∀ t ∈ zad (zae h1 [] ((k, zba zat (xs ++ ys) e) :: (j, .gone) :: m)), t ∉ X := fun t ht hX => by
  rcases HS2.mine t ht with h3 | h3
  ·exact H.xap t h3 hX
  ·have := H.xlt t hX; omega
 refine hK h1 w' hag HS2.frm ?_ (fun t ht => HS2.mine t ht)
 refine (Sp.of_sep HS2 hX).refacts fun r hr' => ?_
 obtain ⟨q, hq', rfl⟩ := zay.1 hr'
 rcases List.mem_cons.1 hq' with rfl | hq'
 ·show St (zbS zat (xs ++ ys) (h1.q k)) w' _
  unfold zbS
  rw [← eits]
  exact zpd (HS2.facts _ (List.mem_cons_of_mem _ (List.mem_cons_self ..))) (zi9 (HS2.facts _ (List.mem_cons_self ..)))
 ·rw [SF.same hag (zbW wr _ hq')]
  exact HS2.facts _ (List.mem_cons_of_mem _ (List.mem_cons_of_mem _ (zay.2 ⟨_, hq', rfl⟩)))
theorem zpW {t by_ r : Nat} {s y : Operand} {cs : List SC} (ql : Hn → List Qd) (hm : zaA m j = some (.blk cs e)) (hcs : ∀ h, zaD h cs = zbv xs (ql h)) (hql : ∀ h, xs.length = (ql h).length) (hnest : ∀ (h : Hn) (X : List Nat) (w : World), Sp X w (zae h [] m) (zaT h R) → ∀ t x, xs[t]? = some x → St (TxF (qs (ql h) t).1 (qs (ql h) t).2 x) w (X ++ zad (zae h [] m)))
  (hrr : R[r]? = some (.sl i ys.length (SlF zat ys))) (ho : o.op = .call { callee := .builtin .append, args := #[s, y], argTypes := #[t, t] }) (hs : evS l s = some (slS j 0 n0 n0)) (hn0 : n0 = xs.length) (hy : evS l y = some (.a (.s (.p (.hd i ys.length)))))
  (hT : AppK P t e 1 by_) (hn : xs.length + ys.length ≤ 140737488355328) (hby : (xs.length + ys.length) * by_ ≤ 140737488355328) (wm : wfM (lt_ k) m = true) (wr : wfR (lt_ k) R = true) : zcj P N k l m R o (.a (.s (.p (.hd k (xs ++ ys).length)))) ((k, zba zat (xs ++ ys) e) :: (j, .gone) :: m) (.q k (zbS zat (xs ++ ys)) :: R) :=
 zmG ql (fun h => h.r i) hm hcs hql hnest (fun h X w H => H.facts _ (zaQ.2 ⟨_, List.mem_of_getElem? hrr, rfl⟩)) ho hs hn0 (fun h => zaf hy) hT hn hby wm wr
theorem ztw {t by_ i2 : Nat} {s y : Operand} {cs : List SC} (ql : Hn → List Qd) (hm : zaA m j = some (.blk cs e)) (hcs : ∀ h, zaD h cs = zbv xs (ql h)) (hql : ∀ h, xs.length = (ql h).length) (hnest : ∀ (h : Hn) (X : List Nat) (w : World), Sp X w (zae h [] m) (zaT h R) → ∀ t x, xs[t]? = some x → St (TxF (qs (ql h) t).1 (qs (ql h) t).2 x) w (X ++ zad (zae h [] m)))
  (hys : ∀ (h : Hn) (X : List Nat) (w : World), Sp X w (zae h [] m) (zaT h R) → St (SlQ zat ys (some ⟨h.b i2, 0, none⟩, ys.length)) w (X ++ zad (zae h [] m))) (ho : o.op = .call { callee := .builtin .append, args := #[s, y], argTypes := #[t, t] }) (hs : evS l s = some (slS j 0 n0 n0)) (hn0 : n0 = xs.length) (hy : evS l y = some (slS i2 0 ys.length ys.length))
  (hT : AppK P t e 1 by_) (hn : xs.length + ys.length ≤ 140737488355328) (hby : (xs.length + ys.length) * by_ ≤ 140737488355328) (wm : wfM (lt_ k) m = true) (wr : wfR (lt_ k) R = true) : zcj P N k l m R o (.a (.s (.p (.hd k (xs ++ ys).length)))) ((k, zba zat (xs ++ ys) e) :: (j, .gone) :: m) (.q k (zbS zat (xs ++ ys)) :: R) :=
 zmG ql (fun h => (some ⟨h.b i2, 0, none⟩, ys.length)) hm hcs hql hnest hys ho hs hn0 (fun h => zaf hy) hT hn hby wm wr
theorem zgh {R2 : List SF} (is : List Nat) (hz : zyZ is m R = some R2) (ht : zfv P N k l (zz9 is m) R2 o sv rs []) : zfv P N k l m R o sv rs [] := fun Q h X a w E H Kk hK =>
 ht Q h X a w E (zhx hz H).1 Kk fun h1 w' h2 h3 h4 => hK h1 w' h2 h3 ⟨h4.frm, H.xk, h4.holds, h4.apart, h4.mine, fun _ hr => by cases hr⟩
theorem zid {α : Type} {T : Ty α} [Dec T] {zs : List α} {m' : MB} {R' : List SF} (i : Nat) (hm : zaA m i = some (zba T zs e)) (hr : .q i (zbS T zs) ∈ R) (wl : wfE (lt_ k) l = true) (hs : zcj P N k l ((i, .gone) :: m) (.sl i zs.length (SlF T zs) :: R) o sv m' R') : zcj P N k l m R o sv m' R' :=
 zdA (Nat.ble_eq_true_of_le (jV k)) (fun h X w H => ⟨h, fun _ _ => ⟨rfl, rfl, rfl⟩, zke hm hr H⟩) wl hs
theorem zy7 {t : Nat} {x y : Operand} {z1 z2 : Int} (n : Nat) (hT : ByteT P t e) (ho : o.op = .makeSlice t x y) (hx : evS l x = some (zam .i64 z1)) (hy : evS l y = some (zam .i64 z2)) (h1 : z1 = (n : Int)) (h2 : z2 = (n : Int)) (hn : n ≤ 140737488355328) : zfv P N k l m R o (slS k 0 n n) [.blk [.row n fun _ => bv 0] e] [] := fun Q h X a w E H Kk hK => by
 refine zpg E (Sep.none_ H.xk) ho hT (zaf hx) (zaf hy) h1 h2 (jV _) hn fun b w' HS F => ?_
 let h1 : Hn := ⟨fun t => if t = k then b else h.b t, h.r, h.q⟩
 have er : h1.b k = b := if_pos rfl
 have := hK h1 w' (fun t ht => ⟨if_neg (by simp at ht; omega), rfl, rfl⟩) F (by
  have e1 : zdN h1 k [.blk [.row n fun _ => bv 0] e] = [.blk b (ca [.row n fun _ => bv 0]) e] := by
   simp only [zdN, RB.den, er]
   rfl
  rw [e1]
  exact HS)
 rw [show SV.den h1 (slS k 0 n n) = .slice (some ⟨b, 0, none⟩) n n by show Value.slice (some ⟨h1.b k, 0, none⟩) n n = _; rw [er]] at this
 exact this
theorem zw8 {X G : List Nat} {w0 : World} {Rr : Ending → World → Prop} {t : Nat} {kk : List Nat} {sv' : SV} {m' : MB} (i : Nat) (hm : zaA m i = some (.blk [.key kk] t)) (hk32 : kk.length = 32) (hkb : ∀ x ∈ kk, x < 256) (he : ∀ h : Hn, h.r k = (some ⟨h.b i, 0, none⟩, 32) → sv'.den h = sv.den h ∧ zae h [] m' = zae h [] ((i, .gone) :: m)) (hw : (bif sv'.wf (lt_ (k + 1)) then wfM (lt_ (k + 1)) m' else false) = true)
  (hk : RetOk X G w0 Rr (k + 1) sv' m' (.sl k 32 (TxG kk) :: R)) : RetOk X G w0 Rr k sv m R := ⟨fun h w ws wm wr H hX => by
 have hi : lt_ k i = true := Nat.ble_eq_true_of_le (zcq hm wm)
 obtain ⟨h1, h2⟩ := zkd hm (Sp.of_sep H hX)
 let h3 : Hn := ⟨h.b, fun t => if t = k then (some ⟨h.b i, 0, none⟩, 32) else h.r t, h.q⟩
 have er : h3.r k = (some ⟨h3.b i, 0, none⟩, 32) := if_pos rfl
 have hag : AgS (lt_ k) h h3 := fun j hj => ⟨rfl, if_neg (by have := zbG hj; omega), rfl⟩
 obtain ⟨e1, e2⟩ := he h3 er
 have hw2 := zab hw
 have wg : wfM (lt_ k) ((i, .gone) :: m) = true := zaz hi (zaz rfl wm)
 rw [← SV.same hag ws, ← e1]
 have e3 : zae h3 [] m' = zae h [] ((i, .gone) :: m) := by rw [e2, zaL hag wg]
 refine hk.ok h3 w hw2.1 hw2.2 (zaz (Nat.ble_eq_true_of_le (jV _)) (zb6 (zdf (Nat.le_succ k)) wr)) ?_ fun j hj => hX j (h2 j (by rw [← e3]; exact hj))
 rw [e3]
 refine ⟨H.frm, H.xlt, h1.holds, h1.apart, fun j hj => H.mine j (h2 j hj), fun r hr => ?_⟩
 rcases List.mem_cons.1 hr with rfl | hr
 ·have hb := h1.facts _ (List.mem_cons_self ..)
  have ht : St (TxF (some ⟨h.b i, 0, none⟩) 32 kk) w (X ++ zad (zae h [] ((i, .gone) :: m))) := zer hb (by rw [show zaD h [.key kk] = [.key kk] from rfl, zhR, zf1 hk32]) (by omega) (by omega) hkb
  refine ht.imp fun w' hw' => ?_
  show ((h3.r k).1 = none → 32 = 0) ∧ TxG kk (h3.r k) w'
  rw [er]
  exact ⟨fun e => (by cases e), hw'⟩
 ·rw [za3 hag wr] at hr
  exact h1.facts _ (List.mem_cons_of_mem _ hr)⟩
theorem ztx {R2 : List SF} : ∀ {is : List Nat} {m : MB} {R : List SF}, zyZ is m R = some R2 → wfM (lt_ k) m = true → wfR (lt_ k) R = true → wfM (lt_ k) (zz9 is m) = true ∧ wfR (lt_ k) R2 = true
 | [], m, R, e, h1, h2 => by obtain rfl := Option.some.inj e; exact ⟨h1, h2⟩
 | i :: is, m, R, e, h1, h2 => by
  unfold zyZ at e
  split at e
  ·rename_i cs t hm
   have hi : lt_ k i = true := Nat.ble_eq_true_of_le (zcq hm h1)
   have := ztx (is := is) e (zaz hi (zaz rfl h1)) (zaz (zaz hi (zs0 h1 hm).2) h2)
   exact this
  ·cases e
theorem zw9 {X G : List Nat} {w0 : World} {Rr : Ending → World → Prop} {R2 : List SF} (is : List Nat) (hz : zyZ is m R = some R2) (hk : RetOk X G w0 Rr k sv (zz9 is m) R2) : RetOk X G w0 Rr k sv m R := ⟨fun h w ws wm wr H hX => by
 obtain ⟨h1, h2⟩ := zhx hz (Sp.of_sep H hX)
 obtain ⟨w1, w2⟩ := ztx hz wm wr
 exact hk.ok h w ws w1 w2 ⟨H.frm, H.xlt, h1.holds, h1.apart, fun j hj => H.mine j (h2 j hj), h1.facts⟩ fun j hj => hX j (h2 j hj)⟩
theorem zty {t : List Nat} {n : Nat} {x xh xm : Operand} {ty : Nat} {z z2 : Int} (ys : List Nat) (r : Nat) (hys : ys = t.take n) (hr : R[r]? = some (.sl i n0 (TxG t))) (hn : n ≤ t.length) (ho : o.op = .slice ty x none (some xh) (some xm)) (ht : elK P ty = some 1) (hx : evS l x = some (.a (.s (.p (.hd i n0))))) (hh : evS l xh = some (zam .i64 z)) (hm : evS l xm = some (zam .i64 z2)) (hz : z = (n : Int)) (hz2 : z2 = (n : Int)) : zfv P N k l m R o (.a (.s (.p (.hd k n)))) [.gone] [.sl k n (TxG ys)] := fun Q h X a w E H Kk hK => by
 have hf := zge H hr
 have hcap := hf.now.cap
 let q : Qd := (if n = 0 then (h.r i).1 else (h.r i).1.map (·.add (0 * 1)), n - 0)
 have hq : zhO (h.r i).1 1 0 n n = .slice q.1 (n - 0) q.2 := rfl
 have hh' : ev (zcd h l) xh = some (.int .i64 z) := zaf hh
 have hm' : ev (zcd h l) xm = some (.int .i64 z2) := zaf hm
 have hrun := zpe (P := P) (S := zgD) (ws := w) (A := (h.r i).1) (c := (h.r i).2) (lo := 0) (hi := n) (mx := n) ho ht (zaf (h := h) hx) (fun a N w E => by
  unfold Instr.sliceBounds
  simp [E.ev hh', E.ev hm', zdd hz (jV n), zdd hz2 (show n ≤ (h.r i).2 by omega), Sem.run_bind]) w (CanB.Keep.refl _ _) a N E
 let h1 : Hn := ⟨h.b, fun t => if t = k then q else h.r t, h.q⟩
 have er : h1.r k = q := if_pos rfl
 have hl : ys.length = n := by rw [hys, List.length_take]; omega
 unfold Oper.wp
 rw [hrun, hq]
 have := hK h1 w (fun t ht => ⟨rfl, if_neg (by simp at ht; omega), rfl⟩) (Frm.refl _ _) (by
  show Sep (X ++ zad (zae h [] m)) [] w w [] (zaT h1 [_])
  refine (Sep.none_ H.xk).refacts fun r hr => ?_
  rcases List.mem_singleton.1 hr with rfl
  rw [show (X ++ zad (zae h [] m)) ++ zad ([] : List Res) = X ++ zad (zae h [] m) by simp [zad]]
  intro w' hk
  have h' := hf w' hk
  show ((h1.r k).1 = none → n = 0) ∧ TxF (h1.r k).1 (h1.r k).2 ys w'
  rw [er]
  have hA0 : q.1 = none → n = 0 := fun e => by
   by_cases h0 : n = 0
   ·exact h0
   ·have e : (h.r i).1.map (·.add (0 * 1)) = none := by simpa [q, h0] using e
    have := h'.nil (Option.map_eq_none_iff.1 e)
    omega
  refine ⟨hA0, by show ys.length ≤ n - 0; omega, by have := h'.len; omega, fun x hx => h'.byt x (by rw [hys] at hx; exact List.mem_of_mem_take hx), fun e => ⟨by rw [hl]; exact hA0 e, by show n - 0 = 0; rw [hA0 e]⟩, fun ad hA i' x hx => ?_⟩
  have hi' := (List.getElem?_eq_some_iff.1 hx).1
  have h0 : n ≠ 0 := by omega
  rw [hys, List.getElem?_take_of_lt (by omega)] at hx
  cases hAA : (h.r i).1 with
  | none => have := (h'.nil hAA).1; omega
  | some ad0 =>
   have e : q.1 = some (ad0.add (0 * 1)) := by simp [q, h0, hAA]
   rw [e] at hA
   obtain rfl := Option.some.inj hA
   rw [Nat.zero_mul, zav]
   exact h'.at_ ad0 hAA _ x hx)
 rw [show SV.den h1 (.a (.s (.p (.hd k n)))) = .slice q.1 (n - 0) q.2 by show Value.slice (h1.r k).1 n (h1.r k).2 = _; rw [er]; rfl] at this
 exact this
theorem ztz {b : Nat} (hb : Nat.ble k b = true) : zEC k (.sl b 0 (TxG [])) := fun h w Y hn => by
 show St (fun w => ((h.r b).1 = none → 0 = 0) ∧ TxG [] (h.r b) w) w Y
 rw [hn b (Nat.le_of_ble_eq_true hb)]
 exact zh6
end
end
section
open Go.RowKit
section
variable {P : Program} {o : Oper} {a : Act} {w ws : World} {Q : Exit → Act → World → Prop} {N d : Nat} {l : List (Nat × Value)} {v : Value} {S : Nat → Prop} {K : Act → World → Prop} {x y : Operand}
 {X G : List Nat} {w0 : World} {L L' : List Res} {R : List (World → Prop)}
theorem zmH {b e n : Nat} {C : Array Value} (h : w.heap[b]? = some (.cells C e (0, 0))) : (w.freeze ⟨b, n, none⟩ 1).heap[b]? = some (.cells C e (n, n + 1)) ∧ Frm [b] w (w.freeze ⟨b, n, none⟩ 1) := by
 unfold World.freeze
 rw [if_neg (by decide)]
 refine ⟨?_, rfl, rfl, rfl, by simp, fun k _ hn => ?_⟩
 ·show (w.heap.modify b _)[b]? = _
  rw [Array.getElem?_modify, if_pos rfl, h]
  rfl
 ·show (w.heap.modify b _)[k]? = _
  rw [Array.getElem?_modify, if_neg (fun e => hn (by rw [← e]; exact List.mem_singleton.2 rfl))]
theorem zxa {A : Option Addr} {c : Nat} {k : List Nat} {Y : List Nat} (h : St (TxF A c k) w Y) (hk : 32 ≤ k.length) : ∃ ad, A = some ad ∧ St (AtC ad [.key k]) w Y := by
 cases A with
 | none => have := h.now.nil rfl; omega
 | some ad =>
  refine ⟨ad, rfl, fun w' hw j u hu => ?_⟩
  have hT := h w' hw
  rw [zhR, List.getElem?_map] at hu
  by_cases hj : j < 32
  ·rw [zjS k j hj, Option.map_some, Option.some.injEq] at hu
   subst hu
   refine hT.at_ ad rfl j _ ?_
   rw [jR, jP (show j < k.length by omega)]
   rfl
  ·rw [List.getElem?_eq_none (by rw [zpi]; omega)] at hu
   cases hu
theorem zxb {t t' e : TypeId} {s : ByteArray} {k : List Nat} (E : Env a N l) (H : Sep X [] w0 w L R) (ho : o.op = .convert t t' x) (hx : ev l x = some (.string s)) (ht : P.underlying t = some .string) (ht' : P.underlying t' = some (.slice e)) (he : P.underlying e = some (.int .u8)) (hk : s.data.toList.map UInt8.toNat = k) (hl : k.length ≤ 1000)
  (h : ∀ A c w', Sep X [] w0 w' L (TxF A c k :: R) → Frm [] w w' → K (a.put o.dst (.slice A k.length c)) w') : o.wp P a w K Q := by
 have hsz : s.size = k.length := by rw [← hk, List.length_map]; rfl
 have hr := run_bytes_of_string w t t' e s ht ht' he
 obtain ⟨C, hC⟩ : ∃ C, bytesRow s (grownCap w s.size 0 e) = C := ⟨_, rfl⟩
 obtain ⟨g, hg⟩ : ∃ g, grownCap w s.size 0 e = g := ⟨_, rfl⟩
 have hge : s.size ≤ g := by rw [← hg]; exact grownCap_ge w s.size 0 e
 rw [hC, hg] at hr
 have hCk : ∀ i z, k[i]? = some z → C[i]? = some (bv z) := fun i z hi => by
  rw [← hk, List.getElem?_map, Option.map_eq_some_iff] at hi
  obtain ⟨b, hb, rfl⟩ := hi
  have hlt : i < s.data.size := by
   rw [← Array.length_toList]
   exact (List.getElem?_eq_some_iff.1 hb).1
  rw [← hC]
  unfold bytesRow
  rw [Array.getElem?_append_left (by rw [Array.size_map]; exact hlt), Array.getElem?_map, ← Array.getElem?_toList, hb]
  rfl
 unfold Oper.wp execOp
 simp only [ho, E.ev hx, Sem.run_bind, hr, Result.andThen_ok, Sem.run_pure]
 have hf : Frm [] w (w.drew.alloc (.cells C e (C.size, C.size + 1))) := Frm.of_below (((Below.refl _ _).drew).alloc (jV _) _)
 have hH := H.own (q := .obj w.heap.size (.cells C e (C.size, C.size + 1))) hf (heap_alloc_new w.drew _) (by simp [Res.keys]) (by simp [Res.keys])
 have hF := hH.freezeX (Sep.new_x hH)
 have hT : St (TxF (some ⟨w.heap.size, 0, none⟩) g k) (w.drew.alloc (.cells C e (C.size, C.size + 1))) (X ++ zad L) := (hF.facts _ (List.mem_cons_self ..)).imp fun w2 hw => ⟨by omega, by omega, fun z hz => by
   rw [← hk] at hz
   obtain ⟨b, _, rfl⟩ := List.mem_map.1 hz
   exact b.toNat_lt, (fun hn => by cases hn), fun ad had i z hi => by
   obtain rfl := Option.some.inj had
   rw [zck]
   unfold World.cell?
   have hw' : w2.heap[w.heap.size]? = some (.cells C e (C.size, C.size + 1)) := hw
   simp only [hw', Nat.zero_add, Option.isSome_none, Bool.false_eq_true, if_false]
   exact hCk i z hi⟩
 rw [hsz]
 exact h _ _ _ (hF.pop.know hT) hf
end
section
variable {P : Program} {Tb : Tab} {N k k0 ix : Nat} {l : LE} {m : MB} {R : List SF} {o : Oper} {sv : SV} {K : KS} {rs : List RB}
variable {i j n0 n e : Nat}
theorem zdW {t c : Nat} {x : Operand} {cs : List SC} (hm : zaA m i = some (.blk cs e)) (ho : o.op = .convert t t x) (hx : evS l x = some (slS i 0 n c)) (ht : P.underlying t = some (.slice e)) (he : P.underlying e = some (.int .u8)) : zcj P N k l m R o (slS i 0 n c) ((i, .gone) :: m) (.blk i cs :: R) := fun Q h X a w E H Kk hK => by
 have hb := zco H hm
 have H1 : Sp X w (.blk (h.b i) (ca (zaD h cs)) e :: zae h [i] m) (zaT h R) := H.numAt hm
 have hsh : w.shape? (h.b i) = some (e, (ca (zaD h cs)).size) := by unfold World.shape?; rw [hb]
 obtain ⟨h1, h2⟩ := zmH (n := (ca (zaD h cs)).size) hb
 have hr : (convert t t (.slice (some ⟨h.b i, 0, none⟩) n c)).run P w = .ok (.slice (some ⟨h.b i, 0, none⟩) n c) (w.freeze ⟨h.b i, (ca (zaD h cs)).size, none⟩ 1) := by
  simp [convert, run_underlying ht, run_underlying he, markStringish, hsh]
 have hx' : ev (zcd h l) x = some (.slice (some ⟨h.b i, 0, none⟩) n c) := zaf hx
 unfold Oper.wp execOp
 simp only [ho, E.ev hx', Sem.run_bind, hr, Result.andThen_ok, Sem.run_pure]
 have hkm : ∀ j, j ∈ zad (.blk (h.b i) (ca (zaD h cs)) e :: zae h [i] m) ↔ j ∈ zad (zae h [] m) := fun j => (zaw (zaM h m [] i _ hm (by simp))).mem_iff.symm
 have H2 := H1.sep.turn (q' := .obj (h.b i) (.cells (ca (zaD h cs)) e ((ca (zaD h cs)).size, (ca (zaD h cs)).size + 1))) h2 h1 (by simp [Res.keys]) (by simp [Res.keys])
 have hf := H2.freezeX fun j hj => H1.xap j (List.mem_append_left _ hj)
 refine hK h _ (fun _ _ => ⟨rfl, rfl, rfl⟩) ⟨h2.os, h2.tape, h2.output, h2.size, fun t' ht' hn => h2.block t' ht' fun hm' => hn ((hkm t').1 (List.mem_append_left _ hm'))⟩ ?_ fun j hj => .inl ((hkm j).1 (List.mem_append_right _ hj))
 have hS : Sp X (w.freeze ⟨h.b i, (ca (zaD h cs)).size, none⟩ 1) (zae h [i] m) (zaT h R) := Sp.of_sep hf.pop fun j hj => H1.xap j (List.mem_append_right _ hj)
 exact hS.know ((hf.facts _ (List.mem_cons_self ..)).imp fun w2 hw => zeo (t := e) hw)
theorem zpX {t t' : Nat} {x : Operand} {s : ByteArray} (lab : List Nat) (ho : o.op = .convert t t' x) (hx : evS l x = some (zfM (.string s))) (ht : P.underlying t = some .string) (ht' : P.underlying t' = some (.slice e)) (he : P.underlying e = some (.int .u8)) (hk : s.data.toList.map UInt8.toNat = lab) (hl : lab.length ≤ 1000) : zfv P N k l m R o (.a (.s (.p (.hd k lab.length)))) [.gone] [.sl k lab.length (TxG lab)] := fun Q h X a w E H Kk hK => by
 refine zxb E (Sep.none_ H.xk) ho (zaf hx) ht ht' he hk hl fun A c w' HS F => ?_
 let h1 : Hn := ⟨h.b, fun t => if t = k then (A, c) else h.r t, h.q⟩
 have er : h1.r k = (A, c) := if_pos rfl
 have := hK h1 w' (fun t ht => ⟨rfl, if_neg (by simp at ht; omega), rfl⟩) F (by
  show Sep (X ++ zad (zae h [] m)) [] w w' [] (zaT h1 [_])
  refine HS.refacts fun r hr => ?_
  rcases List.mem_singleton.1 hr with rfl
  refine (HS.facts _ (List.mem_cons_self ..)).imp fun w2 hw => ?_
  show ((h1.r k).1 = none → lab.length = 0) ∧ TxF (h1.r k).1 (h1.r k).2 lab w2
  rw [er]
  exact ⟨fun e => (hw.nil e).1, hw⟩)
 rw [show SV.den h1 (.a (.s (.p (.hd k lab.length)))) = .slice A lab.length c by show Value.slice (h1.r k).1 lab.length (h1.r k).2 = _; rw [er]] at this
 exact this
theorem zAi {t : List Nat} {ty : Nat} {x : Operand} (r : Nat) (hr : R[r]? = some (.sl i n0 (TxG t))) (h32 : 32 ≤ t.length) (ho : o.op = .sliceToArrayPointer ty x) (ht : arK P ty = some (32, 1)) (hx : evS l x = some (.a (.s (.p (.hd i n))))) (hn : 32 ≤ n) : zfk P N l m R o (hpS i 0 1 0) := fun h X a w E H => by
 have hf := (zge H hr).now
 cases hA : (h.r i).1 with
 | none => have := (hf.nil hA).1; omega
 | some ad =>
  have := zzN (P := P) (S := zgD) (ws := w) (A := (h.r i).1) (n := n) (c := (h.r i).2) ho ht (zaf (h := h) hx) hn w (CanB.Keep.refl _ _) a N E
  rw [this]
  show _ = Result.ok (Next.value (.pointer (some ((((h.r i).1.getD ⟨0, 0, none⟩).add (0 * 1)).add 0)))) w
  rw [hA, zav]
  rfl
theorem zAj {t : List Nat} {ty : Nat} {xop : Operand} (r : Nat) (hr : R[r]? = some (.sl i n0 (TxG t))) (h32 : 32 ≤ t.length) (ho : o.op = .load ty xop) (hx : evS l xop = some (hpS i 0 1 0)) (ht : tyK P ty = some (32, true)) : zfk P N l m R o (.a (.agg [.key t])) := fun h X a w E H => by
 obtain ⟨ad, hA, hat⟩ := zxa (zge H hr) h32
 have hx' : ev (zcd h l) xop = some (.pointer (some ad)) := by
  rw [zaf (h := h) hx]
  show some (Value.pointer (some ((((h.r i).1.getD ⟨0, 0, none⟩).add (0 * 1)).add 0))) = _
  rw [hA, zav]
  rfl
 exact zbM E ho hx' ht rfl hat.now
theorem zDh {n0 n t ty : Nat} {g f : Nat → Value} (f' : Nat → Value) {post : List SC} {xop y : Operand} {v : Value} (hm : zaA m i = some (.blk (.row n0 g :: .row n f :: post) t)) (ho : o.op = .store ty xop y) (hx : evS l xop = some (apS i n0 j 1)) (hy : evS l y = some (zfM v)) (hok : v.oneCell' = true) (hs : zdr P ty = some 1) (hj : j < n) (hf : ∀ u, upd f j v u = f' u) : zcj P N k l m R o (zeq undef) ((i, .blk (.row n0 g :: .row n f' :: post) t) :: m) R := by
 obtain rfl : upd f j v = f' := funext hf
 refine zh9 (x := .p (.v v)) hm ho hx hy hok hs (by simp only [zfh, SC.len]; omega) fun h => ?_
 have e := zjg (n := n) (f := f) (post := zaD h post) (v := v) hj
 have e2 : ∀ cs : List Chunk, cl (.row n0 g :: cs) = (List.range n0).map g ++ cl cs := fun cs => rfl
 show cl (.row n0 g :: .row n (upd f j v) :: zaD h post) = (cl (.row n0 g :: .row n f :: zaD h post)).set (n0 + j * 1) v
 rw [e2, e2, e, Nat.mul_one, List.set_append, if_neg (by simp)]
 simp
theorem ztA {off n ty : Nat} {f : Nat → Value} {cs : List SC} {xop : Operand} (hm : zf6 R m i = some cs) (ho : o.op = .load ty xop) (hx : evS l xop = some (apS i off j 1)) (ht : tyK P ty = some (1, false)) (hr : zEy cs off = some (n, f)) (hj : j < n) (wm : wfM (lt_ k) m = true) (wr : wfR (lt_ k) R = true) : zcj P N k l m R o (zfM (f j)) m R :=
 zan (rs := []) (Rs := []) (zdS (zDa hm ho hx ht fun h => by rw [Nat.mul_one]; exact zsI h hr hj)) wm wr
theorem zbU {H : MB} {ty : Nat} {z : List SC} (hz : ∀ hn : Hn, zep P ty = some (ca (zaD hn z))) (ho : o.op = .alloc ty) (wH : wfM (lt_ k) H = true) : zj4 P N k l m R H o (atS k 0) 1 ((k, .blk z ty) :: H) [] := fun Q h X a w E HS Kk hK => by
 have h3 : Sp X w (zae h [] H ++ zae h [] m) (zaT h R) := HS
 have hg : Sp (X ++ zad (zae h [] m)) w (zae h [] H) (zaT h R) := by
  refine Sp.of_sep h3.giveL fun t ht hm => ?_
  rcases List.mem_append.1 hm with h4 | h4
  ·exact h3.xap t (by rw [zak]; exact List.mem_append_left _ ht) h4
  ·have := h3.apart
   rw [zak] at this
   exact (List.nodup_append.1 this).2.2 t ht t h4 rfl
 let h1 : Hn := ⟨fun i => if i = k then w.heap.size else h.b i, h.r, h.q⟩
 have eb : h1.b k = w.heap.size := if_pos rfl
 have hag : AgS (lt_ k) h h1 := fun i hi => ⟨if_neg (by have := zbG hi; omega), rfl, rfl⟩
 unfold Oper.wp
 rw [zmg (P := P) (a := a) (w := w) ho (hz h1)]
 have hf : Frm [] w (w.alloc (.cells (ca (zaD h1 z)) ty)) := Frm.of_below ((Below.refl _ _).alloc (jV _) _)
 have := hK h1 _ (fun i hi => ⟨if_neg (by omega), rfl, rfl⟩) (by
  have e1 : zae h1 [] ((k, .blk z ty) :: H) = .blk w.heap.size (ca (zaD h1 z)) ty :: zae h [] H := by
   rw [zap]
   show Res.blk (h1.b k) (ca (zaD h1 z)) ty :: zae h1 [k] H = _
   rw [eb, zce h1 H [] k fun p hp => Nat.ne_of_lt (zbG (zfm wH p hp)), zaL hag wH]
  rw [e1]
  have h5 : Sep (X ++ zad (zae h [] m)) (zad (zae h [] H)) w w (zae h [] H) [] := hg.sep.refacts fun _ hr => by cases hr
  exact h5.own hf (q := .blk w.heap.size (ca (zaD h1 z)) ty) (heap_alloc_new w _) (by simp [Res.keys]) (by simp [Res.keys]))
 rw [show SV.den h1 (atS k 0) = .pointer (some ⟨w.heap.size, 0, none⟩) by show Value.pointer (some ⟨h1.b k, 0, none⟩) = _; rw [eb]] at this
 exact this
def hdF (cs : List Chunk) (t : Nat) (b : Nat) (w : World) : Prop := w.heap[b]? = some (.cells (ca cs) t (0, 0))
theorem zy8 {cs : List Chunk} {t b : Nat} {w : World} (h : hdF cs t b w) : AtC ⟨b, 0, none⟩ cs w := zeo h
theorem ztB {m' : MB} {R' : List SF} {cs : List SC} {cs0 : List Chunk} {t : Nat} (i : Nat) (hm : zaA m i = some (.blk cs t)) (hcs : ∀ h, zaD h cs = cs0) (wl : wfE (lt_ k) l = true) (hs : zcj P N k l ((i, .gone) :: m) (.b i (hdF cs0 t) :: .blk i cs :: R) o sv m' R') : zcj P N k l m R o sv m' R' :=
 zdA (Nat.ble_eq_true_of_le (jV k)) (fun h X w H => ⟨h, fun _ _ => ⟨rfl, rfl, rfl⟩, by
  have hf := (H.numAt hm).freeze
  obtain ⟨h1, h2⟩ := zkd hm H
  refine ⟨h1.refacts fun r hr => ?_, h2⟩
  rcases List.mem_cons.1 hr with rfl | hr
  ·have := hf.facts _ (List.mem_cons_self ..)
   rw [hcs h] at this
   exact this
  ·exact h1.facts _ hr⟩) wl hs
theorem zdX {cs : List SC} {cs0 : List Chunk} {t : Nat} (i : Nat) (hm : zaA m i = some (.blk cs t)) (hcs : ∀ h, zaD h cs = cs0) (ht : zfv P N k l ((i, .gone) :: m) (.b i (hdF cs0 t) :: .blk i cs :: R) o sv rs []) : zfv P N k l m R o sv rs [] := fun Q h X a w E H Kk hK => by
 have hf := (H.numAt hm).freeze
 obtain ⟨h1, h2⟩ := zkd hm H
 refine ht Q h X a w E (h1.refacts fun r hr => ?_) Kk fun h1 w' h2 h3 h4 => hK h1 w' h2 h3 ⟨h4.frm, H.xk, h4.holds, h4.apart, h4.mine, fun _ hr => by cases hr⟩
 rcases List.mem_cons.1 hr with rfl | hr
 ·have := hf.facts _ (List.mem_cons_self ..)
  rw [hcs h] at this
  exact this
 ·exact h1.facts _ hr
theorem ztC {v : Value} {t ty : Nat} {xop y : Operand} (r : Nat) (hr : R[r]? = some (.b i (hdF [.one v] t))) (ho : o.op = .store ty xop y) (hx : evS l xop = some (atS i 0)) (hy : evS l y = some (zfM v)) (hok : v.oneCell' = true) (hs : zdr P ty = some 1) : zcj P N k l m R o (zeq undef) m R := fun Q h X a w E H Kk hK => by
 have hb : w.heap[h.b i]? = some (.cells (ca [.one v]) t (0, 0)) := (H.facts _ (zaQ.2 ⟨_, List.mem_of_getElem? hr, rfl⟩)).now
 have h1 := zcb ho (E.ev (zaf hx)) (E.ev (zaf hy)) (zef (P := P) (ty := ty) (c := 0) (A := [.one v]) (A' := [.one v]) hb hok (by simp [zdq, Chunk.len]) rfl hs)
 rw [setRow_self w (h.b i) _ t (0, 0) hb] at h1
 unfold Oper.wp
 rw [h1]
 exact hK h w (fun _ _ => ⟨rfl, rfl, rfl⟩) (Frm.refl _ _) H fun j hj => .inl hj
end
end
section
open Go.RowKit
def mxN (F : Nat → Nat) : Nat → Nat
 | 0 => F 0
 | m + 1 => max (mxN F m) (F (m + 1))
theorem zy9 (F : Nat → Nat) (b : Nat) : ∀ m, (mxN F m < b ↔ ∀ i, i < m + 1 → F i < b)
 | 0 => by
  unfold mxN
  exact ⟨fun h i hi => by rw [show i = 0 from by omega]; exact h, fun h => h 0 (by omega)⟩
 | m + 1 => by
  unfold mxN
  rw [Nat.max_lt, zy9 F b m]
  constructor
  ·rintro ⟨h1, h2⟩ i hi
   by_cases h : i < m + 1
   ·exact h1 i h
   ·rw [show i = m + 1 from by omega]; exact h2
  ·intro h
   exact ⟨fun i hi => h i (by omega), h _ (by omega)⟩
theorem zxc (F : Nat → Nat) (m : Nat) : mxN F (m + 1) = max (mxN F m) (F (m + 1)) := rfl
attribute [local irreducible] mxN
def okF (F : Nat → Nat) (n : Nat) : Prop := ∀ i, i < n → F i < 4503599627370496
instance (F : Nat → Nat) (n : Nat) : Decidable (okF F n) := Nat.decidableBallLT n fun i _ => F i < 4503599627370496
end
section
open Go.RowKit
def ovN (F : Nat → Nat) : Nat → Nat
 | 0 => 0
 | m + 1 => (F m + ovN F m) / 2251799813685248
def loN (F : Nat → Nat) (m : Nat) : Nat := (F m + ovN F m) % 2251799813685248
def zdp (F : Nat → Nat) (i : Nat) : Nat := if i = 0 then loN F 0 + 19 * ovN F 5 else loN F i
theorem zkk (F : Nat → Nat) (m : Nat) : ovN F (m + 1) = (F m + ovN F m) / 2251799813685248 := rfl
theorem zpY (F : Nat → Nat) (hF : ∀ i, i < 5 → F i < 9223372036854775808) : ∀ m, m ≤ 5 → ovN F m < 8192
 | 0, _ => by unfold ovN; omega
 | m + 1, h => by
  have := zpY F hF m (by omega)
  have := hF m (by omega)
  rw [zkk]
  omega
attribute [local irreducible] ovN
end
section
open Go.RowKit
theorem zcr (F : Nat → Nat) (hF : ∀ i, i < 5 → F i < 9223372036854775808) (i : Nat) (_hi : i < 5) : zdp F i < 2251799813840896 := by
 have h1 := zpY F hF 5 (by omega)
 have h2 : ∀ i, loN F i < 2251799813685248 := fun i => Nat.mod_lt _ (by omega)
 unfold zdp
 have := h2 0
 have := h2 i
 split <;> omega
def quN (F : Nat → Nat) : Nat → Nat
 | 0 => 19
 | m + 1 => (F m + quN F m) / 2251799813685248
theorem zxd (F : Nat → Nat) (m : Nat) : quN F (m + 1) = (F m + quN F m) / 2251799813685248 := rfl
theorem ztD (F : Nat → Nat) (hF : ∀ i, i < 5 → F i < 4503599627370496) : ∀ m, m ≤ 5 → quN F m < 20
 | 0, _ => by unfold quN; omega
 | m + 1, h => by
  have := ztD F hF m (by omega)
  have := hF m (by omega)
  rw [zxd]
  omega
def upN (F : Nat → Nat) (i : Nat) : Nat := if i = 0 then F 0 + 19 * quN F 5 else F i
def zdm (F : Nat → Nat) (i : Nat) : Nat := loN (upN (zdp (zdp F))) i
theorem zDi (F : Nat → Nat) (hF : ∀ i, i < 5 → F i < 4503599627370496) (i : Nat) (hi : i < 5) : upN F i < 4503599627370877 := by
 have := ztD F hF 5 (by omega)
 have := hF 0 (by omega)
 have := hF i hi
 unfold upN
 split <;> omega
theorem ztE (F : Nat → Nat) (i : Nat) : zdm F i < 2251799813685248 := Nat.mod_lt _ (by omega)
attribute [local irreducible] ovN quN
end
section
def zbo (X : Nat → Nat) : Nat → Nat
 | 0 => 0
 | i + 1 => zbo X i + X i * 2 ^ (51 * i)
theorem zdY (X : Nat → Nat) (i : Nat) : zbo X (i + 1) = zbo X i + X i * 2 ^ (51 * i) := rfl
theorem zie (X : Nat → Nat) (n : Nat) (hX : ∀ i, i < n → X i < 2251799813685248) : ∀ i, i ≤ n → zbo X i < 2 ^ (51 * i)
 | 0, _ => by unfold zbo; decide
 | i + 1, h => by
  have h1 := zie X n hX i (by omega)
  have h2 : X i + 1 ≤ 2251799813685248 := hX i (by omega)
  have h3 := Nat.mul_le_mul_right (2 ^ (51 * i)) h2
  rw [zdY, show 51 * (i + 1) = 51 + 51 * i from by omega, Nat.pow_add]
  rw [Nat.add_mul] at h3
  have : (2 : Nat) ^ 51 = 2251799813685248 := by decide
  rw [this]
  omega
def zaO (v k : Nat) : Nat := v / 2 ^ (8 * k) % 256
theorem ztF (a b t : Nat) (ha : a < 2 ^ t) : a ||| (b * 2 ^ t) = a + b * 2 ^ t := by
 rw [Nat.or_comm, Nat.mul_comm, ← Nat.two_pow_add_eq_or_of_lt ha, Nat.add_comm]
theorem zxe (v x i k : Nat) (hv : v < 2 ^ (51 * i)) (h : 8 * k < 51 * i) (h2 : 51 * i < 8 * k + 8) :
  zaO v k ||| (x * 2 ^ (51 * i - 8 * k) % 256) = zaO (v + x * 2 ^ (51 * i)) k := by
 obtain ⟨t, ht⟩ : ∃ t, 51 * i = 8 * k + t := ⟨51 * i - 8 * k, by omega⟩
 unfold zaO
 rw [show 51 * i - 8 * k = t from by omega, ht, Nat.pow_add]
 have ha : v / 2 ^ (8 * k) < 2 ^ t := by
  rw [Nat.div_lt_iff_lt_mul (Nat.two_pow_pos _), ← Nat.pow_add]
  rw [show t + 8 * k = 51 * i from by omega]; exact hv
 have e : (v + x * (2 ^ (8 * k) * 2 ^ t)) / 2 ^ (8 * k) = v / 2 ^ (8 * k) + x * 2 ^ t := by
  rw [show x * (2 ^ (8 * k) * 2 ^ t) = 2 ^ (8 * k) * (x * 2 ^ t) from by rw [Nat.mul_left_comm], Nat.add_mul_div_left _ _ (Nat.two_pow_pos _)]
 rw [e]
 generalize v / 2 ^ (8 * k) = a at *
 obtain ⟨u, hu⟩ : ∃ u, t + u = 8 := ⟨8 - t, by omega⟩
 have hp : (256 : Nat) = 2 ^ t * 2 ^ u := by rw [← Nat.pow_add, hu]
 have hl : a < 256 := jT ha (by rw [hp]; exact Nat.le_mul_of_pos_right _ (Nat.two_pow_pos _))
 have hm : x * 2 ^ t % 256 = x % 2 ^ u * 2 ^ t := by rw [hp, Nat.mul_comm x, Nat.mul_mod_mul_left, Nat.mul_comm]
 have hlt : a + x * 2 ^ t % 256 < 256 := by
  rw [hm]
  have h1 : x % 2 ^ u + 1 ≤ 2 ^ u := Nat.mod_lt _ (Nat.two_pow_pos _)
  have h3 := Nat.mul_le_mul_right (2 ^ t) h1
  rw [Nat.add_mul, Nat.mul_comm (2 ^ u), ← hp] at h3
  omega
 rw [Nat.mod_eq_of_lt hl]
 have ho := ztF a (x % 2 ^ u) t ha
 rw [← hm] at ho
 rw [ho]
 generalize x * 2 ^ t = y at *
 omega
theorem ztG (v x i k : Nat) (hv : v < 2 ^ (51 * i)) (h : 51 * i ≤ 8 * k) : zaO v k = 0 ∧ x / 2 ^ (8 * k - 51 * i) % 256 = zaO (v + x * 2 ^ (51 * i)) k := by
 obtain ⟨t, ht⟩ : ∃ t, 8 * k = 51 * i + t := ⟨8 * k - 51 * i, by omega⟩
 unfold zaO
 rw [show 8 * k - 51 * i = t from by omega, ht, Nat.pow_add]
 constructor
 ·rw [Nat.div_eq_of_lt (jT hv (Nat.le_mul_of_pos_right _ (Nat.two_pow_pos _)))]
 ·rw [← Nat.div_div_eq_div_mul, Nat.mul_comm x, Nat.add_mul_div_left _ _ (Nat.two_pow_pos _), Nat.div_eq_of_lt hv, Nat.zero_add]
theorem zrm (v x i k : Nat) (h : 8 * k + 8 ≤ 51 * i) : zaO (v + x * 2 ^ (51 * i)) k = zaO v k := by
 obtain ⟨t, ht⟩ : ∃ t, 51 * i = 8 * k + (8 + t) := ⟨51 * i - 8 * k - 8, by omega⟩
 unfold zaO
 rw [ht, Nat.pow_add, show x * (2 ^ (8 * k) * 2 ^ (8 + t)) = 2 ^ (8 * k) * (x * 2 ^ (8 + t)) from by rw [Nat.mul_left_comm], Nat.add_mul_div_left _ _ (Nat.two_pow_pos _)]
 rw [Nat.pow_add, show x * (2 ^ 8 * 2 ^ t) = 256 * (x * 2 ^ t) from by rw [show (2 : Nat) ^ 8 = 256 from rfl, Nat.mul_left_comm], Nat.add_mul_mod_self_left]
theorem zgN (v k : Nat) (h : v < 2 ^ (8 * k)) : zaO v k = 0 := by
 unfold zaO
 rw [Nat.div_eq_of_lt h]
end
section
open Go.RowKit
def znM (X : Nat → Nat) (m k q : Nat) : Nat := if q < k then zaO (zbo X (m + 1)) q else zaO (zbo X m) q
theorem zrn (X : Nat → Nat) (m q : Nat) : zaO (zbo X m) q = znM X m (51 * m / 8) q := by
 unfold znM
 by_cases h : q < 51 * m / 8
 ·rw [if_pos h, zdY, zrm _ _ _ _ (by omega)]
 ·rw [if_neg h]
theorem ztH (X : Nat → Nat) (hX : ∀ i, i < 5 → X i < 2251799813685248) (m k q : Nat) (hm : m < 5) (hq : q < 32) (hk : 51 * m / 8 + 8 ≤ k ∨ 32 ≤ k) : znM X m k q = zaO (zbo X (m + 1)) q := by
 unfold znM
 by_cases h : q < k
 ·rw [if_pos h]
 ·rw [if_neg h, zgN, zgN]
  ·exact jT (zie X 5 hX (m + 1) (by omega)) (Nat.pow_le_pow_right (by omega) (by omega))
  ·exact jT (zie X 5 hX m (by omega)) (Nat.pow_le_pow_right (by omega) (by omega))
theorem zkm (v k : Nat) : zaO v k < 256 := Nat.mod_lt _ (by omega)
attribute [local irreducible] zdm zbo zaO
end
section
open Go.RowKit
def kvN (b : Nat → Nat) : Nat → Nat
 | 0 => 0
 | k + 1 => kvN b k + b k * 2 ^ (8 * k)
theorem zdC (b : Nat → Nat) (k : Nat) : kvN b (k + 1) = kvN b k + b k * 2 ^ (8 * k) := rfl
theorem zpZ (b : Nat → Nat) (n : Nat) (hb : ∀ i, i < n → b i < 256) : ∀ k, k ≤ n → kvN b k < 2 ^ (8 * k)
 | 0, _ => by unfold kvN; decide
 | k + 1, h => by
  have h1 := zpZ b n hb k (by omega)
  have h2 : b k + 1 ≤ 256 := hb k (by omega)
  have h3 := Nat.mul_le_mul_right (2 ^ (8 * k)) h2
  rw [zdC, show 8 * (k + 1) = 8 + 8 * k from by omega, Nat.pow_add]
  rw [Nat.add_mul] at h3
  have : (2 : Nat) ^ 8 = 256 := by decide
  rw [this]
  omega
theorem ztI (b : Nat → Nat) (i k : Nat) (hk : kvN b k < 2 ^ (8 * k)) (h : 8 * k ≤ 51 * i) : kvN b k / 2 ^ (51 * i) = 0 :=
 Nat.div_eq_of_lt (jT hk (Nat.pow_le_pow_right (by omega) h))
theorem zDj (b : Nat → Nat) (i k : Nat) (hk : kvN b k < 2 ^ (8 * k)) (h : 8 * k < 51 * i) : b k / 2 ^ (51 * i - 8 * k) = kvN b (k + 1) / 2 ^ (51 * i) := by
 obtain ⟨t, ht⟩ : ∃ t, 51 * i = 8 * k + t := ⟨51 * i - 8 * k, by omega⟩
 rw [show 51 * i - 8 * k = t from by omega, ht, Nat.pow_add, ← Nat.div_div_eq_div_mul, zdC, Nat.mul_comm (b k), Nat.add_mul_div_left _ _ (Nat.two_pow_pos _), Nat.div_eq_of_lt hk, Nat.zero_add]
theorem zAk (b : Nat → Nat) (i k : Nat) (hk : kvN b k < 2 ^ (8 * k)) (h : 51 * i ≤ 8 * k) : (kvN b k / 2 ^ (51 * i)) ||| (b k * 2 ^ (8 * k - 51 * i)) = kvN b (k + 1) / 2 ^ (51 * i) := by
 obtain ⟨t, ht⟩ : ∃ t, 8 * k = 51 * i + t := ⟨8 * k - 51 * i, by omega⟩
 have ha : kvN b k / 2 ^ (51 * i) < 2 ^ t := by
  rw [Nat.div_lt_iff_lt_mul (Nat.two_pow_pos _), ← Nat.pow_add, show t + 51 * i = 8 * k from by omega]; exact hk
 rw [show 8 * k - 51 * i = t from by omega, ztF _ _ _ ha, zdC, ht, Nat.pow_add, show b k * (2 ^ (51 * i) * 2 ^ t) = 2 ^ (51 * i) * (b k * 2 ^ t) from by rw [Nat.mul_left_comm], Nat.add_mul_div_left _ _ (Nat.two_pow_pos _)]
theorem ztJ (b : Nat → Nat) (i k : Nat) (h : 51 * i + 51 ≤ 8 * k) : ∀ d, kvN b (k + d) / 2 ^ (51 * i) % 2251799813685248 = kvN b k / 2 ^ (51 * i) % 2251799813685248
 | 0 => rfl
 | d + 1 => by
  rw [show k + (d + 1) = k + d + 1 from by omega, zdC, ← ztJ b i k h d]
  obtain ⟨t, ht⟩ : ∃ t, 8 * (k + d) = 51 * i + (51 + t) := ⟨8 * (k + d) - 51 * i - 51, by omega⟩
  rw [ht, Nat.pow_add, show b (k + d) * (2 ^ (51 * i) * 2 ^ (51 + t)) = 2 ^ (51 * i) * (b (k + d) * 2 ^ (51 + t)) from by rw [Nat.mul_left_comm], Nat.add_mul_div_left _ _ (Nat.two_pow_pos _)]
  rw [Nat.pow_add, show b (k + d) * (2 ^ 51 * 2 ^ t) = 2251799813685248 * (b (k + d) * 2 ^ t) from by rw [show (2 : Nat) ^ 51 = 2251799813685248 from by decide, Nat.mul_left_comm], Nat.add_mul_mod_self_left]
def ofN (b : Nat → Nat) (i : Nat) : Nat := kvN b 32 / 2 ^ (51 * i) % 2251799813685248
def zp0 (b : Nat → Nat) (m k q : Nat) : Nat := if q = m then kvN b k / 2 ^ (51 * m) else if q < m then ofN b q else 0
theorem zxf (b : Nat → Nat) (i k : Nat) (hk : kvN b k < 2 ^ (8 * k)) (h : 8 * k ≤ 51 * i + 64) : kvN b k / 2 ^ (51 * i) < 18446744073709551616 := by
 rw [Nat.div_lt_iff_lt_mul (Nat.two_pow_pos _)]
 refine jT hk ?_
 rw [show (18446744073709551616 : Nat) = 2 ^ 64 from by decide, ← Nat.pow_add]
 exact Nat.pow_le_pow_right (by omega) (by omega)
theorem zro (b : Nat → Nat) (hb : ∀ i, i < 32 → b i < 256) (m q : Nat) (hm : m < 5) : (if q < m then ofN b q else 0) = zp0 b m (51 * m / 8) q := by
 unfold zp0
 by_cases h : q = m
 ·rw [if_pos h, if_neg (by omega), ztI b m _ (zpZ b 32 hb _ (by omega)) (by omega)]
 ·rw [if_neg h]
theorem ztK (b : Nat → Nat) (m k : Nat) (hm : m < 5) (hk : 51 * m / 8 + 8 ≤ k ∨ 32 ≤ k) (hk2 : k ≤ 32) : kvN b k / 2 ^ (51 * m) % 2251799813685248 = ofN b m := by
 unfold ofN
 have := ztJ b m k (by omega) (32 - k)
 rw [show k + (32 - k) = 32 from by omega] at this
 exact this.symm
attribute [local irreducible] kvN ofN
end
section
open Go.RowKit
inductive CPlan where
 | done (p : List (Nat × Bool))
 | fork (p : List (Nat × Bool)) (i : Nat) (pi : CPlan) (j : Nat) (pj : CPlan)
def CPlan.size : CPlan → Nat
 | .done p => p.length
 | .fork p _ pi _ _ => p.length + (pi.size + 1)
section
variable {P : Program} {md : Region.Mode} {Q : Exit → Act → World → Prop} {N n : Nat} {w0 : World} {l : List Oper}
end
end
section
open Go.RowKit
attribute [local irreducible] zdm zbo zaO
def zg3 (F : Nat → Nat) (k : Nat) : Nat := if okF F 5 then zaO (zbo (zdm F) 5) k else 0
theorem zxg {F : Nat → Nat} (h : okF F 5) (i : Nat) (hi : i < 5) : F i < 9223372036854775808 := by have := h i hi; omega
end
end Go.Proofs.YtcmmpiaogfnmoaaGreatDoor
