/- Walks by computing: rows of one's own. No program is in sight. Walks by computing: functions that are given what is owned. No program is in sight. Walks by computing: texts that are read. No program is in sight. Walks by computing: rows of bytes of one's own. No program is in sight. Walks by computing: lists behind own rows; nil. No program is in sight. Walks by computing: lists of texts in own blocks; what is lent. No program is in sight. Walks by computing: constants, strings, texts as keys. No program is in sight. Walks by computing: a key of a list, as a text. No program is in sight. Walks -/
import Derived.Test.YtcmmpiaogfnmoaaGreatDoorStateSecretsC
import Derived.Laws.IdiomStrings
import Derived.Test.YtcmmpiaogfnmoaaGreatDoorChecked
set_option linter.unusedSimpArgs false
set_option linter.unusedVariables false
set_option maxRecDepth 200000
set_option maxHeartbeats 6000000
namespace Go.Proofs.YtcmmpiaogfnmoaaGreatDoor
section
open Go.RowKit
class Dec {α : Type} (T : Ty α) where
 dec : List Qd → T.μ
 enc : T.μ → List Qd
 de : ∀ m, dec (enc m) = m
instance : Dec zbb := ⟨fun _ => (), fun _ => [], fun _ => rfl⟩
instance : Dec zfn := ⟨fun _ => (), fun _ => [], fun _ => rfl⟩
instance {α : Type} (T : Ty α) : Dec (zgR T) := ⟨fun l => qs l 0, fun m => [m], fun _ => rfl⟩
section
variable {α : Type} (T : Ty α) [Dec T]
def itQ (xs : List α) (g : Nat → List Qd) : List (α × T.μ) := zaI T xs fun i => Dec.dec (g i)
def zbA (xs : List α) (e : Nat) : RB := .row e T.sz xs.length fun g => zbW T (itQ T xs g)
def zc3 (xs : List α) (g : Nat → List Qd) (w : World) : Prop := zgT T (itQ T xs g) w
end
section
variable {P : Program} {Tb : Tab} {N k k0 ix : Nat} {l : LE} {m : MB} {R : List SF} {o : Oper} {sv : SV} {K : KS} {dst : Option Nat} {vis : List Nat} {gs : List GO} {KG : Nat → List GO → Prop}
variable {α : Type} {T : Ty α} [Dec T] {xs : List α} {x : α} {i j n0 off n ty e : Nat}
theorem zbY {g : Nat → List Qd} : (itQ T xs g).length = xs.length := zbn
theorem zqO {g : Nat → List Qd} (hj : xs[j]? = some x) : (itQ T xs g)[j]? = some (x, Dec.dec (g j)) := by unfold itQ; rw [zcm, hj]; rfl
theorem zum {g : Nat → List Qd} : (itQ T xs g).map Prod.fst = xs := ztt
theorem zun {g : Nat → List Qd} (hj : xs[j]? = some x) (x' : α) : (itQ T xs g).set j (x', Dec.dec (g j)) = itQ T (xs.set j x') g := by
 refine List.ext_getElem? fun t => ?_
 have hl : j < xs.length := (List.getElem?_eq_some_iff.1 hj).1
 rw [List.getElem?_set, zbY]
 unfold itQ
 rw [zcm, zcm, List.getElem?_set]
 by_cases ht : j = t
 ·subst ht; simp [hl]
 ·simp [ht]
theorem zxN {g g' : Nat → List Qd} (hg : ∀ t, t < xs.length → g' t = g t) : itQ T (xs ++ [x]) g' = itQ T xs g ++ [(x, Dec.dec (g' xs.length))] := by
 refine List.ext_getElem? fun t => ?_
 unfold itQ
 rw [zcm]
 by_cases ht : t < xs.length
 ·rw [List.getElem?_append_left ht, List.getElem?_append_left (by rw [zbn]; exact ht), zcm, hg t ht]
 ·rw [List.getElem?_append_right (by omega), List.getElem?_append_right (by rw [zbn]; omega), zbn]
  by_cases h0 : t - xs.length = 0
  ·have : t = xs.length := by omega
   subst this
   simp
  ·obtain ⟨c, hc⟩ : ∃ c, t - xs.length = c + 1 := ⟨t - xs.length - 1, by omega⟩
   rw [hc]
   simp
theorem zuo {X : List Nat} {w : World} {Rr : List (World → Prop)} {h : Hn} (H : Sp X w (zaf h [] m) Rr) (hm : zaB m i = some (zbA T xs e)) : w.ownsRow 0 e T.sz (.slice (h.r i).1 xs.length (h.r i).2) xs.length (zbW T (itQ T xs (h.q i))) :=
 H.holds _ ((zaN h m [] i _ hm (by simp)).mem_iff.2 (List.mem_cons_self ..))
theorem zzQ {X : List Nat} {w : World} {Rr : List (World → Prop)} {h : Hn} (H : Sp X w (zaf h [] m) Rr) (hm : zaB m i = some (zbA T xs e)) (hj : xs[j]? = some x) : ∃ g, (h.r i).1 = some ⟨g, 0, none⟩ ∧ AtC ((⟨g, 0, none⟩ : Addr).add (j * T.sz)) (T.ch x (Dec.dec (h.q i j))) w := by
 have hown := zuo H hm
 obtain ⟨g, hg⟩ := zxr hown (by have := (List.getElem?_eq_some_iff.1 hj).1; omega)
 refine ⟨g, hg, fun t u hu => ?_⟩
 rw [hg] at hown
 rw [Addr.add_add]
 exact World.ownsRow.cells hown (g := g) rfl _ u (zik _ _ _ _ u (zqO hj) hu)
theorem zzR {h : Hn} {g : Nat} {A : Option Addr} (hg : A = some ⟨g, 0, none⟩) (hr : (h.r i).1 = A) {s : Nat} : (hpS i j s off).den h = .pointer (some (((⟨g, 0, none⟩ : Addr).add (j * s)).add off)) := by
 show Value.pointer (some ((((h.r i).1.getD ⟨0, 0, none⟩).add (j * s)).add off)) = _
 rw [hr, hg]
 rfl
theorem ziJ {ag : Bool} {sub : List Chunk} {xop : Operand} (hm : zaB m i = some (zbA T xs e)) (hj : xs[j]? = some x) (hp : ∀ μ, zhC (T.ch x μ) off n = some sub) (ho : o.op = .load ty xop) (hx : evS l xop = some (hpS i j T.sz off)) (ht : tyK P ty = some (n, ag)) (hv : ∀ h, (ag = true ∧ sv.den h = .agg (ca sub)) ∨ (ag = false ∧ n = 1 ∧ sub = [.one (sv.den h)])) : zfk P N l m R o sv := fun h X a w E H => by
 obtain ⟨g, hg, h1⟩ := zzQ H hm hj
 have h2 := zfC h1 (hp _)
 have hx' := (zag (h := h) hx).trans (by rw [zzR hg rfl])
 rcases hv h with ⟨rfl, e⟩ | ⟨rfl, rfl, e⟩
 ·rw [e]
  exact zbw E ho hx' ht (zd6 (hp (Dec.dec (h.q i j)))).2.1 h2
 ·rw [e] at h2
  exact za0 E ho hx' ht h2
theorem zdD {m2 m' : MB} {R2 R' : List SF} {k2 : Nat} (hk : Nat.ble k k2 = true) (hc : ∀ (h : Hn) (X : List Nat) (w : World), Sp X w (zaf h [] m) (zaX h R) → ∃ h2, AgS (lt_ k) h h2 ∧ Sp X w (zaf h2 [] m2) (zaX h2 R2) ∧ ∀ j ∈ zac (zaf h2 [] m2), j ∈ zac (zaf h [] m)) (wl : wfE (lt_ k) l = true) (hs : zcK P N k2 l m2 R2 o sv m' R') : zcK P N k l m R o sv m' R' := fun Q h X a w E H Kk hK => by
 obtain ⟨h2, ha, H2, hkk⟩ := hc h X w H
 refine hs Q h2 X a w (by rw [zmZ ha wl]; exact E) H2 Kk fun h1 w' h3 h4 h5 h6 => ?_
 refine hK h1 w' (fun i hi => ?_) ⟨h4.os, h4.tape, h4.output, h4.size, fun j hj hn => h4.block j hj fun hm => hn (hkk j hm)⟩ h5 fun j hj => ?_
 ·have e1 := ha i hi
  have e2 := h3 i (zdo (Nat.le_of_ble_eq_true hk) i hi)
  exact ⟨e2.1.trans e1.1, e2.2.1.trans e1.2.1, e2.2.2.trans e1.2.2⟩
 ·exact (h6 j hj).imp_left (hkk j)
theorem zdY {h : Hn} {i k : Nat} (hi : i ≠ k) (wm : wfM (lt_ k) m = true) : zaf h [k] ((i, .gone) :: m) = zaf h [i] m := by
 have h1 : zaY i [k] = false := by
  cases hq : zaY i [k] with
  | false => rfl
  | true => exact absurd (List.mem_singleton.1 (zaw.1 hq)) hi
 rw [zaf, h1, cond_false, zcN h m [i, k] (k :: [i]) (fun j => by simp [or_comm]), zcg h m [i] k fun p hp => Nat.ne_of_lt (zbE (zfo wm p hp))]
theorem znp {new : List SC} {nn : Nat × Bool} {xop y : Operand} (x' : α) (hT : zbz P Tb) (hm : zaB m i = some (zbA T xs e)) (hj : xs[j]? = some x) (ho : o.op = .store ty xop y) (hx : evS l xop = some (hpS i j T.sz off)) (hy : zgh (evS l y) = some new) (hn : szT Tb ty = some nn) (hl : zfh new = nn.1) (h1 : ∀ h, zp8 (zaC h new)) (hp : ∀ h μ, zjy (T.ch x μ) off (zaC h new) = some (T.ch x' μ)) : zcK P N k l m R o (zeu undef) ((i, zbA T (xs.set j x') e) :: m) R := fun Q h X a w E H Kk hK => by
 obtain ⟨g, hg, _⟩ := zzQ H hm hj
 have H1 : Sp X w (.row (.slice (h.r i).1 xs.length (h.r i).2) e T.sz xs.length (zbW T (itQ T xs (h.q i))) :: zaf h [i] m) (zaX h R) := H.numAt hm
 cases hv : evS l y with
 | none => rw [hv] at hy; cases hy
 | some v =>
  rw [hv] at hy
  have hx' := (zag (h := h) hx).trans (by rw [zzR hg rfl])
  have hkm : ∀ j, j ∈ zac (zaf h [] m) ↔ j ∈ zac (.row (.slice (h.r i).1 xs.length (h.r i).2) e T.sz xs.length (zbW T (itQ T xs (h.q i))) :: zaf h [i] m) := fun j => (zar (zaN h m [] i _ hm (by simp))).mem_iff
  refine zsd (T := T) (its := itQ T xs (h.q i)) (p := (x, Dec.dec (h.q i j))) (x', Dec.dec (h.q i j)) 0 E H1.sep rfl hg zbY.symm (zqO hj) ho hx' rfl (zag hv) (zey hy) (h1 h) (hp h _) (by rw [zbg, hl]; exact zkw (zfq hT hn)) fun w' HS hF => ?_
  have e1 : zaf h [] ((i, zbA T (xs.set j x') e) :: m) = .row (.slice (h.r i).1 xs.length (h.r i).2) e T.sz xs.length (zbW T ((itQ T xs (h.q i)).set j (x', Dec.dec (h.q i j)))) :: zaf h [i] m := by
   rw [zun hj, zao]
   show RB.den h i (zbA T (xs.set j x') e) ++ zaf h [i] m = _
   simp only [zbA, RB.den, List.length_set]
   rfl
  have hk2 : ∀ j', j' ∈ zac (zaf h [] ((i, zbA T (xs.set j x') e) :: m)) → j' ∈ zac (zaf h [] m) := fun j' hj' => by
   rw [e1] at hj'
   exact (hkm j').2 hj'
  refine hK h w' (fun _ _ => ⟨rfl, rfl, rfl⟩) ⟨hF.os, hF.tape, hF.output, hF.size, fun t ht hn => hF.block t ht fun hm' => hn ?_⟩ ?_ fun j' hj' => .inl (hk2 j' hj')
  ·rcases List.mem_singleton.1 hm' with rfl
   rw [hkm]
   exact List.mem_append_left _ (by simp [Res.keys, Value.ownBlock, hg])
  ·rw [e1]
   exact Sp.of_sep HS fun t ht hX => H1.xap t ht hX
theorem zxO {g : Nat → List Qd} {w : World} {x' : α} (hj : xs[j]? = some x) (hn : ∀ μ, T.nest x μ w → T.nest x' μ w) (H : zc3 T xs g w) : zc3 T (xs.set j x') g w := by
 unfold zc3 at H ⊢
 rw [← zun hj]
 intro p hp
 rcases List.mem_or_eq_of_mem_set hp with h1 | rfl
 ·exact H p h1
 ·exact hn _ (H (x, Dec.dec (g j)) (List.mem_of_getElem? (zqO hj)))
theorem znq {sv : SV} {m' : MB} {R' R2 : List SF} (hs : zcK P N k l m R o sv m' R') (hc : ∀ (h : Hn) (w : World) (Y : List Nat), (∀ r ∈ R', St (r.den h) w Y) → ∀ r ∈ R2, St (r.den h) w Y) : zcK P N k l m R o sv m' R2 := fun Q h X a w E H Kk hK => hs Q h X a w E H Kk fun h1 w' a1 a2 a3 a4 => hK h1 w' a1 a2 (a3.refacts fun r hr => by
 obtain ⟨q, hq, rfl⟩ := zas.1 hr
 exact hc h1 w' _ (fun r hr => a3.facts _ (zas.2 ⟨r, hr, rfl⟩)) q hq) a4
theorem zBc {new : List SC} {nn : Nat × Bool} {xop y : Operand} (x' : α) (hT : zbz P Tb) (hm : zaB m i = some (zbA T xs e)) (hj : xs[j]? = some x) (hr : .q i (zc3 T xs) ∈ R) (hnest : ∀ μ w, T.nest x μ w → T.nest x' μ w) (ho : o.op = .store ty xop y) (hx : evS l xop = some (hpS i j T.sz off)) (hy : zgh (evS l y) = some new) (hn : szT Tb ty = some nn) (hl : zfh new = nn.1) (h1 : ∀ h, zp8 (zaC h new)) (hp : ∀ h μ, zjy (T.ch x μ) off (zaC h new) = some (T.ch x' μ)) : zcK P N k l m R o (zeu undef) ((i, zbA T (xs.set j x') e) :: m) (.q i (zc3 T (xs.set j x')) :: R) :=
 znq (znp x' hT hm hj ho hx hy hn hl h1 hp) fun h w Y hY r hr' => by
  rcases List.mem_cons.1 hr' with rfl | hr'
  ·have h2 : St (zc3 T xs (h.q i)) w Y := hY _ hr
   exact h2.imp fun w' hw => zxO hj (fun μ => hnest μ w') hw
  ·exact hY r hr'
theorem zkO {cs : List SC} {μs : Hn → List Qd} {t by_ : Nat} {s y : Operand} (hm : zaB m i = some (zbA T xs e)) (ho : o.op = .call { callee := .builtin .append, args := #[s, y], argTypes := #[t, t] }) (hs : evS l s = some (.a (.s (.p (.hd i n0))))) (hn0 : n0 = xs.length) (hy : evS l y = some (slS j 0 1 1)) (hj : zaB m j = some (.blk cs e)) (hij : zaY j [i] = false) (hq : ∀ h, zaC h cs = T.ch x (Dec.dec (μs h)))
  (hT : AppK P t e T.sz by_) (hn : xs.length + 1 ≤ 9223372036854775807) (hby : (xs.length + 1) * by_ ≤ 140737488355328) (wm : wfM (lt_ k) m = true) (wr : wfR (lt_ k) R = true) (hr : .q i (zc3 T xs) ∈ R) (hμ : ∀ h h', AgS (lt_ k) h h' → μs h' = μs h)
  (hnest : ∀ (h : Hn) (w : World) (Y : List Nat), (∀ r ∈ R, St (r.den h) w Y) → St (T.nest x (Dec.dec (μs h))) w Y) : zcK P N k l m R o (.a (.s (.p (.hd k (n0 + 1))))) ((k, zbA T (xs ++ [x]) e) :: (i, .gone) :: m) (.q k (zc3 T (xs ++ [x])) :: R) := fun Q h X a w E H Kk hK => by
 subst hn0
 have hji : j ∉ [i] := fun hm' => by rw [zaw.2 hm'] at hij; cases hij
 have hik : i < k := by
  have key : ∀ (m : MB) q, zaB m i = some q → wfM (lt_ k) m = true → i < k := by
   intro m
   induction m with
   | nil => intro q e; cases e
   | cons p m ih =>
    intro q e hw
    unfold zaB at e
    cases hb : Nat.beq p.1 i with
    | true => rw [← Nat.eq_of_beq_eq_true hb]; exact zbE (zaa hw).1
    | false => rw [hb] at e; exact ih q e (zaa (zaa hw).2).2
  exact key m _ hm wm
 have hp1 := zaN h m [] i _ hm (by simp)
 have hp2 := zaN h m [i] j _ hj hji
 have H1 : Sp X w (.row (.slice (h.r i).1 xs.length (h.r i).2) e T.sz (itQ T xs (h.q i)).length (zbW T (itQ T xs (h.q i))) :: .blk (h.b j) (ca (zaC h cs)) e :: zaf h [j, i] m) (zaX h R) := by
  rw [zbY]
  exact (H.perm hp1).perm (List.Perm.cons _ hp2)
 refine zxq (T := T) (q := (x, Dec.dec (μs h))) 0 1 E H1.sep ho (zag hs) (zag hy) rfl rfl (hq h) hT (by rw [zbY]; exact hn) (by rw [zbY]; exact hby) fun A' c' w' hc HS hF => ?_
 let h1 : Hn := ⟨h.b, fun t => if t = k then (A', c') else h.r t, fun t => if t = k then (fun u => if u < xs.length then h.q i u else μs h) else h.q t⟩
 have hag : AgS (lt_ k) h h1 := fun t ht => by
  have := zbE ht
  exact ⟨rfl, if_neg (by omega), if_neg (by omega)⟩
 have er : h1.r k = (A', c') := if_pos rfl
 have eq : h1.q k = fun u => if u < xs.length then h.q i u else μs h := if_pos rfl
 have eits : itQ T xs (h.q i) ++ [(x, Dec.dec (μs h))] = itQ T (xs ++ [x]) (h1.q k) := by
  rw [zxN (g := h.q i) (fun t ht => by rw [eq]; exact if_pos ht), eq]
  simp
 have e1 : zaf h1 [] ((k, zbA T (xs ++ [x]) e) :: (i, .gone) :: m) = .row (.slice A' (itQ T (xs ++ [x]) (h1.q k)).length c') e T.sz (itQ T (xs ++ [x]) (h1.q k)).length (zbW T (itQ T (xs ++ [x]) (h1.q k))) :: zaf h [i] m := by
  rw [zao]
  show RB.den h1 k (zbA T (xs ++ [x]) e) ++ zaf h1 [k] ((i, .gone) :: m) = _
  rw [zdY (by omega) wm, zaL hag wm, zbY]
  simp only [zbA, RB.den, er]
  rfl
 have e2 : (a.put o.dst (.slice A' (itQ T xs (h.q i) ++ [(x, Dec.dec (μs h))]).length c')) = a.put o.dst (SV.den h1 (.a (.s (.p (.hd k (xs.length + 1)))))) := by
  show _ = a.put o.dst (.slice (h1.r k).1 (xs.length + 1) (h1.r k).2)
  rw [er, jQ, zbY]
  rfl
 rw [e2]
 have hkk : ∀ t, t ∈ zac (zaf h [] m) ↔ t ∈ zac (.row (.slice (h.r i).1 xs.length (h.r i).2) e T.sz (itQ T xs (h.q i)).length (zbW T (itQ T xs (h.q i))) :: .blk (h.b j) (ca (zaC h cs)) e :: zaf h [j, i] m) := fun t => (zar (hp1.trans (List.Perm.cons _ hp2))).mem_iff
 have HS2 : Sep X (zac (zaf h [] m)) w w' (zaf h1 [] ((k, zbA T (xs ++ [x]) e) :: (i, .gone) :: m)) (zaX h R) := by
  rw [e1]
  have HS3 := HS.perm (List.Perm.cons _ hp2.symm)
  rw [eits] at HS3
  exact ⟨⟨HS3.frm.os, HS3.frm.tape, HS3.frm.output, HS3.frm.size, fun t ht hn => HS3.frm.block t ht fun hm' => hn ((hkk t).2 hm')⟩, HS3.xlt, HS3.holds, HS3.apart, fun t ht => (HS3.mine t ht).imp_left (hkk t).2, HS3.facts⟩
 have hqR : ∀ r ∈ R, St (r.den h) w' (X ++ zac (zaf h1 [] ((k, zbA T (xs ++ [x]) e) :: (i, .gone) :: m))) := fun r hr => HS2.facts _ (zas.2 ⟨r, hr, rfl⟩)
 refine hK h1 w' hag HS2.frm ?_ (fun t ht => HS2.mine t ht)
 have hX : ∀ t ∈ zac (zaf h1 [] ((k, zbA T (xs ++ [x]) e) :: (i, .gone) :: m)), t ∉ X := fun t ht hX => by
  rcases HS2.mine t ht with h3 | h3
  ·exact H.xap t h3 hX
  ·have := H.xlt t hX; omega
 refine (Sp.of_sep HS2 hX).refacts fun r hr' => ?_
 obtain ⟨q, hq', rfl⟩ := zas.1 hr'
 rcases List.mem_cons.1 hq' with rfl | hq'
 ·show St (zc3 T (xs ++ [x]) (h1.q k)) w' _
  unfold zc3
  rw [← eits]
  exact ztA (hqR _ hr) (hnest h w' _ hqR)
 ·rw [SF.same hag (zbX wr _ hq')]
  exact hqR _ hq'
theorem zkP {X : List Nat} {w : World} {h : Hn} {cs : List SC} {t : Nat} (hm : zaB m i = some (.blk cs t)) (H : Sp X w (zaf h [] m) (zaX h R)) : Sp X w (zaf h [] ((i, .gone) :: m)) (zaX h (.blk i cs :: R)) ∧ ∀ j ∈ zac (zaf h [] ((i, .gone) :: m)), j ∈ zac (zaf h [] m) := by
 have hp := zaN h m [] i _ hm (by simp)
 have hf := (H.numAt hm).freeze
 refine ⟨hf.refacts fun r hr' => ?_, fun j hj => (zar hp).mem_iff.2 (List.mem_append_right _ hj)⟩
 rcases List.mem_cons.1 hr' with rfl | hr'
 ·exact (hf.facts _ (List.mem_cons_self ..)).imp fun w' hw => zeh (t := t) (fr := (0, 0)) hw
 ·exact hf.facts _ (List.mem_cons_of_mem _ hr')
def zBd : List Nat → MB → MB
 | [], m => m
 | i :: is, m => zBd is ((i, .gone) :: m)
def zzS : List Nat → MB → List SF → Option (List SF)
 | [], _, R => some R
 | i :: is, m, R => match zaB m i with
  | some (.blk cs _) => zzS is ((i, .gone) :: m) (.blk i cs :: R)
  | _ => none
theorem zhW {X : List Nat} {w : World} {h : Hn} {R' : List SF} : ∀ {is : List Nat} {m : MB} {R : List SF}, zzS is m R = some R' → Sp X w (zaf h [] m) (zaX h R) → Sp X w (zaf h [] (zBd is m)) (zaX h R') ∧ ∀ j ∈ zac (zaf h [] (zBd is m)), j ∈ zac (zaf h [] m)
 | [], m, R, e, H => by obtain rfl := Option.some.inj e; exact ⟨H, fun _ h => h⟩
 | i :: is, m, R, e, H => by
  unfold zzS at e
  split at e
  ·rename_i cs t hm
   obtain ⟨h1, h2⟩ := zkP hm H
   obtain ⟨h3, h4⟩ := zhW e h1
   exact ⟨h3, fun j hj => h2 j (h4 j hj)⟩
  ·cases e
theorem zba {sv : SV} {m' : MB} {R2 R' : List SF} (is : List Nat) (hz : zzS is m R = some R2) (wl : wfE (lt_ k) l = true) (hs : zcK P N k l (zBd is m) R2 o sv m' R') : zcK P N k l m R o sv m' R' :=
 zdD (Nat.ble_eq_true_of_le (jV k)) (fun h X w H => ⟨h, fun _ _ => ⟨rfl, rfl, rfl⟩, zhW hz H⟩) wl hs
theorem zo9 {X : List Nat} {w : World} {h : Hn} (hm : zaB m i = some (zbA T xs e)) (hr : .q i (zc3 T xs) ∈ R) (H : Sp X w (zaf h [] m) (zaX h R)) : Sp X w (zaf h [] ((i, .gone) :: m)) (zaX h (.sl i xs.length (SlF T xs) :: R)) ∧ ∀ j ∈ zac (zaf h [] ((i, .gone) :: m)), j ∈ zac (zaf h [] m) := by
 have hp := zaN h m [] i _ hm (by simp)
 have H1 : Sp X w (.row (.slice (h.r i).1 xs.length (h.r i).2) e T.sz xs.length (zbW T (itQ T xs (h.q i))) :: zaf h [i] m) (zaX h R) := H.numAt hm
 have hf := H1.freeze
 have h1 := zAI (T := T) (its := itQ T xs (h.q i)) (e := e) (n := xs.length) (A := (h.r i).1) (c := (h.r i).2) (hf.facts _ (List.mem_cons_self ..)) zbY.symm (hf.facts _ (List.mem_cons_of_mem _ (zas.2 ⟨_, hr, rfl⟩)))
 rw [zum] at h1
 refine ⟨hf.refacts fun r hr' => ?_, fun j hj => (zar hp).mem_iff.2 (List.mem_append_right _ hj)⟩
 rcases List.mem_cons.1 hr' with rfl | hr'
 ·exact h1.imp fun w' hw => ⟨fun e => (hw.nil e).1, _, hw⟩
 ·exact hf.facts _ (List.mem_cons_of_mem _ hr')
theorem zxP {n : Nat} {d : α} {c : List Chunk} {g : Nat → List Qd} (hc : ∀ i, T.ch d (Dec.dec (g i)) = c) : zbW T (itQ T (List.replicate n d) g) = (madeCells (ca c) (n * T.sz)).toList := by
 have hlen : zdv c = T.sz := by rw [← hc 0]; exact T.len _ _
 refine List.ext_getElem? fun j => ?_
 by_cases hj : j < n * T.sz
 ·have hlt : j / T.sz < n := (Nat.div_lt_iff_lt_mul T.pos).2 hj
  have hmod := Nat.mod_lt j T.pos
  have hcl : j % T.sz < (cl c).length := by rw [za8, hlen]; exact hmod
  have h1 := zik (T := T) (itQ T (List.replicate n d) g) (j / T.sz) (j % T.sz) (d, Dec.dec (g (j / T.sz))) _ (zqO (by simp [hlt])) (by rw [hc]; exact jP hcl)
  rw [show j / T.sz * T.sz + j % T.sz = j by rw [Nat.mul_comm]; exact Nat.div_add_mod j T.sz] at h1
  rw [h1]
  have hs : (ca c).size = T.sz := by rw [zcU, hlen]
  have hl2 : (cl c).length = T.sz := by rw [za8, hlen]
  simp [madeCells, hj, ca, hl2]
  rw [jP hcl]
  rfl
 ·rw [List.getElem?_eq_none (by rw [zdz, zbY, List.length_replicate]; omega), List.getElem?_eq_none (by rw [Array.length_toList, size_madeCells]; omega)]
theorem zzT {d : α} {c : List Chunk} {t by_ : Nat} {x y : Operand} {kx ky : IntKind} {z1 z2 : Int} (hT : AppK P t e T.sz by_) (hz : zdT P e = some (ca c)) (hc : T.ch d (Dec.dec []) = c) (ho : o.op = .makeSlice t x y) (hx : evS l x = some (zaD kx z1)) (hy : evS l y = some (zaD ky z2)) (h1 : z1 = (n : Int)) (h2 : z2 = (n : Int)) (hb : by_ * n ≤ 281474976710656) (hn : n ≤ maxLen) : zfF P N k l m R o (.a (.s (.p (.hd k n)))) [zbA T (List.replicate n d) e] [] := fun Q h X a w E H Kk hK => by
 subst h1 h2
 have hinfo := hT.info
 cases hi : P.info? e with
 | none => rw [hi] at hinfo; cases hinfo
 | some i =>
  rw [hi] at hinfo
  simp only [Option.map_some, Option.some.injEq, Prod.mk.injEq] at hinfo
  obtain ⟨hz0, hs, hbt⟩ := hinfo
  obtain ⟨i', zv, hi', hzz, hzc⟩ := zdy hz
  obtain rfl : i = i' := by rw [hi] at hi'; exact Option.some.inj hi'
  obtain ⟨w', hrun, hown, hgr⟩ := run_make_full (P := P) w 0 t e i zv T.sz hT.sl hi hzz hs kx ky n (by rw [hbt]; exact hb) hn (Nat.zero_le _)
  let h1 : Hn := ⟨h.b, fun t => if t = k then (some ⟨w.heap.size, 0, none⟩, n) else h.r t, fun t => if t = k then (fun _ => []) else h.q t⟩
  have er : h1.r k = (some ⟨w.heap.size, 0, none⟩, n) := if_pos rfl
  have eq : h1.q k = fun _ => [] := if_pos rfl
  have e1 : zdM h1 k [zbA T (List.replicate n d) e] = [.row (.slice (some ⟨w.heap.size, 0, none⟩) n n) e T.sz n (madeCells zv.cells (n * T.sz)).toList] := by
   rw [hzc, ← zxP (T := T) (d := d) (g := h1.q k) (fun _ => by rw [eq]; exact hc)]
   simp only [zdM, zbA, RB.den, er, List.length_replicate, List.append_nil]
  have hsv : SV.den h1 (.a (.s (.p (.hd k n)))) = .slice (some ⟨w.heap.size, 0, none⟩) n n := by
   show Value.slice (h1.r k).1 n (h1.r k).2 = _
   rw [er]
  unfold Oper.wp execOp
  simp only [ho, E.ev (zag hx), E.ev (zag hy), Sem.run_bind]
  have hx0 : (SV.den h (zaD kx n)) = .int kx n := rfl
  have hy0 : (SV.den h (zaD ky n)) = .int ky n := rfl
  rw [hx0, hy0, hrun]
  simp only [Result.andThen_ok, Sem.run_pure]
  have hf : Frm [] w w' := Frm.of_grown hgr
  have := hK h1 w' (fun t ht => ⟨rfl, if_neg (by simp at ht; omega), if_neg (by simp at ht; omega)⟩) hf (by
   rw [e1]
   exact (Sep.none_ H.xk).own hf hown (by simp [Res.keys, Value.ownBlock]) (by simp [Res.keys, Value.ownBlock]))
  rw [hsv] at this
  exact this
theorem zD9 {cs : List SC} {xop : Operand} {s : Nat} (hm : zgj R m i = some cs) (ho : o.op = .load ty xop) (hx : evS l xop = some (apS i off j s)) (ht : tyK P ty = some (1, false)) (hc : ∀ h, (cl (zaC h cs))[off + j * s]? = some (sv.den h)) : zfk P N l m R o sv := fun h X a w E H =>
 za0 E ho (zag (h := h) hx) ht (zAY H hm (hc h))
theorem zej {w : World} {b t c : Nat} {A A' : List Chunk} {v : Value} (hg : w.heap[b]? = some (.cells (ca A) t (0, 0))) (h1 : v.oneCell' = true) (hoff : c < zdv A) (hA : cl A' = (cl A).set c v) (hs : zda P ty = some 1) : (storeVar ty ⟨b, c, none⟩ v).run P w = .ok () (w.setRow b (ca A')) := by
 have hv : v.cells = #[v] := zm5 h1
 have h4 := run_storeCells_at P b c t [v] 0 (ca A) w hg (by rw [zcU]; simp; omega) (fun u hu => by rw [List.mem_singleton.1 hu]; exact h1)
 unfold zda at hs
 rw [Option.map_eq_some_iff] at hs
 obtain ⟨i, hi, hsz⟩ := hs
 have e : ((ca A).toList.take (c + 0) ++ [v] ++ (ca A).toList.drop (c + 0 + [v].length)).toArray = ca A' := by
  unfold ca
  rw [hA, List.set_eq_take_append_cons_drop, if_pos (by rw [za8]; exact hoff)]
  simp
 rw [e] at h4
 unfold storeVar
 simp only [sizeOf, typeInfo, Sem.run_bind, hv]
 simp [hi, hsz]
 exact h4
theorem ziK {cs cs' : List SC} {t s : Nat} {xop y : Operand} {x : SS} (hm : zaB m i = some (.blk cs t)) (ho : o.op = .store ty xop y) (hx : evS l xop = some (apS i off j s)) (hy : evS l y = some (.a (.s x))) (hok : okS x = true) (hs : zda P ty = some 1) (hlt : off + j * s < zfh cs) (hc : ∀ h, cl (zaC h cs') = (cl (zaC h cs)).set (off + j * s) (x.den h)) : zcK P N k l m R o (zeu undef) ((i, .blk cs' t) :: m) R := fun Q h X a w E H Kk hK => by
 have hb := zcp H hm
 have H1 : Sp X w (.blk (h.b i) (ca (zaC h cs)) t :: zaf h [i] m) (zaX h R) := H.numAt hm
 have hr := zbI ho (E.ev (zag hx)) (E.ev (zag hy)) (zej (P := P) (ty := ty) (A' := zaC h cs') hb (zo0 hok) (by rw [zbg]; exact hlt) (hc h) hs)
 unfold Oper.wp
 rw [hr]
 have hf := zcf (h.b i) (ca (zaC h cs')) w
 have ht := H1.turnAt (q' := .blk (h.b i) (ca (zaC h cs')) t) 0 rfl hf (zaF hb) (by simp [Res.keys]) (by simp [Res.keys]) rfl
 have hkm : ∀ j, j ∈ zac (.blk (h.b i) (ca (zaC h cs)) t :: zaf h [i] m) ↔ j ∈ zac (zaf h [] m) := fun j => (zar (zaN h m [] i _ hm (by simp))).mem_iff.symm
 refine hK h _ (fun _ _ => ⟨rfl, rfl, rfl⟩) ⟨hf.os, hf.tape, hf.output, hf.size, fun k hk hn => hf.block k hk fun hm' => hn ?_⟩ ht.1 fun j hj => ?_
 ·exact (hkm k).1 (List.mem_append_left _ hm')
 ·rcases ht.2 j hj with h2 | h2
  ·exact .inl ((hkm j).1 h2)
  ·exact .inr h2
theorem zjR {n j : Nat} {f : Nat → Value} {post : List Chunk} {v : Value} (hj : j < n) : cl (.row n (upd f j v) :: post) = (cl (.row n f :: post)).set j v := by
 refine List.ext_getElem? fun t => ?_
 rw [List.getElem?_set]
 simp only [cl, Chunk.cells]
 by_cases ht : t < n
 ·rw [List.getElem?_append_left (by simpa using ht), List.getElem?_append_left (by simpa using ht)]
  by_cases e : j = t
  ·subst e; simp [ht, upd]; omega
  ·simp [ht, upd, e, Ne.symm e]
 ·rw [List.getElem?_append_right (by simp; omega), List.getElem?_append_right (by simp; omega)]
  simp
  omega
theorem zkQ {n t : Nat} {f : Nat → Value} (f' : Nat → Value) {post : List SC} {xop y : Operand} {v : Value} (hm : zaB m i = some (.blk (.row n f :: post) t)) (ho : o.op = .store ty xop y) (hx : evS l xop = some (apS i 0 j 1)) (hy : evS l y = some (zgW v)) (hok : v.oneCell' = true) (hs : zda P ty = some 1) (hj : j < n) (hf : ∀ u, upd f j v u = f' u) : zcK P N k l m R o (zeu undef) ((i, .blk (.row n f' :: post) t) :: m) R := by
 obtain rfl : upd f j v = f' := funext hf
 exact ziK (x := .p (.v v)) hm ho hx hy hok hs (by simp only [zfh, SC.len]; omega) fun h => by
  rw [Nat.zero_add, Nat.mul_one]
  exact zjR hj
end
end
section
open Go.RowKit
def Hn.ext (h : Hn) (g : Nat) (bl : List Nat) (ql : List Qd) : Hn := ⟨fun i => if g ≤ i then zjE bl (i - g) else h.b i, fun i => if g ≤ i then qs ql (i - g) else h.r i, h.q⟩
def zup (h0 : Hn) (i : Nat) : Nat → Qd → (Nat → List Qd) → World → Prop := fun b r q _ => b = h0.b i ∧ r = h0.r i ∧ q = h0.q i
def kbF (h0 : Hn) : List Nat → List SF
 | [] => []
 | i :: kb => .nm i (zup h0 i) :: kbF h0 kb
def kbR (f : List (Nat × Nat)) (h0 : Hn) (R : List SF) : List Nat → List Nat → Prop
 | [], _ => True
 | i :: kb, j :: js => R[j]? = some (.nm (zcS f i) (zup h0 i)) ∧ kbR f h0 R kb js
 | _ :: _, [] => False
theorem Hn.ext_ag (h : Hn) (g : Nat) (bl : List Nat) (ql : List Qd) : AgS (lt_ g) h (h.ext g bl ql) := fun i hi => ⟨if_neg (by have := zbE hi; omega), if_neg (by have := zbE hi; omega), rfl⟩
section
variable {P : Program} {T : Tab} {N : Nat} {X : List Nat} {w0 : World}
theorem zzU {S : Nat → Bool} {h0 : Hn} : ∀ {kb : List Nat}, (∀ i ∈ kb, S i = true) → wfR S (kbF h0 kb) = true
 | [], _ => rfl
 | i :: kb, h => zau (h i (List.mem_cons_self ..)) (zzU fun j hj => h j (List.mem_cons_of_mem _ hj))
theorem zuq {h0 : Hn} : ∀ {kb : List Nat} {r : SF}, r ∈ kbF h0 kb → ∃ i ∈ kb, r = .nm i (zup h0 i)
 | [], r, h => by cases h
 | i :: kb, r, h => by
  rcases List.mem_cons.1 h with rfl | h
  ·exact ⟨i, List.mem_cons_self .., rfl⟩
  ·obtain ⟨j, h1, h2⟩ := zuq h
   exact ⟨j, List.mem_cons_of_mem _ h1, h2⟩
theorem zzV {f : List (Nat × Nat)} {h0 : Hn} {R : List SF} : ∀ {kb js : List Nat}, kbR f h0 R kb js → ∀ i ∈ kb, .nm (zcS f i) (zup h0 i) ∈ R
 | [], _, _, i, hi => by cases hi
 | _ :: _, [], h, _, _ => h.elim
 | i' :: kb, j :: js, h, i, hi => by
  rcases List.mem_cons.1 hi with rfl | hi
  ·exact List.mem_of_getElem? h.1
  ·exact zzV h.2 i hi
theorem zzW {g k0 : Nat} {f : FuncId} {fn : Func} {c : Code} {rs : List ResultVar} {svs : List SV} {h0 : Hn} {bl : List Nat} {ql : List Qd} {given : MB} {Rg : List SF} {kb : List Nat} {sv0 : SV} {m1 : MB} {R1 : List SF} (hn : fn.ntmps = N) (hf : P.funcs[f]? = some fn) (hb : fn.body = some c) (hrs : fn.results = rs.toArray) (hlen : Nat.ble rs.length 4 = true) (hT : zbz P T) (hmx : P.follows .mixedOrders = true)
  (hs : Nat.ble svs.length N = true) (hw : (bif Nat.ble g k0 then (bif wfE (lt_ k0) (ziG 0 svs) then (bif wfM (lt_ g) given then (bif zuk g kb then wfR (lt_ k0) Rg else false) else false) else false) else false) = true)
  (hsp : Sp X w0 (zaf h0 [] given) (zaX (h0.ext g bl ql) Rg))
  (hv : vC P T N c k0 (ziG 0 svs) given (kbF h0 kb ++ Rg) (zxK T rs (RetOk X (zac (zaf h0 [] given)) w0 fun e w' => ∃ h : Hn, AgS (fun i => zaY i kb) h0 h ∧ e = .returned (sv0.den h) ∧ Sep X (zac (zaf h0 [] given)) w0 w' (zaf h [] m1) (zaX h R1))) (fun _ _ _ _ _ => False) (zxK T rs (RetOk X (zac (zaf h0 [] given)) w0 fun e w' => ∃ h : Hn, AgS (fun i => zaY i kb) h0 h ∧ e = .returned (sv0.den h) ∧ Sep X (zac (zaf h0 [] given)) w0 w' (zaf h [] m1) (zaX h R1)))) :
  CtG P f (zmN (h0.ext g bl ql) svs) X w0 h0 given kb sv0 m1 R1 := by
 have h1 := zaa hw
 have h2 := zaa h1.2
 have h3 := zaa h2.2
 have h4 := zaa h3.2
 have hle : g ≤ k0 := Nat.le_of_ble_eq_true h1.1
 have hag := Hn.ext_ag h0 g bl ql
 have hkb := zhV h4.1
 have hmo := zdo hle
 refine zGL (k0 := k0) (h := h0.ext g bl ql) (m0 := given) hn hf hb hrs hlen hs (zau h2.1 (zau (zdb hmo h3.1) ?_)) hT hmx ?_ ?_ hv
 ·have key : ∀ (A B : List SF), wfR (lt_ k0) A = true → wfR (lt_ k0) B = true → wfR (lt_ k0) (A ++ B) = true := by
   intro A B hA hB
   induction A with
   | nil => exact hB
   | cons r A ih =>
    have := zaa hA
    exact zau this.1 (ih this.2)
  exact key _ _ (zzU fun i hi => Nat.ble_eq_true_of_le (by have := hkb i hi; omega)) h4.2
 ·rw [zaL hag h3.1]
  have := hsp.sep
  refine this.refacts fun r hr => ?_
  obtain ⟨q, hq, rfl⟩ := zas.1 hr
  rcases List.mem_append.1 hq with hq | hq
  ·obtain ⟨i, hi, rfl⟩ := zuq hq
   have hi2 := hag i (Nat.ble_eq_true_of_le (hkb i hi))
   exact fun w' _ => ⟨hi2.1, hi2.2.1, hi2.2.2⟩
  ·exact this.facts _ (zas.2 ⟨q, hq, rfl⟩)
 ·rw [zaL hag h3.1]
  exact hsp.xap
theorem zdJ {G : List Nat} {k : Nat} {h0 : Hn} {kb : List Nat} {sv sv0 : SV} {m m1 : MB} {R R1 : List SF} (f : List (Nat × Nat)) (js bs : List Nat) (hv : sv = sv0.ren (zcS f) ∨ nlV k sv (sv0.ren (zcS f))) (hm : zd9 k f m [] m1) (ha : zds (zdr f [] m1) = true) (hR : zo5 k f R js R1) (hb : kbR f h0 R kb bs) :
  RetOk X G w0 (fun e w' => ∃ h : Hn, AgS (fun i => zaY i kb) h0 h ∧ e = .returned (sv0.den h) ∧ Sep X G w0 w' (zaf h [] m1) (zaX h R1)) k sv m R := ⟨fun h w ws wm wr H _ => by
 have hg := Hn.nil_ag h k
 refine ⟨(h.nilFrom k).ren (zcS f), fun i hi => ?_, ?_, H.subM wm wr hm ha hR⟩
 ·have hmem := zzV hb i (zaw.1 hi)
  have hf : zup h0 i (h.b (zcS f i)) (h.r (zcS f i)) (h.q (zcS f i)) w := (H.facts _ (zas.2 ⟨_, hmem, rfl⟩)).now
  have hlt : lt_ k (zcS f i) = true := zbX wr _ hmem
  have h2 := hg _ hlt
  exact ⟨h2.1.trans hf.1, h2.2.1.trans hf.2.1, h2.2.2.trans hf.2.2⟩
 ·rw [← SV.same hg ws]
  rcases hv with hv | hv
  ·rw [hv, SV.den_ren]
  ·rw [← zo6 (Hn.nil_r h k) hv, SV.den_ren]⟩
end
section
variable {P : Program} {N k k0 i : Nat} {l : LE} {m m' : MB} {R R' : List SF} {o : Oper} {sv : SV} {K : KS}
theorem zaH (hs : zcK P N k l m R o sv m' R') (h : bif okN k k sv m' R' then zjQ N o.dst sv l (fun l' => K k l' m' R') else False) : zek P N o k l m R K := ⟨sv, k, m', R', hs.q, h⟩
def zxQ (R : List SF) : List Nat → Option (List SF)
 | [] => some []
 | i :: is => match R[i]? with
  | some r => match zxQ R is with
   | some R' => some (r :: R')
   | none => none
  | none => none
theorem znr {R : List SF} : ∀ {is : List Nat} {R' : List SF}, zxQ R is = some R' → ∀ r ∈ R', r ∈ R
 | [], R', e, r, hr => by rw [← Option.some.inj e] at hr; cases hr
 | i :: is, R', e, r, hr => by
  unfold zxQ at e
  split at e
  ·rename_i r0 h0
   split at e
   ·rename_i R2 h2
    rw [← Option.some.inj e] at hr
    rcases List.mem_cons.1 hr with rfl | hr
    ·exact List.mem_of_getElem? h0
    ·exact znr h2 r hr
   ·cases e
  ·cases e
theorem Sp.pick {X : List Nat} {w : World} {L1 L2 : List Res} {h : Hn} {R R2 : List SF} (H : Sp X w (L1 ++ L2) (zaX h R)) (is : List Nat) (e : zxQ R is = some R2) : Sp (X ++ zac L2) w L1 (zaX h R2) := by
 have hg : Sp (X ++ zac L2) w L1 (zaX h R) := Sp.of_sep H.giveL fun t ht hm => by
  rcases List.mem_append.1 hm with h4 | h4
  ·exact H.xap t (by rw [zaj]; exact List.mem_append_left _ ht) h4
  ·have := H.apart
   rw [zaj] at this
   exact (List.nodup_append.1 this).2.2 t ht t h4 rfl
 exact hg.refacts fun r hr => by
  obtain ⟨q, hq, rfl⟩ := zas.1 hr
  exact hg.facts _ (zas.2 ⟨q, znr e q hq, rfl⟩)
theorem zea {H H' : MB} {Rs R' : List SF} (c : Nat) (hs : zcK P N k l H R o sv H' R') (hr : ∀ r ∈ Rs, r ∈ R') (hw : (bif sv.wf (lt_ (k + c)) then (bif wfM (lt_ (k + c)) H' then wfR (lt_ (k + c)) Rs else false) else false) = true) : zkF P N k l m R H o sv c H' Rs := fun Q h X a w E HS Kk hK => by
 have h1 := zaa hw
 have h2 := zaa h1.2
 have hg : Sp (X ++ zac (zaf h [] m)) w (zaf h [] H) (zaX h R) := by
  have h3 : Sp X w (zaf h [] H ++ zaf h [] m) (zaX h R) := HS
  refine Sp.of_sep h3.giveL fun t ht hm => ?_
  rcases List.mem_append.1 hm with h4 | h4
  ·exact h3.xap t (by rw [zaj]; exact List.mem_append_left _ ht) h4
  ·have := h3.apart
   rw [zaj] at this
   exact (List.nodup_append.1 this).2.2 t ht t h4 rfl
 refine hs Q h _ a w E hg Kk fun hn w' ha F S hm => ?_
 let h' : Hn := ⟨fun i => if i < k + c then hn.b i else h.b i, fun i => if i < k + c then hn.r i else h.r i, fun i => if i < k + c then hn.q i else h.q i⟩
 have hag : AgS (lt_ (k + c)) hn h' := fun i hi => ⟨if_pos (zbE hi), if_pos (zbE hi), if_pos (zbE hi)⟩
 have := hK h' w' (fun i hi => ?_) ?_
 ·rw [SV.same hag h1.1] at this
  exact this
 ·rcases hi with hi | hi
  ·have h5 := ha i (Nat.ble_eq_true_of_le hi)
   exact ⟨(if_pos (by omega)).trans h5.1, (if_pos (by omega)).trans h5.2.1, (if_pos (by omega)).trans h5.2.2⟩
  ·exact ⟨if_neg (by omega), if_neg (by omega), if_neg (by omega)⟩
 ·rw [zaL hag h2.1, za5 hag h2.2]
  exact ⟨F, hg.xlt, S.holds, S.apart, hm, fun r hr' => by
   obtain ⟨q, hq, rfl⟩ := zas.1 hr'
   exact S.facts _ (zas.2 ⟨q, hr q hq, rfl⟩)⟩
theorem zaT (hs : zcK P N k l m R o sv m' R') (h : zbN (k + 1) fun k' => bif okN k k' sv m' R' then zjQ N o.dst sv l (fun l' => K k' l' m' R') else False) : zek P N o k l m R K := ⟨sv, k + 1, m', R', hs.q, zbc h⟩
theorem zpa (c : Nat) (hs : zcK P N k l m R o sv m' R') (h : zbN (k + c) fun k' => bif okN k k' sv m' R' then zjQ N o.dst sv l (fun l' => K k' l' m' R') else False) : zek P N o k l m R K := ⟨sv, k + c, m', R', hs.q, zbc h⟩
end
theorem zbj {α : Type} {T : Ty α} {k b : Nat} (hb : Nat.ble k b = true) : zFE k (.sl b 0 (SlF T [])) := fun h w Y hn => by
 show St (fun w => ((h.r b).1 = none → 0 = 0) ∧ SlF T [] (h.r b) w) w Y
 rw [hn b (Nat.le_of_ble_eq_true hb)]
 exact zcr
section
variable {P : Program} {N k i : Nat} {X : List Nat} {w0 : World} {l : LE} {m m' : MB} {R R' : List SF} {o : Oper} {sv : SV} {α : Type} {T : Ty α} [Dec T] {xs : List α} {e : Nat}
theorem zcL : ∀ {m : MB} {q : RB}, zaB m i = some q → wfM (lt_ k) m = true → i < k
 | [], _, e, _ => by cases e
 | p :: m, q, e, hw => by
  unfold zaB at e
  cases hb : Nat.beq p.1 i with
  | true => rw [← Nat.eq_of_beq_eq_true hb]; exact zbE (zaa hw).1
  | false => rw [hb] at e; exact zcL e (zaa (zaa hw).2).2
theorem zxR {t : Nat} (hm : zaB m i = some (.blk [.one (.p (.v (.slice none 0 0)))] t)) (wl : wfE (lt_ k) l = true) (wm : wfM (lt_ k) m = true) (wr : wfR (lt_ k) R = true) (hs : zcK P N (k + 1) l ((i, .blk [.one (.p (.hd k 0))] t) :: (k, zbA T [] e) :: m) (.q k (zc3 T []) :: R) o sv m' R') : zcK P N k l m R o sv m' R' :=
 zdD (Nat.ble_eq_true_of_le (Nat.le_succ k)) (fun h X w H => by
  have hik : i < k := zcL hm wm
  let h2 : Hn := ⟨h.b, fun t => if t = k then (none, 0) else h.r t, h.q⟩
  have er : h2.r k = (none, 0) := if_pos rfl
  have hag : AgS (lt_ k) h h2 := fun j hj => ⟨rfl, if_neg (by have := zbE hj; omega), rfl⟩
  have e1 : zaf h2 [] ((i, .blk [.one (.p (.hd k 0))] t) :: (k, zbA T [] e) :: m) = .blk (h.b i) (ca [.one (.slice none 0 0)]) t :: .row (.slice none 0 0) e T.sz 0 [] :: zaf h [i] m := by
   have hki : zaY k [i] = false := by
    cases hq : zaY k [i] with
    | false => rfl
    | true => have := List.mem_singleton.1 (zaw.1 hq); omega
   rw [zao, show zaY i [] = false from rfl, cond_false, zao, hki]
   show _ :: RB.den h2 k (zbA T [] e) ++ zaf h2 [k, i] m = _
   rw [zcg h2 m [i] k fun p hp => Nat.ne_of_lt (zbE (zfo wm p hp)), zaL hag wm]
   simp only [zbA, RB.den, er]
   show Res.blk (h.b i) (ca [.one (.slice (h2.r k).1 0 (h2.r k).2)]) t :: _ = _
   rw [er]
   rfl
  have H1 : Sp X w (.blk (h.b i) (ca [.one (.slice none 0 0)]) t :: zaf h [i] m) (zaX h R) := H.numAt hm
  have H2 := (H1.nils (L1 := [.row (.slice none 0 0) e T.sz 0 []]) fun q hq => ⟨_, _, List.mem_singleton.1 hq⟩).perm (List.Perm.swap _ _ _)
  refine ⟨h2, hag, ?_, fun j hj => ?_⟩
  ·rw [e1]
   refine H2.refacts fun r hr => ?_
   obtain ⟨q, hq, rfl⟩ := zas.1 hr
   rcases List.mem_cons.1 hq with rfl | hq
   ·exact zf8
   ·rw [SF.same hag (zbX wr _ hq)]
    exact H2.facts _ (zas.2 ⟨q, hq, rfl⟩)
  ·rw [e1] at hj
   exact (zar (zaN h m [] i _ hm (by simp))).mem_iff.2 hj) wl hs
theorem zpb {G : List Nat} {Rr : Ending → World → Prop} (i : Nat) (hm : zaB m i = some (zbA T xs e)) (hr : .q i (zc3 T xs) ∈ R) (hi : lt_ k i = true) (hk : RetOk X G w0 Rr k sv ((i, .gone) :: m) (.sl i xs.length (SlF T xs) :: R)) : RetOk X G w0 Rr k sv m R := ⟨fun h w ws wm wr H hX => by
 obtain ⟨h1, h2⟩ := zo9 hm hr (Sp.of_sep H hX)
 exact hk.ok h w ws (zau hi (zau rfl wm)) (zau hi wr) ⟨H.frm, H.xlt, h1.holds, h1.apart, fun j hj => H.mine j (h2 j hj), h1.facts⟩ fun j hj => hX j (h2 j hj)⟩
theorem zns (r : SF) (hr : ∀ (h : Hn) (w : World) (Y : List Nat), St (r.den h) w Y) (wl : wfE (lt_ k) l = true) (hs : zcK P N k l m (r :: R) o sv m' R') : zcK P N k l m R o sv m' R' :=
 zdD (Nat.ble_eq_true_of_le (jV k)) (fun h X w H => ⟨h, fun _ _ => ⟨rfl, rfl, rfl⟩, H.know (hr h w _), fun _ h => h⟩) wl hs
theorem zxS {G : List Nat} {Rr : Ending → World → Prop} (r : SF) (hr : ∀ (h : Hn) (w : World) (Y : List Nat), St (r.den h) w Y) (hw : r.wf (lt_ k) = true) (hk : RetOk X G w0 Rr k sv m (r :: R)) : RetOk X G w0 Rr k sv m R :=
 ⟨fun h w ws wm wr H hX => hk.ok h w ws wm (zau hw wr) (H.refacts fun q hq => by
  rcases List.mem_cons.1 hq with rfl | hq
  ·exact hr h w _
  ·exact H.facts q hq) hX⟩
theorem zkR (hT : ∀ x μ w, T.nest x μ w) {i : Nat} (h : Hn) (w : World) (Y : List Nat) : St ((SF.q i (zc3 T xs)).den h) w Y := fun w' _ p _ => hT _ _ _
theorem zqP {x : α} {cs : List SC} {t by_ j n0 : Nat} {s y : Operand} (hT0 : ∀ x μ w, T.nest x μ w) (hm : zaB m i = some (zbA T xs e)) (ho : o.op = .call { callee := .builtin .append, args := #[s, y], argTypes := #[t, t] }) (hs : evS l s = some (.a (.s (.p (.hd i n0))))) (hn0 : n0 = xs.length) (hy : evS l y = some (slS j 0 1 1)) (hj : zaB m j = some (.blk cs e)) (hij : zaY j [i] = false) (hq : ∀ h, zaC h cs = T.ch x (Dec.dec []))
  (hT : AppK P t e T.sz by_) (hn : xs.length + 1 ≤ 9223372036854775807) (hby : (xs.length + 1) * by_ ≤ 140737488355328) (wl : wfE (lt_ k) l = true) (wm : wfM (lt_ k) m = true) (wr : wfR (lt_ k) R = true) : zcK P N k l m R o (.a (.s (.p (.hd k (n0 + 1))))) ((k, zbA T (xs ++ [x]) e) :: (i, .gone) :: m) R :=
 znq (zns (.q i (zc3 T xs)) (zkR hT0) wl (zkO (μs := fun _ => []) hm ho hs hn0 hy hj hij hq hT hn hby wm (zau (Nat.ble_eq_true_of_le (zcL hm wm)) wr) (.head _) (fun _ _ _ => rfl) fun h w Y _ => fun w' _ => hT0 _ _ _)) fun h w Y hY r hr => hY r (.tail _ (.tail _ hr))
theorem zxT {G : List Nat} {Rr : Ending → World → Prop} (i : Nat) (hT0 : ∀ x μ w, T.nest x μ w) (hm : zaB m i = some (zbA T xs e)) (hi : lt_ k i = true) (hk : RetOk X G w0 Rr k sv ((i, .gone) :: m) (.sl i xs.length (SlF T xs) :: .q i (zc3 T xs) :: R)) : RetOk X G w0 Rr k sv m R :=
 zxS (.q i (zc3 T xs)) (zkR hT0) hi (zpb i hm (.head _) hi hk)
end
end
section
open Go.RowKit
theorem zfJ {α : Type} {l : List α} {i : Nat} (d : α) (hi : i < l.length) : l[i]? = some (l.getD i d) := by rw [jR, jP hi]; rfl
section
variable {P : Program} {N k i : Nat} {l : LE} {m : MB} {R : List SF} {o : Oper} {sv : SV}
theorem zgq {h : Hn} {X : List Nat} {w : World} {r n0 : Nat} {t : List Nat} (H : Sp X w (zaf h [] m) (zaX h R)) (hr : R[r]? = some (.sl i n0 (TxG t))) : St (TxF (h.r i).1 (h.r i).2 t) w (X ++ zac (zaf h [] m)) := fun w' hk => by
 have hf : ((h.r i).1 = none → n0 = 0) ∧ TxG t (h.r i) w' := (H.facts _ (zaQ.2 ⟨_, List.mem_of_getElem? hr, rfl⟩)) w' hk
 exact hf.2
theorem zeC {t : List Nat} {b j n0 ty : Nat} {xop : Operand} (r : Nat) (hj : t[j]? = some b) (hr : R[r]? = some (.sl i n0 (TxG t))) (ho : o.op = .load ty xop) (hx : evS l xop = some (hpS i j 1 0)) (ht : tyK P ty = some (1, false)) : zfk P N l m R o (.a (.s (.p (.v (bv b))))) := fun h X a w E H => by
 have hf := (zgq H hr).now
 cases hA : (h.r i).1 with
 | none =>
  have := (hf.nil hA).1
  have := (List.getElem?_eq_some_iff.1 hj).1
  omega
 | some ad =>
  have hx' : ev (zcn h l) xop = some (.pointer (some (ad.add (j * 1)))) := by
   rw [zag (h := h) hx]
   show some (Value.pointer (some ((((h.r i).1.getD ⟨0, 0, none⟩).add (j * 1)).add 0))) = _
   rw [hA, zax]
   rfl
  exact zAJ (S := zfB) (zgq H hr) (fun _ _ _ => trivial) hA ho hx' hj ht w (CanB.Keep.refl _ _) a N E
theorem zBe {A : Option Addr} {c lo hi : Nat} {t : List Nat} {w : World} {Y : List Nat} (h : St (TxF A c t) w Y) (hlo : lo ≤ hi) (hhi : hi ≤ t.length) : ∃ q : Qd, zis A 1 lo hi c = .slice q.1 (hi - lo) q.2 ∧ St (TxQ ((t.drop lo).take (hi - lo)) q) w Y := by
 have hl : ((t.drop lo).take (hi - lo)).length = hi - lo := by rw [List.length_take, List.length_drop]; omega
 refine ⟨(if c = lo then A else A.map (·.add (lo * 1)), c - lo), rfl, zno fun w' hk => ?_⟩
 have h' := h w' hk
 have hcap := h'.cap
 refine ⟨by rw [hl]; show hi - lo ≤ c - lo; omega, by rw [hl]; have := h'.len; omega, fun x hx => h'.byt x (List.mem_of_mem_drop (List.mem_of_mem_take hx)), fun hA => ?_, fun ad hA i x hx => ?_⟩
 ·have hA0 : A = none := by
   simp only at hA
   split at hA
   ·exact hA
   ·cases A with
    | none => rfl
    | some _ => cases hA
  have := h'.nil hA0
  rw [hl]
  show hi - lo = 0 ∧ c - lo = 0
  omega
 ·have hi' := (List.getElem?_eq_some_iff.1 hx).1
  rw [hl] at hi'
  rw [List.getElem?_take_of_lt hi', List.getElem?_drop] at hx
  simp only at hA
  rw [if_neg (by omega)] at hA
  cases A with
  | none => cases hA
  | some ad0 =>
   obtain rfl := Option.some.inj hA
   rw [Nat.mul_one, Addr.add_add]
   exact h'.at_ ad0 rfl _ x hx
theorem zqQ {t : List Nat} {lo hi n0 : Nat} (r : Nat) (hr : R[r]? = some (.sl i n0 (TxG t))) (hlo : lo ≤ hi) (hhi : hi ≤ t.length) (hp : ∀ (h : Hn) (w : World), TxF (h.r i).1 (h.r i).2 t w → PK P zfB w (zcn h l) o (zis (h.r i).1 1 lo hi (h.r i).2)) : zfF P N k l m R o (.a (.s (.p (.hd k (hi - lo))))) [.gone] [.sl k (hi - lo) (TxG ((t.drop lo).take (hi - lo)))] := fun Q h X a w E H Kk hK => by
 have hf := zgq H hr
 obtain ⟨q, hq, hs⟩ := zBe hf hlo hhi
 let h1 : Hn := ⟨h.b, fun t => if t = k then q else h.r t, h.q⟩
 have er : h1.r k = q := if_pos rfl
 have hrun := hp h w hf.now w (CanB.Keep.refl _ _) a N E
 unfold Oper.wp
 rw [hrun, hq]
 have hl : ((t.drop lo).take (hi - lo)).length = hi - lo := by rw [List.length_take, List.length_drop]; omega
 have := hK h1 w (fun t ht => ⟨rfl, if_neg (by simp at ht; omega), rfl⟩) (Frm.refl _ _) (by
  show Sep (X ++ zac (zaf h [] m)) [] w w (zdM h1 k [.gone]) (zaX h1 [_])
  have e0 : zdM h1 k [RB.gone] = [] := rfl
  rw [e0]
  refine (Sep.none_ H.xk).refacts fun r hr => ?_
  rcases List.mem_singleton.1 hr with rfl
  have hs' : St (fun w => ((h1.r k).1 = none → hi - lo = 0) ∧ TxG ((t.drop lo).take (hi - lo)) (h1.r k) w) w (X ++ zac (zaf h [] m)) := by
   rw [er]
   have := hs
   unfold TxQ at this
   rwa [hl] at this
  have ek : (X ++ zac (zaf h [] m)) ++ zac ([] : List Res) = X ++ zac (zaf h [] m) := by simp [zac]
  rw [ek]
  exact hs')
 have e1 : SV.den h1 (.a (.s (.p (.hd k (hi - lo))))) = .slice q.1 (hi - lo) q.2 := by
  show Value.slice (h1.r k).1 (hi - lo) (h1.r k).2 = _
  rw [er]
 rw [e1] at this
 exact this
theorem zEa {ad : Addr} {cs : List SC} {ty n : Nat} {xop : Operand} (r : Nat) (f : World → Prop) (hr : R[r]? = some (.c f)) (hf : ∀ w, f w → ∀ h, AtC ad (zaC h cs) w) (ho : o.op = .load ty xop) (hx : evS l xop = some (ztG ad)) (ht : tyK P ty = some (n, true)) (hn : zfh cs = n) : zfk P N l m R o (.a (.agg cs)) := fun h X a w E H =>
 zbw E ho (zag (h := h) hx) ht (by rw [zbg, hn]) (hf w (H.facts _ (zaQ.2 ⟨_, List.mem_of_getElem? hr, rfl⟩)).now h)
end
end
section
open Go.RowKit
def ByT : Ty Nat where
 μ := Unit
 dft := ()
 sz := 1
 pos := by decide
 ch x _ := [.one (bv x)]
 nest _ _ _ := True
 len _ _ := rfl
 one _ _ := ⟨rfl, trivial⟩
instance : Dec ByT := ⟨fun _ => (), fun _ => [], fun _ => rfl⟩
abbrev zdK (xs : List Nat) (e : Nat) : RB := zbA ByT xs e
theorem zqR (x : Nat) (μ : ByT.μ) (w : World) : ByT.nest x μ w := trivial
theorem zxU {xs : List Nat} {g : Nat → List Qd} : zbW ByT (itQ ByT xs g) = xs.map bv := by
 have h : ∀ its : List (Nat × ByT.μ), zbW ByT its = (its.map Prod.fst).map bv := fun its => by
  unfold zbW
  induction its with
  | nil => rfl
  | cons p its ih => rw [List.flatMap_cons, ih]; rfl
 rw [h, zum]
section
variable {P : Program} {Tb : Tab} {N k k0 ix : Nat} {l : LE} {m : MB} {R : List SF} {o : Oper} {sv : SV} {K : KS}
variable {xs : List Nat} {i j n0 n e : Nat}
theorem ze3 {h : Hn} {i : Nat} : RB.den h i (zdK xs e) = [.row (.slice (h.r i).1 xs.length (h.r i).2) e 1 xs.length (xs.map bv)] := by
 simp only [zbA, RB.den, zxU]
 rfl
theorem zkS {X : List Nat} {w : World} {Rr : List (World → Prop)} {h : Hn} (H : Sp X w (zaf h [] m) Rr) (hm : zaB m i = some (zdK xs e)) : Sp X w (.row (.slice (h.r i).1 xs.length (h.r i).2) e 1 xs.length (xs.map bv) :: zaf h [i] m) Rr := by
 have := H.perm (zaN h m [] i _ hm (by simp))
 rw [ze3] at this
 exact this
theorem zur {xs' : List Nat} (hm : zaB m i = some (zdK xs e)) (wm : wfM (lt_ k) m = true) (wr : wfR (lt_ k) R = true)
  (hop : ∀ (Q : Exit → Act → World → Prop) (h : Hn) (X : List Nat) (a : Act) (w : World), Env a N (zcn h l) → Sp X w (zaf h [] m) (zaX h R) → ∀ Kk : Act → World → Prop, (∀ A' c' w', Sep X (zac (.row (.slice (h.r i).1 xs.length (h.r i).2) e 1 xs.length (xs.map bv) :: zaf h [i] m)) w w' (.row (.slice A' xs'.length c') e 1 xs'.length (xs'.map bv) :: zaf h [i] m) (zaX h R) → Kk (a.put o.dst (.slice A' xs'.length c')) w') → o.wp P a w Kk Q) :
  zcK P N k l m R o (.a (.s (.p (.hd k xs'.length)))) ((k, zdK xs' e) :: (i, .gone) :: m) R := fun Q h X a w E H Kk hK => by
 have hik : i < k := zcL hm wm
 have hp1 := zaN h m [] i _ hm (by simp)
 have H1 := zkS H hm
 refine hop Q h X a w E H Kk fun A' c' w' HS => ?_
 let h1 : Hn := ⟨h.b, fun t => if t = k then (A', c') else h.r t, h.q⟩
 have hag : AgS (lt_ k) h h1 := fun t ht => by
  have := zbE ht
  exact ⟨rfl, if_neg (by omega), rfl⟩
 have er : h1.r k = (A', c') := if_pos rfl
 have e1 : zaf h1 [] ((k, zdK xs' e) :: (i, .gone) :: m) = .row (.slice A' xs'.length c') e 1 xs'.length (xs'.map bv) :: zaf h [i] m := by
  rw [zao]
  show RB.den h1 k (zdK xs' e) ++ zaf h1 [k] ((i, .gone) :: m) = _
  rw [zdY (by omega) wm, zaL hag wm, ze3, er]
  rfl
 have e2 : SV.den h1 (.a (.s (.p (.hd k xs'.length)))) = .slice A' xs'.length c' := by
  show Value.slice (h1.r k).1 xs'.length (h1.r k).2 = _
  rw [er]
 have hkk : ∀ t, t ∈ zac (zaf h [] m) ↔ t ∈ zac (.row (.slice (h.r i).1 xs.length (h.r i).2) e 1 xs.length (xs.map bv) :: zaf h [i] m) := fun t => by
  have := (zar hp1).mem_iff (a := t)
  rw [ze3] at this
  exact this
 have hX : ∀ t ∈ zac (.row (.slice A' xs'.length c') e 1 xs'.length (xs'.map bv) :: zaf h [i] m), t ∉ X := fun t ht hX => by
  rcases HS.mine t ht with h3 | h3
  ·exact H1.xap t h3 hX
  ·have := H.xlt t hX; omega
 have := hK h1 w' hag ⟨HS.frm.os, HS.frm.tape, HS.frm.output, HS.frm.size, fun t ht hn => HS.frm.block t ht fun hm' => hn ((hkk t).2 hm')⟩ (by
  rw [e1, za5 hag wr]
  exact Sp.of_sep HS hX) fun t ht => by
   rw [e1] at ht
   exact (HS.mine t ht).imp_left (hkk t).2
 rw [e2] at this
 exact this
theorem zg1 {t r ny : Nat} {ys : List Nat} {s y : Operand} (hm : zaB m i = some (zdK xs e)) (hr : R[r]? = some (.sl j ny (TxG ys))) (hny : ny = ys.length) (ho : o.op = .call { callee := .builtin .append, args := #[s, y], argTypes := #[t, t] }) (hs : evS l s = some (.a (.s (.p (.hd i xs.length))))) (hy : evS l y = some (.a (.s (.p (.hd j ny)))))
  (hT : AppK P t e 1 1) (hn : xs.length + ys.length ≤ 140737488355328) (wm : wfM (lt_ k) m = true) (wr : wfR (lt_ k) R = true) : zcK P N k l m R o (.a (.s (.p (.hd k (xs ++ ys).length)))) ((k, zdK (xs ++ ys) e) :: (i, .gone) :: m) R :=
 zur hm wm wr fun Q h X a w E H Kk hK => by
  subst hny
  have hf := (zgq H hr).now
  have H1 := zkS H hm
  refine zim (news := ys.map bv) 0 E H1.sep ho (zag hs) (zag hy) rfl hT (by omega) (by simp) (fun hA => hf.nil hA) (by have := zgc (m := ys.length) hf; rwa [List.take_length] at this) (fun u hu => by obtain ⟨z, _, rfl⟩ := List.mem_map.1 hu; rfl) (by omega) (by omega) fun A' c' w' _ HS F => ?_
  rw [← jQ, ← List.map_append] at HS
  have := hK A' c' w' HS
  rw [jQ] at this
  exact this
theorem zF2 {q : Qd} {w : World} (hl : xs.length ≤ 140737488355328) (hb : ∀ x ∈ xs, x < 256) (h : SlF ByT xs q w) : TxG xs q w := by
 obtain ⟨mm, hm⟩ := h
 refine ⟨hm.cap, hl, hb, hm.nil, fun ad hA i x hx => ?_⟩
 have := (hm.at_ ad hA i x hx).1 0 (bv x) rfl
 rwa [zax, show i * ByT.sz = i from Nat.mul_one i] at this
theorem zpc {X : List Nat} {w : World} {h : Hn} (hm : zaB m i = some (zdK xs e)) (hl : xs.length ≤ 140737488355328) (hb : ∀ x ∈ xs, x < 256) (H : Sp X w (zaf h [] m) (zaX h R)) : Sp X w (zaf h [] ((i, .gone) :: m)) (zaX h (.sl i xs.length (TxG xs) :: R)) ∧ ∀ j ∈ zac (zaf h [] ((i, .gone) :: m)), j ∈ zac (zaf h [] m) := by
 obtain ⟨h1, h2⟩ := zo9 (R := .q i (zc3 ByT xs) :: R) hm (.head _) (H.know (zkR zqR h w _))
 refine ⟨h1.refacts fun r hr => ?_, h2⟩
 rcases List.mem_cons.1 hr with rfl | hr
 ·have h3 := h1.facts _ (List.mem_cons_self ..)
  exact h3.imp fun w' hw => ⟨hw.1, zF2 hl hb hw.2⟩
 ·exact h1.facts _ (List.mem_cons_of_mem _ (List.mem_cons_of_mem _ hr))
theorem zgr {m' : MB} {R' : List SF} (i : Nat) (hm : zaB m i = some (zdK xs e)) (hl : xs.length ≤ 140737488355328) (hb : ∀ x ∈ xs, x < 256) (wl : wfE (lt_ k) l = true) (hs : zcK P N k l ((i, .gone) :: m) (.sl i xs.length (TxG xs) :: R) o sv m' R') : zcK P N k l m R o sv m' R' :=
 zdD (Nat.ble_eq_true_of_le (jV k)) (fun h X w H => ⟨h, fun _ _ => ⟨rfl, rfl, rfl⟩, zpc hm hl hb H⟩) wl hs
theorem zus {m' m2 : MB} {R' R2 : List SF} (hs : zcK P N k l m R o sv m' R') (hc : ∀ (h : Hn) (X : List Nat) (w : World), Sp X w (zaf h [] m') (zaX h R') → Sp X w (zaf h [] m2) (zaX h R2) ∧ ∀ j ∈ zac (zaf h [] m2), j ∈ zac (zaf h [] m')) : zcK P N k l m R o sv m2 R2 := fun Q h X a w E H Kk hK =>
 hs Q h X a w E H Kk fun h1 w' a1 a2 a3 a4 => hK h1 w' a1 a2 (hc h1 X w' a3).1 fun j hj => a4 j ((hc h1 X w' a3).2 j hj)
theorem zjS {m' : MB} {R' : List SF} (i : Nat) (hs : zcK P N k l m R o sv m' R') (hm : zaB m' i = some (zdK xs e)) (hl : xs.length ≤ 140737488355328) (hb : ∀ x ∈ xs, x < 256) : zcK P N k l m R o sv ((i, .gone) :: m') (.sl i xs.length (TxG xs) :: R') := zus hs fun h X w H => zpc hm hl hb H
theorem zkT {X G : List Nat} {w0 : World} {Rr : Ending → World → Prop} (i : Nat) (hm : zaB m i = some (zdK xs e)) (hl : xs.length ≤ 140737488355328) (hb : ∀ x ∈ xs, x < 256) (hi : lt_ k i = true) (hk : RetOk X G w0 Rr k sv ((i, .gone) :: m) (.sl i xs.length (TxG xs) :: R)) : RetOk X G w0 Rr k sv m R := ⟨fun h w ws wm wr H hX => by
 obtain ⟨h1, h2⟩ := zpc hm hl hb (Sp.of_sep H hX)
 exact hk.ok h w ws (zau hi (zau rfl wm)) (zau hi wr) ⟨H.frm, H.xlt, h1.holds, h1.apart, fun j hj => H.mine j (h2 j hj), h1.facts⟩ fun j hj => hX j (h2 j hj)⟩
theorem zzX {t c : Nat} {x y : Operand} {z1 z2 : Int} (n : Nat) (hT : ByteT P t e) (ho : o.op = .makeSlice t x y) (hx : evS l x = some (zaD .i64 z1)) (hy : evS l y = some (zaD .i64 z2)) (h1 : z1 = (n : Int)) (h2 : z2 = (c : Int)) (hnc : n ≤ c) (hc : c ≤ 140737488355328) : zfF P N k l m R o (.a (.s (.p (.hd k n)))) [zdK (List.replicate n 0) e] [] := fun Q h X a w E H Kk hK => by
 refine zqi E (Sep.none_ H.xk) ho hT (zag hx) (zag hy) h1 h2 hnc hc fun b w' HS F => ?_
 let h1 : Hn := ⟨h.b, fun t => if t = k then (some ⟨b, 0, none⟩, c) else h.r t, h.q⟩
 have er : h1.r k = (some ⟨b, 0, none⟩, c) := if_pos rfl
 have := hK h1 w' (fun t ht => ⟨rfl, if_neg (by simp at ht; omega), rfl⟩) F (by
  have e1 : zdM h1 k [zdK (List.replicate n 0) e] = [.row (.slice (some ⟨b, 0, none⟩) n c) e 1 n ((List.range n).map fun _ => bv 0)] := by
   rw [zdM, ze3, er]
   simp [zdM, List.map_const']
  rw [e1]
  exact HS.rowOf hnc hc)
 rw [show SV.den h1 (.a (.s (.p (.hd k n)))) = .slice (some ⟨b, 0, none⟩) n c by show Value.slice (h1.r k).1 n (h1.r k).2 = _; rw [er]] at this
 exact this
theorem zxV {dT sT off dn dc t r : Nat} {cs cs' : List SC} {ys : List Nat} {x y : Operand} (mm : Nat) (hm : zaB m i = some (.blk cs t)) (hr : R[r]? = some (.sl j ys.length (TxG ys))) (ho : o.op = .call { callee := .builtin .copy, args := #[x, y], argTypes := #[dT, sT] }) (hx : evS l x = some (slS i off dn dc)) (hy : evS l y = some (.a (.s (.p (.hd j ys.length))))) (hT : elK P dT = some 1)
  (hmm : mm = min ys.length dn) (hfit : off + mm ≤ zfh cs) (hcl : ∀ h, cl (zaC h cs') = (cl (zaC h cs)).take off ++ (ys.take mm).map bv ++ (cl (zaC h cs)).drop (off + mm)) : zcK P N k l m R o (zaD .i64 (mm : Int)) ((i, .blk cs' t) :: m) R := fun Q h X a w E H Kk hK => by
 have hf := (zgq H hr).now
 have H1 : Sp X w (.blk (h.b i) (ca (zaC h cs)) t :: zaf h [i] m) (zaX h R) := H.numAt hm
 have hkm : ∀ j, j ∈ zac (.blk (h.b i) (ca (zaC h cs)) t :: zaf h [i] m) ↔ j ∈ zac (zaf h [] m) := fun j => (zar (zaN h m [] i _ hm (by simp))).mem_iff.symm
 refine zqj (news := (ys.take mm).map bv) 0 E H1.sep ho (zag hx) rfl (zag hy) hT rfl hmm (by rw [List.length_map, List.length_take]; omega) (fun hA => (hf.nil hA).1) (zgc hf) (fun u hu => by obtain ⟨z, _, rfl⟩ := List.mem_map.1 hu; rfl) (hcl h) (by rw [zbg]; exact hfit) rfl fun w' HS F => ?_
 have e1 : zaf h [] ((i, .blk cs' t) :: m) = .blk (h.b i) (ca (zaC h cs')) t :: zaf h [i] m := by rw [zao]; rfl
 have hX : ∀ t' ∈ zac (.blk (h.b i) (ca (zaC h cs')) t :: zaf h [i] m), t' ∉ X := fun t' ht' hX => H.xap t' ((hkm t').1 ht') hX
 refine hK h w' (fun _ _ => ⟨rfl, rfl, rfl⟩) ⟨F.os, F.tape, F.output, F.size, fun t' ht' hn => F.block t' ht' fun hm' => hn ?_⟩ ?_ fun t' ht' => ?_
 ·exact (hkm t').1 (List.mem_append_left _ hm')
 ·rw [e1]
  exact Sp.of_sep HS hX
 ·rw [e1] at ht'
  exact .inl ((hkm t').1 ht')
theorem zgs {t : List Nat} {lo hi n0 : Nat} (ys : List Nat) (r : Nat) (hys : ys = (t.drop lo).take (hi - lo)) (hr : R[r]? = some (.sl i n0 (TxG t))) (hlo : lo ≤ hi) (hhi : hi ≤ t.length) (hp : ∀ (h : Hn) (w : World), TxF (h.r i).1 (h.r i).2 t w → PK P zfB w (zcn h l) o (zis (h.r i).1 1 lo hi (h.r i).2)) : zfF P N k l m R o (.a (.s (.p (.hd k ys.length)))) [.gone] [.sl k ys.length (TxG ys)] := by
 have hl : ys.length = hi - lo := by rw [hys, List.length_take, List.length_drop]; omega
 rw [hl, hys]
 exact zqQ r hr hlo hhi hp
theorem zpd {b t : Nat} {s y : Operand} (xs' : List Nat) (hxs : xs ++ [b] = xs') (hm : zaB m i = some (zdK xs e)) (ho : o.op = .call { callee := .builtin .append, args := #[s, y], argTypes := #[t, t] }) (hs : evS l s = some (.a (.s (.p (.hd i xs.length))))) (hy : evS l y = some (slS j 0 1 1)) (hj : zaB m j = some (.blk [.one (.p (.v (bv b)))] e)) (hij : zaY j [i] = false) (hT : AppK P t e 1 1) (hn : xs.length + 1 ≤ 140737488355328) (wl : wfE (lt_ k) l = true) (wm : wfM (lt_ k) m = true) (wr : wfR (lt_ k) R = true) : zcK P N k l m R o (.a (.s (.p (.hd k xs'.length)))) ((k, zdK xs' e) :: (i, .gone) :: m) R := by
 subst hxs
 have := zqP (N := N) (T := ByT) (x := b) (by_ := 1) zqR hm ho hs rfl hy hj hij (fun _ => rfl) hT (by omega) (by omega) wl wm wr
 rw [jQ]
 exact this
theorem zEb {b ty : Nat} {xop y : Operand} (xs' : List Nat) (hxs : xs.set j b = xs') (hT : zbz P Tb) (hm : zaB m i = some (zdK xs e)) (hj : j < xs.length) (ho : o.op = .store ty xop y) (hx : evS l xop = some (hpS i j 1 0)) (hy : evS l y = some (zgW (bv b))) (hs : szT Tb ty = some (1, false)) : zcK P N k l m R o (zeu undef) ((i, zdK xs' e) :: m) R := by
 subst hxs
 exact znp (T := ByT) (new := [.one (.p (.v (bv b)))]) b hT hm (jP hj) ho hx (by rw [hy]; rfl) hs rfl (fun _ => ⟨rfl, trivial⟩) fun _ _ => rfl
theorem zxX {dT sT off dn dc t tj n : Nat} {cs cs' cj : List SC} {ys : List Nat} {x y : Operand} (hm : zaB m i = some (.blk cs t)) (hmj : zaB m j = some (.blk cj tj)) (hcj : ∀ h, cl (zaC h cj) = ys.map bv) (ho : o.op = .call { callee := .builtin .copy, args := #[x, y], argTypes := #[dT, sT] }) (hx : evS l x = some (slS i off dn dc)) (hy : evS l y = some (slS j 0 n n)) (hn : n = ys.length) (hT : elK P dT = some 1)
  (hfit : n ≤ dn) (hfit2 : off + n ≤ zfh cs) (hcl : ∀ h, cl (zaC h cs') = (cl (zaC h cs)).take off ++ ys.map bv ++ (cl (zaC h cs)).drop (off + n)) : zcK P N k l m R o (zaD .i64 (n : Int)) ((i, .blk cs' t) :: m) R := fun Q h X a w E H Kk hK => by
 subst hn
 have hat : AtC ⟨h.b j, 0, none⟩ (zaC h cj) w := zeh (zcp H hmj)
 have H1 : Sp X w (.blk (h.b i) (ca (zaC h cs)) t :: zaf h [i] m) (zaX h R) := H.numAt hm
 have hkm : ∀ j, j ∈ zac (.blk (h.b i) (ca (zaC h cs)) t :: zaf h [i] m) ↔ j ∈ zac (zaf h [] m) := fun j => (zar (zaN h m [] i _ hm (by simp))).mem_iff.symm
 refine zqj (news := ys.map bv) (A := some ⟨h.b j, 0, none⟩) 0 E H1.sep ho (zag hx) rfl (zag hy) hT rfl (m := ys.length) (by omega) (by simp) (fun hA => by cases hA) (fun ad hA t u hu => by
  obtain rfl := Option.some.inj hA
  exact hat t u (by rw [hcj]; exact hu)) (fun u hu => by obtain ⟨z, _, rfl⟩ := List.mem_map.1 hu; rfl) (hcl h) (by rw [zbg]; exact hfit2) rfl fun w' HS F => ?_
 have e1 : zaf h [] ((i, .blk cs' t) :: m) = .blk (h.b i) (ca (zaC h cs')) t :: zaf h [i] m := by rw [zao]; rfl
 have hX : ∀ t' ∈ zac (.blk (h.b i) (ca (zaC h cs')) t :: zaf h [i] m), t' ∉ X := fun t' ht' hX => H.xap t' ((hkm t').1 ht') hX
 refine hK h w' (fun _ _ => ⟨rfl, rfl, rfl⟩) ⟨F.os, F.tape, F.output, F.size, fun t' ht' hn => F.block t' ht' fun hm' => hn ?_⟩ ?_ fun t' ht' => ?_
 ·exact (hkm t').1 (List.mem_append_left _ hm')
 ·rw [e1]
  exact Sp.of_sep HS hX
 ·rw [e1] at ht'
  exact .inl ((hkm t').1 ht')
theorem zxY {dT sT off dn dc t tj n : Nat} {kk : List Nat} {cj : List SC} {ys : List Nat} {x y : Operand} (kk' : List Nat) (hkk : kk ++ ys = kk') (hm : zaB m i = some (.blk [.key kk] t)) (hmj : zaB m j = some (.blk cj tj)) (hcj : ∀ h, cl (zaC h cj) = ys.map bv) (ho : o.op = .call { callee := .builtin .copy, args := #[x, y], argTypes := #[dT, sT] }) (hx : evS l x = some (slS i off dn dc)) (hy : evS l y = some (slS j 0 n n)) (hn : n = ys.length) (hoff : off = kk.length) (hT : elK P dT = some 1) (hfit : n ≤ dn) (hfit2 : off + n ≤ 32) : zcK P N k l m R o (zaD .i64 (n : Int)) ((i, .blk [.key kk'] t) :: m) R := by
 subst hkk hoff
 exact zxX hm hmj hcj ho hx hy hn hT hfit hfit2 fun h => by
  rw [hn]
  simp only [zaC, SC.den, cl, Chunk.cells, List.append_nil]
  exact zxx (by rw [← hn]; exact hfit2)
theorem zEc {t M lo : Nat} {x y : Operand} {z : Int} (ho : o.op = .slice t x (some y) none none) (ht : arK P t = some (M, 1)) (hx : evS l x = some (atS i 0)) (hy : evS l y = some (zaD .i64 z)) (hz : z = (lo : Int)) (hlo : lo < M) : ∀ (h : Hn) (w : World), PK P zfB w (zcn h l) o ((slS i lo (M - lo) (M - lo)).den h) := fun h w => by
 have := zxv (S := zfB) (ws := w) ho ht (zag (h := h) hx) (zag hy) hz hlo
 rw [Nat.mul_one, ziv, Nat.zero_add] at this
 exact this
end
end
section
open Go.RowKit
section
variable {P : Program} {Tb : Tab} {N k k0 ix : Nat} {l : LE} {m : MB} {R : List SF} {o : Oper} {sv : SV} {K : KS}
variable {α : Type} {T : Ty α} [D : Dec T] {xs ys : List α} {i j n0 n e : Nat}
theorem zzY : Inj ByT := fun _ _ _ _ => rfl
theorem zF3 {xs : List Nat} {q : Qd} {w : World} (h : TxG xs q w) : SlF ByT xs q w := by
 have h : TxF q.1 q.2 xs w := h
 refine ⟨fun _ => (), h.cap, by have := h.len; omega, h.nil, fun ad hA i x hx => ⟨fun j u hu => ?_, trivial⟩⟩
 cases j with
 | zero =>
  have : u = bv x := by simpa [ByT, cl, Chunk.cells] using hu.symm
  rw [this, zax, show i * ByT.sz = i from Nat.mul_one i]
  exact h.at_ ad hA i x hx
 | succ j => simp [ByT, cl, Chunk.cells] at hu
theorem zqS {xs : List Nat} {q : Qd} {w : World} {Y : List Nat} (h : St (TxQ xs q) w Y) : St (SlQ ByT xs q) w Y := h.imp fun w' hw => ⟨hw.1, zF3 hw.2⟩
theorem zxZ {q : Qd} {t u : TypeId} {x y : Operand} (r : Nat) (hr : R[r]? = some (.h i fun q' _ => q' = q)) (ho : o.op = .binOp .eql t x y u) (hx : evS l x = some (.a (.s (.p (.hd i n))))) (hy : evS l y = some (zgW (.slice none 0 0))) (ht : zw3 P t = true) : zfk P N l m R o (zbD q.1.isNone) := fun h X a w E H => by
 have hq : h.r i = q := (H.facts _ (zaQ.2 ⟨_, List.mem_of_getElem? hr, rfl⟩)).now
 have := zxt (P := P) (S := zfB) (ws := w) (A := (h.r i).1) (n := n) (c := (h.r i).2) ho (zag (h := h) hx) (zag hy) ht w (CanB.Keep.refl _ _) a N E
 rw [hq] at this
 exact this
theorem zx0 {t : Nat} (ho : o.op = .buildSlice t 0 #[]) (hu : P.underlying t = some (.slice e)) (hs : zda P e = some T.sz) : zfF P N k l m R o (.a (.s (.p (.hd k 0)))) [zbA T [] e] [] := fun Q h X a w E H Kk hK => by
 refine zoP (Sep.none_ H.xk) ho hu hs fun b w' HS F => ?_
 let h1 : Hn := ⟨h.b, fun t => if t = k then (some ⟨b, 0, none⟩, 0) else h.r t, h.q⟩
 have er : h1.r k = (some ⟨b, 0, none⟩, 0) := if_pos rfl
 have := hK h1 w' (fun t ht => ⟨rfl, if_neg (by simp at ht; omega), rfl⟩) F (by
  have e1 : zdM h1 k [zbA T [] e] = [.row (.slice (some ⟨b, 0, none⟩) 0 0) e T.sz 0 []] := by
   simp only [zdM, zbA, RB.den, er]
   rfl
  rw [e1]
  exact HS)
 rw [show SV.den h1 (.a (.s (.p (.hd k 0)))) = .slice (some ⟨b, 0, none⟩) 0 0 by show Value.slice (h1.r k).1 0 (h1.r k).2 = _; rw [er]] at this
 exact this
theorem zut {g g' : Nat → List Qd} {mm : Nat → T.μ} (h1 : ∀ t, t < xs.length → g' t = g t) (h2 : ∀ t, t < ys.length → g' (xs.length + t) = Dec.enc (mm t)) : itQ T (xs ++ ys) g' = itQ T xs g ++ zaI T ys mm := by
 refine List.ext_getElem? fun t => ?_
 unfold itQ
 rw [zcm]
 by_cases ht : t < xs.length
 ·rw [List.getElem?_append_left ht, List.getElem?_append_left (by rw [zbn]; exact ht), zcm, h1 t ht]
 ·rw [List.getElem?_append_right (by omega), List.getElem?_append_right (by rw [zbn]; omega), zbn, zcm]
  by_cases hy : t - xs.length < ys.length
  ·have := h2 (t - xs.length) hy
   rw [show xs.length + (t - xs.length) = t by omega] at this
   rw [this, D.de]
  ·rw [List.getElem?_eq_none (by omega)]
   rfl
theorem zqT {t by_ r : Nat} {s y : Operand} (hI : Inj T) (hm : zaB m i = some (zbA T xs e)) (hrr : R[r]? = some (.sl j ys.length (SlF T ys))) (ho : o.op = .call { callee := .builtin .append, args := #[s, y], argTypes := #[t, t] }) (hs : ∀ (h : Hn) (X : List Nat) (w : World), Sp X w (zaf h [] m) (zaX h R) → ev (zcn h l) s = some (.slice (h.r i).1 xs.length (h.r i).2)) (hy : evS l y = some (.a (.s (.p (.hd j ys.length)))))
  (hT : AppK P t e T.sz by_) (hn : xs.length + ys.length ≤ 9223372036854775807) (hby : (xs.length + ys.length) * by_ ≤ 140737488355328) (wm : wfM (lt_ k) m = true) (wr : wfR (lt_ k) R = true) (hr : .q i (zc3 T xs) ∈ R) : zcK P N k l m R o (.a (.s (.p (.hd k (xs ++ ys).length)))) ((k, zbA T (xs ++ ys) e) :: (i, .gone) :: m) (.q k (zc3 T (xs ++ ys)) :: R) := fun Q h X a w E H Kk hK => by
 have hik : i < k := zcL hm wm
 have hp1 := zaN h m [] i _ hm (by simp)
 have hSl : St (SlQ T ys (h.r j)) w (X ++ zac (zaf h [] m)) := H.facts _ (zaQ.2 ⟨_, List.mem_of_getElem? hrr, rfl⟩)
 obtain ⟨mm, hmm⟩ := zo7 hI hSl
 have H1 : Sp X w (.row (.slice (h.r i).1 xs.length (h.r i).2) e T.sz (itQ T xs (h.q i)).length (zbW T (itQ T xs (h.q i))) :: zaf h [i] m) (LiF T (h.r j).1 (h.r j).2 ys mm :: zaX h R) := by
  rw [zbY]
  exact (H.know hmm).perm hp1
 refine zqe (T := T) 0 E H1.sep hmm ho (hs h X w H) (zag hy) rfl hT (by rw [zbY]; exact hn) (by rw [zbY]; exact hby) fun A' c' w' hc HS hF => ?_
 let h1 : Hn := ⟨h.b, fun t => if t = k then (A', c') else h.r t, fun t => if t = k then (fun u => if u < xs.length then h.q i u else Dec.enc (mm (u - xs.length))) else h.q t⟩
 have hag : AgS (lt_ k) h h1 := fun t ht => by
  have := zbE ht
  exact ⟨rfl, if_neg (by omega), if_neg (by omega)⟩
 have er : h1.r k = (A', c') := if_pos rfl
 have eq : h1.q k = fun u => if u < xs.length then h.q i u else Dec.enc (mm (u - xs.length)) := if_pos rfl
 have eits : itQ T xs (h.q i) ++ zaI T ys mm = itQ T (xs ++ ys) (h1.q k) := by
  rw [zut (g := h.q i) (mm := mm) (fun t ht => by rw [eq]; exact if_pos ht) fun t ht => by
   rw [eq]
   show (if xs.length + t < xs.length then h.q i (xs.length + t) else Dec.enc (mm (xs.length + t - xs.length))) = _
   rw [if_neg (by omega), Nat.add_sub_cancel_left]]
 have e1 : zaf h1 [] ((k, zbA T (xs ++ ys) e) :: (i, .gone) :: m) = .row (.slice A' (itQ T (xs ++ ys) (h1.q k)).length c') e T.sz (itQ T (xs ++ ys) (h1.q k)).length (zbW T (itQ T (xs ++ ys) (h1.q k))) :: zaf h [i] m := by
  rw [zao]
  show RB.den h1 k (zbA T (xs ++ ys) e) ++ zaf h1 [k] ((i, .gone) :: m) = _
  rw [zdY (by omega) wm, zaL hag wm, zbY]
  simp only [zbA, RB.den, er]
  rfl
 have e2 : (a.put o.dst (.slice A' (itQ T xs (h.q i) ++ zaI T ys mm).length c')) = a.put o.dst (SV.den h1 (.a (.s (.p (.hd k (xs ++ ys).length))))) := by
  show _ = a.put o.dst (.slice (h1.r k).1 (xs ++ ys).length (h1.r k).2)
  rw [er, eits, zbY]
 rw [e2]
 have hkk : ∀ t, t ∈ zac (zaf h [] m) ↔ t ∈ zac (.row (.slice (h.r i).1 xs.length (h.r i).2) e T.sz (itQ T xs (h.q i)).length (zbW T (itQ T xs (h.q i))) :: zaf h [i] m) := fun t => (zar hp1).mem_iff
 have HS2 : Sep X (zac (zaf h [] m)) w w' (zaf h1 [] ((k, zbA T (xs ++ ys) e) :: (i, .gone) :: m)) (LiF T (h.r j).1 (h.r j).2 ys mm :: zaX h R) := by
  rw [e1]
  rw [eits] at HS
  exact ⟨⟨HS.frm.os, HS.frm.tape, HS.frm.output, HS.frm.size, fun t ht hn => HS.frm.block t ht fun hm' => hn ((hkk t).2 hm')⟩, HS.xlt, HS.holds, HS.apart, fun t ht => (HS.mine t ht).imp_left (hkk t).2, HS.facts⟩
 have hqR : ∀ r ∈ R, St (r.den h) w' (X ++ zac (zaf h1 [] ((k, zbA T (xs ++ ys) e) :: (i, .gone) :: m))) := fun r hr => HS2.facts _ (List.mem_cons_of_mem _ (zas.2 ⟨r, hr, rfl⟩))
 have hX : ∀ t ∈ zac (zaf h1 [] ((k, zbA T (xs ++ ys) e) :: (i, .gone) :: m)), t ∉ X := fun t ht hX => by
  rcases HS2.mine t ht with h3 | h3
  ·exact H.xap t h3 hX
  ·have := H.xlt t hX; omega
 refine hK h1 w' hag HS2.frm ?_ (fun t ht => HS2.mine t ht)
 refine (Sp.of_sep HS2 hX).refacts fun r hr' => ?_
 obtain ⟨q, hq', rfl⟩ := zas.1 hr'
 rcases List.mem_cons.1 hq' with rfl | hq'
 ·show St (zc3 T (xs ++ ys) (h1.q k)) w' _
  unfold zc3
  rw [← eits]
  exact zqf (hqR _ hr) (zjL (HS2.facts _ (List.mem_cons_self ..)))
 ·rw [SF.same hag (zbX wr _ hq')]
  exact hqR _ hq'
theorem zBf {t by_ r : Nat} {s y : Operand} (hI : Inj T) (hm : zaB m i = some (zbA T xs e)) (hrr : R[r]? = some (.sl j ys.length (SlF T ys))) (ho : o.op = .call { callee := .builtin .append, args := #[s, y], argTypes := #[t, t] }) (hs : evS l s = some (.a (.s (.p (.hd i xs.length))))) (hy : evS l y = some (.a (.s (.p (.hd j ys.length)))))
  (hT : AppK P t e T.sz by_) (hn : xs.length + ys.length ≤ 9223372036854775807) (hby : (xs.length + ys.length) * by_ ≤ 140737488355328) (wm : wfM (lt_ k) m = true) (wr : wfR (lt_ k) R = true) (hr : .q i (zc3 T xs) ∈ R) : zcK P N k l m R o (.a (.s (.p (.hd k (xs ++ ys).length)))) ((k, zbA T (xs ++ ys) e) :: (i, .gone) :: m) (.q k (zc3 T (xs ++ ys)) :: R) :=
 zqT hI hm hrr ho (fun h _ _ _ => zag hs) hy hT hn hby wm wr hr
theorem ziL : Inj zay := fun x a b h => by
 simp only [zay, cl, Chunk.cells, List.append_nil, List.cons.injEq, Value.slice.injEq, and_true, true_and] at h
 exact Prod.ext h.1 h.2
theorem zuu {xs : List (List Nat)} {x : List Nat} {n0 ty : Nat} {xop : Operand} (r : Nat) (hj : xs[j]? = some x) (hr : R[r]? = some (.sl i n0 (SlF zay xs))) (ho : o.op = .load ty xop) (hx : evS l xop = some (hpS i j 1 0)) (ht : tyK P ty = some (1, false)) : zfF P N k l m R o (.a (.s (.p (.hd k x.length)))) [.gone] [.sl k x.length (TxG x)] :=
 ziH ziL (sub := [.one (.p (.hd k x.length))]) r (fun μ => [μ]) 1 hj hr ho hx ht (.inr ⟨_, rfl, rfl, rfl, rfl⟩) (fun μ h hh => by
  have e : h.r k = μ := hh 0 (by omega)
  show some [Chunk.one (.slice μ.1 x.length μ.2)] = some [Chunk.one (.slice (h.r k).1 x.length (h.r k).2)]
  rw [e]) fun μ h w Y hh hn r hr => by
  have e : h.r k = μ := hh 0 (by omega)
  rcases List.mem_singleton.1 hr with rfl
  show St (fun w => ((h.r k).1 = none → x.length = 0) ∧ TxG x (h.r k) w) w Y
  rw [e]
  exact zno hn
end
end
section
open Go.RowKit
instance : Dec zay := ⟨fun l => qs l 0, fun m => [m], fun _ => rfl⟩
def qT (ql : List Qd) : Nat → zay.μ := qs ql
def zcB : List (List Nat) → List Qd → List Chunk
 | x :: xs, q :: ql => .one (.slice q.1 x.length q.2) :: zcB xs ql
 | _, _ => []
theorem znt : ∀ {xs : List (List Nat)} {ql : List Qd} {t : Nat} {x : List Nat}, xs.length = ql.length → xs[t]? = some x → (cl (zcB xs ql))[t]? = some (.slice (qs ql t).1 x.length (qs ql t).2)
 | [], _, t, x, _, h => by simp at h
 | y :: xs, [], _, _, hl, _ => by simp at hl
 | y :: xs, q :: ql, 0, x, hl, h => by
  rw [jD] at h
  obtain rfl := Option.some.inj h
  rfl
 | y :: xs, q :: ql, t + 1, x, hl, h => by
  rw [jE] at h
  have := znt (ql := ql) (by simpa using hl) h
  simpa [zcB, cl, Chunk.cells, qs] using this
theorem zjT : ∀ {xs : List (List Nat)} {ql : List Qd}, xs.length = ql.length → cl (zcB xs ql) = zbW zay (zaI zay xs (qT ql))
 | [], ql, _ => by cases ql <;> rfl
 | x :: xs, [], hl => by simp at hl
 | x :: xs, q :: ql, hl => by
  have h := zjT (xs := xs) (ql := ql) (by simpa using hl)
  have e : zaI zay (x :: xs) (qT (q :: ql)) = (x, q) :: zaI zay xs (qT ql) := by
   simp only [zaI, List.mapIdx_cons]
   rfl
  rw [e, zcB, cl, h]
  rfl
theorem zBg {ad : Addr} {xs : List (List Nat)} {ql : List Qd} {w : World} (hl : xs.length = ql.length) (hb : xs.length ≤ 9223372036854775807) (hat : AtC ad (zcB xs ql) w) (hn : ∀ t x, xs[t]? = some x → TxF (qs ql t).1 (qs ql t).2 x w) : LiF zay (some ad) xs.length xs (qT ql) w :=
 ⟨jV _, hb, fun e => (by cases e), fun ad' e t x hx => by
  obtain rfl := Option.some.inj e
  refine ⟨fun j u hu => ?_, hn t x hx⟩
  cases j with
  | zero =>
   have : u = .slice (qs ql t).1 x.length (qs ql t).2 := by
    have h3 : u = .slice (qT ql t).1 x.length (qT ql t).2 := by simpa [zay, cl, Chunk.cells] using hu.symm
    exact h3
   rw [this, zax, show t * zay.sz = t from Nat.mul_one t]
   exact hat t _ (znt hl hx)
  | succ j => simp [zay, cl, Chunk.cells] at hu⟩
theorem zcM {ad : Addr} {xs : List (List Nat)} {ql : List Qd} {w : World} {Y : List Nat} (hl : xs.length = ql.length) (hb : xs.length ≤ 9223372036854775807) (hat : St (AtC ad (zcB xs ql)) w Y) (hn : ∀ t x, xs[t]? = some x → St (TxF (qs ql t).1 (qs ql t).2 x) w Y) : St (SlQ zay xs (some ad, xs.length)) w Y := fun w' hk =>
 ⟨fun e => (by cases e), qT ql, zBg hl hb (hat w' hk) fun t x hx => hn t x hx w' hk⟩
section
variable {P : Program} {Tb : Tab} {N k k0 ix : Nat} {l : LE} {m : MB} {R : List SF} {o : Oper} {sv : SV} {K : KS} {rs : List RB}
variable {xs ys : List (List Nat)} {i j n0 n e : Nat}
theorem zqU {t by_ r : Nat} {s y : Operand} {cs : List SC} (ql : Hn → List Qd) (hm : zaB m j = some (.blk cs e)) (hcs : ∀ h, zaC h cs = zcB xs (ql h)) (hql : ∀ h, xs.length = (ql h).length) (hnest : ∀ (h : Hn) (X : List Nat) (w : World), Sp X w (zaf h [] m) (zaX h R) → ∀ t x, xs[t]? = some x → St (TxF (qs (ql h) t).1 (qs (ql h) t).2 x) w (X ++ zac (zaf h [] m)))
  (hrr : R[r]? = some (.sl i ys.length (SlF zay ys))) (ho : o.op = .call { callee := .builtin .append, args := #[s, y], argTypes := #[t, t] }) (hs : evS l s = some (slS j 0 n0 n0)) (hn0 : n0 = xs.length) (hy : evS l y = some (.a (.s (.p (.hd i ys.length)))))
  (hT : AppK P t e 1 by_) (hn : xs.length + ys.length ≤ 140737488355328) (hby : (xs.length + ys.length) * by_ ≤ 140737488355328) (wm : wfM (lt_ k) m = true) (wr : wfR (lt_ k) R = true) : zcK P N k l m R o (.a (.s (.p (.hd k (xs ++ ys).length)))) ((k, zbA zay (xs ++ ys) e) :: (j, .gone) :: m) (.q k (zc3 zay (xs ++ ys)) :: R) := fun Q h X a w E H Kk hK => by
 subst hn0
 have hjk : j < k := zcL hm wm
 have hp1 := zaN h m [] j _ hm (by simp)
 have hSl : St (SlQ zay ys (h.r i)) w (X ++ zac (zaf h [] m)) := H.facts _ (zaQ.2 ⟨_, List.mem_of_getElem? hrr, rfl⟩)
 obtain ⟨mm, hmm⟩ := zo7 ziL hSl
 have hN : St (zgT zay (zaI zay xs (qT (ql h)))) w (X ++ zac (zaf h [] m)) := fun w' hk p hp => by
  obtain ⟨t, ht⟩ := List.mem_iff_getElem?.1 hp
  rw [zcm] at ht
  obtain ⟨x, hx, rfl⟩ := Option.map_eq_some_iff.1 ht
  exact hnest h X w H t x hx w' hk
 have hcl : cl (zaC h cs) = zbW zay (zaI zay xs (qT (ql h))) := by rw [hcs, zjT (hql h)]
 have H1 : Sp X w (.row (.slice (some ⟨h.b j, 0, none⟩) xs.length xs.length) e zay.sz (zaI zay xs (qT (ql h))).length (zbW zay (zaI zay xs (qT (ql h)))) :: zaf h [j] m) (LiF zay (h.r i).1 (h.r i).2 ys mm :: zgT zay (zaI zay xs (qT (ql h))) :: zaX h R) := by
  have h2 := ((H.know hN).know (r := LiF zay (h.r i).1 (h.r i).2 ys mm) hmm).perm hp1
  have h3 : Sp X w (.blk (h.b j) (ca (zaC h cs)) e :: zaf h [j] m) (LiF zay (h.r i).1 (h.r i).2 ys mm :: zgT zay (zaI zay xs (qT (ql h))) :: zaX h R) := h2
  have e0 : ca (zaC h cs) = ca [.row xs.length fun t => ((zbW zay (zaI zay xs (qT (ql h))))[t]?).getD (.bool false)] := by
   refine zjM ?_
   rw [hcl]
   refine List.ext_getElem? fun t => ?_
   by_cases ht : t < xs.length
   ·have hlt : t < (zbW zay (zaI zay xs (qT (ql h)))).length := by rw [zdz, zbn]; simpa [zay] using ht
    simp [ht, jP hlt]
   ·rw [List.getElem?_eq_none (by rw [zdz, zbn]; simpa [zay] using ht), List.getElem?_eq_none (by simpa using ht)]
  rw [e0] at h3
  have h4 := Sep.rowOf (n := xs.length) h3.sep (jV _) (by omega)
  have e1 : ((List.range xs.length).map fun t => ((zbW zay (zaI zay xs (qT (ql h))))[t]?).getD (.bool false)) = zbW zay (zaI zay xs (qT (ql h))) := by
   refine List.ext_getElem? fun t => ?_
   by_cases ht : t < xs.length
   ·have hlt : t < (zbW zay (zaI zay xs (qT (ql h)))).length := by rw [zdz, zbn]; simpa [zay] using ht
    simp [ht, jP hlt]
   ·rw [List.getElem?_eq_none (by simpa using ht), List.getElem?_eq_none (by rw [zdz, zbn]; simpa [zay] using ht)]
  rw [e1] at h4
  rw [zbn]
  refine Sp.of_sep h4 fun t ht hX => h3.xap t ?_ hX
  simpa [zac, Res.keys, Value.ownBlock] using ht
 refine zqe (T := zay) 0 E H1.sep hmm ho (zag hs) (zag hy) rfl hT (by rw [zbn]; omega) (by rw [zbn]; exact hby) fun A' c' w' hc HS hF => ?_
 let h1 : Hn := ⟨h.b, fun t => if t = k then (A', c') else h.r t, fun t => if t = k then (fun u => if u < xs.length then [qs (ql h) u] else ([mm (u - xs.length)] : List Qd)) else h.q t⟩
 have hag : AgS (lt_ k) h h1 := fun t ht => by
  have := zbE ht
  exact ⟨rfl, if_neg (by omega), if_neg (by omega)⟩
 have er : h1.r k = (A', c') := if_pos rfl
 have eq : h1.q k = fun u => if u < xs.length then [qs (ql h) u] else ([mm (u - xs.length)] : List Qd) := if_pos rfl
 have eits : zaI zay xs (qT (ql h)) ++ zaI zay ys mm = itQ zay (xs ++ ys) (h1.q k) := by
  rw [zut (g := fun u => [qs (ql h) u]) (mm := mm) (fun t ht => by rw [eq]; exact if_pos ht) fun t ht => by
   rw [eq]
   have h5 : (if xs.length + t < xs.length then [qs (ql h) (xs.length + t)] else ([mm (xs.length + t - xs.length)] : List Qd)) = [mm t] := by
    rw [if_neg (by omega), Nat.add_sub_cancel_left]
    try rfl
   exact h5]
  rfl
 have e1 : zaf h1 [] ((k, zbA zay (xs ++ ys) e) :: (j, .gone) :: m) = .row (.slice A' (itQ zay (xs ++ ys) (h1.q k)).length c') e zay.sz (itQ zay (xs ++ ys) (h1.q k)).length (zbW zay (itQ zay (xs ++ ys) (h1.q k))) :: zaf h [j] m := by
  rw [zao]
  show RB.den h1 k (zbA zay (xs ++ ys) e) ++ zaf h1 [k] ((j, .gone) :: m) = _
  rw [zdY (by omega) wm, zaL hag wm, zbY]
  simp only [zbA, RB.den, er]
  rfl
 have e2 : (a.put o.dst (.slice A' (zaI zay xs (qT (ql h)) ++ zaI zay ys mm).length c')) = a.put o.dst (SV.den h1 (.a (.s (.p (.hd k (xs ++ ys).length))))) := by
  show _ = a.put o.dst (.slice (h1.r k).1 (xs ++ ys).length (h1.r k).2)
  rw [er, eits, zbY]
 rw [e2]
 have hkk : ∀ t, t ∈ zac (zaf h [] m) ↔ t ∈ zac (.row (.slice (some ⟨h.b j, 0, none⟩) xs.length xs.length) e zay.sz (zaI zay xs (qT (ql h))).length (zbW zay (zaI zay xs (qT (ql h)))) :: zaf h [j] m) := fun t => by
  have := (zar hp1).mem_iff (a := t)
  simpa [zac, RB.den, Res.keys, Value.ownBlock] using this
 have HS2 : Sep X (zac (zaf h [] m)) w w' (zaf h1 [] ((k, zbA zay (xs ++ ys) e) :: (j, .gone) :: m)) (LiF zay (h.r i).1 (h.r i).2 ys mm :: zgT zay (zaI zay xs (qT (ql h))) :: zaX h R) := by
  rw [e1]
  rw [eits] at HS
  exact ⟨⟨HS.frm.os, HS.frm.tape, HS.frm.output, HS.frm.size, fun t ht hn => HS.frm.block t ht fun hm' => hn ((hkk t).2 hm')⟩, HS.xlt, HS.holds, HS.apart, fun t ht => (HS.mine t ht).imp_left (hkk t).2, HS.facts⟩
 have hX : ∀ t ∈ zac (zaf h1 [] ((k, zbA zay (xs ++ ys) e) :: (j, .gone) :: m)), t ∉ X := fun t ht hX => by
  rcases HS2.mine t ht with h3 | h3
  ·exact H.xap t h3 hX
  ·have := H.xlt t hX; omega
 refine hK h1 w' hag HS2.frm ?_ (fun t ht => HS2.mine t ht)
 refine (Sp.of_sep HS2 hX).refacts fun r hr' => ?_
 obtain ⟨q, hq', rfl⟩ := zas.1 hr'
 rcases List.mem_cons.1 hq' with rfl | hq'
 ·show St (zc3 zay (xs ++ ys) (h1.q k)) w' _
  unfold zc3
  rw [← eits]
  exact zqf (HS2.facts _ (List.mem_cons_of_mem _ (List.mem_cons_self ..))) (zjL (HS2.facts _ (List.mem_cons_self ..)))
 ·rw [SF.same hag (zbX wr _ hq')]
  exact HS2.facts _ (List.mem_cons_of_mem _ (List.mem_cons_of_mem _ (zas.2 ⟨_, hq', rfl⟩)))
theorem znu {R2 : List SF} (is : List Nat) (hz : zzS is m R = some R2) (ht : zfF P N k l (zBd is m) R2 o sv rs []) : zfF P N k l m R o sv rs [] := fun Q h X a w E H Kk hK =>
 ht Q h X a w E (zhW hz H).1 Kk fun h1 w' h2 h3 h4 => hK h1 w' h2 h3 ⟨h4.frm, H.xk, h4.holds, h4.apart, h4.mine, fun _ hr => by cases hr⟩
theorem znv {α : Type} {T : Ty α} [Dec T] {zs : List α} {m' : MB} {R' : List SF} (i : Nat) (hm : zaB m i = some (zbA T zs e)) (hr : .q i (zc3 T zs) ∈ R) (wl : wfE (lt_ k) l = true) (hs : zcK P N k l ((i, .gone) :: m) (.sl i zs.length (SlF T zs) :: R) o sv m' R') : zcK P N k l m R o sv m' R' :=
 zdD (Nat.ble_eq_true_of_le (jV k)) (fun h X w H => ⟨h, fun _ _ => ⟨rfl, rfl, rfl⟩, zo9 hm hr H⟩) wl hs
theorem zzZ {t : Nat} {x y : Operand} {z1 z2 : Int} (n : Nat) (hT : ByteT P t e) (ho : o.op = .makeSlice t x y) (hx : evS l x = some (zaD .i64 z1)) (hy : evS l y = some (zaD .i64 z2)) (h1 : z1 = (n : Int)) (h2 : z2 = (n : Int)) (hn : n ≤ 140737488355328) : zfF P N k l m R o (slS k 0 n n) [.blk [.row n fun _ => bv 0] e] [] := fun Q h X a w E H Kk hK => by
 refine zqi E (Sep.none_ H.xk) ho hT (zag hx) (zag hy) h1 h2 (jV _) hn fun b w' HS F => ?_
 let h1 : Hn := ⟨fun t => if t = k then b else h.b t, h.r, h.q⟩
 have er : h1.b k = b := if_pos rfl
 have := hK h1 w' (fun t ht => ⟨if_neg (by simp at ht; omega), rfl, rfl⟩) F (by
  have e1 : zdM h1 k [.blk [.row n fun _ => bv 0] e] = [.blk b (ca [.row n fun _ => bv 0]) e] := by
   simp only [zdM, RB.den, er]
   rfl
  rw [e1]
  exact HS)
 rw [show SV.den h1 (slS k 0 n n) = .slice (some ⟨b, 0, none⟩) n n by show Value.slice (some ⟨h1.b k, 0, none⟩) n n = _; rw [er]] at this
 exact this
theorem zx1 {X G : List Nat} {w0 : World} {Rr : Ending → World → Prop} {t : Nat} {kk : List Nat} {sv' : SV} {m' : MB} (i : Nat) (hm : zaB m i = some (.blk [.key kk] t)) (hk32 : kk.length = 32) (hkb : ∀ x ∈ kk, x < 256) (he : ∀ h : Hn, h.r k = (some ⟨h.b i, 0, none⟩, 32) → sv'.den h = sv.den h ∧ zaf h [] m' = zaf h [] ((i, .gone) :: m)) (hw : (bif sv'.wf (lt_ (k + 1)) then wfM (lt_ (k + 1)) m' else false) = true)
  (hk : RetOk X G w0 Rr (k + 1) sv' m' (.sl k 32 (TxG kk) :: R)) : RetOk X G w0 Rr k sv m R := ⟨fun h w ws wm wr H hX => by
 have hi : lt_ k i = true := Nat.ble_eq_true_of_le (zcL hm wm)
 obtain ⟨h1, h2⟩ := zkP hm (Sp.of_sep H hX)
 let h3 : Hn := ⟨h.b, fun t => if t = k then (some ⟨h.b i, 0, none⟩, 32) else h.r t, h.q⟩
 have er : h3.r k = (some ⟨h3.b i, 0, none⟩, 32) := if_pos rfl
 have hag : AgS (lt_ k) h h3 := fun j hj => ⟨rfl, if_neg (by have := zbE hj; omega), rfl⟩
 obtain ⟨e1, e2⟩ := he h3 er
 have hw2 := zaa hw
 have wg : wfM (lt_ k) ((i, .gone) :: m) = true := zau hi (zau rfl wm)
 rw [← SV.same hag ws, ← e1]
 have e3 : zaf h3 [] m' = zaf h [] ((i, .gone) :: m) := by rw [e2, zaL hag wg]
 refine hk.ok h3 w hw2.1 hw2.2 (zau (Nat.ble_eq_true_of_le (jV _)) (zb9 (zdo (Nat.le_succ k)) wr)) ?_ fun j hj => hX j (h2 j (by rw [← e3]; exact hj))
 rw [e3]
 refine ⟨H.frm, H.xlt, h1.holds, h1.apart, fun j hj => H.mine j (h2 j hj), fun r hr => ?_⟩
 rcases List.mem_cons.1 hr with rfl | hr
 ·have hb := h1.facts _ (List.mem_cons_self ..)
  have ht : St (TxF (some ⟨h.b i, 0, none⟩) 32 kk) w (X ++ zac (zaf h [] ((i, .gone) :: m))) := zfp hb (by rw [show zaC h [.key kk] = [.key kk] from rfl, zm1, zgd hk32]) (by omega) (by omega) hkb
  refine ht.imp fun w' hw' => ?_
  show ((h3.r k).1 = none → 32 = 0) ∧ TxG kk (h3.r k) w'
  rw [er]
  exact ⟨fun e => (by cases e), hw'⟩
 ·rw [za5 hag wr] at hr
  exact h1.facts _ (List.mem_cons_of_mem _ hr)⟩
theorem zuv {R2 : List SF} : ∀ {is : List Nat} {m : MB} {R : List SF}, zzS is m R = some R2 → wfM (lt_ k) m = true → wfR (lt_ k) R = true → wfM (lt_ k) (zBd is m) = true ∧ wfR (lt_ k) R2 = true
 | [], m, R, e, h1, h2 => by obtain rfl := Option.some.inj e; exact ⟨h1, h2⟩
 | i :: is, m, R, e, h1, h2 => by
  unfold zzS at e
  split at e
  ·rename_i cs t hm
   have hi : lt_ k i = true := Nat.ble_eq_true_of_le (zcL hm h1)
   have := zuv (is := is) e (zau hi (zau rfl h1)) (zau (zau hi (zt7 h1 hm).2) h2)
   exact this
  ·cases e
theorem zx2 {X G : List Nat} {w0 : World} {Rr : Ending → World → Prop} {R2 : List SF} (is : List Nat) (hz : zzS is m R = some R2) (hk : RetOk X G w0 Rr k sv (zBd is m) R2) : RetOk X G w0 Rr k sv m R := ⟨fun h w ws wm wr H hX => by
 obtain ⟨h1, h2⟩ := zhW hz (Sp.of_sep H hX)
 obtain ⟨w1, w2⟩ := zuv hz wm wr
 exact hk.ok h w ws w1 w2 ⟨H.frm, H.xlt, h1.holds, h1.apart, fun j hj => H.mine j (h2 j hj), h1.facts⟩ fun j hj => hX j (h2 j hj)⟩
theorem zuw {t : List Nat} {n : Nat} {x xh xm : Operand} {ty : Nat} {z z2 : Int} (ys : List Nat) (r : Nat) (hys : ys = t.take n) (hr : R[r]? = some (.sl i n0 (TxG t))) (hn : n ≤ t.length) (ho : o.op = .slice ty x none (some xh) (some xm)) (ht : elK P ty = some 1) (hx : evS l x = some (.a (.s (.p (.hd i n0))))) (hh : evS l xh = some (zaD .i64 z)) (hm : evS l xm = some (zaD .i64 z2)) (hz : z = (n : Int)) (hz2 : z2 = (n : Int)) : zfF P N k l m R o (.a (.s (.p (.hd k n)))) [.gone] [.sl k n (TxG ys)] := fun Q h X a w E H Kk hK => by
 have hf := zgq H hr
 have hcap := hf.now.cap
 let q : Qd := (if n = 0 then (h.r i).1 else (h.r i).1.map (·.add (0 * 1)), n - 0)
 have hq : zis (h.r i).1 1 0 n n = .slice q.1 (n - 0) q.2 := rfl
 have hh' : ev (zcn h l) xh = some (.int .i64 z) := zag hh
 have hm' : ev (zcn h l) xm = some (.int .i64 z2) := zag hm
 have hrun := zqg (P := P) (S := zfB) (ws := w) (A := (h.r i).1) (c := (h.r i).2) (lo := 0) (hi := n) (mx := n) ho ht (zag (h := h) hx) (fun a N w E => by
  unfold Instr.sliceBounds
  simp [E.ev hh', E.ev hm', zdn hz (jV n), zdn hz2 (show n ≤ (h.r i).2 by omega), Sem.run_bind]) w (CanB.Keep.refl _ _) a N E
 let h1 : Hn := ⟨h.b, fun t => if t = k then q else h.r t, h.q⟩
 have er : h1.r k = q := if_pos rfl
 have hl : ys.length = n := by rw [hys, List.length_take]; omega
 unfold Oper.wp
 rw [hrun, hq]
 have := hK h1 w (fun t ht => ⟨rfl, if_neg (by simp at ht; omega), rfl⟩) (Frm.refl _ _) (by
  show Sep (X ++ zac (zaf h [] m)) [] w w [] (zaX h1 [_])
  refine (Sep.none_ H.xk).refacts fun r hr => ?_
  rcases List.mem_singleton.1 hr with rfl
  rw [show (X ++ zac (zaf h [] m)) ++ zac ([] : List Res) = X ++ zac (zaf h [] m) by simp [zac]]
  intro w' hk
  have h' := hf w' hk
  show ((h1.r k).1 = none → n = 0) ∧ TxF (h1.r k).1 (h1.r k).2 ys w'
  rw [er]
  have hA0 : q.1 = none → n = 0 := fun e => by
   by_cases h0 : n = 0
   ·exact h0
   ·have e : (h.r i).1.map (·.add (0 * 1)) = none := by simpa [q, h0] using e
    have := h'.nil (Option.map_eq_none_iff.1 e)
    omega
  refine ⟨hA0, by show ys.length ≤ n - 0; omega, by have := h'.len; omega, fun x hx => h'.byt x (by rw [hys] at hx; exact List.mem_of_mem_take hx), fun e => ⟨by rw [hl]; exact hA0 e, by show n - 0 = 0; rw [hA0 e]⟩, fun ad hA i' x hx => ?_⟩
  have hi' := (List.getElem?_eq_some_iff.1 hx).1
  have h0 : n ≠ 0 := by omega
  rw [hys, List.getElem?_take_of_lt (by omega)] at hx
  cases hAA : (h.r i).1 with
  | none => have := (h'.nil hAA).1; omega
  | some ad0 =>
   have e : q.1 = some (ad0.add (0 * 1)) := by simp [q, h0, hAA]
   rw [e] at hA
   obtain rfl := Option.some.inj hA
   rw [Nat.zero_mul, zax]
   exact h'.at_ ad0 hAA _ x hx)
 rw [show SV.den h1 (.a (.s (.p (.hd k n)))) = .slice q.1 (n - 0) q.2 by show Value.slice (h1.r k).1 n (h1.r k).2 = _; rw [er]; rfl] at this
 exact this
theorem zux {b : Nat} (hb : Nat.ble k b = true) : zFE k (.sl b 0 (TxG [])) := fun h w Y hn => by
 show St (fun w => ((h.r b).1 = none → 0 = 0) ∧ TxG [] (h.r b) w) w Y
 rw [hn b (Nat.le_of_ble_eq_true hb)]
 exact zkL
end
end
section
open Go.RowKit
section
variable {P : Program} {o : Oper} {a : Act} {w ws : World} {Q : Exit → Act → World → Prop} {N d : Nat} {l : List (Nat × Value)} {v : Value} {S : Nat → Prop} {K : Act → World → Prop} {x y : Operand}
 {X G : List Nat} {w0 : World} {L L' : List Res} {R : List (World → Prop)}
theorem znw {b e n : Nat} {C : Array Value} (h : w.heap[b]? = some (.cells C e (0, 0))) : (w.freeze ⟨b, n, none⟩ 1).heap[b]? = some (.cells C e (n, n + 1)) ∧ Frm [b] w (w.freeze ⟨b, n, none⟩ 1) := by
 unfold World.freeze
 rw [if_neg (by decide)]
 refine ⟨?_, rfl, rfl, rfl, by simp, fun k _ hn => ?_⟩
 ·show (w.heap.modify b _)[b]? = _
  rw [Array.getElem?_modify, if_pos rfl, h]
  rfl
 ·show (w.heap.modify b _)[k]? = _
  rw [Array.getElem?_modify, if_neg (fun e => hn (by rw [← e]; exact List.mem_singleton.2 rfl))]
theorem zx3 {A : Option Addr} {c : Nat} {k : List Nat} {Y : List Nat} (h : St (TxF A c k) w Y) (hk : 32 ≤ k.length) : ∃ ad, A = some ad ∧ St (AtC ad [.key k]) w Y := by
 cases A with
 | none => have := h.now.nil rfl; omega
 | some ad =>
  refine ⟨ad, rfl, fun w' hw j u hu => ?_⟩
  have hT := h w' hw
  rw [zm1, List.getElem?_map] at hu
  by_cases hj : j < 32
  ·rw [zku k j hj, Option.map_some, Option.some.injEq] at hu
   subst hu
   refine hT.at_ ad rfl j _ ?_
   rw [jR, jP (show j < k.length by omega)]
   rfl
  ·rw [List.getElem?_eq_none (by rw [zqk]; omega)] at hu
   cases hu
theorem zx4 {t t' e : TypeId} {s : ByteArray} {k : List Nat} (E : Env a N l) (H : Sep X [] w0 w L R) (ho : o.op = .convert t t' x) (hx : ev l x = some (.string s)) (ht : P.underlying t = some .string) (ht' : P.underlying t' = some (.slice e)) (he : P.underlying e = some (.int .u8)) (hk : s.data.toList.map UInt8.toNat = k) (hl : k.length ≤ 1000)
  (h : ∀ A c w', Sep X [] w0 w' L (TxF A c k :: R) → Frm [] w w' → K (a.put o.dst (.slice A k.length c)) w') : o.wp P a w K Q := by
 have hsz : s.size = k.length := by rw [← hk, List.length_map]; rfl
 have hr := run_bytes_of_string w t t' e s ht ht' he
 obtain ⟨C, hC⟩ : ∃ C, bytesRow s (grownCap w s.size 0 e) = C := ⟨_, rfl⟩
 obtain ⟨g, hg⟩ : ∃ g, grownCap w s.size 0 e = g := ⟨_, rfl⟩
 have hge : s.size ≤ g := by rw [← hg]; exact grownCap_ge w s.size 0 e
 rw [hC, hg] at hr
 have hCk : ∀ i z, k[i]? = some z → C[i]? = some (bv z) := fun i z hi => by
  rw [← hk, List.getElem?_map, Option.map_eq_some_iff] at hi
  obtain ⟨b, hb, rfl⟩ := hi
  have hlt : i < s.data.size := by
   rw [← Array.length_toList]
   exact (List.getElem?_eq_some_iff.1 hb).1
  rw [← hC]
  unfold bytesRow
  rw [Array.getElem?_append_left (by rw [Array.size_map]; exact hlt), Array.getElem?_map, ← Array.getElem?_toList, hb]
  rfl
 unfold Oper.wp execOp
 simp only [ho, E.ev hx, Sem.run_bind, hr, Result.andThen_ok, Sem.run_pure]
 have hf : Frm [] w (w.drew.alloc (.cells C e (C.size, C.size + 1))) := Frm.of_below (((Below.refl _ _).drew).alloc (jV _) _)
 have hH := H.own (q := .obj w.heap.size (.cells C e (C.size, C.size + 1))) hf (heap_alloc_new w.drew _) (by simp [Res.keys]) (by simp [Res.keys])
 have hF := hH.freezeX (Sep.new_x hH)
 have hT : St (TxF (some ⟨w.heap.size, 0, none⟩) g k) (w.drew.alloc (.cells C e (C.size, C.size + 1))) (X ++ zac L) := (hF.facts _ (List.mem_cons_self ..)).imp fun w2 hw => ⟨by omega, by omega, fun z hz => by
   rw [← hk] at hz
   obtain ⟨b, _, rfl⟩ := List.mem_map.1 hz
   exact b.toNat_lt, (fun hn => by cases hn), fun ad had i z hi => by
   obtain rfl := Option.some.inj had
   rw [zbU]
   unfold World.cell?
   have hw' : w2.heap[w.heap.size]? = some (.cells C e (C.size, C.size + 1)) := hw
   simp only [hw', Nat.zero_add, Option.isSome_none, Bool.false_eq_true, if_false]
   exact hCk i z hi⟩
 rw [hsz]
 exact h _ _ _ (hF.pop.know hT) hf
end
section
variable {P : Program} {Tb : Tab} {N k k0 ix : Nat} {l : LE} {m : MB} {R : List SF} {o : Oper} {sv : SV} {K : KS} {rs : List RB}
variable {i j n0 n e : Nat}
theorem ze4 {t c : Nat} {x : Operand} {cs : List SC} (hm : zaB m i = some (.blk cs e)) (ho : o.op = .convert t t x) (hx : evS l x = some (slS i 0 n c)) (ht : P.underlying t = some (.slice e)) (he : P.underlying e = some (.int .u8)) : zcK P N k l m R o (slS i 0 n c) ((i, .gone) :: m) (.blk i cs :: R) := fun Q h X a w E H Kk hK => by
 have hb := zcp H hm
 have H1 : Sp X w (.blk (h.b i) (ca (zaC h cs)) e :: zaf h [i] m) (zaX h R) := H.numAt hm
 have hsh : w.shape? (h.b i) = some (e, (ca (zaC h cs)).size) := by unfold World.shape?; rw [hb]
 obtain ⟨h1, h2⟩ := znw (n := (ca (zaC h cs)).size) hb
 have hr : (convert t t (.slice (some ⟨h.b i, 0, none⟩) n c)).run P w = .ok (.slice (some ⟨h.b i, 0, none⟩) n c) (w.freeze ⟨h.b i, (ca (zaC h cs)).size, none⟩ 1) := by
  simp [convert, run_underlying ht, run_underlying he, markStringish, hsh]
 have hx' : ev (zcn h l) x = some (.slice (some ⟨h.b i, 0, none⟩) n c) := zag hx
 unfold Oper.wp execOp
 simp only [ho, E.ev hx', Sem.run_bind, hr, Result.andThen_ok, Sem.run_pure]
 have hkm : ∀ j, j ∈ zac (.blk (h.b i) (ca (zaC h cs)) e :: zaf h [i] m) ↔ j ∈ zac (zaf h [] m) := fun j => (zar (zaN h m [] i _ hm (by simp))).mem_iff.symm
 have H2 := H1.sep.turn (q' := .obj (h.b i) (.cells (ca (zaC h cs)) e ((ca (zaC h cs)).size, (ca (zaC h cs)).size + 1))) h2 h1 (by simp [Res.keys]) (by simp [Res.keys])
 have hf := H2.freezeX fun j hj => H1.xap j (List.mem_append_left _ hj)
 refine hK h _ (fun _ _ => ⟨rfl, rfl, rfl⟩) ⟨h2.os, h2.tape, h2.output, h2.size, fun t' ht' hn => h2.block t' ht' fun hm' => hn ((hkm t').1 (List.mem_append_left _ hm'))⟩ ?_ fun j hj => .inl ((hkm j).1 (List.mem_append_right _ hj))
 have hS : Sp X (w.freeze ⟨h.b i, (ca (zaC h cs)).size, none⟩ 1) (zaf h [i] m) (zaX h R) := Sp.of_sep hf.pop fun j hj => H1.xap j (List.mem_append_right _ hj)
 exact hS.know ((hf.facts _ (List.mem_cons_self ..)).imp fun w2 hw => zeh (t := e) hw)
theorem zqV {t t' : Nat} {x : Operand} {s : ByteArray} (lab : List Nat) (ho : o.op = .convert t t' x) (hx : evS l x = some (zgW (.string s))) (ht : P.underlying t = some .string) (ht' : P.underlying t' = some (.slice e)) (he : P.underlying e = some (.int .u8)) (hk : s.data.toList.map UInt8.toNat = lab) (hl : lab.length ≤ 1000) : zfF P N k l m R o (.a (.s (.p (.hd k lab.length)))) [.gone] [.sl k lab.length (TxG lab)] := fun Q h X a w E H Kk hK => by
 refine zx4 E (Sep.none_ H.xk) ho (zag hx) ht ht' he hk hl fun A c w' HS F => ?_
 let h1 : Hn := ⟨h.b, fun t => if t = k then (A, c) else h.r t, h.q⟩
 have er : h1.r k = (A, c) := if_pos rfl
 have := hK h1 w' (fun t ht => ⟨rfl, if_neg (by simp at ht; omega), rfl⟩) F (by
  show Sep (X ++ zac (zaf h [] m)) [] w w' [] (zaX h1 [_])
  refine HS.refacts fun r hr => ?_
  rcases List.mem_singleton.1 hr with rfl
  refine (HS.facts _ (List.mem_cons_self ..)).imp fun w2 hw => ?_
  show ((h1.r k).1 = none → lab.length = 0) ∧ TxF (h1.r k).1 (h1.r k).2 lab w2
  rw [er]
  exact ⟨fun e => (hw.nil e).1, hw⟩)
 rw [show SV.den h1 (.a (.s (.p (.hd k lab.length)))) = .slice A lab.length c by show Value.slice (h1.r k).1 lab.length (h1.r k).2 = _; rw [er]] at this
 exact this
theorem zBh {t : List Nat} {ty : Nat} {x : Operand} (r : Nat) (hr : R[r]? = some (.sl i n0 (TxG t))) (h32 : 32 ≤ t.length) (ho : o.op = .sliceToArrayPointer ty x) (ht : arK P ty = some (32, 1)) (hx : evS l x = some (.a (.s (.p (.hd i n))))) (hn : 32 ≤ n) : zfk P N l m R o (hpS i 0 1 0) := fun h X a w E H => by
 have hf := (zgq H hr).now
 cases hA : (h.r i).1 with
 | none => have := (hf.nil hA).1; omega
 | some ad =>
  have := zAR (P := P) (S := zfB) (ws := w) (A := (h.r i).1) (n := n) (c := (h.r i).2) ho ht (zag (h := h) hx) hn w (CanB.Keep.refl _ _) a N E
  rw [this]
  show _ = Result.ok (Next.value (.pointer (some ((((h.r i).1.getD ⟨0, 0, none⟩).add (0 * 1)).add 0)))) w
  rw [hA, zax]
  rfl
theorem zBi {t : List Nat} {ty : Nat} {xop : Operand} (r : Nat) (hr : R[r]? = some (.sl i n0 (TxG t))) (h32 : 32 ≤ t.length) (ho : o.op = .load ty xop) (hx : evS l xop = some (hpS i 0 1 0)) (ht : tyK P ty = some (32, true)) : zfk P N l m R o (.a (.agg [.key t])) := fun h X a w E H => by
 obtain ⟨ad, hA, hat⟩ := zx3 (zgq H hr) h32
 have hx' : ev (zcn h l) xop = some (.pointer (some ad)) := by
  rw [zag (h := h) hx]
  show some (Value.pointer (some ((((h.r i).1.getD ⟨0, 0, none⟩).add (0 * 1)).add 0))) = _
  rw [hA, zax]
  rfl
 exact zbw E ho hx' ht rfl hat.now
theorem zEd {n0 n t ty : Nat} {g f : Nat → Value} (f' : Nat → Value) {post : List SC} {xop y : Operand} {v : Value} (hm : zaB m i = some (.blk (.row n0 g :: .row n f :: post) t)) (ho : o.op = .store ty xop y) (hx : evS l xop = some (apS i n0 j 1)) (hy : evS l y = some (zgW v)) (hok : v.oneCell' = true) (hs : zda P ty = some 1) (hj : j < n) (hf : ∀ u, upd f j v u = f' u) : zcK P N k l m R o (zeu undef) ((i, .blk (.row n0 g :: .row n f' :: post) t) :: m) R := by
 obtain rfl : upd f j v = f' := funext hf
 refine ziK (x := .p (.v v)) hm ho hx hy hok hs (by simp only [zfh, SC.len]; omega) fun h => ?_
 have e := zjR (n := n) (f := f) (post := zaC h post) (v := v) hj
 have e2 : ∀ cs : List Chunk, cl (.row n0 g :: cs) = (List.range n0).map g ++ cl cs := fun cs => rfl
 show cl (.row n0 g :: .row n (upd f j v) :: zaC h post) = (cl (.row n0 g :: .row n f :: zaC h post)).set (n0 + j * 1) v
 rw [e2, e2, e, Nat.mul_one, List.set_append, if_neg (by simp)]
 simp
theorem zuy {off n ty : Nat} {f : Nat → Value} {cs : List SC} {xop : Operand} (hm : zgj R m i = some cs) (ho : o.op = .load ty xop) (hx : evS l xop = some (apS i off j 1)) (ht : tyK P ty = some (1, false)) (hr : zFA cs off = some (n, f)) (hj : j < n) (wm : wfM (lt_ k) m = true) (wr : wfR (lt_ k) R = true) : zcK P N k l m R o (zgW (f j)) m R :=
 zaE (rs := []) (Rs := []) (zdW (zD9 hm ho hx ht fun h => by rw [Nat.mul_one]; exact ztQ h hr hj)) wm wr
theorem ze5 {H : MB} {ty : Nat} {z : List SC} (hz : ∀ hn : Hn, zdT P ty = some (ca (zaC hn z))) (ho : o.op = .alloc ty) (wH : wfM (lt_ k) H = true) : zkF P N k l m R H o (atS k 0) 1 ((k, .blk z ty) :: H) [] := fun Q h X a w E HS Kk hK => by
 have h3 : Sp X w (zaf h [] H ++ zaf h [] m) (zaX h R) := HS
 have hg : Sp (X ++ zac (zaf h [] m)) w (zaf h [] H) (zaX h R) := by
  refine Sp.of_sep h3.giveL fun t ht hm => ?_
  rcases List.mem_append.1 hm with h4 | h4
  ·exact h3.xap t (by rw [zaj]; exact List.mem_append_left _ ht) h4
  ·have := h3.apart
   rw [zaj] at this
   exact (List.nodup_append.1 this).2.2 t ht t h4 rfl
 let h1 : Hn := ⟨fun i => if i = k then w.heap.size else h.b i, h.r, h.q⟩
 have eb : h1.b k = w.heap.size := if_pos rfl
 have hag : AgS (lt_ k) h h1 := fun i hi => ⟨if_neg (by have := zbE hi; omega), rfl, rfl⟩
 unfold Oper.wp
 rw [zm7 (P := P) (a := a) (w := w) ho (hz h1)]
 have hf : Frm [] w (w.alloc (.cells (ca (zaC h1 z)) ty)) := Frm.of_below ((Below.refl _ _).alloc (jV _) _)
 have := hK h1 _ (fun i hi => ⟨if_neg (by omega), rfl, rfl⟩) (by
  have e1 : zaf h1 [] ((k, .blk z ty) :: H) = .blk w.heap.size (ca (zaC h1 z)) ty :: zaf h [] H := by
   rw [zao]
   show Res.blk (h1.b k) (ca (zaC h1 z)) ty :: zaf h1 [k] H = _
   rw [eb, zcg h1 H [] k fun p hp => Nat.ne_of_lt (zbE (zfo wH p hp)), zaL hag wH]
  rw [e1]
  have h5 : Sep (X ++ zac (zaf h [] m)) (zac (zaf h [] H)) w w (zaf h [] H) [] := hg.sep.refacts fun _ hr => by cases hr
  exact h5.own hf (q := .blk w.heap.size (ca (zaC h1 z)) ty) (heap_alloc_new w _) (by simp [Res.keys]) (by simp [Res.keys]))
 rw [show SV.den h1 (atS k 0) = .pointer (some ⟨w.heap.size, 0, none⟩) by show Value.pointer (some ⟨h1.b k, 0, none⟩) = _; rw [eb]] at this
 exact this
def hdF (cs : List Chunk) (t : Nat) (b : Nat) (w : World) : Prop := w.heap[b]? = some (.cells (ca cs) t (0, 0))
theorem zz0 {cs : List Chunk} {t b : Nat} {w : World} (h : hdF cs t b w) : AtC ⟨b, 0, none⟩ cs w := zeh h
theorem zuz {m' : MB} {R' : List SF} {cs : List SC} {cs0 : List Chunk} {t : Nat} (i : Nat) (hm : zaB m i = some (.blk cs t)) (hcs : ∀ h, zaC h cs = cs0) (wl : wfE (lt_ k) l = true) (hs : zcK P N k l ((i, .gone) :: m) (.b i (hdF cs0 t) :: .blk i cs :: R) o sv m' R') : zcK P N k l m R o sv m' R' :=
 zdD (Nat.ble_eq_true_of_le (jV k)) (fun h X w H => ⟨h, fun _ _ => ⟨rfl, rfl, rfl⟩, by
  have hf := (H.numAt hm).freeze
  obtain ⟨h1, h2⟩ := zkP hm H
  refine ⟨h1.refacts fun r hr => ?_, h2⟩
  rcases List.mem_cons.1 hr with rfl | hr
  ·have := hf.facts _ (List.mem_cons_self ..)
   rw [hcs h] at this
   exact this
  ·exact h1.facts _ hr⟩) wl hs
theorem zdZ {cs : List SC} {cs0 : List Chunk} {t : Nat} (i : Nat) (hm : zaB m i = some (.blk cs t)) (hcs : ∀ h, zaC h cs = cs0) (ht : zfF P N k l ((i, .gone) :: m) (.b i (hdF cs0 t) :: .blk i cs :: R) o sv rs []) : zfF P N k l m R o sv rs [] := fun Q h X a w E H Kk hK => by
 have hf := (H.numAt hm).freeze
 obtain ⟨h1, h2⟩ := zkP hm H
 refine ht Q h X a w E (h1.refacts fun r hr => ?_) Kk fun h1 w' h2 h3 h4 => hK h1 w' h2 h3 ⟨h4.frm, H.xk, h4.holds, h4.apart, h4.mine, fun _ hr => by cases hr⟩
 rcases List.mem_cons.1 hr with rfl | hr
 ·have := hf.facts _ (List.mem_cons_self ..)
  rw [hcs h] at this
  exact this
 ·exact h1.facts _ hr
theorem zuA {v : Value} {t ty : Nat} {xop y : Operand} (r : Nat) (hr : R[r]? = some (.b i (hdF [.one v] t))) (ho : o.op = .store ty xop y) (hx : evS l xop = some (atS i 0)) (hy : evS l y = some (zgW v)) (hok : v.oneCell' = true) (hs : zda P ty = some 1) : zcK P N k l m R o (zeu undef) m R := fun Q h X a w E H Kk hK => by
 have hb : w.heap[h.b i]? = some (.cells (ca [.one v]) t (0, 0)) := (H.facts _ (zaQ.2 ⟨_, List.mem_of_getElem? hr, rfl⟩)).now
 have h1 := zbI ho (E.ev (zag hx)) (E.ev (zag hy)) (zej (P := P) (ty := ty) (c := 0) (A := [.one v]) (A' := [.one v]) hb hok (by simp [zdv, Chunk.len]) rfl hs)
 rw [setRow_self w (h.b i) _ t (0, 0) hb] at h1
 unfold Oper.wp
 rw [h1]
 exact hK h w (fun _ _ => ⟨rfl, rfl, rfl⟩) (Frm.refl _ _) H fun j hj => .inl hj
end
end
section
open Go.RowKit
section
variable {P : Program} {Tb : Tab} {N k k0 ix : Nat} {l : LE} {m : MB} {R : List SF} {o : Oper} {sv : SV} {K : KS} {rs : List RB}
variable {i j n0 n e : Nat}
theorem znx {xs : List (List Nat)} {x : List Nat} {ty : Nat} {xop : Operand} (r : Nat) (hj : xs[j]? = some x) (hr : R[r]? = some (.sl i n0 (SlF zfn xs))) (h32 : x.length = 32) (hb : ∀ y ∈ x, y < 256) (ho : o.op = .slice ty xop none none none) (ht : arK P ty = some (32, 1)) (hx : evS l xop = some (hpS i j 32 0)) : zfF P N k l m R o (.a (.s (.p (.hd k 32)))) [.gone] [.sl k 32 (TxG x)] := fun Q h X a w E H Kk hK => by
 have hfact : St (SlQ zfn xs (h.r i)) w (X ++ zac (zaf h [] m)) := fun w' hk => by
  have h1 : ((h.r i).1 = none → n0 = 0) ∧ SlF zfn xs (h.r i) w' := H.facts _ (zaQ.2 ⟨_, List.mem_of_getElem? hr, rfl⟩) w' hk
  obtain ⟨mm, hm⟩ := h1.2
  exact ⟨fun e => (hm.nil e).1, h1.2⟩
 obtain ⟨mm, hm⟩ := zo7 zBa hfact
 obtain ⟨ad, hA, h1, -⟩ := LiF.get hm hj
 let q : Qd := (some (ad.add (j * 32)), 32)
 let h1' : Hn := ⟨h.b, fun t => if t = k then q else h.r t, h.q⟩
 have er : h1'.r k = q := if_pos rfl
 have hx' : ev (zcn h l) xop = some (.pointer (some (ad.add (j * 32)))) := by
  rw [zag (h := h) hx]
  show some (Value.pointer (some ((((h.r i).1.getD ⟨0, 0, none⟩).add (j * 32)).add 0))) = _
  rw [hA, zax]
  rfl
 have hrun := zoU (P := P) (S := zfB) (ws := w) ho ht hx' w (CanB.Keep.refl _ _) a N E
 unfold Oper.wp
 rw [hrun]
 have := hK h1' w (fun t ht => ⟨rfl, if_neg (by simp at ht; omega), rfl⟩) (Frm.refl _ _) (by
  show Sep (X ++ zac (zaf h [] m)) [] w w [] (zaX h1' [_])
  refine (Sep.none_ H.xk).refacts fun r hr => ?_
  rcases List.mem_singleton.1 hr with rfl
  rw [show (X ++ zac (zaf h [] m)) ++ zac ([] : List Res) = X ++ zac (zaf h [] m) by simp [zac]]
  have h2 : St (TxF (some (ad.add (j * 32))) 32 x) w (X ++ zac (zaf h [] m)) := zfp h1 (by show cl [.key x] = _; rw [zm1, zgd h32]) (by omega) (by omega) hb
  refine h2.imp fun w' hw => ?_
  show ((h1'.r k).1 = none → 32 = 0) ∧ TxF (h1'.r k).1 (h1'.r k).2 x w'
  rw [er]
  exact ⟨fun e => (by cases e), hw⟩)
 rw [show SV.den h1' (.a (.s (.p (.hd k 32)))) = .slice (some (ad.add (j * 32))) 32 32 by show Value.slice (h1'.r k).1 32 (h1'.r k).2 = _; rw [er]] at this
 exact this
end
end
section
open Go.RowKit
section
variable {X G : List Nat} {w0 : World} {Rr : Ending → World → Prop} {k : Nat} {sv : SV} {m : MB} {R : List SF}
theorem zkU {sv' : SV} (n : Nat) (F : Qd → World → Prop) (q : Hn → Qd) (hq : ∀ h h' : Hn, AgS (lt_ k) h h' → q h' = q h) (hF : ∀ (h : Hn) (X : List Nat) (w : World), Sp X w (zaf h [] m) (zaX h R) → St (fun w => ((q h).1 = none → n = 0) ∧ F (q h) w) w (X ++ zac (zaf h [] m))) (he : ∀ h : Hn, h.r k = q h → sv'.den h = sv.den h) (hw : sv'.wf (lt_ (k + 1)) = true) (hk : RetOk X G w0 Rr (k + 1) sv' m (.sl k n F :: R)) : RetOk X G w0 Rr k sv m R := ⟨fun h w ws wm wr H hX => by
 let h3 : Hn := ⟨h.b, fun t => if t = k then q h else h.r t, h.q⟩
 have er : h3.r k = q h := if_pos rfl
 have hag : AgS (lt_ k) h h3 := fun j hj => ⟨rfl, if_neg (by have := zbE hj; omega), rfl⟩
 have eq3 : q h3 = q h := hq h h3 hag
 rw [← SV.same hag ws, ← he h3 (er.trans eq3.symm)]
 have e3 : zaf h3 [] m = zaf h [] m := zaL hag wm
 refine hk.ok h3 w hw (zdb (zdo (Nat.le_succ k)) wm) (zau (Nat.ble_eq_true_of_le (jV _)) (zb9 (zdo (Nat.le_succ k)) wr)) ?_ fun j hj => hX j (by rw [← e3]; exact hj)
 rw [e3]
 refine ⟨H.frm, H.xlt, H.holds, H.apart, H.mine, fun r hr => ?_⟩
 rcases List.mem_cons.1 hr with rfl | hr
 ·have := hF h X w (Sp.of_sep H hX)
  show St (fun w => ((h3.r k).1 = none → n = 0) ∧ F (h3.r k) w) w _
  rw [er]
  exact this
 ·rw [za5 hag wr] at hr
  exact H.facts r hr⟩
end
section
variable {h : Hn} {i : Nat} {g : Nat → List Qd}
end
section
variable {P : Program} {Tb : Tab} {N k : Nat} {l : LE} {m : MB} {R : List SF} {o : Oper} {α : Type} {T : Ty α} [Dec T] {xs : List α} {x : α} {i j off ty e : Nat}
end
end
section
open Go.RowKit
section
variable {α : Type} {T : Ty α} [D : Dec T] {P : Program} {N k i j n0 e : Nat} {l : LE} {m : MB} {R : List SF} {o : Oper} {xs ys : List α}
theorem zBj {t by_ r : Nat} {s y : Operand} (hI : Inj T) (hrr : R[r]? = some (.sl j ys.length (SlF T ys))) (ho : o.op = .call { callee := .builtin .append, args := #[s, y], argTypes := #[t, t] }) (hs : evS l s = some (zgW (.slice none 0 0))) (hy : evS l y = some (.a (.s (.p (.hd j ys.length)))))
  (hT : AppK P t e T.sz by_) (hn : ys.length ≤ 9223372036854775807) (hby : ys.length * by_ ≤ 140737488355328) (wl : wfE (lt_ k) l = true) (wm : wfM (lt_ k) m = true) (wr : wfR (lt_ k) R = true) : zcK P N k l m R o (.a (.s (.p (.hd (k + 1) ys.length)))) ((k + 1, zbA T ys e) :: (k, .gone) :: (k, zbA T [] e) :: m) (.q (k + 1) (zc3 T ys) :: .h k (fun q _ => q = (none, 0)) :: .q k (zc3 T []) :: R) :=
 zdD (m2 := (k, zbA T [] e) :: m) (R2 := .h k (fun q _ => q = (none, 0)) :: .q k (zc3 T []) :: R) (Nat.ble_eq_true_of_le (Nat.le_succ k)) (fun h X w H => by
  let h2 : Hn := ⟨h.b, fun t => if t = k then (none, 0) else h.r t, h.q⟩
  have er : h2.r k = (none, 0) := if_pos rfl
  have hag : AgS (lt_ k) h h2 := fun j hj => ⟨rfl, if_neg (by have := zbE hj; omega), rfl⟩
  have e1 : zaf h2 [] ((k, zbA T [] e) :: m) = .row (.slice none 0 0) e T.sz 0 [] :: zaf h [] m := by
   rw [zao, show zaY k [] = false from rfl, cond_false, zcg h2 m [] k fun p hp => Nat.ne_of_lt (zbE (zfo wm p hp)), zaL hag wm]
   simp only [zbA, RB.den, er]
   rfl
  have H2 := H.nils (L1 := [.row (.slice none 0 0) e T.sz 0 []]) fun q hq => ⟨_, _, List.mem_singleton.1 hq⟩
  refine ⟨h2, hag, ?_, fun j hj => ?_⟩
  ·rw [e1]
   refine H2.refacts fun r hr => ?_
   obtain ⟨q, hq, rfl⟩ := zas.1 hr
   rcases List.mem_cons.1 hq with rfl | hq
   ·exact fun _ _ => er
   rcases List.mem_cons.1 hq with rfl | hq
   ·exact zf8
   ·rw [SF.same hag (zbX wr _ hq)]
    exact H2.facts _ (zas.2 ⟨q, hq, rfl⟩)
  ·rw [e1] at hj
   exact hj) wl (by
  have hS : ∀ i, lt_ k i = true → lt_ (k + 1) i = true := fun i h => Nat.ble_eq_true_of_le (Nat.le_succ_of_le (zbE h))
  have hk : lt_ (k + 1) k = true := Nat.ble_eq_true_of_le (jV _)
  have h1 : wfM (lt_ (k + 1)) ((k, zbA T [] e) :: m) = true := by
   rw [show wfM (lt_ (k + 1)) ((k, zbA T [] e) :: m) = (bif lt_ (k + 1) k then wfM (lt_ (k + 1)) m else false) from rfl, hk]
   exact zdb hS wm
  have h2 : wfR (lt_ (k + 1)) (.h k (fun q _ => q = (none, 0)) :: .q k (zc3 T []) :: R) = true := by
   rw [show wfR (lt_ (k + 1)) (.h k (fun q _ => q = (none, 0)) :: .q k (zc3 T []) :: R) = (bif lt_ (k + 1) k then (bif lt_ (k + 1) k then wfR (lt_ (k + 1)) R else false) else false) from rfl, hk]
   exact zb9 hS wr
  have := zqT (N := N) (k := k + 1) (i := k) (xs := []) (r := r + 2) (e := e) (R := .h k (fun q _ => q = (none, 0)) :: .q k (zc3 T []) :: R) (m := (k, zbA T [] e) :: m) hI (by simp [zaB]) (by simpa using hrr) ho (fun h X w H => by
   have := zag (h := h) hs
   have hq : h.r k = (none, 0) := (H.facts _ (zaQ.2 ⟨_, List.mem_cons_self .., rfl⟩)).now
   rw [this, hq]
   rfl) hy hT (by simpa using hn) (by simpa using hby) h1 h2 (.tail _ (.head _))
  simpa using this)
end
section
variable {P : Program} {N k i j n0 e : Nat} {l : LE} {m : MB} {R : List SF} {o : Oper} {xs ys : List Nat}
theorem zx5 {t r ny : Nat} {s y : Operand} {cs : List SC} (hm : zaB m i = some (.blk cs e)) (hcs : ∀ h, cl (zaC h cs) = xs.map bv) (hr : R[r]? = some (.sl j ny (TxG ys))) (hny : ny = ys.length) (ho : o.op = .call { callee := .builtin .append, args := #[s, y], argTypes := #[t, t] }) (hs : evS l s = some (slS i 0 n0 n0)) (hn0 : n0 = xs.length) (hy : evS l y = some (.a (.s (.p (.hd j ny)))))
  (hT : AppK P t e 1 1) (hn : xs.length + ys.length ≤ 140737488355328) (wm : wfM (lt_ k) m = true) (wr : wfR (lt_ k) R = true) : zcK P N k l m R o (.a (.s (.p (.hd k (xs ++ ys).length)))) ((k, zdK (xs ++ ys) e) :: (i, .gone) :: m) R := fun Q h X a w E H Kk hK => by
 subst hn0 hny
 have hik : i < k := zcL hm wm
 have hp1 := zaN h m [] i _ hm (by simp)
 have hf := (zgq H hr).now
 have H1 : Sp X w (.row (.slice (some ⟨h.b i, 0, none⟩) xs.length xs.length) e 1 xs.length (xs.map bv) :: zaf h [i] m) (zaX h R) := by
  have h3 : Sp X w (.blk (h.b i) (ca (zaC h cs)) e :: zaf h [i] m) (zaX h R) := H.perm hp1
  have e0 : ca (zaC h cs) = ca [.row xs.length fun t => ((xs.map bv)[t]?).getD (.bool false)] := by
   refine zjM ?_
   rw [hcs]
   refine List.ext_getElem? fun t => ?_
   by_cases ht : t < xs.length
   ·simp [ht]
   ·rw [List.getElem?_eq_none (by simpa using ht), List.getElem?_eq_none (by simpa using ht)]
  rw [e0] at h3
  have h4 := Sep.rowOf (n := xs.length) h3.sep (jV _) (by omega)
  have e1 : ((List.range xs.length).map fun t => ((xs.map bv)[t]?).getD (.bool false)) = xs.map bv := by
   refine List.ext_getElem? fun t => ?_
   by_cases ht : t < xs.length
   ·simp [ht]
   ·rw [List.getElem?_eq_none (by simpa using ht), List.getElem?_eq_none (by simpa using ht)]
  rw [e1] at h4
  refine Sp.of_sep h4 fun t ht hX => h3.xap t ?_ hX
  simpa [zac, Res.keys, Value.ownBlock] using ht
 refine zim (news := ys.map bv) 0 E H1.sep ho (zag hs) (zag hy) rfl hT (by omega) (by simp) (fun hA => hf.nil hA) (by have := zgc (m := ys.length) hf; rwa [List.take_length] at this) (fun u hu => by obtain ⟨z, _, rfl⟩ := List.mem_map.1 hu; rfl) (by omega) (by omega) fun A' c' w' _ HS F => ?_
 rw [← jQ, ← List.map_append] at HS
 let h1 : Hn := ⟨h.b, fun t => if t = k then (A', c') else h.r t, h.q⟩
 have hag : AgS (lt_ k) h h1 := fun t ht => by
  have := zbE ht
  exact ⟨rfl, if_neg (by omega), rfl⟩
 have er : h1.r k = (A', c') := if_pos rfl
 have e1 : zaf h1 [] ((k, zdK (xs ++ ys) e) :: (i, .gone) :: m) = .row (.slice A' (xs ++ ys).length c') e 1 (xs ++ ys).length ((xs ++ ys).map bv) :: zaf h [i] m := by
  rw [zao]
  show RB.den h1 k (zdK (xs ++ ys) e) ++ zaf h1 [k] ((i, .gone) :: m) = _
  rw [zdY (by omega) wm, zaL hag wm, ze3, er]
  rfl
 have e2 : SV.den h1 (.a (.s (.p (.hd k (xs ++ ys).length)))) = .slice A' (xs.length + ys.length) c' := by
  show Value.slice (h1.r k).1 (xs ++ ys).length (h1.r k).2 = _
  rw [er, jQ]
 have hkk : ∀ t, t ∈ zac (zaf h [] m) ↔ t ∈ zac (.row (.slice (some ⟨h.b i, 0, none⟩) xs.length xs.length) e 1 xs.length (xs.map bv) :: zaf h [i] m) := fun t => by
  have := (zar hp1).mem_iff (a := t)
  simpa [zac, RB.den, Res.keys, Value.ownBlock] using this
 have hX : ∀ t ∈ zac (.row (.slice A' (xs ++ ys).length c') e 1 (xs ++ ys).length ((xs ++ ys).map bv) :: zaf h [i] m), t ∉ X := fun t ht hX => by
  rcases HS.mine t ht with h3 | h3
  ·exact H1.xap t h3 hX
  ·have := H.xlt t hX; omega
 have := hK h1 w' hag ⟨HS.frm.os, HS.frm.tape, HS.frm.output, HS.frm.size, fun t ht hn => HS.frm.block t ht fun hm' => hn ((hkk t).2 hm')⟩ (by
  rw [e1, za5 hag wr]
  exact Sp.of_sep HS hX) fun t ht => by
   rw [e1] at ht
   exact (HS.mine t ht).imp_left (hkk t).2
 rw [e2] at this
 exact this
theorem zx6 {t : Nat} {s y : Operand} {cs : List SC} (hm : zaB m i = some (zdK xs e)) (hj : zgj R m j = some cs) (hcs : ∀ h, cl (zaC h cs) = ys.map bv) (ho : o.op = .call { callee := .builtin .append, args := #[s, y], argTypes := #[t, t] }) (hs : ∀ (h : Hn) (X : List Nat) (w : World), Sp X w (zaf h [] m) (zaX h R) → ev (zcn h l) s = some (.slice (h.r i).1 xs.length (h.r i).2)) (hy : evS l y = some (slS j 0 n0 n0)) (hn0 : n0 = ys.length)
  (hT : AppK P t e 1 1) (hn : xs.length + ys.length ≤ 140737488355328) (wm : wfM (lt_ k) m = true) (wr : wfR (lt_ k) R = true) : zcK P N k l m R o (.a (.s (.p (.hd k (xs ++ ys).length)))) ((k, zdK (xs ++ ys) e) :: (i, .gone) :: m) R :=
 zur hm wm wr fun Q h X a w E H Kk hK => by
  subst hn0
  have hat := zky H hj
  have H1 := zkS H hm
  refine zim (news := ys.map bv) 0 E H1.sep ho (hs h X w H) (zag hy) rfl hT (by omega) (by simp) (fun hA => by cases hA) (fun ad hA t u hu => by
   obtain rfl := Option.some.inj hA
   exact hat t u (by rw [hcs]; exact hu)) (fun u hu => by obtain ⟨z, _, rfl⟩ := List.mem_map.1 hu; rfl) (by omega) (by omega) fun A' c' w' _ HS F => ?_
  rw [← jQ, ← List.map_append] at HS
  have := hK A' c' w' HS
  rw [jQ] at this
  exact this
theorem zx7 {t : Nat} {s y : Operand} {cs : List SC} (hj : zgj R m j = some cs) (hcs : ∀ h, cl (zaC h cs) = ys.map bv) (ho : o.op = .call { callee := .builtin .append, args := #[s, y], argTypes := #[t, t] }) (hs : evS l s = some (zgW (.slice none 0 0))) (hy : evS l y = some (slS j 0 n0 n0)) (hn0 : n0 = ys.length)
  (hT : AppK P t e 1 1) (hn : ys.length ≤ 140737488355328) (wl : wfE (lt_ k) l = true) (wm : wfM (lt_ k) m = true) (wr : wfR (lt_ k) R = true) : zcK P N k l m R o (.a (.s (.p (.hd (k + 1) ys.length)))) ((k + 1, zdK ys e) :: (k, .gone) :: (k, zdK [] e) :: m) (.h k (fun q _ => q = (none, 0)) :: R) :=
 zdD (m2 := (k, zdK [] e) :: m) (R2 := .h k (fun q _ => q = (none, 0)) :: R) (Nat.ble_eq_true_of_le (Nat.le_succ k)) (fun h X w H => by
  let h2 : Hn := ⟨h.b, fun t => if t = k then (none, 0) else h.r t, h.q⟩
  have er : h2.r k = (none, 0) := if_pos rfl
  have hag : AgS (lt_ k) h h2 := fun j hj => ⟨rfl, if_neg (by have := zbE hj; omega), rfl⟩
  have e1 : zaf h2 [] ((k, zdK [] e) :: m) = .row (.slice none 0 0) e 1 0 [] :: zaf h [] m := by
   rw [zao, show zaY k [] = false from rfl, cond_false, zcg h2 m [] k fun p hp => Nat.ne_of_lt (zbE (zfo wm p hp)), zaL hag wm, ze3, er]
   rfl
  have H2 := H.nils (L1 := [.row (.slice none 0 0) e 1 0 []]) fun q hq => ⟨_, _, List.mem_singleton.1 hq⟩
  refine ⟨h2, hag, ?_, fun j hj => ?_⟩
  ·rw [e1]
   refine H2.refacts fun r hr => ?_
   obtain ⟨q, hq, rfl⟩ := zas.1 hr
   rcases List.mem_cons.1 hq with rfl | hq
   ·exact fun _ _ => er
   ·rw [SF.same hag (zbX wr _ hq)]
    exact H2.facts _ (zas.2 ⟨q, hq, rfl⟩)
  ·rw [e1] at hj
   exact hj) wl (by
  have hS : ∀ i, lt_ k i = true → lt_ (k + 1) i = true := fun i h => Nat.ble_eq_true_of_le (Nat.le_succ_of_le (zbE h))
  have hk : lt_ (k + 1) k = true := Nat.ble_eq_true_of_le (jV _)
  have h1 : wfM (lt_ (k + 1)) ((k, zdK [] e) :: m) = true := by
   rw [show wfM (lt_ (k + 1)) ((k, zdK [] e) :: m) = (bif lt_ (k + 1) k then wfM (lt_ (k + 1)) m else false) from rfl, hk]
   exact zdb hS wm
  have h2 : wfR (lt_ (k + 1)) (.h k (fun q _ => q = (none, 0)) :: R) = true := by
   rw [show wfR (lt_ (k + 1)) (.h k (fun q _ => q = (none, 0)) :: R) = (bif lt_ (k + 1) k then wfR (lt_ (k + 1)) R else false) from rfl, hk]
   exact zb9 hS wr
  have hj2 : zgj (.h k (fun q _ => q = (none, 0)) :: R) ((k, zdK [] e) :: m) j = some cs := by
   unfold zgj at hj ⊢
   by_cases e1 : k = j
   ·subst e1
    have e2 : zaB ((k, zdK [] e) :: m) k = some (zdK [] e) := by simp [zaB]
    rw [e2]
    split at hj
    ·rename_i cs0 t0 e3
     exact absurd (zcL e3 wm) (Nat.lt_irrefl _)
    ·exact hj
   ·have e2 : zaB ((k, zdK [] e) :: m) j = zaB m j := by rw [zaB, show Nat.beq k j = false from Bool.eq_false_iff.2 fun e => e1 (Nat.eq_of_beq_eq_true e), cond_false]
    rw [e2]
    exact hj
  have := zx6 (N := N) (k := k + 1) (i := k) (xs := []) (e := e) (R := .h k (fun q _ => q = (none, 0)) :: R) (m := (k, zdK [] e) :: m) (by simp [zaB]) hj2 hcs ho (fun h X w H => by
   have := zag (h := h) hs
   have hq : h.r k = (none, 0) := (H.facts _ (zaQ.2 ⟨_, List.mem_cons_self .., rfl⟩)).now
   rw [this, hq]
   rfl) hy hn0 hT (by simpa using hn) h1 h2
  simpa using this)
end
end
section
open Go.RowKit
def tab : Tab := [(1, ⟨1, false, [.one (.p (.v .nilFunc))], .oth⟩),
 (2, ⟨1, false, [.one (.p (.v (.int .i64 0)))], .int .i64⟩),
 (3, ⟨1, false, [.one (.p (.v (.int .i64 0)))], .int .i64⟩),
 (4, ⟨1, false, [.one (.p (.v (.bool false)))], .oth⟩),
 (5, ⟨1, false, [.one (.p (.v (.int .u8 0)))], .int .u8⟩),
 (6, ⟨1, false, [.one (.p (.v (.int .u8 0)))], .int .u8⟩),
 (7, ⟨4, true, [.one (.p (.v (.int .i64 0))), .one (.p (.v (.int .i64 0))), .one (.p (.v (.bool false))), .one (.p (.v (.int .u8 0)))], .st [(0, 1), (1, 1), (2, 1), (3, 1)]⟩),
 (8, ⟨4, true, [.one (.p (.v (.int .i64 0))), .one (.p (.v (.int .i64 0))), .one (.p (.v (.bool false))), .one (.p (.v (.int .u8 0)))], .st [(0, 1), (1, 1), (2, 1), (3, 1)]⟩),
 (12, ⟨1, false, [.one (.p (.v (.int .u64 0)))], .int .u64⟩),
 (13, ⟨2, true, [.one (.p (.v (.string ⟨#[]⟩))), .one (.p (.v (.int .u64 0)))], .st [(0, 1), (1, 1)]⟩),
 (14, ⟨2, true, [.one (.p (.v (.string ⟨#[]⟩))), .one (.p (.v (.int .u64 0)))], .st [(0, 1), (1, 1)]⟩),
 (15, ⟨1, false, [.one (.p (.v (.pointer none)))], .oth⟩),
 (16, ⟨1, false, [.one (.p (.v (.pointer none)))], .oth⟩),
 (17, ⟨1, false, [.one (.p (.v (.pointer none)))], .oth⟩),
 (18, ⟨1, true, [.one (.p (.v (.pointer none)))], .st [(0, 1)]⟩),
 (19, ⟨1, true, [.one (.p (.v (.pointer none)))], .st [(0, 1)]⟩),
 (21, ⟨1, false, [.one (.p (.v (.int .i32 0)))], .int .i32⟩),
 (22, ⟨32, true, [.key []], .key⟩),
 (23, ⟨32, true, [.key []], .key⟩),
 (24, ⟨1, false, [.one (.p (.v (.slice none 0 0)))], .sl 3 1⟩),
 (25, ⟨1, false, [.one (.p (.v .nilFunc))], .oth⟩),
 (26, ⟨1, false, [.one (.p (.v (.slice none 0 0)))], .sl 24 1⟩),
 (27, ⟨2, true, [.one (.p (.v (.slice none 0 0))), .one (.p (.v (.slice none 0 0)))], .st [(0, 1), (1, 1)]⟩),
 (28, ⟨2, true, [.one (.p (.v (.slice none 0 0))), .one (.p (.v (.slice none 0 0)))], .st [(0, 1), (1, 1)]⟩),
 (29, ⟨1, false, [.one (.p (.v (.slice none 0 0)))], .sl 23 32⟩),
 (30, ⟨4, true, [.one (.p (.v (.int .i64 0))), .one (.p (.v (.slice none 0 0))), .one (.p (.v (.slice none 0 0))), .one (.p (.v (.slice none 0 0)))], .st [(0, 1), (1, 2), (3, 1)]⟩),
 (31, ⟨4, true, [.one (.p (.v (.int .i64 0))), .one (.p (.v (.slice none 0 0))), .one (.p (.v (.slice none 0 0))), .one (.p (.v (.slice none 0 0)))], .st [(0, 1), (1, 2), (3, 1)]⟩),
 (32, ⟨1, false, [.one (.p (.v (.int .u64 0)))], .int .u64⟩),
 (33, ⟨161, true, [.one (.p (.v (.int .u64 0))), .key [], .key [], .key [], .key [], .key []], .st [(0, 1), (1, 32), (33, 32), (65, 32), (97, 32), (129, 32)]⟩),
 (34, ⟨161, true, [.one (.p (.v (.int .u64 0))), .key [], .key [], .key [], .key [], .key []], .st [(0, 1), (1, 32), (33, 32), (65, 32), (97, 32), (129, 32)]⟩),
 (35, ⟨1, false, [.one (.p (.v (.slice none 0 0)))], .sl 46 34⟩),
 (36, ⟨232, true, [.one (.p (.v (.int .i64 0))), .one (.p (.v (.slice none 0 0))), .one (.p (.v (.slice none 0 0))), .one (.p (.v (.slice none 0 0))), .one (.p (.v (.int .i64 0))), .key [], .key [], .one (.p (.v (.slice none 0 0))), .one (.p (.v (.int .u64 0))), .key [], .key [], .key [], .key [], .key [], .one (.p (.v (.slice none 0 0)))], .st [(0, 4), (4, 1), (5, 32), (37, 32), (69, 1), (70, 161), (231, 1)]⟩),
 (37, ⟨232, true, [.one (.p (.v (.int .i64 0))), .one (.p (.v (.slice none 0 0))), .one (.p (.v (.slice none 0 0))), .one (.p (.v (.slice none 0 0))), .one (.p (.v (.int .i64 0))), .key [], .key [], .one (.p (.v (.slice none 0 0))), .one (.p (.v (.int .u64 0))), .key [], .key [], .key [], .key [], .key [], .one (.p (.v (.slice none 0 0)))], .st [(0, 4), (4, 1), (5, 32), (37, 32), (69, 1), (70, 161), (231, 1)]⟩),
 (38, ⟨1, false, [.one (.p (.v (.int .i64 0)))], .int .i64⟩),
 (40, ⟨1, false, [.one (.p (.v .nilFunc))], .oth⟩),
 (42, ⟨1, false, [.one (.p (.v .nilFunc))], .oth⟩),
 (43, ⟨1, false, [.one (.p (.v .nilFunc))], .oth⟩),
 (44, ⟨1, false, [.one (.p (.v (.slice none 0 0)))], .sl 69 33⟩),
 (45, ⟨34, true, [.key [], .one (.p (.v (.int .u64 0))), .one (.p (.v (.slice none 0 0)))], .st [(0, 32), (32, 1), (33, 1)]⟩),
 (46, ⟨34, true, [.key [], .one (.p (.v (.int .u64 0))), .one (.p (.v (.slice none 0 0)))], .st [(0, 32), (32, 1), (33, 1)]⟩),
 (47, ⟨1, false, [.one (.p (.v .nilFunc))], .oth⟩),
 (48, ⟨1, false, [.one (.p (.v .nilFunc))], .oth⟩),
 (50, ⟨1, false, [.one (.p (.v .nilFunc))], .oth⟩),
 (51, ⟨1, false, [.one (.p (.v .nilFunc))], .oth⟩),
 (52, ⟨1, false, [.one (.p (.v .nilFunc))], .oth⟩),
 (53, ⟨1, false, [.one (.p (.v .nilFunc))], .oth⟩),
 (54, ⟨1, false, [.one (.p (.v .nilFunc))], .oth⟩),
 (55, ⟨1, false, [.one (.p (.v .nilFunc))], .oth⟩),
 (56, ⟨34, true, [.one (.p (.v (.int .i64 0))), .one (.p (.v (.int .i64 0))), .key []], .st [(0, 1), (1, 1), (2, 32)]⟩),
 (57, ⟨34, true, [.one (.p (.v (.int .i64 0))), .one (.p (.v (.int .i64 0))), .key []], .st [(0, 1), (1, 1), (2, 32)]⟩),
 (59, ⟨1, false, [.one (.p (.v .nilFunc))], .oth⟩),
 (60, ⟨1, false, [.one (.p (.v .nilFunc))], .oth⟩),
 (61, ⟨1, false, [.one (.p (.v .nilFunc))], .oth⟩),
 (62, ⟨1, false, [.one (.p (.v .nilFunc))], .oth⟩),
 (63, ⟨1, false, [.one (.p (.v .nilFunc))], .oth⟩),
 (65, ⟨1, false, [.one (.p (.v .nilFunc))], .oth⟩),
 (67, ⟨1, false, [.one (.p (.v .nilFunc))], .oth⟩),
 (68, ⟨33, true, [.one (.p (.v (.int .u64 0))), .key []], .st [(0, 1), (1, 32)]⟩),
 (69, ⟨33, true, [.one (.p (.v (.int .u64 0))), .key []], .st [(0, 1), (1, 32)]⟩),
 (70, ⟨1, false, [.one (.p (.v .nilFunc))], .oth⟩),
 (71, ⟨1, false, [.one (.p (.v .nilFunc))], .oth⟩),
 (72, ⟨1, false, [.one (.p (.v (.slice none 0 0)))], .sl 5 1⟩),
 (74, ⟨1, false, [.one (.p (.v .nilFunc))], .oth⟩),
 (75, ⟨1, false, [.one (.p (.v .nilFunc))], .oth⟩),
 (77, ⟨1, false, [.one (.p (.v .nilFunc))], .oth⟩),
 (78, ⟨1, false, [.one (.p (.v .nilFunc))], .oth⟩),
 (79, ⟨1, false, [.one (.p (.v .nilFunc))], .oth⟩),
 (80, ⟨1, false, [.one (.p (.v .nilFunc))], .oth⟩),
 (82, ⟨1, false, [.one (.p (.v .nilFunc))], .oth⟩),
 (83, ⟨1, false, [.one (.p (.v .nilFunc))], .oth⟩),
 (84, ⟨1, false, [.one (.p (.v .nilFunc))], .oth⟩),
 (85, ⟨1, false, [.one (.p (.v .nilFunc))], .oth⟩),
 (86, ⟨1, false, [.one (.p (.v .nilFunc))], .oth⟩),
 (87, ⟨1, false, [.one (.p (.v .nilFunc))], .oth⟩),
 (89, ⟨1, false, [.one (.p (.v .nilFunc))], .oth⟩),
 (90, ⟨1, false, [.one (.p (.v (.slice none 0 0)))], .sl 72 1⟩),
 (91, ⟨1, false, [.one (.p (.v .nilFunc))], .oth⟩),
 (92, ⟨1, false, [.one (.p (.v .nilFunc))], .oth⟩),
 (93, ⟨1, false, [.one (.p (.v .nilFunc))], .oth⟩),
 (94, ⟨1, false, [.one (.p (.v (.slice none 0 0)))], .sl 32 1⟩),
 (95, ⟨1, false, [.one (.p (.v .nilFunc))], .oth⟩),
 (96, ⟨1, false, [.one (.p (.v .nilFunc))], .oth⟩),
 (97, ⟨1, false, [.one (.p (.v .nilFunc))], .oth⟩),
 (98, ⟨1, false, [.one (.p (.v .nilFunc))], .oth⟩),
 (99, ⟨1, false, [.one (.p (.v .nilFunc))], .oth⟩),
 (100, ⟨1, false, [.one (.p (.v .nilFunc))], .oth⟩),
 (101, ⟨1, false, [.one (.p (.v .nilFunc))], .oth⟩),
 (102, ⟨1, false, [.one (.p (.v .nilFunc))], .oth⟩),
 (103, ⟨1, false, [.one (.p (.v .nilFunc))], .oth⟩),
 (104, ⟨1, false, [.one (.p (.v .nilFunc))], .oth⟩),
 (105, ⟨1, false, [.one (.p (.v .nilFunc))], .oth⟩),
 (106, ⟨1, false, [.one (.p (.v .nilFunc))], .oth⟩),
 (107, ⟨1, false, [.one (.p (.v .nilFunc))], .oth⟩),
 (108, ⟨1, false, [.one (.p (.v .nilFunc))], .oth⟩),
 (109, ⟨1, false, [.one (.p (.v .nilFunc))], .oth⟩),
 (110, ⟨1, false, [.one (.p (.v (.slice none 0 0)))], .sl 117 7⟩),
 (112, ⟨1, false, [.one (.p (.v .nilFunc))], .oth⟩),
 (113, ⟨1, false, [.one (.p (.v .nilFunc))], .oth⟩),
 (115, ⟨1, false, [.one (.p (.v .nilFunc))], .oth⟩),
 (116, ⟨7, true, [.one (.p (.v (.int .i64 0))), .one (.p (.v (.int .i64 0))), .one (.p (.v (.bool false))), .one (.p (.v (.int .i64 0))), .one (.p (.v (.int .i64 0))), .one (.p (.v (.slice none 0 0))), .one (.p (.v (.int .i64 0)))], .st [(0, 1), (1, 1), (2, 1), (3, 1), (4, 1), (5, 1), (6, 1)]⟩),
 (117, ⟨7, true, [.one (.p (.v (.int .i64 0))), .one (.p (.v (.int .i64 0))), .one (.p (.v (.bool false))), .one (.p (.v (.int .i64 0))), .one (.p (.v (.int .i64 0))), .one (.p (.v (.slice none 0 0))), .one (.p (.v (.int .i64 0)))], .st [(0, 1), (1, 1), (2, 1), (3, 1), (4, 1), (5, 1), (6, 1)]⟩),
 (118, ⟨1, false, [.one (.p (.v .nilFunc))], .oth⟩),
 (119, ⟨1, false, [.one (.p (.v .nilFunc))], .oth⟩),
 (120, ⟨1, false, [.one (.p (.v .nilFunc))], .oth⟩),
 (121, ⟨1, false, [.one (.p (.v .nilFunc))], .oth⟩),
 (122, ⟨1, false, [.one (.p (.v .nilFunc))], .oth⟩),
 (123, ⟨1, false, [.one (.p (.v .nilFunc))], .oth⟩),
 (124, ⟨1, false, [.one (.p (.v .nilFunc))], .oth⟩),
 (125, ⟨1, false, [.one (.p (.v (.int .i8 0)))], .int .i8⟩),
 (126, ⟨1, false, [.one (.p (.v (.int .i8 0)))], .int .i8⟩),
 (127, ⟨3, true, [.one (.p (.v (.slice none 0 0))), .one (.p (.v (.int .i64 0))), .one (.p (.v (.int .i8 0)))], .st [(0, 1), (1, 1), (2, 1)]⟩),
 (128, ⟨3, true, [.one (.p (.v (.slice none 0 0))), .one (.p (.v (.int .i64 0))), .one (.p (.v (.int .i8 0)))], .st [(0, 1), (1, 1), (2, 1)]⟩),
 (132, ⟨1, false, [.one (.p (.v .nilFunc))], .oth⟩),
 (133, ⟨1, false, [.one (.p (.v .nilFunc))], .oth⟩),
 (134, ⟨1, false, [.one (.p (.v .nilFunc))], .oth⟩),
 (135, ⟨1, false, [.one (.p (.v .nilFunc))], .oth⟩),
 (137, ⟨1, false, [.one (.p (.v .nilFunc))], .oth⟩),
 (138, ⟨1, false, [.one (.p (.v .nilFunc))], .oth⟩),
 (139, ⟨1, false, [.one (.p (.v .nilFunc))], .oth⟩),
 (140, ⟨1, false, [.one (.p (.v .nilFunc))], .oth⟩),
 (141, ⟨1, false, [.one (.p (.v .nilFunc))], .oth⟩),
 (143, ⟨1, false, [.one (.p (.v .nilFunc))], .oth⟩),
 (144, ⟨1, false, [.one (.p (.v .nilFunc))], .oth⟩),
 (145, ⟨1, false, [.one (.p (.v .nilFunc))], .oth⟩),
 (146, ⟨1, false, [.one (.p (.v .nilFunc))], .oth⟩),
 (147, ⟨1, false, [.one (.p (.v (.int .u32 0)))], .int .u32⟩),
 (148, ⟨8, true, [.row 8 fun _ => (.int .u32 0)], .arr 8 1⟩),
 (149, ⟨10, true, [.row 8 fun _ => (.int .u32 0), .one (.p (.v (.int .u64 0))), .one (.p (.v (.slice none 0 0)))], .st [(0, 8), (8, 1), (9, 1)]⟩),
 (150, ⟨10, true, [.row 8 fun _ => (.int .u32 0), .one (.p (.v (.int .u64 0))), .one (.p (.v (.slice none 0 0)))], .st [(0, 8), (8, 1), (9, 1)]⟩),
 (151, ⟨1, false, [.one (.p (.v .nilFunc))], .oth⟩),
 (152, ⟨1, false, [.one (.p (.v .nilFunc))], .oth⟩),
 (153, ⟨1, false, [.one (.p (.v (.pointer none)))], .oth⟩),
 (154, ⟨1, false, [.one (.p (.v .nilFunc))], .oth⟩),
 (155, ⟨1, false, [.one (.p (.v .nilFunc))], .oth⟩),
 (156, ⟨1, false, [.one (.p (.v .nilFunc))], .oth⟩),
 (157, ⟨1, false, [.one (.p (.v .nilFunc))], .oth⟩),
 (158, ⟨1, false, [.one (.p (.v .nilFunc))], .oth⟩),
 (159, ⟨1, false, [.one (.p (.v (.int .u64 0)))], .int .u64⟩),
 (160, ⟨1, false, [.one (.p (.v (.pointer none)))], .oth⟩),
 (161, ⟨1, false, [.one (.p (.v .nilFunc))], .oth⟩),
 (162, ⟨1, false, [.one (.p (.v .nilFunc))], .oth⟩),
 (163, ⟨1, false, [.one (.p (.v .nilFunc))], .oth⟩),
 (164, ⟨1, false, [.one (.p (.v (.pointer none)))], .oth⟩),
 (165, ⟨1, true, [.one (.p (.v (.int .i64 0)))], .st [(0, 1)]⟩),
 (166, ⟨1, true, [.one (.p (.v (.int .i64 0)))], .st [(0, 1)]⟩),
 (167, ⟨5, true, [.row 5 fun _ => (.int .u64 0)], .arr 5 1⟩),
 (168, ⟨5, true, [.row 5 fun _ => (.int .u64 0)], .arr 5 1⟩),
 (169, ⟨1, false, [.one (.p (.v .nilFunc))], .oth⟩),
 (170, ⟨10, true, [.row 5 fun _ => (.int .u64 0), .row 5 fun _ => (.int .u64 0)], .st [(0, 5), (5, 5)]⟩),
 (171, ⟨10, true, [.row 5 fun _ => (.int .u64 0), .row 5 fun _ => (.int .u64 0)], .st [(0, 5), (5, 5)]⟩),
 (172, ⟨1, false, [.one (.p (.v .nilFunc))], .oth⟩),
 (173, ⟨1, false, [.one (.p (.v .nilFunc))], .oth⟩),
 (174, ⟨1, false, [.one (.p (.v .nilFunc))], .oth⟩),
 (175, ⟨1, false, [.one (.p (.v (.pointer none)))], .oth⟩),
 (176, ⟨1, false, [.one (.p (.v .nilFunc))], .oth⟩),
 (177, ⟨1, false, [.one (.p (.v .nilFunc))], .oth⟩),
 (179, ⟨1, false, [.one (.p (.v .nilFunc))], .oth⟩),
 (180, ⟨16, true, [.row 16 fun _ => (.int .u64 0)], .arr 16 1⟩),
 (181, ⟨16, true, [.row 16 fun _ => (.int .u64 0)], .arr 16 1⟩),
 (182, ⟨1, false, [.one (.p (.v .nilFunc))], .oth⟩),
 (183, ⟨32, true, [.row 16 fun _ => (.int .u64 0), .row 16 fun _ => (.int .u64 0)], .st [(0, 16), (16, 16)]⟩),
 (184, ⟨32, true, [.row 16 fun _ => (.int .u64 0), .row 16 fun _ => (.int .u64 0)], .st [(0, 16), (16, 16)]⟩),
 (185, ⟨1, false, [.one (.p (.v .nilFunc))], .oth⟩),
 (186, ⟨1, false, [.one (.p (.v .nilFunc))], .oth⟩),
 (187, ⟨1, false, [.one (.p (.v .nilFunc))], .oth⟩),
 (188, ⟨1, false, [.one (.p (.v .nilFunc))], .oth⟩),
 (189, ⟨1, false, [.one (.p (.v .nilFunc))], .oth⟩),
 (190, ⟨1, false, [.one (.p (.v .nilFunc))], .oth⟩),
 (191, ⟨1, false, [.one (.p (.v .nilFunc))], .oth⟩),
 (192, ⟨1, false, [.one (.p (.v .nilFunc))], .oth⟩),
 (193, ⟨1, false, [.one (.p (.v .nilFunc))], .oth⟩),
 (194, ⟨1, false, [.one (.p (.v .nilFunc))], .oth⟩),
 (195, ⟨1, false, [.one (.p (.v .nilFunc))], .oth⟩),
 (196, ⟨1, false, [.one (.p (.v .nilFunc))], .oth⟩),
 (197, ⟨1, false, [.one (.p (.v .nilFunc))], .oth⟩),
 (198, ⟨1, false, [.one (.p (.v (.pointer none)))], .oth⟩),
 (199, ⟨64, true, [.row 64 fun _ => (.int .u32 0)], .arr 64 1⟩),
 (200, ⟨1, false, [.one (.p (.v .nilFunc))], .oth⟩),
 (201, ⟨1, false, [.one (.p (.v .nilFunc))], .oth⟩),
 (202, ⟨1, false, [.one (.p (.v .nilFunc))], .oth⟩),
 (203, ⟨1, false, [.one (.p (.v .nilFunc))], .oth⟩),
 (204, ⟨1, false, [.one (.p (.v .nilFunc))], .oth⟩),
 (205, ⟨1, false, [.one (.p (.v .nilFunc))], .oth⟩),
 (206, ⟨1, false, [.one (.p (.v .nilFunc))], .oth⟩),
 (207, ⟨1, false, [.one (.p (.v .nilFunc))], .oth⟩),
 (208, ⟨1, false, [.one (.p (.v .nilFunc))], .oth⟩),
 (209, ⟨1, false, [.one (.p (.v .nilFunc))], .oth⟩),
 (210, ⟨32, true, [.row 32 fun _ => (.int .u64 0)], .arr 32 1⟩),
 (211, ⟨1, false, [.one (.p (.v .nilFunc))], .oth⟩),
 (212, ⟨1, false, [.one (.p (.v .nilFunc))], .oth⟩),
 (213, ⟨1, false, [.one (.p (.v .nilFunc))], .oth⟩),
 (214, ⟨16, true, [.row 16 fun _ => (.int .u32 0)], .arr 16 1⟩),
 (215, ⟨1, false, [.one (.p (.v .nilFunc))], .oth⟩),
 (216, ⟨1, false, [.one (.p (.v .nilFunc))], .oth⟩),
 (217, ⟨1, false, [.one (.p (.v (.slice none 0 0)))], .sl 168 5⟩),
 (218, ⟨1, false, [.one (.p (.v .nilFunc))], .oth⟩),
 (219, ⟨1, false, [.one (.p (.v .nilFunc))], .oth⟩),
 (220, ⟨1, false, [.one (.p (.v .nilFunc))], .oth⟩),
 (221, ⟨2, true, [.one (.p (.v (.int .u64 0))), .one (.p (.v (.int .u64 0)))], .st [(0, 1), (1, 1)]⟩),
 (222, ⟨2, true, [.one (.p (.v (.int .u64 0))), .one (.p (.v (.int .u64 0)))], .st [(0, 1), (1, 1)]⟩),
 (223, ⟨10, true, [.one (.p (.v (.int .u64 0))), .one (.p (.v (.int .u64 0))), .one (.p (.v (.int .u64 0))), .one (.p (.v (.int .u64 0))), .one (.p (.v (.int .u64 0))), .one (.p (.v (.int .u64 0))), .one (.p (.v (.int .u64 0))), .one (.p (.v (.int .u64 0))), .one (.p (.v (.int .u64 0))), .one (.p (.v (.int .u64 0)))], .arr 5 2⟩),
 (224, ⟨1, false, [.one (.p (.v .nilFunc))], .oth⟩),
 (226, ⟨1, false, [.one (.p (.v .nilFunc))], .oth⟩),
 (227, ⟨1, false, [.one (.p (.v .nilFunc))], .oth⟩),
 (228, ⟨1, false, [.one (.p (.v .nilFunc))], .oth⟩),
 (229, ⟨1, false, [.one (.p (.v .nilFunc))], .oth⟩),
 (230, ⟨1, false, [.one (.p (.v .nilFunc))], .oth⟩),
 (231, ⟨1, false, [.one (.p (.v .nilFunc))], .oth⟩),
 (232, ⟨1, false, [.one (.p (.v .nilFunc))], .oth⟩),
 (233, ⟨1, false, [.one (.p (.v .nilFunc))], .oth⟩),
 (234, ⟨1, false, [.one (.p (.v .nilFunc))], .oth⟩),
 (235, ⟨1, false, [.one (.p (.v .nilFunc))], .oth⟩),
 (236, ⟨1, false, [.one (.p (.v (.pointer none)))], .oth⟩),
 (237, ⟨1, false, [.one (.p (.v .nilFunc))], .oth⟩),
 (238, ⟨4, true, [.one (.p (.v (.pointer none))), .one (.p (.v (.pointer none))), .one (.p (.v (.pointer none))), .one (.p (.v (.string ⟨#[]⟩)))], .st [(0, 1), (1, 1), (2, 1), (3, 1)]⟩),
 (239, ⟨4, true, [.one (.p (.v (.pointer none))), .one (.p (.v (.pointer none))), .one (.p (.v (.pointer none))), .one (.p (.v (.string ⟨#[]⟩)))], .st [(0, 1), (1, 1), (2, 1), (3, 1)]⟩),
 (240, ⟨0, true, [.row 0 fun _ => (.pointer none)], .arr 0 1⟩),
 (241, ⟨0, true, [.row 0 fun _ => (.pointer none)], .st [(0, 0)]⟩),
 (242, ⟨0, true, [.row 0 fun _ => (.pointer none)], .st [(0, 0)]⟩),
 (243, ⟨1, false, [.one (.p (.v (.int .u8 0)))], .int .u8⟩),
 (244, ⟨1, false, [.one (.p (.v (.int .u8 0)))], .int .u8⟩),
 (245, ⟨1, false, [.one (.p (.v .nilFunc))], .oth⟩),
 (246, ⟨1, false, [.one (.p (.v (.pointer none)))], .oth⟩),
 (247, ⟨1, false, [.one (.p (.v (.int .i32 0)))], .int .i32⟩),
 (248, ⟨1, false, [.one (.p (.v (.int .i32 0)))], .int .i32⟩),
 (249, ⟨11, true, [.one (.p (.v (.int .u64 0))), .one (.p (.v (.int .u64 0))), .one (.p (.v (.int .u32 0))), .one (.p (.v (.int .u8 0))), .one (.p (.v (.int .u8 0))), .one (.p (.v (.int .u8 0))), .one (.p (.v (.int .u8 0))), .one (.p (.v .nilFunc)), .one (.p (.v (.pointer none))), .one (.p (.v (.int .i32 0))), .one (.p (.v (.int .i32 0)))], .st [(0, 1), (1, 1), (2, 1), (3, 1), (4, 1), (5, 1), (6, 1), (7, 1), (8, 1), (9, 1), (10, 1)]⟩),
 (250, ⟨11, true, [.one (.p (.v (.int .u64 0))), .one (.p (.v (.int .u64 0))), .one (.p (.v (.int .u32 0))), .one (.p (.v (.int .u8 0))), .one (.p (.v (.int .u8 0))), .one (.p (.v (.int .u8 0))), .one (.p (.v (.int .u8 0))), .one (.p (.v .nilFunc)), .one (.p (.v (.pointer none))), .one (.p (.v (.int .i32 0))), .one (.p (.v (.int .i32 0)))], .st [(0, 1), (1, 1), (2, 1), (3, 1), (4, 1), (5, 1), (6, 1), (7, 1), (8, 1), (9, 1), (10, 1)]⟩),
 (251, ⟨1, true, [.one (.p (.v (.string ⟨#[]⟩)))], .st [(0, 1)]⟩),
 (252, ⟨1, true, [.one (.p (.v (.string ⟨#[]⟩)))], .st [(0, 1)]⟩),
 (254, ⟨1, false, [.one (.p (.v .nilFunc))], .oth⟩)]
theorem zan : zbz Tryz.prog tab := Tc (by kernel_rfl) (fun _ => by kernel_rfl) (trivial) (
 Tc (by kernel_rfl) (fun _ => by kernel_rfl) (zfj (by kernel_rfl)) (
 Tc (by kernel_rfl) (fun _ => by kernel_rfl) (zfj (by kernel_rfl)) (
 Tc (by kernel_rfl) (fun _ => by kernel_rfl) (trivial) (
 Tc (by kernel_rfl) (fun _ => by kernel_rfl) (zfj (by kernel_rfl)) (
 Tc (by kernel_rfl) (fun _ => by kernel_rfl) (zfj (by kernel_rfl)) (
 Tc (by kernel_rfl) (fun _ => by kernel_rfl) (zdN (by kernel_rfl) (FZc (by kernel_rfl) (FZc (by kernel_rfl) (FZc (by kernel_rfl) (FZc (by kernel_rfl) (trivial)))))) (
 Tc (by kernel_rfl) (fun _ => by kernel_rfl) (zdN (by kernel_rfl) (FZc (by kernel_rfl) (FZc (by kernel_rfl) (FZc (by kernel_rfl) (FZc (by kernel_rfl) (trivial)))))) (
 Tc (by kernel_rfl) (fun _ => by kernel_rfl) (zfj (by kernel_rfl)) (
 Tc (by kernel_rfl) (fun _ => by kernel_rfl) (zdN (by kernel_rfl) (FZc (by kernel_rfl) (FZc (by kernel_rfl) (trivial)))) (
 Tc (by kernel_rfl) (fun _ => by kernel_rfl) (zdN (by kernel_rfl) (FZc (by kernel_rfl) (FZc (by kernel_rfl) (trivial)))) (
 Tc (by kernel_rfl) (fun _ => by kernel_rfl) (trivial) (
 Tc (by kernel_rfl) (fun _ => by kernel_rfl) (trivial) (
 Tc (by kernel_rfl) (fun _ => by kernel_rfl) (trivial) (
 Tc (by kernel_rfl) (fun _ => by kernel_rfl) (zdN (by kernel_rfl) (FZc (by kernel_rfl) (trivial))) (
 Tc (by kernel_rfl) (fun _ => by kernel_rfl) (zdN (by kernel_rfl) (FZc (by kernel_rfl) (trivial))) (
 Tc (by kernel_rfl) (fun _ => by kernel_rfl) (zfj (by kernel_rfl)) (
 Tc (by kernel_rfl) (fun _ => by kernel_rfl) (zDW Tryz.underlying22 Tryz.underlying5 (by kernel_rfl) (by kernel_rfl) (by kernel_rfl) (by kernel_rfl)) (
 Tc (by kernel_rfl) (fun _ => by kernel_rfl) (zDW Tryz.underlying23 Tryz.underlying5 (by kernel_rfl) (by kernel_rfl) (by kernel_rfl) (by kernel_rfl)) (
 Tc (by kernel_rfl) (fun _ => by kernel_rfl) (zw7 (by kernel_rfl) (by kernel_rfl)) (
 Tc (by kernel_rfl) (fun _ => by kernel_rfl) (trivial) (
 Tc (by kernel_rfl) (fun _ => by kernel_rfl) (zw7 (by kernel_rfl) (by kernel_rfl)) (
 Tc (by kernel_rfl) (fun _ => by kernel_rfl) (zdN (by kernel_rfl) (FZc (by kernel_rfl) (FZc (by kernel_rfl) (trivial)))) (
 Tc (by kernel_rfl) (fun _ => by kernel_rfl) (zdN (by kernel_rfl) (FZc (by kernel_rfl) (FZc (by kernel_rfl) (trivial)))) (
 Tc (by kernel_rfl) (fun _ => by kernel_rfl) (zw7 (by kernel_rfl) (by kernel_rfl)) (
 Tc (by kernel_rfl) (fun _ => by kernel_rfl) (zdN (by kernel_rfl) (FZc (by kernel_rfl) (FZc (by kernel_rfl) (FZc (by kernel_rfl) (trivial))))) (
 Tc (by kernel_rfl) (fun _ => by kernel_rfl) (zdN (by kernel_rfl) (FZc (by kernel_rfl) (FZc (by kernel_rfl) (FZc (by kernel_rfl) (trivial))))) (
 Tc (by kernel_rfl) (fun _ => by kernel_rfl) (zfj (by kernel_rfl)) (
 Tc (by kernel_rfl) (fun _ => by kernel_rfl) (zdN (by kernel_rfl) (FZc (by kernel_rfl) (FZc (by kernel_rfl) (FZc (by kernel_rfl) (FZc (by kernel_rfl) (FZc (by kernel_rfl) (FZc (by kernel_rfl) (trivial)))))))) (
 Tc (by kernel_rfl) (fun _ => by kernel_rfl) (zdN (by kernel_rfl) (FZc (by kernel_rfl) (FZc (by kernel_rfl) (FZc (by kernel_rfl) (FZc (by kernel_rfl) (FZc (by kernel_rfl) (FZc (by kernel_rfl) (trivial)))))))) (
 Tc (by kernel_rfl) (fun _ => by kernel_rfl) (zw7 (by kernel_rfl) (by kernel_rfl)) (
 Tc (by kernel_rfl) (fun _ => by kernel_rfl) (zdN (by kernel_rfl) (FZc (by kernel_rfl) (FZc (by kernel_rfl) (FZc (by kernel_rfl) (FZc (by kernel_rfl) (FZc (by kernel_rfl) (FZc (by kernel_rfl) (FZc (by kernel_rfl) (trivial))))))))) (
 Tc (by kernel_rfl) (fun _ => by kernel_rfl) (zdN (by kernel_rfl) (FZc (by kernel_rfl) (FZc (by kernel_rfl) (FZc (by kernel_rfl) (FZc (by kernel_rfl) (FZc (by kernel_rfl) (FZc (by kernel_rfl) (FZc (by kernel_rfl) (trivial))))))))) (
 Tc (by kernel_rfl) (fun _ => by kernel_rfl) (zfj (by kernel_rfl)) (
 Tc (by kernel_rfl) (fun _ => by kernel_rfl) (trivial) (
 Tc (by kernel_rfl) (fun _ => by kernel_rfl) (trivial) (
 Tc (by kernel_rfl) (fun _ => by kernel_rfl) (trivial) (
 Tc (by kernel_rfl) (fun _ => by kernel_rfl) (zw7 (by kernel_rfl) (by kernel_rfl)) (
 Tc (by kernel_rfl) (fun _ => by kernel_rfl) (zdN (by kernel_rfl) (FZc (by kernel_rfl) (FZc (by kernel_rfl) (FZc (by kernel_rfl) (trivial))))) (
 Tc (by kernel_rfl) (fun _ => by kernel_rfl) (zdN (by kernel_rfl) (FZc (by kernel_rfl) (FZc (by kernel_rfl) (FZc (by kernel_rfl) (trivial))))) (
 Tc (by kernel_rfl) (fun _ => by kernel_rfl) (trivial) (
 Tc (by kernel_rfl) (fun _ => by kernel_rfl) (trivial) (
 Tc (by kernel_rfl) (fun _ => by kernel_rfl) (trivial) (
 Tc (by kernel_rfl) (fun _ => by kernel_rfl) (trivial) (
 Tc (by kernel_rfl) (fun _ => by kernel_rfl) (trivial) (
 Tc (by kernel_rfl) (fun _ => by kernel_rfl) (trivial) (
 Tc (by kernel_rfl) (fun _ => by kernel_rfl) (trivial) (
 Tc (by kernel_rfl) (fun _ => by kernel_rfl) (trivial) (
 Tc (by kernel_rfl) (fun _ => by kernel_rfl) (zdN (by kernel_rfl) (FZc (by kernel_rfl) (FZc (by kernel_rfl) (FZc (by kernel_rfl) (trivial))))) (
 Tc (by kernel_rfl) (fun _ => by kernel_rfl) (zdN (by kernel_rfl) (FZc (by kernel_rfl) (FZc (by kernel_rfl) (FZc (by kernel_rfl) (trivial))))) (
 Tc (by kernel_rfl) (fun _ => by kernel_rfl) (trivial) (
 Tc (by kernel_rfl) (fun _ => by kernel_rfl) (trivial) (
 Tc (by kernel_rfl) (fun _ => by kernel_rfl) (trivial) (
 Tc (by kernel_rfl) (fun _ => by kernel_rfl) (trivial) (
 Tc (by kernel_rfl) (fun _ => by kernel_rfl) (trivial) (
 Tc (by kernel_rfl) (fun _ => by kernel_rfl) (trivial) (
 Tc (by kernel_rfl) (fun _ => by kernel_rfl) (trivial) (
 Tc (by kernel_rfl) (fun _ => by kernel_rfl) (zdN (by kernel_rfl) (FZc (by kernel_rfl) (FZc (by kernel_rfl) (trivial)))) (
 Tc (by kernel_rfl) (fun _ => by kernel_rfl) (zdN (by kernel_rfl) (FZc (by kernel_rfl) (FZc (by kernel_rfl) (trivial)))) (
 Tc (by kernel_rfl) (fun _ => by kernel_rfl) (trivial) (
 Tc (by kernel_rfl) (fun _ => by kernel_rfl) (trivial) (
 Tc (by kernel_rfl) (fun _ => by kernel_rfl) (zw7 (by kernel_rfl) (by kernel_rfl)) (
 Tc (by kernel_rfl) (fun _ => by kernel_rfl) (trivial) (
 Tc (by kernel_rfl) (fun _ => by kernel_rfl) (trivial) (
 Tc (by kernel_rfl) (fun _ => by kernel_rfl) (trivial) (
 Tc (by kernel_rfl) (fun _ => by kernel_rfl) (trivial) (
 Tc (by kernel_rfl) (fun _ => by kernel_rfl) (trivial) (
 Tc (by kernel_rfl) (fun _ => by kernel_rfl) (trivial) (
 Tc (by kernel_rfl) (fun _ => by kernel_rfl) (trivial) (
 Tc (by kernel_rfl) (fun _ => by kernel_rfl) (trivial) (
 Tc (by kernel_rfl) (fun _ => by kernel_rfl) (trivial) (
 Tc (by kernel_rfl) (fun _ => by kernel_rfl) (trivial) (
 Tc (by kernel_rfl) (fun _ => by kernel_rfl) (trivial) (
 Tc (by kernel_rfl) (fun _ => by kernel_rfl) (trivial) (
 Tc (by kernel_rfl) (fun _ => by kernel_rfl) (trivial) (
 Tc (by kernel_rfl) (fun _ => by kernel_rfl) (zw7 (by kernel_rfl) (by kernel_rfl)) (
 Tc (by kernel_rfl) (fun _ => by kernel_rfl) (trivial) (
 Tc (by kernel_rfl) (fun _ => by kernel_rfl) (trivial) (
 Tc (by kernel_rfl) (fun _ => by kernel_rfl) (trivial) (
 Tc (by kernel_rfl) (fun _ => by kernel_rfl) (zw7 (by kernel_rfl) (by kernel_rfl)) (
 Tc (by kernel_rfl) (fun _ => by kernel_rfl) (trivial) (
 Tc (by kernel_rfl) (fun _ => by kernel_rfl) (trivial) (
 Tc (by kernel_rfl) (fun _ => by kernel_rfl) (trivial) (
 Tc (by kernel_rfl) (fun _ => by kernel_rfl) (trivial) (
 Tc (by kernel_rfl) (fun _ => by kernel_rfl) (trivial) (
 Tc (by kernel_rfl) (fun _ => by kernel_rfl) (trivial) (
 Tc (by kernel_rfl) (fun _ => by kernel_rfl) (trivial) (
 Tc (by kernel_rfl) (fun _ => by kernel_rfl) (trivial) (
 Tc (by kernel_rfl) (fun _ => by kernel_rfl) (trivial) (
 Tc (by kernel_rfl) (fun _ => by kernel_rfl) (trivial) (
 Tc (by kernel_rfl) (fun _ => by kernel_rfl) (trivial) (
 Tc (by kernel_rfl) (fun _ => by kernel_rfl) (trivial) (
 Tc (by kernel_rfl) (fun _ => by kernel_rfl) (trivial) (
 Tc (by kernel_rfl) (fun _ => by kernel_rfl) (trivial) (
 Tc (by kernel_rfl) (fun _ => by kernel_rfl) (trivial) (
 Tc (by kernel_rfl) (fun _ => by kernel_rfl) (zw7 (by kernel_rfl) (by kernel_rfl)) (
 Tc (by kernel_rfl) (fun _ => by kernel_rfl) (trivial) (
 Tc (by kernel_rfl) (fun _ => by kernel_rfl) (trivial) (
 Tc (by kernel_rfl) (fun _ => by kernel_rfl) (trivial) (
 Tc (by kernel_rfl) (fun _ => by kernel_rfl) (zdN (by kernel_rfl) (FZc (by kernel_rfl) (FZc (by kernel_rfl) (FZc (by kernel_rfl) (FZc (by kernel_rfl) (FZc (by kernel_rfl) (FZc (by kernel_rfl) (FZc (by kernel_rfl) (trivial))))))))) (
 Tc (by kernel_rfl) (fun _ => by kernel_rfl) (zdN (by kernel_rfl) (FZc (by kernel_rfl) (FZc (by kernel_rfl) (FZc (by kernel_rfl) (FZc (by kernel_rfl) (FZc (by kernel_rfl) (FZc (by kernel_rfl) (FZc (by kernel_rfl) (trivial))))))))) (
 Tc (by kernel_rfl) (fun _ => by kernel_rfl) (trivial) (
 Tc (by kernel_rfl) (fun _ => by kernel_rfl) (trivial) (
 Tc (by kernel_rfl) (fun _ => by kernel_rfl) (trivial) (
 Tc (by kernel_rfl) (fun _ => by kernel_rfl) (trivial) (
 Tc (by kernel_rfl) (fun _ => by kernel_rfl) (trivial) (
 Tc (by kernel_rfl) (fun _ => by kernel_rfl) (trivial) (
 Tc (by kernel_rfl) (fun _ => by kernel_rfl) (trivial) (
 Tc (by kernel_rfl) (fun _ => by kernel_rfl) (zfj (by kernel_rfl)) (
 Tc (by kernel_rfl) (fun _ => by kernel_rfl) (zfj (by kernel_rfl)) (
 Tc (by kernel_rfl) (fun _ => by kernel_rfl) (zdN (by kernel_rfl) (FZc (by kernel_rfl) (FZc (by kernel_rfl) (FZc (by kernel_rfl) (trivial))))) (
 Tc (by kernel_rfl) (fun _ => by kernel_rfl) (zdN (by kernel_rfl) (FZc (by kernel_rfl) (FZc (by kernel_rfl) (FZc (by kernel_rfl) (trivial))))) (
 Tc (by kernel_rfl) (fun _ => by kernel_rfl) (trivial) (
 Tc (by kernel_rfl) (fun _ => by kernel_rfl) (trivial) (
 Tc (by kernel_rfl) (fun _ => by kernel_rfl) (trivial) (
 Tc (by kernel_rfl) (fun _ => by kernel_rfl) (trivial) (
 Tc (by kernel_rfl) (fun _ => by kernel_rfl) (trivial) (
 Tc (by kernel_rfl) (fun _ => by kernel_rfl) (trivial) (
 Tc (by kernel_rfl) (fun _ => by kernel_rfl) (trivial) (
 Tc (by kernel_rfl) (fun _ => by kernel_rfl) (trivial) (
 Tc (by kernel_rfl) (fun _ => by kernel_rfl) (trivial) (
 Tc (by kernel_rfl) (fun _ => by kernel_rfl) (trivial) (
 Tc (by kernel_rfl) (fun _ => by kernel_rfl) (trivial) (
 Tc (by kernel_rfl) (fun _ => by kernel_rfl) (trivial) (
 Tc (by kernel_rfl) (fun _ => by kernel_rfl) (trivial) (
 Tc (by kernel_rfl) (fun _ => by kernel_rfl) (zfj (by kernel_rfl)) (
 Tc (by kernel_rfl) (fun _ => by kernel_rfl) (zgg (by kernel_rfl) (by kernel_rfl)) (
 Tc (by kernel_rfl) (fun _ => by kernel_rfl) (zdN (by kernel_rfl) (FZc (by kernel_rfl) (FZc (by kernel_rfl) (FZc (by kernel_rfl) (trivial))))) (
 Tc (by kernel_rfl) (fun _ => by kernel_rfl) (zdN (by kernel_rfl) (FZc (by kernel_rfl) (FZc (by kernel_rfl) (FZc (by kernel_rfl) (trivial))))) (
 Tc (by kernel_rfl) (fun _ => by kernel_rfl) (trivial) (
 Tc (by kernel_rfl) (fun _ => by kernel_rfl) (trivial) (
 Tc (by kernel_rfl) (fun _ => by kernel_rfl) (trivial) (
 Tc (by kernel_rfl) (fun _ => by kernel_rfl) (trivial) (
 Tc (by kernel_rfl) (fun _ => by kernel_rfl) (trivial) (
 Tc (by kernel_rfl) (fun _ => by kernel_rfl) (trivial) (
 Tc (by kernel_rfl) (fun _ => by kernel_rfl) (trivial) (
 Tc (by kernel_rfl) (fun _ => by kernel_rfl) (trivial) (
 Tc (by kernel_rfl) (fun _ => by kernel_rfl) (zfj (by kernel_rfl)) (
 Tc (by kernel_rfl) (fun _ => by kernel_rfl) (trivial) (
 Tc (by kernel_rfl) (fun _ => by kernel_rfl) (trivial) (
 Tc (by kernel_rfl) (fun _ => by kernel_rfl) (trivial) (
 Tc (by kernel_rfl) (fun _ => by kernel_rfl) (trivial) (
 Tc (by kernel_rfl) (fun _ => by kernel_rfl) (trivial) (
 Tc (by kernel_rfl) (fun _ => by kernel_rfl) (zdN (by kernel_rfl) (FZc (by kernel_rfl) (trivial))) (
 Tc (by kernel_rfl) (fun _ => by kernel_rfl) (zdN (by kernel_rfl) (FZc (by kernel_rfl) (trivial))) (
 Tc (by kernel_rfl) (fun _ => by kernel_rfl) (zgg (by kernel_rfl) (by kernel_rfl)) (
 Tc (by kernel_rfl) (fun _ => by kernel_rfl) (zgg (by kernel_rfl) (by kernel_rfl)) (
 Tc (by kernel_rfl) (fun _ => by kernel_rfl) (trivial) (
 Tc (by kernel_rfl) (fun _ => by kernel_rfl) (zdN (by kernel_rfl) (FZc (by kernel_rfl) (FZc (by kernel_rfl) (trivial)))) (
 Tc (by kernel_rfl) (fun _ => by kernel_rfl) (zdN (by kernel_rfl) (FZc (by kernel_rfl) (FZc (by kernel_rfl) (trivial)))) (
 Tc (by kernel_rfl) (fun _ => by kernel_rfl) (trivial) (
 Tc (by kernel_rfl) (fun _ => by kernel_rfl) (trivial) (
 Tc (by kernel_rfl) (fun _ => by kernel_rfl) (trivial) (
 Tc (by kernel_rfl) (fun _ => by kernel_rfl) (trivial) (
 Tc (by kernel_rfl) (fun _ => by kernel_rfl) (trivial) (
 Tc (by kernel_rfl) (fun _ => by kernel_rfl) (trivial) (
 Tc (by kernel_rfl) (fun _ => by kernel_rfl) (trivial) (
 Tc (by kernel_rfl) (fun _ => by kernel_rfl) (zgg (by kernel_rfl) (by kernel_rfl)) (
 Tc (by kernel_rfl) (fun _ => by kernel_rfl) (zgg (by kernel_rfl) (by kernel_rfl)) (
 Tc (by kernel_rfl) (fun _ => by kernel_rfl) (trivial) (
 Tc (by kernel_rfl) (fun _ => by kernel_rfl) (zdN (by kernel_rfl) (FZc (by kernel_rfl) (FZc (by kernel_rfl) (trivial)))) (
 Tc (by kernel_rfl) (fun _ => by kernel_rfl) (zdN (by kernel_rfl) (FZc (by kernel_rfl) (FZc (by kernel_rfl) (trivial)))) (
 Tc (by kernel_rfl) (fun _ => by kernel_rfl) (trivial) (
 Tc (by kernel_rfl) (fun _ => by kernel_rfl) (trivial) (
 Tc (by kernel_rfl) (fun _ => by kernel_rfl) (trivial) (
 Tc (by kernel_rfl) (fun _ => by kernel_rfl) (trivial) (
 Tc (by kernel_rfl) (fun _ => by kernel_rfl) (trivial) (
 Tc (by kernel_rfl) (fun _ => by kernel_rfl) (trivial) (
 Tc (by kernel_rfl) (fun _ => by kernel_rfl) (trivial) (
 Tc (by kernel_rfl) (fun _ => by kernel_rfl) (trivial) (
 Tc (by kernel_rfl) (fun _ => by kernel_rfl) (trivial) (
 Tc (by kernel_rfl) (fun _ => by kernel_rfl) (trivial) (
 Tc (by kernel_rfl) (fun _ => by kernel_rfl) (trivial) (
 Tc (by kernel_rfl) (fun _ => by kernel_rfl) (trivial) (
 Tc (by kernel_rfl) (fun _ => by kernel_rfl) (trivial) (
 Tc (by kernel_rfl) (fun _ => by kernel_rfl) (trivial) (
 Tc (by kernel_rfl) (fun _ => by kernel_rfl) (zgg (by kernel_rfl) (by kernel_rfl)) (
 Tc (by kernel_rfl) (fun _ => by kernel_rfl) (trivial) (
 Tc (by kernel_rfl) (fun _ => by kernel_rfl) (trivial) (
 Tc (by kernel_rfl) (fun _ => by kernel_rfl) (trivial) (
 Tc (by kernel_rfl) (fun _ => by kernel_rfl) (trivial) (
 Tc (by kernel_rfl) (fun _ => by kernel_rfl) (trivial) (
 Tc (by kernel_rfl) (fun _ => by kernel_rfl) (trivial) (
 Tc (by kernel_rfl) (fun _ => by kernel_rfl) (trivial) (
 Tc (by kernel_rfl) (fun _ => by kernel_rfl) (trivial) (
 Tc (by kernel_rfl) (fun _ => by kernel_rfl) (trivial) (
 Tc (by kernel_rfl) (fun _ => by kernel_rfl) (trivial) (
 Tc (by kernel_rfl) (fun _ => by kernel_rfl) (zgg (by kernel_rfl) (by kernel_rfl)) (
 Tc (by kernel_rfl) (fun _ => by kernel_rfl) (trivial) (
 Tc (by kernel_rfl) (fun _ => by kernel_rfl) (trivial) (
 Tc (by kernel_rfl) (fun _ => by kernel_rfl) (trivial) (
 Tc (by kernel_rfl) (fun _ => by kernel_rfl) (zgg (by kernel_rfl) (by kernel_rfl)) (
 Tc (by kernel_rfl) (fun _ => by kernel_rfl) (trivial) (
 Tc (by kernel_rfl) (fun _ => by kernel_rfl) (trivial) (
 Tc (by kernel_rfl) (fun _ => by kernel_rfl) (zw7 (by kernel_rfl) (by kernel_rfl)) (
 Tc (by kernel_rfl) (fun _ => by kernel_rfl) (trivial) (
 Tc (by kernel_rfl) (fun _ => by kernel_rfl) (trivial) (
 Tc (by kernel_rfl) (fun _ => by kernel_rfl) (trivial) (
 Tc (by kernel_rfl) (fun _ => by kernel_rfl) (zdN (by kernel_rfl) (FZc (by kernel_rfl) (FZc (by kernel_rfl) (trivial)))) (
 Tc (by kernel_rfl) (fun _ => by kernel_rfl) (zdN (by kernel_rfl) (FZc (by kernel_rfl) (FZc (by kernel_rfl) (trivial)))) (
 Tc (by kernel_rfl) (fun _ => by kernel_rfl) (zFU (by kernel_rfl) (by decide)) (
 Tc (by kernel_rfl) (fun _ => by kernel_rfl) (trivial) (
 Tc (by kernel_rfl) (fun _ => by kernel_rfl) (trivial) (
 Tc (by kernel_rfl) (fun _ => by kernel_rfl) (trivial) (
 Tc (by kernel_rfl) (fun _ => by kernel_rfl) (trivial) (
 Tc (by kernel_rfl) (fun _ => by kernel_rfl) (trivial) (
 Tc (by kernel_rfl) (fun _ => by kernel_rfl) (trivial) (
 Tc (by kernel_rfl) (fun _ => by kernel_rfl) (trivial) (
 Tc (by kernel_rfl) (fun _ => by kernel_rfl) (trivial) (
 Tc (by kernel_rfl) (fun _ => by kernel_rfl) (trivial) (
 Tc (by kernel_rfl) (fun _ => by kernel_rfl) (trivial) (
 Tc (by kernel_rfl) (fun _ => by kernel_rfl) (trivial) (
 Tc (by kernel_rfl) (fun _ => by kernel_rfl) (trivial) (
 Tc (by kernel_rfl) (fun _ => by kernel_rfl) (trivial) (
 Tc (by kernel_rfl) (fun _ => by kernel_rfl) (zdN (by kernel_rfl) (FZc (by kernel_rfl) (FZc (by kernel_rfl) (FZc (by kernel_rfl) (FZc (by kernel_rfl) (trivial)))))) (
 Tc (by kernel_rfl) (fun _ => by kernel_rfl) (zdN (by kernel_rfl) (FZc (by kernel_rfl) (FZc (by kernel_rfl) (FZc (by kernel_rfl) (FZc (by kernel_rfl) (trivial)))))) (
 Tc (by kernel_rfl) (fun _ => by kernel_rfl) (zgg (by kernel_rfl) (by kernel_rfl)) (
 Tc (by kernel_rfl) (fun _ => by kernel_rfl) (zdN (by kernel_rfl) (FZc (by kernel_rfl) (trivial))) (
 Tc (by kernel_rfl) (fun _ => by kernel_rfl) (zdN (by kernel_rfl) (FZc (by kernel_rfl) (trivial))) (
 Tc (by kernel_rfl) (fun _ => by kernel_rfl) (zfj (by kernel_rfl)) (
 Tc (by kernel_rfl) (fun _ => by kernel_rfl) (zfj (by kernel_rfl)) (
 Tc (by kernel_rfl) (fun _ => by kernel_rfl) (trivial) (
 Tc (by kernel_rfl) (fun _ => by kernel_rfl) (trivial) (
 Tc (by kernel_rfl) (fun _ => by kernel_rfl) (zfj (by kernel_rfl)) (
 Tc (by kernel_rfl) (fun _ => by kernel_rfl) (zfj (by kernel_rfl)) (
 Tc (by kernel_rfl) (fun _ => by kernel_rfl) (zdN (by kernel_rfl) (FZc (by kernel_rfl) (FZc (by kernel_rfl) (FZc (by kernel_rfl) (FZc (by kernel_rfl) (FZc (by kernel_rfl) (FZc (by kernel_rfl) (FZc (by kernel_rfl) (FZc (by kernel_rfl) (FZc (by kernel_rfl) (FZc (by kernel_rfl) (FZc (by kernel_rfl) (trivial))))))))))))) (
 Tc (by kernel_rfl) (fun _ => by kernel_rfl) (zdN (by kernel_rfl) (FZc (by kernel_rfl) (FZc (by kernel_rfl) (FZc (by kernel_rfl) (FZc (by kernel_rfl) (FZc (by kernel_rfl) (FZc (by kernel_rfl) (FZc (by kernel_rfl) (FZc (by kernel_rfl) (FZc (by kernel_rfl) (FZc (by kernel_rfl) (FZc (by kernel_rfl) (trivial))))))))))))) (
 Tc (by kernel_rfl) (fun _ => by kernel_rfl) (zdN (by kernel_rfl) (FZc (by kernel_rfl) (trivial))) (
 Tc (by kernel_rfl) (fun _ => by kernel_rfl) (zdN (by kernel_rfl) (FZc (by kernel_rfl) (trivial))) (
 Tc (by kernel_rfl) (fun _ => by kernel_rfl) (trivial) (trivial))))))))))))))))))))))))))))))))))))))))))))))))))))))))))))))))))))))))))))))))))))))))))))))))))))))))))))))))))))))))))))))))))))))))))))))))))))))))))))))))))))))))))))))))))))))))))))))))))))))))))))))))))))))))))))))))))))))
end
section
open Go.RowKit
def zz1 (x s : Nat) : Nat := orW (ztb x s) (zsh x (32 - s))
def zny (x a b sh : Nat) : Nat := zcy (zcy (zz1 x (32 - a)) (zz1 x (32 - b))) (zsh x sh)
def zho (x a b c : Nat) : Nat := zcy (zcy (zz1 x (32 - a)) (zz1 x (32 - b))) (zz1 x (32 - c))
theorem zBk : ∀ a : Fin 32, 1 ≤ a.val → IntKind.u64.wrap (((BitVec.ofInt 64 (IntKind.u64.wrap (-((a.val : Nat) : Int))) &&& BitVec.ofInt 64 31).toNat : Nat) : Int) = (((32 - a.val : Nat)) : Int) := by decide
def zuB (l : List Nat) : Nat := orW (orW (orW (ztb (l.getD 0 0 % 4294967296) 24) (ztb (l.getD 1 0 % 4294967296) 16)) (ztb (l.getD 2 0 % 4294967296) 8)) (l.getD 3 0 % 4294967296)
def zkV (k : List Nat) (n : Nat) : Nat → Nat := fun i => if i < n then zuB (k.drop (4 * i)) else 0
def zem (w : Nat → Nat) (t : Nat) : Nat → Nat := if 16 ≤ t then upd w (t % 16) (zb1 (w (t % 16)) (zb1 (zb1 (zny (w ((t + 1) % 16)) 7 18 3) (w ((t + 9) % 16))) (zny (w ((t + 14) % 16)) 17 19 10))) else w
def zz2 (gt w v : Nat → Nat) (t : Nat) : Nat := zb1 (zb1 (zb1 (zb1 (v 7) (zho (v 4) 6 11 25)) (zcy (v 6) (zeq (v 4) (zcy (v 5) (v 6))))) (gt t)) (w (t % 16))
def zBm (v : Nat → Nat) : Nat := zb1 (zho (v 0) 2 13 22) (orW (zeq (v 0) (v 1)) (zeq (v 2) (orW (v 0) (v 1))))
def zgt (v : Nat → Nat) (one two : Nat) : Nat → Nat
 | 0 => zb1 one two
 | 1 => v 0
 | 2 => v 1
 | 3 => v 2
 | 4 => zb1 (v 3) one
 | 5 => v 4
 | 6 => v 5
 | _ => v 6
def zjF (gt : Nat → Nat) (k : List Nat) (h : Nat → Nat) : Nat → (Nat → Nat) × (Nat → Nat)
 | 0 => (zkV k 16, h)
 | t + 1 => (zem (zjF gt k h t).1 t, zgt (zjF gt k h t).2 (zz2 gt (zem (zjF gt k h t).1 t) (zjF gt k h t).2 t) (zBm (zjF gt k h t).2))
theorem zuC (v : Nat → Nat) (one two : Nat) : zgt v one two 0 = zb1 one two := rfl
theorem zuD (v : Nat → Nat) (one two : Nat) : zgt v one two 4 = zb1 (v 3) one := rfl
theorem zuE {gt h w v : Nat → Nat} {k : List Nat} {t : Nat} (hM : (w, v) = zjF gt k h t) : (zem w t, zgt v (zz2 gt (zem w t) v t) (zBm v)) = zjF gt k h (t + 1) := by
 rw [zjF, ← hM]
def zsr (h v : Nat → Nat) (n : Nat) : Nat → Nat := fun i => if i < n then zb1 (h i) (v i) else h i
def zft (gt h : Nat → Nat) (k : List Nat) : Nat → Nat := zsr h (zjF gt k h 64).2 8
theorem zkW (f : Nat → Nat) (i v j : Nat) : upd (fun i => u32 (f i)) i (u32 v) j = u32 (upd f i v j) := by
 unfold upd; split <;> rfl
theorem zss (k : List Nat) (n j : Nat) : upd (fun i => u32 (zkV k n i)) n (u32 (zuB (k.drop (4 * n)))) j = u32 (zkV k (n + 1) j) := by
 rw [zkW]
 congr 2
 unfold upd zkV
 by_cases h : j = n
 ·subst h; simp
 ·rw [if_neg h]
  by_cases h2 : j < n
  ·rw [if_pos h2, if_pos (by omega)]
  ·rw [if_neg h2, if_neg (by omega)]
theorem znz (h v : Nat → Nat) (n j : Nat) : upd (fun i => u32 (zsr h v n i)) n (u32 (zb1 (h n) (v n))) j = u32 (zsr h v (n + 1) j) := by
 rw [zkW]
 congr 2
 unfold upd zsr
 by_cases hj : j = n
 ·subst hj; simp
 ·rw [if_neg hj]
  by_cases h2 : j < n
  ·rw [if_pos h2, if_pos (by omega)]
  ·rw [if_neg h2, if_neg (by omega)]
theorem zuF (h v : Nat → Nat) (n : Nat) : zsr h v n n = h n := by simp [zsr]
theorem zF4 (m : Nat) : (BitVec.ofInt 64 (m : Int) &&& BitVec.ofInt 64 15).toNat = m % 16 := by
 have e : (BitVec.ofInt 64 15).toNat = 15 := rfl
 rw [BitVec.toNat_and, e, BitVec.toNat_ofInt, Nat.and_two_pow_sub_one_eq_mod _ 4]
 omega
def zfK (gt h : Nat → Nat) (l : List Nat) : (Nat → Nat) × List Nat := if 64 ≤ l.length then zfK gt (zft gt h (l.take 64)) (l.drop 64) else (h, l)
termination_by l.length
decreasing_by simp only [List.length_drop]; omega
theorem zd0 {gt h : Nat → Nat} {l : List Nat} (hl : 64 ≤ l.length) : zfK gt h l = zfK gt (zft gt h (l.take 64)) (l.drop 64) := by rw [zfK, if_pos hl]
theorem zdd {gt h : Nat → Nat} {l : List Nat} (hl : ¬ 64 ≤ l.length) : zfK gt h l = (h, l) := by rw [zfK, if_neg hl]
theorem zkX (gt : Nat → Nat) : ∀ (n : Nat) (h : Nat → Nat) (l : List Nat), l.length ≤ n → (zfK gt h l).2.length < 64
 | 0, h, l, hl => by rw [zdd (by omega)]; show l.length < 64; omega
 | n + 1, h, l, hl => by
  by_cases h1 : 64 ≤ l.length
  ·rw [zd0 h1]; exact zkX gt n _ _ (by rw [List.length_drop]; omega)
  ·rw [zdd h1]; show l.length < 64; omega
def iv0 : Nat → Nat
 | 0 => 1779033703
 | 1 => 3144134277
 | 2 => 1013904242
 | 3 => 2773480762
 | 4 => 1359893119
 | 5 => 2600822924
 | 6 => 528734635
 | _ => 1541459225
def zst (n : Nat) : List Nat := 128 :: List.replicate (63 - (n + 8) % 64) 0
def zsu (m j : Nat) : List Nat := (List.range j).map fun q => m / 2 ^ (8 * (7 - q)) % 256
def zfL (n : Nat) : List Nat := zst n ++ zsu (n * 2 ^ 3 % 18446744073709551616) 8
def zpe (x : Nat) : List Nat := [zsh x 24 % 256, zsh x 16 % 256, zsh x 8 % 256, x % 256]
def zdt (h : Nat → Nat) (n : Nat) : List Nat := (List.range n).flatMap fun i => zpe (h i)
def zFF (gt h : Nat → Nat) (n : Nat) (rest : List Nat) : List Nat := zdt (zfK gt h (rest ++ zfL n)).1 8
def zuG (gt : Nat → Nat) (s : (Nat → Nat) × Nat × List Nat) (b : List Nat) : (Nat → Nat) × Nat × List Nat := ((zfK gt s.1 (s.2.2 ++ b)).1, s.2.1 + b.length, (zfK gt s.1 (s.2.2 ++ b)).2)
def zfu (gt : Nat → Nat) (ps : List (List Nat)) : (Nat → Nat) × Nat × List Nat := ps.foldl (zuG gt) (iv0, 0, [])
def znA (gt : Nat → Nat) (ps : List (List Nat)) : List Nat := zFF gt (zfu gt ps).1 (zfu gt ps).2.1 (zfu gt ps).2.2
theorem zfM (h : Nat → Nat) (n : Nat) : zdt h (n + 1) = zdt h n ++ zpe (h n) := by
 unfold zdt
 rw [List.range_succ, List.flatMap_append]
 simp
theorem ze6 (h : Nat → Nat) : ∀ n, (zdt h n).length = 4 * n
 | 0 => rfl
 | n + 1 => by rw [zfM, jQ, ze6 h n]; simp [zpe]; omega
theorem zsv (x : Nat) : ∀ z ∈ zpe x, z < 256 := fun z hz => by
 simp only [zpe, List.mem_cons, List.not_mem_nil, or_false] at hz
 omega
theorem zpf (h : Nat → Nat) (n : Nat) : ∀ z ∈ zdt h n, z < 256 := fun z hz => by
 obtain ⟨i, _, hi⟩ := List.mem_flatMap.1 hz
 exact zsv _ z hi
theorem zhX (gt : Nat → Nat) (ps : List (List Nat)) : (znA gt ps).length = 32 := ze6 _ 8
theorem zgu (gt : Nat → Nat) (ps : List (List Nat)) : ∀ z ∈ znA gt ps, z < 256 := zpf _ 8
theorem zkY (n : Nat) : (zst n).length = 64 - (n + 8) % 64 := by
 have : (n + 8) % 64 < 64 := Nat.mod_lt _ (by decide)
 simp only [zst, List.length_cons, List.length_replicate]
 omega
theorem znB (n : Nat) : ∀ z ∈ zst n, z < 256 := fun z hz => by
 rcases List.mem_cons.1 hz with rfl | h
 ·decide
 ·rw [(List.mem_replicate.1 h).2]; decide
theorem zuH (m j : Nat) : zsu m (j + 1) = zsu m j ++ [m / 2 ^ (8 * (7 - j)) % 256] := by
 unfold zsu; rw [List.range_succ, List.map_append]; rfl
theorem zkZ (m j : Nat) : (zsu m j).length = j := by simp [zsu]
theorem znC (m j : Nat) : ∀ z ∈ zsu m j, z < 256 := fun z hz => by
 obtain ⟨q, _, rfl⟩ := List.mem_map.1 hz
 exact Nat.mod_lt _ (by decide)
theorem zpg {gt : Nat → Nat} {ps : List (List Nat)} {i : Nat} {b : List Nat} (hi : ps[i]? = some b) : zfu gt (ps.take (i + 1)) = zuG gt (zfu gt (ps.take i)) b := by
 unfold zfu
 rw [List.take_add_one, hi, List.foldl_append]
 rfl
theorem znD (gt : Nat → Nat) : ∀ (n : Nat) (h : Nat → Nat) (l : List Nat), l.length ≤ n → (∀ x ∈ l, x < 256) → ∀ x ∈ (zfK gt h l).2, x < 256
 | 0, h, l, hl, hb => by rw [zdd (by omega)]; exact hb
 | n + 1, h, l, hl, hb => by
  by_cases h1 : 64 ≤ l.length
  ·rw [zd0 h1]; exact znD gt n _ _ (by rw [List.length_drop]; omega) fun x hx => hb x (List.mem_of_mem_drop hx)
  ·rw [zdd h1]; exact hb
end
section
open Go.RowKit
section
variable {x y k : Nat} {j : Int} {A : Int → Prop}
theorem zaW (h : A ((zb1 x y : Nat) : Int)) : ∃ z, IntKind.u32.wrap ((x : Int) + (y : Int)) = z ∧ A z := ⟨_, by rw [← Int.natCast_add, zfE]; rfl, h⟩
theorem zxW (h : A ((zcy x y : Nat) : Int)) : ∃ z, IntKind.u32.wrap ((BitVec.ofInt IntKind.u32.bits (x : Int) ^^^ BitVec.ofInt IntKind.u32.bits (y : Int)).toNat : Nat) = z ∧ A z := ⟨_, zDS x y, h⟩
theorem znW (h : A ((zeq x y : Nat) : Int)) : ∃ z, IntKind.u32.wrap ((BitVec.ofInt IntKind.u32.bits (x : Int) &&& BitVec.ofInt IntKind.u32.bits (y : Int)).toNat : Nat) = z ∧ A z := ⟨_, zFT x y, h⟩
theorem zoW (h : A ((orW x y : Nat) : Int)) : ∃ z, IntKind.u32.wrap ((BitVec.ofInt IntKind.u32.bits (x : Int) ||| BitVec.ofInt IntKind.u32.bits (y : Int)).toNat : Nat) = z ∧ A z := ⟨_, zG2 x y, h⟩
theorem zlW (hj : j = (k : Int)) (h : A ((ztb x k : Nat) : Int)) : 0 ≤ j ∧ ∃ z, IntKind.u32.wrap ((x : Int) * 2 ^ (min j.toNat IntKind.u32.bits)) = z ∧ A z := ⟨by omega, _, by
 unfold ztb
 rw [← zfE, hj, Int.toNat_natCast]
 have : IntKind.u32.bits = 32 := rfl
 rw [this]
 norm_cast, h⟩
theorem zrW (hj : j = (k : Int)) (h : A ((zsh x k : Nat) : Int)) : 0 ≤ j ∧ ∃ z, ((x : Int)).fdiv (2 ^ (min j.toNat IntKind.u32.bits)) = z ∧ A z := ⟨by omega, _, by
 unfold zsh
 rw [zAO, hj, Int.toNat_natCast]
 rfl, h⟩
theorem zuI (hn : k ≤ 100) (h : A (-((k : Nat) : Int))) : ∃ z, IntKind.i64.wrap (0 - (k : Int)) = z ∧ A z := ⟨_, by rw [zw5 (by omega) (by omega), show (0 : Int) - (k : Int) = -(k : Int) by omega], h⟩
end
def wS (x : Nat) : SV := .a (.s (.p (.v (u32 x))))
section
variable {X : List Nat} {w : World} {x n a b c : Nat}
theorem znE (hX : ∀ k ∈ X, k < w.heap.size) (h1 : 1 ≤ n) (h2 : n < 32) : Ct Tryz.prog 195 [u32 x, .int .i64 (-((n : Nat) : Int))] X w (wS (zz1 x (32 - n))) [] [] := by
 refine vFn (k0 := 0) (rs := [.tmp 4]) (svs := [wS x, zaD .i64 (-((n : Nat) : Int))]) (R0 := []) (hnQ []) Tryz.ntmps195 Tryz.func195 rfl rfl rfl rfl rfl zan (by kernel_rfl) hX (fun r hr => by cases hr) ?_
 conv => whnf
 refine ⟨_, rfl, ?_⟩
 conv => whnf
 refine ⟨_, zBk ⟨n, h2⟩ h1, ?_⟩
 conv => whnf
 refine zlW rfl ?_
 conv => whnf
 refine ⟨((32 - (32 - n) : Nat) : Int), by rw [show (32 : Int) - ((32 - n : Nat) : Int) = ((32 - (32 - n) : Nat) : Int) by omega]; exact zw6 (by omega) (by omega), ?_⟩
 conv => whnf
 refine zrW rfl ?_
 conv => whnf
 refine zoW ?_
 conv => whnf
 refine zav ?_
 rfl
theorem zqW (hX : ∀ k ∈ X, k < w.heap.size) (ha : 1 ≤ a ∧ a < 32) (hb : 1 ≤ b ∧ b < 32) (hc : 1 ≤ c ∧ c < 32) : Ct Tryz.prog 178 [u32 x, .int .i64 a, .int .i64 b, .int .i64 c] X w (wS (zho x a b c)) [] [] := by
 refine vFn (k0 := 0) (rs := [.tmp 8]) (svs := [wS x, zaD .i64 a, zaD .i64 b, zaD .i64 c]) (R0 := []) (hnQ []) Tryz.ntmps178 Tryz.func178 rfl rfl rfl rfl rfl zan (by kernel_rfl) hX (fun r hr => by cases hr) ?_
 conv => whnf
 refine zuI (by omega) ?_
 conv => whnf
 refine zae rfl rfl rfl (by kernel_rfl) (fun h X w H => znE H.xk ha.1 ha.2) rfl rfl rfl ?_
 conv => whnf
 refine zuI (by omega) ?_
 conv => whnf
 refine zae rfl rfl rfl (by kernel_rfl) (fun h X w H => znE H.xk hb.1 hb.2) rfl rfl rfl ?_
 conv => whnf
 refine zxW ?_
 conv => whnf
 refine zuI (by omega) ?_
 conv => whnf
 refine zae rfl rfl rfl (by kernel_rfl) (fun h X w H => znE H.xk hc.1 hc.2) rfl rfl rfl ?_
 conv => whnf
 refine zxW ?_
 conv => whnf
 refine zav ?_
 rfl
theorem zqX (hX : ∀ k ∈ X, k < w.heap.size) (ha : 1 ≤ a ∧ a < 32) (hb : 1 ≤ b ∧ b < 32) : Ct Tryz.prog 177 [u32 x, .int .i64 a, .int .i64 b, .int .i64 c] X w (wS (zny x a b c)) [] [] := by
 refine vFn (k0 := 0) (rs := [.tmp 8]) (svs := [wS x, zaD .i64 a, zaD .i64 b, zaD .i64 c]) (R0 := []) (hnQ []) Tryz.ntmps177 Tryz.func177 rfl rfl rfl rfl rfl zan (by kernel_rfl) hX (fun r hr => by cases hr) ?_
 conv => whnf
 refine zaK 12 [] (by kernel_rfl) ?_
 conv => whnf
 refine zuI (by omega) ?_
 conv => whnf
 refine zaA (zab (rs := []) (Rs := []) rfl rfl rfl (by kernel_rfl) rfl fun h X w H => znE H.xk ha.1 ha.2) ?_
 conv => whnf
 refine zuI (by omega) ?_
 conv => whnf
 refine zaA (zab (rs := []) (Rs := []) rfl rfl rfl (by kernel_rfl) rfl fun h X w H => znE H.xk hb.1 hb.2) ?_
 conv => whnf
 refine zxW ?_
 conv => whnf
 refine zrW rfl ?_
 conv => whnf
 refine zxW ?_
 conv => whnf
 refine zav ?_
 rfl
theorem zz3 {m : Nat} {A : Int → Prop} (h : A ((m % 4294967296 : Nat) : Int)) : ∃ x, IntKind.u32.wrap (m : Int) = x ∧ A x := ⟨_, zfE m, h⟩
theorem zBn (hX : ∀ k ∈ X, k < w.heap.size) (l : List Nat) (hl : 4 ≤ l.length) (q : Qd) (hq : St (TxQ l q) w X) : Ct Tryz.prog 176 [.slice q.1 l.length q.2] X w (wS (zuB l)) [] [] := by
 refine vFn (k0 := 1) (rs := [.tmp 2]) (svs := [.a (.s (.p (.hd 0 l.length)))]) (R0 := [.sl 0 l.length (TxG l)]) (hnQ [q]) Tryz.ntmps176 Tryz.func176 rfl rfl rfl rfl rfl zan (by kernel_rfl) hX (fun r hr => by rcases List.mem_singleton.1 hr with rfl; exact hq) ?_
 have hg : ∀ i, i < 4 → l[i]? = some (l.getD i 0) := fun i hi => zfJ 0 (by omega)
 conv => whnf
 refine zaK 21 [] (by kernel_rfl) ?_
 conv => whnf
 refine ⟨0, ⟨rfl, by omega, by omega⟩, ?_⟩
 conv => whnf
 refine zcA (zeC 0 (hg 0 (by omega)) rfl rfl rfl (by kernel_rfl)) ?_
 conv => whnf
 refine zz3 ?_
 conv => whnf
 refine zlW (k := 24) rfl ?_
 conv => whnf
 refine ⟨1, ⟨rfl, by omega, by omega⟩, ?_⟩
 conv => whnf
 refine zcA (zeC 0 (hg 1 (by omega)) rfl rfl rfl (by kernel_rfl)) ?_
 conv => whnf
 refine zz3 ?_
 conv => whnf
 refine zlW (k := 16) rfl ?_
 conv => whnf
 refine zoW ?_
 conv => whnf
 refine ⟨2, ⟨rfl, by omega, by omega⟩, ?_⟩
 conv => whnf
 refine zcA (zeC 0 (hg 2 (by omega)) rfl rfl rfl (by kernel_rfl)) ?_
 conv => whnf
 refine zz3 ?_
 conv => whnf
 refine zlW (k := 8) rfl ?_
 conv => whnf
 refine zoW ?_
 conv => whnf
 refine ⟨3, ⟨rfl, by omega, by omega⟩, ?_⟩
 conv => whnf
 refine zcA (zeC 0 (hg 3 (by omega)) rfl rfl rfl (by kernel_rfl)) ?_
 conv => whnf
 refine zz3 ?_
 conv => whnf
 refine zoW ?_
 conv => whnf
 refine zav ?_
 rfl
end
end
section
open Go.RowKit
def zFG (r : Nat) (h : Nat → Nat) (a : Int) (n : Nat) : RB := .blk [.row 8 fun i => u32 (h i), .one (.p (.v (.int .u64 a))), .one (.p (.hd r n))] 150
abbrev zF5 (h : Nat → Nat) (a : Int) (n : Nat) : RB := zFG 1 h a n
def zEe (h : Nat → Nat) (a : Int) (n : Nat) : MB := [(0, zF5 h a n), (1, .gone)]
def zbH (gt : Nat → Nat) (g : Nat) : World → Prop := AtC ⟨g, 0, none⟩ [.row 64 fun i => u32 (gt i)]
theorem z15 {m : Nat} {A : Int → Prop} (h : A ((m % 16 : Nat) : Int)) : ∃ z, IntKind.i64.wrap ((BitVec.ofInt IntKind.i64.bits (m : Int) &&& BitVec.ofInt IntKind.i64.bits 15).toNat : Nat) = z ∧ A z := ⟨_, by
 have := zF4 m
 rw [show IntKind.i64.bits = 64 from rfl, this]
 exact zw5 (by omega) (by omega), h⟩
theorem zF6 (gt wr v : Nat → Nat) (t : Nat) : zb1 (v 3) (zb1 (zb1 (zb1 (zb1 (v 7) (zho (v 4) 6 11 25)) (zcy (v 6) (zeq (v 4) (zcy (v 5) (v 6))))) (gt t)) (zem wr t (t % 16))) = zgt v (zz2 gt (zem wr t) v t) (zBm v) 4 := by
 rw [zuD, zz2]
theorem zF7 (gt wr v : Nat → Nat) (t : Nat) : zb1 (zb1 (zb1 (zb1 (zb1 (v 7) (zho (v 4) 6 11 25)) (zcy (v 6) (zeq (v 4) (zcy (v 5) (v 6))))) (gt t)) (zem wr t (t % 16))) (zb1 (zho (v 0) 2 13 22) (orW (zeq (v 0) (v 1)) (zeq (v 2) (orW (v 0) (v 1))))) = zgt v (zz2 gt (zem wr t) v t) (zBm v) 0 := by
 rw [zuC, zz2, zBm]
section
variable {X : List Nat} {w : World} {h0 : Hn} {gt h : Nat → Nat} {bk : List Nat} {a : Int} {n : Nat} {q : Qd}
theorem zEf (hl : bk.length = 64) (hsp : Sp X w (zaf h0 [] (zEe h a n)) [zbH gt 2, TxQ bk q]) :
  CtG Tryz.prog 153 [.pointer (some ⟨h0.b 0, 0, none⟩), .slice q.1 bk.length q.2] X w h0 (zEe h a n) [0, 1] (.tup []) (zEe (zft gt h bk) a n) [] := by
 refine zzW (g := 2) (k0 := 3) (bl := []) (ql := [q]) (svs := [atS 0 0, .a (.s (.p (.hd 2 bk.length)))]) (given := zEe h a n) (Rg := [.c (zbH gt 2), .sl 2 bk.length (TxG bk)]) (kb := [0, 1]) Tryz.ntmps153 Tryz.func153 rfl rfl rfl zan (by kernel_rfl) rfl rfl hsp ?_
 conv => whnf
 refine ⟨Nat, fun k l m R i => ⟨k, (20, zaD .i64 i) :: za2 [0, 1, 4] l, (3, .blk [.row 16 fun j => u32 (zkV bk i j)] 214) :: m, R⟩, fun i => i ≤ 16, fun i => 16 - i, ⟨0, [], [0, 1, 2, 3], Nat.zero_le _, za3⟩, fun i hi => ?_⟩
 conv => whnf
 refine vIf (fun hc => ?_) fun hc => ?_
 ·have hi2 : i < 16 := by
   have : (i : Int) < 16 := by simpa using hc
   omega
  have hb1 : 4 * i ≤ bk.length := by omega
  conv => whnf
  have e4 : (4 : Int) * (i : Int) = ((4 * i : Nat) : Int) := by omega
  refine zbi e4 (by omega) (by omega) ?_
  conv => whnf
  refine zbO (zqQ (lo := 4 * i) (hi := bk.length) 3 rfl hb1 (jV _) fun h w hf => ziu rfl (by kernel_rfl) rfl rfl rfl hb1) rfl rfl ?_
  conv => whnf
  obtain ⟨b4, hb4⟩ : ∃ b4, b4 = (bk.drop (4 * i)).take (bk.length - 4 * i) := ⟨_, rfl⟩
  have hl4 : bk.length - 4 * i = b4.length := by rw [hb4, List.length_take, List.length_drop]; omega
  rw [← hb4, hl4]
  refine zae rfl rfl rfl (by kernel_rfl) (fun h X w H => zBn H.xk b4 (by omega) _ (H.fact 0 rfl)) rfl rfl rfl ?_
  conv => whnf
  refine ⟨i, ⟨rfl, hi2⟩, .inr ?_⟩
  conv => whnf
  refine zaH (zkQ (fun j => u32 (zkV bk (i + 1) j)) rfl rfl rfl rfl rfl rfl hi2 (by rw [hb4, List.take_of_length_le (by rw [List.length_drop]; omega)]; exact zss bk i)) ?_
  conv => whnf
  refine zc2 (by omega) (by omega) ?_
  conv => whnf
  exact ⟨i + 1, [], [1, 2, 3, 4], ⟨hi2, Nat.sub_lt_sub_left hi2 (Nat.lt_succ_self i)⟩, za3⟩
 have hi16 : i = 16 := by
   have : ¬ (i : Int) < 16 := by simpa using hc
   omega
 subst hi16
 conv => whnf
 refine zaK 39 [] (by kernel_rfl) ?_
 conv => whnf
 refine ⟨0, ⟨rfl, by decide⟩, .inl ?_⟩
 conv => whnf
 refine ⟨1, ⟨rfl, by decide⟩, .inl ?_⟩
 conv => whnf
 refine ⟨2, ⟨rfl, by decide⟩, .inl ?_⟩
 conv => whnf
 refine ⟨3, ⟨rfl, by decide⟩, .inl ?_⟩
 conv => whnf
 refine ⟨4, ⟨rfl, by decide⟩, .inl ?_⟩
 conv => whnf
 refine ⟨5, ⟨rfl, by decide⟩, .inl ?_⟩
 conv => whnf
 refine ⟨6, ⟨rfl, by decide⟩, .inl ?_⟩
 conv => whnf
 refine ⟨7, ⟨rfl, by decide⟩, .inl ?_⟩
 conv => whnf
 refine zb4 (zEa (cs := [.row 64 fun i => u32 (gt i)]) 2 _ rfl (fun w hw h => hw) rfl rfl (by kernel_rfl) rfl) rfl rfl ?_
 conv => whnf
 refine ⟨Nat × (Nat → Nat) × (Nat → Nat), fun k l m R g => ⟨k, (64, zaD .i64 g.1) :: (6, wS (g.2.2 0)) :: (7, wS (g.2.2 1)) :: (8, wS (g.2.2 2)) :: (9, wS (g.2.2 3)) :: (10, wS (g.2.2 4)) :: (11, wS (g.2.2 5)) :: (12, wS (g.2.2 6)) :: (13, wS (g.2.2 7)) :: za2 [0, 4, 63] l, (3, .blk [.row 16 fun j => u32 (g.2.1 j)] 214) :: m, R⟩, fun g => g.1 ≤ 64 ∧ g.2 = zjF gt bk h g.1, fun g => 64 - g.1, ⟨(0, zkV bk 16, h), [], [0, 1, 2, 3], ⟨Nat.zero_le _, rfl⟩, za3⟩, fun g hg => ?_⟩
 obtain ⟨t, wr, v⟩ := g
 obtain ⟨ht, hM⟩ : t ≤ 64 ∧ (wr, v) = zjF gt bk h t := hg
 conv => whnf
 refine vIf (fun hc => ?_) fun hc => ?_
 ·have ht2 : t < 64 := by
   have : (t : Int) < 64 := by simpa using hc
   omega
  conv => whnf
  refine ⟨t, ⟨rfl, ht2⟩, ?_⟩
  conv => whnf
  refine .inr ⟨Unit, fun k l m R _ => ⟨k, l, (3, .blk [.row 16 fun j => u32 (zem wr t j)] 214) :: m, R⟩, fun _ => True, ?_, fun _ _ => ?_⟩
  ·conv => whnf
   refine vIf (fun hc => ?_) fun hc => ?_
   ·have h16 : 16 ≤ t := by
     have : (16 : Int) ≤ (t : Int) := by simpa using hc
     omega
    conv => whnf
    refine zaK 23 [] (by kernel_rfl) ?_
    conv => whnf
    refine z15 ?_
    conv => whnf
    refine ⟨t % 16, ⟨rfl, by omega⟩, .inr ?_⟩
    conv => whnf
    refine ⟨by omega, ?_⟩
    conv => whnf
    refine zbi (show (t : Int) + 1 = ((t + 1 : Nat) : Int) by omega) (by omega) (by omega) ?_
    conv => whnf
    refine z15 ?_
    conv => whnf
    refine ⟨(t + 1) % 16, ⟨rfl, by omega⟩, .inr ?_⟩
    conv => whnf
    refine ⟨by omega, ?_⟩
    conv => whnf
    refine zaA (zab (rs := []) (Rs := []) rfl rfl rfl (by kernel_rfl) rfl fun h X w H => zqX (a := 7) (b := 18) (c := 3) H.xk (by omega) (by omega)) ?_
    conv => whnf
    refine zbi (show (t : Int) + 9 = ((t + 9 : Nat) : Int) by omega) (by omega) (by omega) ?_
    conv => whnf
    refine z15 ?_
    conv => whnf
    refine ⟨(t + 9) % 16, ⟨rfl, by omega⟩, .inr ?_⟩
    conv => whnf
    refine ⟨by omega, ?_⟩
    conv => whnf
    refine zaW ?_
    conv => whnf
    refine zbi (show (t : Int) + 14 = ((t + 14 : Nat) : Int) by omega) (by omega) (by omega) ?_
    conv => whnf
    refine z15 ?_
    conv => whnf
    refine ⟨(t + 14) % 16, ⟨rfl, by omega⟩, .inr ?_⟩
    conv => whnf
    refine ⟨by omega, ?_⟩
    conv => whnf
    refine zaA (zab (rs := []) (Rs := []) rfl rfl rfl (by kernel_rfl) rfl fun h X w H => zqX (a := 17) (b := 19) (c := 10) H.xk (by omega) (by omega)) ?_
    (repeat ((conv => whnf); first | refine zaW ?_ | refine zxW ?_ | refine znW ?_ | refine zoW ?_))
    conv => whnf
    refine ⟨t % 16, ⟨rfl, by omega⟩, .inr ?_⟩
    conv => whnf
    refine zaH (zkQ (fun j => u32 (zem wr t j)) rfl rfl rfl rfl rfl rfl (by omega) (fun j => by rw [zkW, zem, if_pos h16])) ?_
    conv => whnf
    exact ⟨(), [], [0, 1, 2, 3], trivial, za3⟩
   ·have h16 : ¬ 16 ≤ t := fun h => by
     have : ¬ (16 : Int) ≤ (t : Int) := by simpa using hc
     omega
    conv => whnf
    refine ⟨(), [], [0, 1, 2, 3], trivial, ?_⟩
    rw [show zem wr t = wr from if_neg h16]
    exact za3
  conv => whnf
  refine zaK 18 [] (by kernel_rfl) ?_
  conv => whnf
  refine zaA (zab (rs := []) (Rs := []) rfl rfl rfl (by kernel_rfl) rfl fun h X w H => zqW (a := 6) (b := 11) (c := 25) H.xk (by omega) (by omega) (by omega)) ?_
  (repeat ((conv => whnf); first | refine zaW ?_ | refine zxW ?_ | refine znW ?_ | refine zoW ?_))
  conv => whnf
  refine z15 ?_
  conv => whnf
  refine ⟨t % 16, ⟨rfl, by omega⟩, .inr ?_⟩
  conv => whnf
  refine ⟨by omega, ?_⟩
  (repeat ((conv => whnf); first | refine zaW ?_ | refine zxW ?_ | refine znW ?_ | refine zoW ?_))
  conv => whnf
  refine zae rfl rfl rfl (by kernel_rfl) (fun h X w H => zqW (a := 2) (b := 13) (c := 22) H.xk (by omega) (by omega) (by omega)) rfl rfl rfl ?_
  (repeat ((conv => whnf); first | refine zaW ?_ | refine zxW ?_ | refine znW ?_ | refine zoW ?_))
  conv => whnf
  refine zc2 (by omega) (by omega) ?_
  conv => whnf
  refine ⟨(t + 1, zem wr t, zgt v (zz2 gt (zem wr t) v t) (zBm v)), [], [0, 1, 2, 3], ⟨⟨ht2, zuE hM⟩, Nat.sub_lt_sub_left ht2 (Nat.lt_succ_self t)⟩, za3 (hl := ?_)⟩
  refine ⟨.inl rfl, .inl (congrArg (fun x => some (wS x)) (zF7 gt wr v t)), .inl rfl, .inl rfl, .inl rfl, .inl (congrArg (fun x => some (wS x)) (zF6 gt wr v t)), ?_⟩
  repeat (first | exact trivial | refine ⟨.inl rfl, ?_⟩)
 have hi64 : t = 64 := by
   have : ¬ (t : Int) < 64 := by simpa using hc
   omega
 subst hi64
 conv => whnf
 refine ⟨fun i => u32 (v i), ⟨rfl, rfl, rfl, rfl, rfl, rfl, rfl, rfl, trivial⟩, ?_⟩
 conv => whnf
 refine ⟨Nat, fun k l m R i => ⟨k, (148, zaD .i64 i) :: za2 [0, 147] l, (0, zF5 (zsr h v i) a n) :: m, R⟩, fun i => i ≤ 8, fun i => 8 - i, ⟨0, [], [0, 1, 2, 3], Nat.zero_le _, za3⟩, fun i hi => ?_⟩
 conv => whnf
 refine vIf (fun hc => ?_) fun hc => ?_
 ·have hi2 : i < 8 := by
   have : (i : Int) < 8 := by simpa using hc
   omega
  conv => whnf
  refine ⟨i, ⟨rfl, hi2⟩, ?_⟩
  conv => whnf
  refine zaK 8 [] (by kernel_rfl) ?_
  conv => whnf
  refine ⟨i, ⟨rfl, hi2⟩, .inr ?_⟩
  conv => whnf
  refine ⟨hi2, ?_⟩
  (repeat ((conv => whnf); first | refine zaW ?_ | refine zxW ?_ | refine znW ?_ | refine zoW ?_))
  conv => whnf
  refine ⟨i, ⟨rfl, hi2⟩, .inr ?_⟩
  conv => whnf
  refine zaH (zkQ (fun j => u32 (zsr h v (i + 1) j)) rfl rfl rfl rfl rfl rfl hi2 (by rw [zuF]; exact znz h v i)) ?_
  conv => whnf
  refine zc2 (by omega) (by omega) ?_
  conv => whnf
  exact ⟨i + 1, [], [0, 1, 2, 3], ⟨hi2, Nat.sub_lt_sub_left hi2 (Nat.lt_succ_self i)⟩, za3⟩
 have hi8 : i = 8 := by
   have : ¬ (i : Int) < 8 := by simpa using hc
   omega
 subst hi8
 conv => whnf
 refine zdJ [(0, 0), (1, 1)] [] [0, 1] (.inl rfl) ⟨.inl ?_, trivial⟩ rfl trivial ⟨rfl, rfl, trivial⟩
 rw [zft, ← hM]
 rfl
end
end
end Go.Proofs.YtcmmpiaogfnmoaaGreatDoor
