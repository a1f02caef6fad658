/- Walks by computing: constants, strings, texts as keys. No program is in sight. x[i] of an array that is a value; no program is in sight. The walks of layer 5: whether numbers may be. The walks of layer 5: what goes over a part is carried. The walks of layer 5: a number's own, below p. Plain law of layer 5: a number's parts, and its bytes; no program is in sight. The walks of layer 5: a number's bytes. The walks of layer 5: a number of bytes. A region that draws its order, where at some places either of two operations may come up: both ways are walked. The walks of layer 5: bytes told, and sums -/
import Derived.Test.YtcmmpiaogfnmoaaGreatDoorStateAloneD
import Derived.Laws.IdiomStrings
import Derived.Great.Walk
import Derived.Test.YtcmmpiaogfnmoaaGreatDoorRows
import Derived.Laws.Bits64b
import Derived.Lib.Mul64
import Derived.Laws.Externs
set_option linter.unusedSimpArgs false
set_option linter.unusedVariables false
set_option maxRecDepth 200000
set_option maxHeartbeats 6000000
namespace Go.Proofs.YtcmmpiaogfnmoaaGreatDoor
section
open Go.RowKit
section
variable {P : Program} {o : Oper} {a : Act} {w ws : World} {Q : Exit → Act → World → Prop} {N d : Nat} {l : List (Nat × Value)} {v : Value} {S : Nat → Prop} {K : Act → World → Prop} {x y : Operand}
 {X G : List Nat} {w0 : World} {L L' : List Res} {R : List (World → Prop)}
theorem zmW {b e n : Nat} {C : Array Value} (h : w.heap[b]? = some (.cells C e (0, 0))) : (w.freeze ⟨b, n, none⟩ 1).heap[b]? = some (.cells C e (n, n + 1)) ∧ Frm [b] w (w.freeze ⟨b, n, none⟩ 1) := by
 unfold World.freeze
 rw [if_neg (by decide)]
 refine ⟨?_, rfl, rfl, rfl, by simp, fun k _ hn => ?_⟩
 ·show (w.heap.modify b _)[b]? = _
  rw [Array.getElem?_modify, if_pos rfl, h]
  rfl
 ·show (w.heap.modify b _)[k]? = _
  rw [Array.getElem?_modify, if_neg (fun e => hn (by rw [← e]; exact List.mem_singleton.2 rfl))]
theorem zwZ {A : Option Addr} {c : Nat} {k : List Nat} {Y : List Nat} (h : St (TxF A c k) w Y) (hk : 32 ≤ k.length) : ∃ ad, A = some ad ∧ St (AtC ad [.key k]) w Y := by
 cases A with
 | none => have := h.now.nil rfl; omega
 | some ad =>
  refine ⟨ad, rfl, fun w' hw j u hu => ?_⟩
  have hT := h w' hw
  rw [zjx, List.getElem?_map] at hu
  by_cases hj : j < 32
  ·rw [zj9 k j hj, Option.map_some, Option.some.injEq] at hu
   subst hu
   refine hT.at_ ad rfl j _ ?_
   rw [jR, jP (show j < k.length by omega)]
   rfl
  ·rw [List.getElem?_eq_none (by rw [zpC]; omega)] at hu
   cases hu
theorem zw0 {t t' e : TypeId} {s : ByteArray} {k : List Nat} (E : Env a N l) (H : Sep X [] w0 w L R) (ho : o.op = .convert t t' x) (hx : ev l x = some (.string s)) (ht : P.underlying t = some .string) (ht' : P.underlying t' = some (.slice e)) (he : P.underlying e = some (.int .u8)) (hk : s.data.toList.map UInt8.toNat = k) (hl : k.length ≤ 1000)
  (h : ∀ A c w', Sep X [] w0 w' L (TxF A c k :: R) → Frm [] w w' → K (a.put o.dst (.slice A k.length c)) w') : o.wp P a w K Q := by
 have hsz : s.size = k.length := by rw [← hk, List.length_map]; rfl
 have hr := run_bytes_of_string w t t' e s ht ht' he
 obtain ⟨C, hC⟩ : ∃ C, bytesRow s (grownCap w s.size 0 e) = C := ⟨_, rfl⟩
 obtain ⟨g, hg⟩ : ∃ g, grownCap w s.size 0 e = g := ⟨_, rfl⟩
 have hge : s.size ≤ g := by rw [← hg]; exact grownCap_ge w s.size 0 e
 rw [hC, hg] at hr
 have hCk : ∀ i z, k[i]? = some z → C[i]? = some (bv z) := fun i z hi => by
  rw [← hk, List.getElem?_map, Option.map_eq_some_iff] at hi
  obtain ⟨b, hb, rfl⟩ := hi
  have hlt : i < s.data.size := by
   rw [← Array.length_toList]
   exact (List.getElem?_eq_some_iff.1 hb).1
  rw [← hC]
  unfold bytesRow
  rw [Array.getElem?_append_left (by rw [Array.size_map]; exact hlt), Array.getElem?_map, ← Array.getElem?_toList, hb]
  rfl
 unfold Oper.wp execOp
 simp only [ho, E.ev hx, Sem.run_bind, hr, Result.andThen_ok, Sem.run_pure]
 have hf : Frm [] w (w.drew.alloc (.cells C e (C.size, C.size + 1))) := Frm.of_below (((Below.refl _ _).drew).alloc (jV _) _)
 have hH := H.own (q := .obj w.heap.size (.cells C e (C.size, C.size + 1))) hf (heap_alloc_new w.drew _) (by simp [Res.keys]) (by simp [Res.keys])
 have hF := hH.freezeX (Sep.new_x hH)
 have hT : St (TxF (some ⟨w.heap.size, 0, none⟩) g k) (w.drew.alloc (.cells C e (C.size, C.size + 1))) (X ++ zab L) := (hF.facts _ (List.mem_cons_self ..)).imp fun w2 hw => ⟨by omega, by omega, fun z hz => by
   rw [← hk] at hz
   obtain ⟨b, _, rfl⟩ := List.mem_map.1 hz
   exact b.toNat_lt, (fun hn => by cases hn), fun ad had i z hi => by
   obtain rfl := Option.some.inj had
   rw [zb5]
   unfold World.cell?
   have hw' : w2.heap[w.heap.size]? = some (.cells C e (C.size, C.size + 1)) := hw
   simp only [hw', Nat.zero_add, Option.isSome_none, Bool.false_eq_true, if_false]
   exact hCk i z hi⟩
 rw [hsz]
 exact h _ _ _ (hF.pop.know hT) hf
end
section
variable {P : Program} {Tb : Tab} {N k k0 ix : Nat} {l : LE} {m : MB} {R : List SF} {o : Oper} {sv : SV} {K : KS} {rs : List RB}
variable {i j n0 n e : Nat}
theorem zgA {t c : Nat} {x : Operand} {cs : List SC} (hm : zaB m i = some (.blk cs e)) (ho : o.op = .convert t t x) (hx : evS l x = some (slS i 0 n c)) (ht : P.underlying t = some (.slice e)) (he : P.underlying e = some (.int .u8)) : zcZ P N k l m R o (slS i 0 n c) ((i, .gone) :: m) (.blk i cs :: R) := fun Q h X a w E H Kk hK => by
 have hb := zch H hm
 have H1 : Sp X w (.blk (h.b i) (ca (zay h cs)) e :: zad h [i] m) (zaO h R) := H.numAt hm
 have hsh : w.shape? (h.b i) = some (e, (ca (zay h cs)).size) := by unfold World.shape?; rw [hb]
 obtain ⟨h1, h2⟩ := zmW (n := (ca (zay h cs)).size) hb
 have hr : (convert t t (.slice (some ⟨h.b i, 0, none⟩) n c)).run P w = .ok (.slice (some ⟨h.b i, 0, none⟩) n c) (w.freeze ⟨h.b i, (ca (zay h cs)).size, none⟩ 1) := by
  simp [convert, run_underlying ht, run_underlying he, markStringish, hsh]
 have hx' : ev (zct h l) x = some (.slice (some ⟨h.b i, 0, none⟩) n c) := zag hx
 unfold Oper.wp execOp
 simp only [ho, E.ev hx', Sem.run_bind, hr, Result.andThen_ok, Sem.run_pure]
 have hkm : ∀ j, j ∈ zab (.blk (h.b i) (ca (zay h cs)) e :: zad h [i] m) ↔ j ∈ zab (zad h [] m) := fun j => (zar (zaJ h m [] i _ hm (by simp))).mem_iff.symm
 have H2 := H1.sep.turn (q' := .obj (h.b i) (.cells (ca (zay h cs)) e ((ca (zay h cs)).size, (ca (zay h cs)).size + 1))) h2 h1 (by simp [Res.keys]) (by simp [Res.keys])
 have hf := H2.freezeX fun j hj => H1.xap j (List.mem_append_left _ hj)
 refine hK h _ (fun _ _ => ⟨rfl, rfl, rfl⟩) ⟨h2.os, h2.tape, h2.output, h2.size, fun t' ht' hn => h2.block t' ht' fun hm' => hn ((hkm t').1 (List.mem_append_left _ hm'))⟩ ?_ fun j hj => .inl ((hkm j).1 (List.mem_append_right _ hj))
 have hS : Sp X (w.freeze ⟨h.b i, (ca (zay h cs)).size, none⟩ 1) (zad h [i] m) (zaO h R) := Sp.of_sep hf.pop fun j hj => H1.xap j (List.mem_append_right _ hj)
 exact hS.know ((hf.facts _ (List.mem_cons_self ..)).imp fun w2 hw => zeg (t := e) hw)
theorem zw1 {t t' : Nat} {x : Operand} {s : ByteArray} (lab : List Nat) (ho : o.op = .convert t t' x) (hx : evS l x = some (zi4 (.string s))) (ht : P.underlying t = some .string) (ht' : P.underlying t' = some (.slice e)) (he : P.underlying e = some (.int .u8)) (hk : s.data.toList.map UInt8.toNat = lab) (hl : lab.length ≤ 1000) : zfg P N k l m R o (.a (.s (.p (.hd k lab.length)))) [.gone] [.sl k lab.length (TxG lab)] := fun Q h X a w E H Kk hK => by
 refine zw0 E (Sep.none_ H.xk) ho (zag hx) ht ht' he hk hl fun A c w' HS F => ?_
 let h1 : Hn := ⟨h.b, fun t => if t = k then (A, c) else h.r t, h.q⟩
 have er : h1.r k = (A, c) := if_pos rfl
 have := hK h1 w' (fun t ht => ⟨rfl, if_neg (by simp at ht; omega), rfl⟩) F (by
  show Sep (X ++ zab (zad h [] m)) [] w w' [] (zaO h1 [_])
  refine HS.refacts fun r hr => ?_
  rcases List.mem_singleton.1 hr with rfl
  refine (HS.facts _ (List.mem_cons_self ..)).imp fun w2 hw => ?_
  show ((h1.r k).1 = none → lab.length = 0) ∧ TxF (h1.r k).1 (h1.r k).2 lab w2
  rw [er]
  exact ⟨fun e => (hw.nil e).1, hw⟩)
 rw [show SV.den h1 (.a (.s (.p (.hd k lab.length)))) = .slice A lab.length c by show Value.slice (h1.r k).1 lab.length (h1.r k).2 = _; rw [er]] at this
 exact this
theorem zzR {t : List Nat} {ty : Nat} {x : Operand} (r : Nat) (hr : R[r]? = some (.sl i n0 (TxG t))) (h32 : 32 ≤ t.length) (ho : o.op = .sliceToArrayPointer ty x) (ht : arK P ty = some (32, 1)) (hx : evS l x = some (.a (.s (.p (.hd i n))))) (hn : 32 ≤ n) : zfU P N l m R o (hpS i 0 1 0) := fun h X a w E H => by
 have hf := (zgY H hr).now
 cases hA : (h.r i).1 with
 | none => have := (hf.nil hA).1; omega
 | some ad =>
  have := zzk (P := P) (S := zfp) (ws := w) (A := (h.r i).1) (n := n) (c := (h.r i).2) ho ht (zag (h := h) hx) hn w (CanB.Keep.refl _ _) a N E
  rw [this]
  show _ = Result.ok (Next.value (.pointer (some ((((h.r i).1.getD ⟨0, 0, none⟩).add (0 * 1)).add 0)))) w
  rw [hA, zax]
  rfl
theorem zzS {t : List Nat} {ty : Nat} {xop : Operand} (r : Nat) (hr : R[r]? = some (.sl i n0 (TxG t))) (h32 : 32 ≤ t.length) (ho : o.op = .load ty xop) (hx : evS l xop = some (hpS i 0 1 0)) (ht : tyK P ty = some (32, true)) : zfU P N l m R o (.a (.agg [.key t])) := fun h X a w E H => by
 obtain ⟨ad, hA, hat⟩ := zwZ (zgY H hr) h32
 have hx' : ev (zct h l) xop = some (.pointer (some ad)) := by
  rw [zag (h := h) hx]
  show some (Value.pointer (some ((((h.r i).1.getD ⟨0, 0, none⟩).add (0 * 1)).add 0))) = _
  rw [hA, zax]
  rfl
 exact zbm E ho hx' ht rfl hat.now
theorem zCA {n0 n t ty : Nat} {g f : Nat → Value} (f' : Nat → Value) {post : List SC} {xop y : Operand} {v : Value} (hm : zaB m i = some (.blk (.row n0 g :: .row n f :: post) t)) (ho : o.op = .store ty xop y) (hx : evS l xop = some (apS i n0 j 1)) (hy : evS l y = some (zi4 v)) (hok : v.oneCell' = true) (hs : zcY P ty = some 1) (hj : j < n) (hf : ∀ u, upd f j v u = f' u) : zcZ P N k l m R o (zek undef) ((i, .blk (.row n0 g :: .row n f' :: post) t) :: m) R := by
 obtain rfl : upd f j v = f' := funext hf
 refine ztD (x := .p (.v v)) hm ho hx hy hok hs (by simp only [zeN, SC.len]; omega) fun h => ?_
 have e := zjB (n := n) (f := f) (post := zay h post) (v := v) hj
 have e2 : ∀ cs : List Chunk, cl (.row n0 g :: cs) = (List.range n0).map g ++ cl cs := fun cs => rfl
 show cl (.row n0 g :: .row n (upd f j v) :: zay h post) = (cl (.row n0 g :: .row n f :: zay h post)).set (n0 + j * 1) v
 rw [e2, e2, e, Nat.mul_one, List.set_append, if_neg (by simp)]
 simp
theorem ztT {off n ty : Nat} {f : Nat → Value} {cs : List SC} {xop : Operand} (hm : zjf R m i = some cs) (ho : o.op = .load ty xop) (hx : evS l xop = some (apS i off j 1)) (ht : tyK P ty = some (1, false)) (hr : zDG cs off = some (n, f)) (hj : j < n) (wm : wfM (lt_ k) m = true) (wr : wfR (lt_ k) R = true) : zcZ P N k l m R o (zi4 (f j)) m R :=
 zaF (rs := []) (Rs := []) (zdQ (zCq hm ho hx ht fun h => by rw [Nat.mul_one]; exact zsZ h hr hj)) wm wr
theorem zjF {H : MB} {ty : Nat} {z : List SC} (hz : ∀ hn : Hn, zdM P ty = some (ca (zay hn z))) (ho : o.op = .alloc ty) (wH : wfM (lt_ k) H = true) : zkj P N k l m R H o (atS k 0) 1 ((k, .blk z ty) :: H) [] := fun Q h X a w E HS Kk hK => by
 have h3 : Sp X w (zad h [] H ++ zad h [] m) (zaO h R) := HS
 have hg : Sp (X ++ zab (zad h [] m)) w (zad h [] H) (zaO h R) := by
  refine Sp.of_sep h3.giveL fun t ht hm => ?_
  rcases List.mem_append.1 hm with h4 | h4
  ·exact h3.xap t (by rw [zai]; exact List.mem_append_left _ ht) h4
  ·have := h3.apart
   rw [zai] at this
   exact (List.nodup_append.1 this).2.2 t ht t h4 rfl
 let h1 : Hn := ⟨fun i => if i = k then w.heap.size else h.b i, h.r, h.q⟩
 have eb : h1.b k = w.heap.size := if_pos rfl
 have hag : AgS (lt_ k) h h1 := fun i hi => ⟨if_neg (by have := zci hi; omega), rfl, rfl⟩
 unfold Oper.wp
 rw [zmx (P := P) (a := a) (w := w) ho (hz h1)]
 have hf : Frm [] w (w.alloc (.cells (ca (zay h1 z)) ty)) := Frm.of_below ((Below.refl _ _).alloc (jV _) _)
 have := hK h1 _ (fun i hi => ⟨if_neg (by omega), rfl, rfl⟩) (by
  have e1 : zad h1 [] ((k, .blk z ty) :: H) = .blk w.heap.size (ca (zay h1 z)) ty :: zad h [] H := by
   rw [zam]
   show Res.blk (h1.b k) (ca (zay h1 z)) ty :: zad h1 [k] H = _
   rw [eb, zc3 h1 H [] k fun p hp => Nat.ne_of_lt (zci (zgV wH p hp)), zaP hag wH]
  rw [e1]
  have h5 : Sep (X ++ zab (zad h [] m)) (zab (zad h [] H)) w w (zad h [] H) [] := hg.sep.refacts fun _ hr => by cases hr
  exact h5.own hf (q := .blk w.heap.size (ca (zay h1 z)) ty) (heap_alloc_new w _) (by simp [Res.keys]) (by simp [Res.keys]))
 rw [show SV.den h1 (atS k 0) = .pointer (some ⟨w.heap.size, 0, none⟩) by show Value.pointer (some ⟨h1.b k, 0, none⟩) = _; rw [eb]] at this
 exact this
def hdF (cs : List Chunk) (t : Nat) (b : Nat) (w : World) : Prop := w.heap[b]? = some (.cells (ca cs) t (0, 0))
theorem zyz {cs : List Chunk} {t b : Nat} {w : World} (h : hdF cs t b w) : AtC ⟨b, 0, none⟩ cs w := zeg h
theorem ztU {m' : MB} {R' : List SF} {cs : List SC} {cs0 : List Chunk} {t : Nat} (i : Nat) (hm : zaB m i = some (.blk cs t)) (hcs : ∀ h, zay h cs = cs0) (wl : wfE (lt_ k) l = true) (hs : zcZ P N k l ((i, .gone) :: m) (.b i (hdF cs0 t) :: .blk i cs :: R) o sv m' R') : zcZ P N k l m R o sv m' R' :=
 zeX (Nat.ble_eq_true_of_le (jV k)) (fun h X w H => ⟨h, fun _ _ => ⟨rfl, rfl, rfl⟩, by
  have hf := (H.numAt hm).freeze
  obtain ⟨h1, h2⟩ := zkv hm H
  refine ⟨h1.refacts fun r hr => ?_, h2⟩
  rcases List.mem_cons.1 hr with rfl | hr
  ·have := hf.facts _ (List.mem_cons_self ..)
   rw [hcs h] at this
   exact this
  ·exact h1.facts _ hr⟩) wl hs
theorem zdS {cs : List SC} {cs0 : List Chunk} {t : Nat} (i : Nat) (hm : zaB m i = some (.blk cs t)) (hcs : ∀ h, zay h cs = cs0) (ht : zfg P N k l ((i, .gone) :: m) (.b i (hdF cs0 t) :: .blk i cs :: R) o sv rs []) : zfg P N k l m R o sv rs [] := fun Q h X a w E H Kk hK => by
 have hf := (H.numAt hm).freeze
 obtain ⟨h1, h2⟩ := zkv hm H
 refine ht Q h X a w E (h1.refacts fun r hr => ?_) Kk fun h1 w' h2 h3 h4 => hK h1 w' h2 h3 ⟨h4.frm, H.xk, h4.holds, h4.apart, h4.mine, fun _ hr => by cases hr⟩
 rcases List.mem_cons.1 hr with rfl | hr
 ·have := hf.facts _ (List.mem_cons_self ..)
  rw [hcs h] at this
  exact this
 ·exact h1.facts _ hr
theorem ztV {v : Value} {t ty : Nat} {xop y : Operand} (r : Nat) (hr : R[r]? = some (.b i (hdF [.one v] t))) (ho : o.op = .store ty xop y) (hx : evS l xop = some (atS i 0)) (hy : evS l y = some (zi4 v)) (hok : v.oneCell' = true) (hs : zcY P ty = some 1) : zcZ P N k l m R o (zek undef) m R := fun Q h X a w E H Kk hK => by
 have hb : w.heap[h.b i]? = some (.cells (ca [.one v]) t (0, 0)) := (H.facts _ (zaS.2 ⟨_, List.mem_of_getElem? hr, rfl⟩)).now
 have h1 := zbJ ho (E.ev (zag hx)) (E.ev (zag hy)) (zej (P := P) (ty := ty) (c := 0) (A := [.one v]) (A' := [.one v]) hb hok (by simp [zdo, Chunk.len]) rfl hs)
 rw [setRow_self w (h.b i) _ t (0, 0) hb] at h1
 unfold Oper.wp
 rw [h1]
 exact hK h w (fun _ _ => ⟨rfl, rfl, rfl⟩) (Frm.refl _ _) H fun j hj => .inl hj
end
end
section
open Go.RowKit
section
variable {P : Program} {ops : Array Oper} {rest : List Oper} {o : Oper} {a : Act} {w : World} {Q : Exit → Act → World → Prop}
theorem zoy (k : IntKind) (N : Nat) (f : Nat → Int) (off n : Nat) (h : off + n ≤ N) : (arr k N f).extract off (off + n) = arr k n fun i => f (off + i) := by
 apply Array.ext_getElem?
 intro j
 by_cases hj : j < n
 ·rw [zhO _ _ _ _ hj, Array.getElem?_extract, if_pos (by rw [zeJ]; omega), zhO _ _ _ _ (by omega)]
 ·rw [Array.getElem?_eq_none (by simp [zeJ]; omega), Array.getElem?_eq_none (by rw [zeJ]; omega)]
theorem zkz {e n : Nat} (hT : zjU P e n) : (isAgg e).run P w = .ok true w := by
 obtain ⟨d, hu, hd, _⟩ := hT
 unfold isAgg
 rw [Sem.run_bind, run_underlying hu w]
 cases d <;> simp_all
theorem zhj {t e n N len : Nat} {k : IntKind} {f : Nat → Int} {x y : Operand} {i : Int} (ho : o.op = .index t x y) (ht : P.underlying t = some (.array len e)) (hT : zjU P e n) (hx : a.eval x = .agg (arr k N f)) (hy : a.eval y = .int .i64 i) (h0 : 0 ≤ i) (hi : i < len) (hle : i.toNat * n + n ≤ N) :
  (execOp a.eval o).run P w = .ok (.value (.agg (arr k n fun j => f (i.toNat * n + j)))) w := by
 have hs := hT
 obtain ⟨_, _, _, hs⟩ := hs
 unfold execOp
 simp only [ho, hx, hy]
 unfold Instr.index
 have h1 : 0 ≤ i ∧ i < (len : Int) := ⟨h0, hi⟩
 simp [Sem.run_bind, run_underlying ht, asIntOf, h1, zba hs, part, zkz hT, zoy k N f _ n hle]
theorem zgB {t e N len : Nat} {k : IntKind} {d : TypeDesc} {f : Nat → Int} {x y : Operand} {i : Int} (ho : o.op = .index t x y) (ht : P.underlying t = some (.array len e)) (he : P.underlying e = some d) (hd : (match d with | .struct _ | .array _ _ => true | _ => false) = false) (hs : (P.info? e).map (·.size) = some 1) (hx : a.eval x = .agg (arr k N f)) (hy : a.eval y = .int .i64 i) (h0 : 0 ≤ i) (hi : i < len) (hle : i.toNat < N) :
  (execOp a.eval o).run P w = .ok (.value (.int k (f i.toNat))) w := by
 have hg : (isAgg e).run P w = .ok false w := by
  unfold isAgg
  rw [Sem.run_bind, run_underlying he w]
  cases d <;> simp_all
 unfold execOp
 simp only [ho, hx, hy]
 unfold Instr.index
 have h1 : 0 ≤ i ∧ i < (len : Int) := ⟨h0, hi⟩
 simp [Sem.run_bind, run_underlying ht, asIntOf, h1, zba hs, part, hg, zhO _ _ _ _ hle]
theorem zhk {t e n N len : Nat} {k : IntKind} {f : Nat → Int} {x y : Operand} {i : Int} (hgd : o.guard = none) (ho : o.op = .index t x y) (ht : P.underlying t = some (.array len e)) (hT : zjU P e n) (hx : a.eval x = .agg (arr k N f)) (hy : a.eval y = .int .i64 i) (h0 : 0 ≤ i) (hi : i < len) (hle : i.toNat * n + n ≤ N)
  (f' : Nat → Int) (hf : ∀ j, j < n → f (i.toNat * n + j) = f' j) (h : wpList P ops Q rest (a.put o.dst (.agg (arr k n f'))) w) : wpList P ops Q (o :: rest) a w :=
 zeK hgd (zhj ho ht hT hx hy h0 hi hle) (by rw [zc5 hf]; exact h)
theorem za2 {t e N len : Nat} {k : IntKind} {d : TypeDesc} {f : Nat → Int} {x y : Operand} {i : Int} (hgd : o.guard = none) (ho : o.op = .index t x y) (ht : P.underlying t = some (.array len e)) (he : P.underlying e = some d) (hd : (match d with | .struct _ | .array _ _ => true | _ => false) = false) (hs : (P.info? e).map (·.size) = some 1) (hx : a.eval x = .agg (arr k N f)) (hy : a.eval y = .int .i64 i) (h0 : 0 ≤ i) (hi : i < len) (hle : i.toNat < N)
  (h : wpList P ops Q rest (a.put o.dst (.int k (f i.toNat))) w) : wpList P ops Q (o :: rest) a w :=
 zeK hgd (zgB ho ht he hd hs hx hy h0 hi hle) h
theorem zbQ {ty : TypeId} {parts : Array (Nat × Operand)} {c : Array Value} {l : List (Nat × Value)} (ho : o.op = .build ty parts) (hl : (parts.map fun (i, x) => (i, a.eval x)).toList = l) (hb : P.built ty l = some c) : (execOp a.eval o).run P w = .ok (.value (.agg c)) w := by
 subst hl
 unfold execOp
 simp only [ho, Sem.run_bind, run_build w ty _ c hb, Result.andThen_ok]
 rfl
theorem zcm {t e len : Nat} {parts : Array (Nat × Operand)} {c : Array Value} {l : List (Nat × Value)} (hgd : o.guard = none) (ho : o.op = .buildSlice t len parts) (hu : P.underlying t = some (.slice e)) (hl : (parts.map fun (i, x) => (i, a.eval x)).toList = l) (hb : P.builtSlice e len l = some c)
  (h : wpList P ops Q rest (a.put o.dst (.slice (some ⟨w.heap.size, 0, none⟩) len len)) (w.alloc (.cells c e))) : wpList P ops Q (o :: rest) a w := by
 subst hl
 exact Go.Great.wpList_buildSliceTo hgd t e len parts ho _ rfl _ rfl hu c hb h
end
end
section
open Go.RowKit
theorem zbZ : zjU Tryz.prog 168 5 := ⟨_, Tryz.underlying168, rfl, by kernel_rfl⟩
theorem zv5 : zhQ Tryz.prog 168 .u64 5 := by unfold zhQ; kernel_rfl
theorem zmX : (Tryz.prog.info? 32).map (·.size) = some 1 := by kernel_rfl
def mxN (F : Nat → Nat) : Nat → Nat
 | 0 => F 0
 | m + 1 => max (mxN F m) (F (m + 1))
theorem zyA (F : Nat → Nat) (b : Nat) : ∀ m, (mxN F m < b ↔ ∀ i, i < m + 1 → F i < b)
 | 0 => by
  unfold mxN
  exact ⟨fun h i hi => by rw [show i = 0 from by omega]; exact h, fun h => h 0 (by omega)⟩
 | m + 1 => by
  unfold mxN
  rw [Nat.max_lt, zyA F b m]
  constructor
  ·rintro ⟨h1, h2⟩ i hi
   by_cases h : i < m + 1
   ·exact h1 i h
   ·rw [show i = m + 1 from by omega]; exact h2
  ·intro h
   exact ⟨fun i hi => h i (by omega), h _ (by omega)⟩
theorem zw2 (F : Nat → Nat) (m : Nat) : mxN F (m + 1) = max (mxN F m) (F (m + 1)) := rfl
attribute [local irreducible] mxN
theorem zzT (F : Nat → Nat) (hF : ∀ i, i < 5 → F i < 18446744073709551616) (g : Nat) (w : World) (hg : w.heap[g]? = some (.cells (arr .u64 5 fun i => ((F i : Nat) : Int)) 168 (0, 0))) :
  Calls Tryz.prog 183 #[.slice (some ⟨g, 0, none⟩) 5 5] w fun e w' => e = .returned (.int .u64 ((mxN F 4 : Nat) : Int)) ∧ w = w' := by
 go_enter Tryz.func183, Tryz.ntmps183
 have c0 := za3 hg 0 (by omega)
 go_wp2
 have e0 : mxN F 0 = F 0 := by unfold mxN; rfl
 go_loopg [3, 4] 4 (fun n x i wr => ∃ m : Nat, m + n = 4 ∧ i = .int .i64 ((m : Int) + 1) ∧ x = .int .u64 ((mxN F m : Nat) : Int) ∧ w = wr)
 case atStart => exact ⟨0, rfl, rfl, by rw [e0], rfl⟩
 case round =>
  obtain ⟨m, hm, rfl, rfl, rfl⟩ := hrel
  have hm' := Lib.hid hm
  clear hm c0 e0
  by_cases hlt : m < 4
  ·have c1 := za3 hg (m + 1) (by omega)
   go_wp2
   all_goals
    go_roundg (gk - 1)
    case measure => have := hm'.out; omega
    case rel =>
     have hm'' := hm'.out
     exact ⟨m + 1, by omega, by go_num, by rw [zw2]; congr 2; omega, rfl⟩
  ·obtain rfl : m = 4 := by have := hm'.out; omega
   go_wp2
   go_ret
   exact ⟨rfl, rfl⟩
def okF (F : Nat → Nat) (n : Nat) : Prop := ∀ i, i < n → F i < 4503599627370496
instance (F : Nat → Nat) (n : Nat) : Decidable (okF F n) := Nat.decidableBallLT n fun i _ => F i < 4503599627370496
theorem zw3 (F : Nat → Nat) (off k : Nat) (h : okF F (off + 5 * k)) : okF F (off + 5 * (k + 1)) ↔ okF (fun i => F (off + 5 * k + i)) 5 := by
 constructor
 ·intro h i hi; exact h _ (by omega)
 ·intro h' i hi
  by_cases hlt : i < off + 5 * k
  ·exact h i hlt
  ·have := h' (i - (off + 5 * k)) (by omega)
   simpa only [show off + 5 * k + (i - (off + 5 * k)) = i from by omega] using this
theorem ztW (F : Nat → Nat) (hF : ∀ i, i < 5 → F i < 18446744073709551616) (w : World) :
  Calls Tryz.prog 182 #[.agg (arr .u64 5 fun i => ((F i : Nat) : Int))] w fun e w' => e = .returned (.bool (!decide (okF F 5))) ∧ Below w.heap.size w w' := by
 go_enter Tryz.func182, Tryz.ntmps182
 obtain ⟨g0, hz, hb0⟩ := zgS w (.cells (arr .u64 5 fun i => ((F i : Nat) : Int)) 168)
 have hl := zyA F 4503599627370496 4
 have e0 : (!decide (okF F 5)) = decide (4503599627370496 ≤ mxN F 4) := by
  rw [← decide_not]
  exact decide_eq_decide.2 (by rw [← Nat.not_lt, hl]; rfl)
 rw [e0]
 clear e0 hl
 go_wp2_with (first | (refine zbL rfl (zhe rfl Tryz.underlying168 zmX rfl) ?_) | (go_at_call 183; refine (zzT F hF _ _ g0).mono ?_; rintro e w' ⟨rfl, rfl⟩))
 go_ret
 refine ⟨?_, hb0⟩
 show Ending.returned (Value.bool _) = Ending.returned (Value.bool _)
 rw [show decide ((4503599627370496 : Int) ≤ ((mxN F 4 : Nat) : Int)) = decide (4503599627370496 ≤ mxN F 4) from decide_eq_decide.2 (by omega)]
theorem zkA (n : Nat) (hn : n < 1000) (F : Nat → Nat) (hF : ∀ i, i < 5 * n → F i < 18446744073709551616) (g t : Nat) (w : World) (hg : w.heap[g]? = some (.cells (arr .u64 (5 * n) fun i => ((F i : Nat) : Int)) t (0, 0))) :
  Calls Tryz.prog 196 #[.slice (some ⟨g, 0, none⟩) n n, .func (.func 182) #[] #[]] w fun e w' => (∃ r : Int, e = .returned (.int .i64 r) ∧ decide (r ≥ 0) = !decide (okF F (5 * n))) ∧ Below w.heap.size w w' := by
 go_enter Tryz.func196, Tryz.ntmps196
 have hgl := jM hg
 go_wp2
 go_loopg [8] n (fun q i wr => ∃ m : Nat, m + q = n ∧ i = .int .i64 m ∧ okF F (5 * m) ∧ wr.heap[g]? = some (.cells (arr .u64 (5 * n) fun i => ((F i : Nat) : Int)) t (0, 0)) ∧ Below w.heap.size w wr)
 case atStart => exact ⟨0, by omega, rfl, fun i hi => absurd hi (by omega), hg, Below.refl _ _⟩
 case round =>
  clear hg
  obtain ⟨m, hm, rfl, hok, hg, hB⟩ := hrel
  have hm' := Lib.hid hm
  clear hm
  by_cases hlt : m < n
  ·have h5 := zw3 F 0 m (by simpa using hok)
   simp only [Nat.zero_add] at h5
   by_cases hq : okF (fun i => F (5 * m + i)) 5
   ·go_wp2_with (first | (refine zcB (off := m * 5) (fun i => ((F (5 * m + i) : Nat) : Int)) rfl rfl rfl zbZ hg (by omega) (fun i hi => by rw [Nat.mul_comm m 5]) ?_) | (go_at_call 182; refine (ztW (fun i => F (5 * m + i)) (fun i hi => hF _ (by omega)) _).mono ?_; rintro e w2 ⟨rfl, b2⟩; rw [show (!decide (okF (fun i => F (5 * m + i)) 5)) = false from by rw [decide_eq_true hq]; rfl]))
    go_roundg (gk - 1)
    case measure => have := hm'.out; omega
    case rel =>
     have hm'' := hm'.out
     exact ⟨m + 1, by omega, by go_num, h5.2 hq, zak b2 (jM hg) hg, hB.trans (b2.mono hB.size)⟩
   ·go_wp2_with (first | (refine zcB (off := m * 5) (fun i => ((F (5 * m + i) : Nat) : Int)) rfl rfl rfl zbZ hg (by omega) (fun i hi => by rw [Nat.mul_comm m 5]) ?_) | (go_at_call 182; refine (ztW (fun i => F (5 * m + i)) (fun i hi => hF _ (by omega)) _).mono ?_; rintro e w2 ⟨rfl, b2⟩; rw [show (!decide (okF (fun i => F (5 * m + i)) 5)) = true from by rw [decide_eq_false hq]; rfl]))
    go_ret
    refine ⟨⟨_, rfl, ?_⟩, hB.trans (b2.mono hB.size)⟩
    rw [show decide (okF F (5 * n)) = false from decide_eq_false fun h => hq (h5.1 fun i hi => h i (by omega))]
    exact decide_eq_true (by omega)
  ·obtain rfl : m = n := by have := hm'.out; omega
   go_wp2
   go_ret
   refine ⟨⟨_, rfl, ?_⟩, hB⟩
   rw [decide_eq_true hok]; rfl
theorem zmY (n : Nat) (hn : n < 1000) (F : Nat → Nat) (hF : ∀ i, i < 5 * n → F i < 18446744073709551616) (g t : Nat) (w : World) (hg : w.heap[g]? = some (.cells (arr .u64 (5 * n) fun i => ((F i : Nat) : Int)) t (0, 0))) :
  Calls Tryz.prog 181 #[.slice (some ⟨g, 0, none⟩) n n, .func (.func 182) #[] #[]] w fun e w' => e = .returned (.bool (!decide (okF F (5 * n)))) ∧ Below w.heap.size w w' := by
 go_enter Tryz.func181, Tryz.ntmps181
 go_wp2_with (go_at_call 196; refine (zkA n hn F hF g t _ hg).mono ?_; rintro e w2 ⟨⟨r, rfl, hr⟩, b2⟩)
 go_ret
 exact ⟨rfl, b2⟩
theorem zgC (n m : Nat) (hm : 5 * n = m) (hn : n < 1000) (F : Nat → Nat) (hF : ∀ i, i < m → F i < 18446744073709551616) (g t : Nat) (w : World) (hg : w.heap[g]? = some (.cells (arr .u64 m fun i => ((F i : Nat) : Int)) t (0, 0))) :
  Calls Tryz.prog 164 #[.slice (some ⟨g, 0, none⟩) n n] w fun e w' => e = .returned (.bool (decide (okF F m))) ∧ Below w.heap.size w w' := by
 subst hm
 go_enter Tryz.func164, Tryz.ntmps164
 go_wp2_with (go_at_call 181; refine (zmY n hn F hF g t _ hg).mono ?_; rintro e w2 ⟨rfl, b2⟩)
 go_ret
 exact ⟨by simp, b2⟩
theorem zmZ (F : Nat → Int) : Tryz.prog.builtSlice 168 1 [(0, .agg (arr .u64 5 F))] = some (arr .u64 5 F) := by kernel_rfl
def zkB (F G : Nat → Nat) (i : Nat) : Nat := if i < 5 then F i else G (i - 5)
theorem ziv (F G : Nat → Nat) : Tryz.prog.builtSlice 168 2 [(0, .agg (arr .u64 5 fun i => ((F i : Nat) : Int))), (1, .agg (arr .u64 5 fun i => ((G i : Nat) : Int)))] = some (arr .u64 10 fun i => ((zkB F G i : Nat) : Int)) := by kernel_rfl
theorem zgD (F G : Nat → Nat) : okF (zkB F G) 10 ↔ okF F 5 ∧ okF G 5 := by
 constructor
 ·intro h
  refine ⟨fun i hi => ?_, fun i hi => ?_⟩
  ·have := h i (by omega); unfold zkB at this; rwa [if_pos hi] at this
  ·have := h (5 + i) (by omega); unfold zkB at this; rwa [if_neg (by omega), Nat.add_sub_cancel_left] at this
 ·rintro ⟨h1, h2⟩ i hi
  unfold zkB
  by_cases h : i < 5
  ·rw [if_pos h]; exact h1 i h
  ·rw [if_neg h]; exact h2 _ (by omega)
theorem zoz (F G : Nat → Nat) (b : Nat) (hF : ∀ i, i < 5 → F i < b) (hG : ∀ i, i < 5 → G i < b) (i : Nat) (hi : i < 10) : zkB F G i < b := by
 unfold zkB
 by_cases h : i < 5
 ·rw [if_pos h]; exact hF i h
 ·rw [if_neg h]; exact hG _ (by omega)
end
section
open Go.RowKit
theorem zkC (a b : Nat) (h : a + b < 18446744073709551616) : bits .and .u64 ((a : Int) + (b : Int)) 2251799813685247 = (((a + b) % 2251799813685248 : Nat) : Int) := by
 have h1 := bits_and_u64_nat (a + b) 2251799813685247 h (by omega)
 have e : (a + b) &&& 2251799813685247 = (a + b) % 2251799813685248 := Nat.and_two_pow_sub_one_eq_mod (a + b) 51
 rw [e] at h1
 rw [← h1]
 rfl
def ovN (F : Nat → Nat) : Nat → Nat
 | 0 => 0
 | m + 1 => (F m + ovN F m) / 2251799813685248
def loN (F : Nat → Nat) (m : Nat) : Nat := (F m + ovN F m) % 2251799813685248
def zcU (F : Nat → Nat) (i : Nat) : Nat := if i = 0 then loN F 0 + 19 * ovN F 5 else loN F i
theorem zf3 (F : Nat → Nat) (m : Nat) : ovN F (m + 1) = (F m + ovN F m) / 2251799813685248 := rfl
theorem zqj (F : Nat → Nat) (hF : ∀ i, i < 5 → F i < 9223372036854775808) : ∀ m, m ≤ 5 → ovN F m < 8192
 | 0, _ => by unfold ovN; omega
 | m + 1, h => by
  have := zqj F hF m (by omega)
  have := hF m (by omega)
  rw [zf3]
  omega
attribute [local irreducible] ovN
theorem zez (F : Nat → Nat) (hF : ∀ i, i < 5 → F i < 9223372036854775808) (w : World) :
  Calls Tryz.prog 180 #[.agg (arr .u64 5 fun i => ((F i : Nat) : Int))] w fun e w' => e = .returned (.agg (arr .u64 5 fun i => ((zcU F i : Nat) : Int))) ∧ Below w.heap.size w w' := by
 go_enter Tryz.func180, Tryz.ntmps180
 obtain ⟨h0, h1, hsz, hb⟩ := zgT w (.cells (arr .u64 5 fun i => ((F i : Nat) : Int)) 168) (.cells (arr .u64 5 fun _ => 0) 168)
 go_wp2_with (first | (refine zat rfl rfl zv5 ?_) | (refine zac rfl rfl rfl zbZ h0 ?_))
 have hF' := Lib.hid hF
 have hov := Lib.hid (zqj F hF)
 clear hF
 go_loopg [3, 7] 5 (fun n x i wr => ∃ m : Nat, m + n = 5 ∧ i = .int .i64 m ∧ x = .int .u64 ((ovN F m : Nat) : Int) ∧ wr.heap[w.heap.size]? = some (.cells (arr .u64 5 fun i => ((if i < m then loN F i else F i : Nat) : Int)) 168 (0, 0)) ∧
  wr.heap[w.heap.size + 1]? = some (.cells (arr .u64 5 fun _ => 0) 168 (0, 0)) ∧ Below w.heap.size w wr)
 case atStart => exact ⟨0, rfl, rfl, by unfold ovN; rfl, zav h0 (fun i _ => by rw [if_neg (Nat.not_lt_zero i)]), h1, hb⟩
 case round =>
  obtain ⟨m, hm, rfl, rfl, g0, g1, hB⟩ := hrel
  have hm' := Lib.hid hm
  clear h0 h1 hsz hb hm
  by_cases hlt : m < 5
  ·have fb := hF'.out m hlt
   have ob := hov.out m (by omega)
   have c0 := za3 g0 m hlt
   have fz := zb4 g0 m
   go_wp2_with (refine za2 rfl rfl Tryz.underlying168 Tryz.underlying32 rfl zmX rfl rfl (by omega) (by omega) (by omega) ?_)
   go_roundg (gk - 1)
   case measure => have := hm'.out; omega
   case rel =>
    have hm'' := hm'.out
    refine ⟨m + 1, by omega, by go_num, ?_, zav (zce g0 m _) (fun i _ => ?_), zcf g1 _ _ (by omega), hB.setCell (jV _) _⟩
    ·rw [zf3]; rfl
    ·rw [zkC _ _ (by omega)]
     unfold upd
     by_cases h : i = m
     ·rw [if_pos h, h, if_pos (by omega)]; rfl
     ·rw [if_neg h]
      dsimp only
      by_cases h2 : i < m
      ·rw [if_pos h2, if_pos (by omega)]
      ·rw [if_neg h2, if_neg (by omega)]
  ·obtain rfl : m = 5 := by have := hm'.out; omega
   have ob := hov.out 5 (by omega)
   have g0' := zav (f' := fun i => ((loN F i : Nat) : Int)) g0 (fun i hi => by rw [if_pos hi])
   clear g0
   have c0 := za3 g0' 0 (by omega)
   have fz := zb4 g0' 0
   have lb : loN F 0 < 2251799813685248 := Nat.mod_lt _ (by omega)
   go_upto_region 9 with (fail)
   have g2 := zav (f' := fun i => ((zcU F i : Nat) : Int)) (zce g0' 0 (((loN F 0 : Nat) : Int) + 19 * ((ovN F 5 : Nat) : Int))) (fun i _ => by
    unfold upd zcU
    by_cases h : i = 0
    ·rw [if_pos h, if_pos h]; omega
    ·rw [if_neg h, if_neg h])
   have g3 := zcf (i := 0) (v := .int .u64 (((loN F 0 : Nat) : Int) + 19 * ((ovN F 5 : Nat) : Int))) g1 (C := w.heap.size) (by omega)
   have hBq := hB.setCell (p := ⟨w.heap.size, 0, none⟩) (jV _) (.int .u64 (((loN F 0 : Nat) : Int) + 19 * ((ovN F 5 : Nat) : Int)))
   go_wp2_with (first | (refine zac rfl rfl rfl zbZ g2 ?_) | (refine zaf rfl rfl rfl rfl zbZ g3 ?_))
   exact bodyPost_ret (zbK rfl rfl zbZ (zaC g3)) rfl ⟨rfl, zaD hBq (by omega) _⟩
end
section
open Go.RowKit
theorem zcn (F : Nat → Nat) (hF : ∀ i, i < 5 → F i < 9223372036854775808) (i : Nat) (_hi : i < 5) : zcU F i < 2251799813840896 := by
 have h1 := zqj F hF 5 (by omega)
 have h2 : ∀ i, loN F i < 2251799813685248 := fun i => Nat.mod_lt _ (by omega)
 unfold zcU
 have := h2 0
 have := h2 i
 split <;> omega
def quN (F : Nat → Nat) : Nat → Nat
 | 0 => 19
 | m + 1 => (F m + quN F m) / 2251799813685248
theorem zqk (F : Nat → Nat) (m : Nat) : quN F (m + 1) = (F m + quN F m) / 2251799813685248 := rfl
theorem ztX (F : Nat → Nat) (hF : ∀ i, i < 5 → F i < 4503599627370496) : ∀ m, m ≤ 5 → quN F m < 20
 | 0, _ => by unfold quN; omega
 | m + 1, h => by
  have := ztX F hF m (by omega)
  have := hF m (by omega)
  rw [zqk]
  omega
def upN (F : Nat → Nat) (i : Nat) : Nat := if i = 0 then F 0 + 19 * quN F 5 else F i
def zdA (F : Nat → Nat) (i : Nat) : Nat := loN (upN (zcU (zcU F))) i
theorem zCB (F : Nat → Nat) (hF : ∀ i, i < 5 → F i < 4503599627370496) (i : Nat) (hi : i < 5) : upN F i < 4503599627370877 := by
 have := ztX F hF 5 (by omega)
 have := hF 0 (by omega)
 have := hF i hi
 unfold upN
 split <;> omega
theorem ztY (F : Nat → Nat) (i : Nat) : zdA F i < 2251799813685248 := Nat.mod_lt _ (by omega)
attribute [local irreducible] ovN quN
theorem ztZ (F : Nat → Nat) (hF : ∀ i, i < 5 → F i < 9223372036854775808) (w : World) :
  Calls Tryz.prog 184 #[.agg (arr .u64 5 fun i => ((F i : Nat) : Int))] w fun e w' => e = .returned (.agg (arr .u64 5 fun i => ((zdA F i : Nat) : Int))) ∧ Below w.heap.size w w' := by
 go_enter Tryz.func184, Tryz.ntmps184
 obtain ⟨h0, h1, hsz, hb⟩ := zgT w (.cells (arr .u64 5 fun i => ((F i : Nat) : Int)) 168) (.cells (arr .u64 5 fun _ => 0) 168)
 go_wp2_with (first | (refine zat rfl rfl zv5 ?_) | (refine zac rfl rfl rfl zbZ h0 ?_) | (go_at_call 180; fail))
 refine (zez F hF _).mono ?_
 rintro e w1 ⟨rfl, b1⟩
 have c1 := zcn F hF
 go_wp2_with (go_at_call 180; fail)
 refine (zez (zcU F) (fun i hi => by have := c1 i hi; omega) _).mono ?_
 rintro e w2 ⟨rfl, b2⟩
 have c2 : ∀ i, i < 5 → zcU (zcU F) i < 4503599627370496 := fun i hi => by have := zcn (zcU F) (fun i hi => by have := c1 i hi; omega) i hi; omega
 have b3 := b1.trans (b2.mono b1.size)
 have g0 := zak b3 (by omega) h0
 have g1 := zak b3 (by omega) h1
 have hB := hb.trans (b3.mono (by omega))
 clear h0 h1 b1 b2 b3 c1 hF hb hsz
 generalize hGe : zcU (zcU F) = G at c2 ⊢
 have hGe' := Lib.hid hGe
 clear hGe
 go_upto_region 2 with (refine zaf rfl rfl rfl rfl zbZ g0 ?_)
 have q0 := zaC (w := w2) (c' := arr .u64 5 fun i => ((G i : Nat) : Int)) g0
 have q1 := zcX (w := w2) (c' := arr .u64 5 fun i => ((G i : Nat) : Int)) (g := w.heap.size) g1 (by omega)
 have hBq := zaD hB (g := w.heap.size) (by omega) (arr .u64 5 fun i => ((G i : Nat) : Int))
 clear g0 g1 hB
 generalize w2.setRow w.heap.size (arr .u64 5 fun i => ((G i : Nat) : Int)) = w3 at *
 (try simp only [Act.put, jA, jB, jC])
 have hq := Lib.hid (ztX G c2)
 have hu := Lib.hid (zCB G c2)
 have hG := Lib.hid c2
 clear c2
 go_wp2_with (refine zac rfl rfl rfl zbZ q0 ?_)
 go_loopg [3, 13] 5 (fun n x i wr => ∃ m : Nat, m + n = 5 ∧ i = .int .i64 m ∧ x = .int .u64 ((quN G m : Nat) : Int) ∧ wr.heap[w.heap.size]? = some (.cells (arr .u64 5 fun i => ((G i : Nat) : Int)) 168 (0, 0)) ∧
  wr.heap[w.heap.size + 1]? = some (.cells (arr .u64 5 fun _ => 0) 168 (0, 0)) ∧ Below w.heap.size w wr)
 case atStart => exact ⟨0, rfl, rfl, by unfold quN; rfl, q0, q1, hBq⟩
 case round =>
  clear q0 q1 hBq
  obtain ⟨m, hm, rfl, rfl, g0, g1, hB⟩ := hrel
  have hm' := Lib.hid hm
  clear hm
  by_cases hlt : m < 5
  ·have fb := hG.out m hlt
   have ob := hq.out m (by omega)
   go_wp2_with (refine za2 rfl rfl Tryz.underlying168 Tryz.underlying32 rfl zmX rfl rfl (by omega) (by omega) (by omega) ?_)
   go_roundg (gk - 1)
   case measure => have := hm'.out; omega
   case rel =>
    have hm'' := hm'.out
    exact ⟨m + 1, by omega, by go_num, by rw [zqk]; rfl, g0, g1, hB⟩
  ·obtain rfl : m = 5 := by have := hm'.out; omega
   have ob := hq.out 5 (by omega)
   have fb := hG.out 0 (by omega)
   have c0 := za3 g0 0 (by omega)
   have fz := zb4 g0 0
   go_upto_region 9 with (fail)
   have q0 := zav (f' := fun i => ((upN G i : Nat) : Int)) (zce g0 0 (((G 0 : Nat) : Int) + 19 * ((quN G 5 : Nat) : Int))) (fun i _ => by
    unfold upd upN
    by_cases h : i = 0
    ·rw [if_pos h, if_pos h]; omega
    ·rw [if_neg h, if_neg h])
   have q1 := zcf (i := 0) (v := .int .u64 (((G 0 : Nat) : Int) + 19 * ((quN G 5 : Nat) : Int))) g1 (C := w.heap.size) (by omega)
   have hBq := hB.setCell (p := ⟨w.heap.size, 0, none⟩) (jV _) (.int .u64 (((G 0 : Nat) : Int) + 19 * ((quN G 5 : Nat) : Int)))
   clear g0 g1 hB c0 fz ob fb
   generalize wr.setCell ⟨w.heap.size, 0, none⟩ (.int .u64 (((G 0 : Nat) : Int) + 19 * ((quN G 5 : Nat) : Int))) = w4 at *
   generalize hUe : upN G = U at hu q0 ⊢
   have hUe' := Lib.hid hUe
   clear hUe
   have hov := Lib.hid (zqj U (fun i hi => by have := hu.out i hi; omega))
   go_wp2_with (refine zac rfl rfl rfl zbZ q0 ?_)
   go_loopg [6, 28] 5 (fun n x i wr => ∃ m : Nat, m + n = 5 ∧ i = .int .i64 m ∧ x = .int .u64 ((ovN U m : Nat) : Int) ∧ wr.heap[w.heap.size]? = some (.cells (arr .u64 5 fun i => ((if i < m then loN U i else U i : Nat) : Int)) 168 (0, 0)) ∧
    wr.heap[w.heap.size + 1]? = some (.cells (arr .u64 5 fun _ => 0) 168 (0, 0)) ∧ Below w.heap.size w wr)
   case atStart => exact ⟨0, rfl, rfl, by unfold ovN; rfl, zav q0 (fun i _ => by rw [if_neg (Nat.not_lt_zero i)]), q1, hBq⟩
   case round =>
    clear q0 q1 hBq
    obtain ⟨m, hm, rfl, rfl, g0, g1, hB⟩ := hrel
    have hm' := Lib.hid hm
    clear hm
    by_cases hlt : m < 5
    ·have fb := hu.out m hlt
     have ob := hov.out m (by omega)
     have c0 := za3 g0 m hlt
     have fz := zb4 g0 m
     go_wp2_with (refine za2 rfl rfl Tryz.underlying168 Tryz.underlying32 rfl zmX rfl rfl (by omega) (by omega) (by omega) ?_)
     go_roundg (gk - 1)
     case measure => have := hm'.out; omega
     case rel =>
      have hm'' := hm'.out
      refine ⟨m + 1, by omega, by go_num, ?_, zav (zce g0 m _) (fun i _ => ?_), zcf g1 _ _ (by omega), hB.setCell (jV _) _⟩
      ·rw [zf3]; rfl
      ·rw [zkC _ _ (by omega)]
       unfold upd
       by_cases h : i = m
       ·rw [if_pos h, h, if_pos (by omega)]; rfl
       ·rw [if_neg h]
        dsimp only
        by_cases h2 : i < m
        ·rw [if_pos h2, if_pos (by omega)]
        ·rw [if_neg h2, if_neg (by omega)]
    ·obtain rfl : m = 5 := by have := hm'.out; omega
     have p0 := zav (f' := fun i => ((loN U i : Nat) : Int)) g0 (fun i hi => by rw [if_pos hi])
     clear g0
     go_wp2_with (first | (refine zac rfl rfl rfl zbZ p0 ?_) | (refine zaf rfl rfl rfl rfl zbZ g1 ?_))
     exact bodyPost_ret (zbK rfl rfl zbZ (zaC g1)) rfl ⟨by rw [← hUe'.out, ← hGe'.out]; rfl, zaD hB (by omega) _⟩
end
section
def zbp (X : Nat → Nat) : Nat → Nat
 | 0 => 0
 | i + 1 => zbp X i + X i * 2 ^ (51 * i)
theorem zdT (X : Nat → Nat) (i : Nat) : zbp X (i + 1) = zbp X i + X i * 2 ^ (51 * i) := rfl
theorem zgE (X : Nat → Nat) (n : Nat) (hX : ∀ i, i < n → X i < 2251799813685248) : ∀ i, i ≤ n → zbp X i < 2 ^ (51 * i)
 | 0, _ => by unfold zbp; decide
 | i + 1, h => by
  have h1 := zgE X n hX i (by omega)
  have h2 : X i + 1 ≤ 2251799813685248 := hX i (by omega)
  have h3 := Nat.mul_le_mul_right (2 ^ (51 * i)) h2
  rw [zdT, show 51 * (i + 1) = 51 + 51 * i from by omega, Nat.pow_add]
  rw [Nat.add_mul] at h3
  have : (2 : Nat) ^ 51 = 2251799813685248 := by decide
  rw [this]
  omega
def zbc (v k : Nat) : Nat := v / 2 ^ (8 * k) % 256
theorem zt0 (a b t : Nat) (ha : a < 2 ^ t) : a ||| (b * 2 ^ t) = a + b * 2 ^ t := by
 rw [Nat.or_comm, Nat.mul_comm, ← Nat.two_pow_add_eq_or_of_lt ha, Nat.add_comm]
theorem zw4 (v x i k : Nat) (hv : v < 2 ^ (51 * i)) (h : 8 * k < 51 * i) (h2 : 51 * i < 8 * k + 8) :
  zbc v k ||| (x * 2 ^ (51 * i - 8 * k) % 256) = zbc (v + x * 2 ^ (51 * i)) k := by
 obtain ⟨t, ht⟩ : ∃ t, 51 * i = 8 * k + t := ⟨51 * i - 8 * k, by omega⟩
 unfold zbc
 rw [show 51 * i - 8 * k = t from by omega, ht, Nat.pow_add]
 have ha : v / 2 ^ (8 * k) < 2 ^ t := by
  rw [Nat.div_lt_iff_lt_mul (Nat.two_pow_pos _), ← Nat.pow_add]
  rw [show t + 8 * k = 51 * i from by omega]; exact hv
 have e : (v + x * (2 ^ (8 * k) * 2 ^ t)) / 2 ^ (8 * k) = v / 2 ^ (8 * k) + x * 2 ^ t := by
  rw [show x * (2 ^ (8 * k) * 2 ^ t) = 2 ^ (8 * k) * (x * 2 ^ t) from by rw [Nat.mul_left_comm], Nat.add_mul_div_left _ _ (Nat.two_pow_pos _)]
 rw [e]
 generalize v / 2 ^ (8 * k) = a at *
 obtain ⟨u, hu⟩ : ∃ u, t + u = 8 := ⟨8 - t, by omega⟩
 have hp : (256 : Nat) = 2 ^ t * 2 ^ u := by rw [← Nat.pow_add, hu]
 have hl : a < 256 := jT ha (by rw [hp]; exact Nat.le_mul_of_pos_right _ (Nat.two_pow_pos _))
 have hm : x * 2 ^ t % 256 = x % 2 ^ u * 2 ^ t := by rw [hp, Nat.mul_comm x, Nat.mul_mod_mul_left, Nat.mul_comm]
 have hlt : a + x * 2 ^ t % 256 < 256 := by
  rw [hm]
  have h1 : x % 2 ^ u + 1 ≤ 2 ^ u := Nat.mod_lt _ (Nat.two_pow_pos _)
  have h3 := Nat.mul_le_mul_right (2 ^ t) h1
  rw [Nat.add_mul, Nat.mul_comm (2 ^ u), ← hp] at h3
  omega
 rw [Nat.mod_eq_of_lt hl]
 have ho := zt0 a (x % 2 ^ u) t ha
 rw [← hm] at ho
 rw [ho]
 generalize x * 2 ^ t = y at *
 omega
theorem zt1 (v x i k : Nat) (hv : v < 2 ^ (51 * i)) (h : 51 * i ≤ 8 * k) : zbc v k = 0 ∧ x / 2 ^ (8 * k - 51 * i) % 256 = zbc (v + x * 2 ^ (51 * i)) k := by
 obtain ⟨t, ht⟩ : ∃ t, 8 * k = 51 * i + t := ⟨8 * k - 51 * i, by omega⟩
 unfold zbc
 rw [show 8 * k - 51 * i = t from by omega, ht, Nat.pow_add]
 constructor
 ·rw [Nat.div_eq_of_lt (jT hv (Nat.le_mul_of_pos_right _ (Nat.two_pow_pos _)))]
 ·rw [← Nat.div_div_eq_div_mul, Nat.mul_comm x, Nat.add_mul_div_left _ _ (Nat.two_pow_pos _), Nat.div_eq_of_lt hv, Nat.zero_add]
theorem zrB (v x i k : Nat) (h : 8 * k + 8 ≤ 51 * i) : zbc (v + x * 2 ^ (51 * i)) k = zbc v k := by
 obtain ⟨t, ht⟩ : ∃ t, 51 * i = 8 * k + (8 + t) := ⟨51 * i - 8 * k - 8, by omega⟩
 unfold zbc
 rw [ht, Nat.pow_add, show x * (2 ^ (8 * k) * 2 ^ (8 + t)) = 2 ^ (8 * k) * (x * 2 ^ (8 + t)) from by rw [Nat.mul_left_comm], Nat.add_mul_div_left _ _ (Nat.two_pow_pos _)]
 rw [Nat.pow_add, show x * (2 ^ 8 * 2 ^ t) = 256 * (x * 2 ^ t) from by rw [show (2 : Nat) ^ 8 = 256 from rfl, Nat.mul_left_comm], Nat.add_mul_mod_self_left]
theorem zgF (v k : Nat) (h : v < 2 ^ (8 * k)) : zbc v k = 0 := by
 unfold zbc
 rw [Nat.div_eq_of_lt h]
end
section
open Go.RowKit
theorem zoA : zjU Tryz.prog 23 32 := ⟨_, Tryz.underlying23, rfl, by kernel_rfl⟩
theorem zCC : zhQ Tryz.prog 23 .u8 32 := by unfold zhQ; kernel_rfl
def zoB (X : Nat → Nat) (m k q : Nat) : Nat := if q < k then zbc (zbp X (m + 1)) q else zbc (zbp X m) q
theorem zrC (X : Nat → Nat) (m q : Nat) : zbc (zbp X m) q = zoB X m (51 * m / 8) q := by
 unfold zoB
 by_cases h : q < 51 * m / 8
 ·rw [if_pos h, zdT, zrB _ _ _ _ (by omega)]
 ·rw [if_neg h]
theorem zt2 (X : Nat → Nat) (hX : ∀ i, i < 5 → X i < 2251799813685248) (m k q : Nat) (hm : m < 5) (hq : q < 32) (hk : 51 * m / 8 + 8 ≤ k ∨ 32 ≤ k) : zoB X m k q = zbc (zbp X (m + 1)) q := by
 unfold zoB
 by_cases h : q < k
 ·rw [if_pos h]
 ·rw [if_neg h, zgF, zgF]
  ·exact jT (zgE X 5 hX (m + 1) (by omega)) (Nat.pow_le_pow_right (by omega) (by omega))
  ·exact jT (zgE X 5 hX m (by omega)) (Nat.pow_le_pow_right (by omega) (by omega))
theorem zfi (a b : Nat) (ha : a < 256) (hb : b < 256) : bits .or .u8 (a : Int) (b : Int) = ((a ||| b : Nat) : Int) := by
 have hx : a ||| b < 2 ^ 8 := Nat.or_lt_two_pow (by omega) (by omega)
 have h1 : (BitVec.ofInt 8 (a : Int)).toNat = a := by
  rw [BitVec.ofInt_natCast, BitVec.toNat_ofNat]; exact Nat.mod_eq_of_lt (by omega)
 have h2 : (BitVec.ofInt 8 (b : Int)).toNat = b := by
  rw [BitVec.ofInt_natCast, BitVec.toNat_ofNat]; exact Nat.mod_eq_of_lt (by omega)
 show IntKind.u8.wrap ((BitVec.ofInt 8 (a : Int) ||| BitVec.ofInt 8 (b : Int)).toNat : Int) = _
 rw [BitVec.toNat_or, h1, h2, IntKind.wrap_u8]
 omega
theorem zkD (v k : Nat) : zbc v k < 256 := Nat.mod_lt _ (by omega)
theorem zzU (X : Nat → Nat) (hX : ∀ i, X i < 2251799813685248) (m k : Nat) (hm : m < 5) (h : 8 * k < 51 * m) (h2 : 51 * m / 8 ≤ k) :
  bits .or .u8 ((zoB X m k k : Nat) : Int) (IntKind.u64.wrap (((X m : Nat) : Int) * 2 ^ (-(8 * (k : Int) - 51 * (m : Int))).toNat) % 256) = ((zbc (zbp X (m + 1)) k : Nat) : Int) := by
 have e1 : zoB X m k k = zbc (zbp X m) k := by unfold zoB; rw [if_neg (by omega)]
 have e2 : (-(8 * (k : Int) - 51 * (m : Int))).toNat = 51 * m - 8 * k := by omega
 have e3 : IntKind.u64.wrap (((X m : Nat) : Int) * 2 ^ (51 * m - 8 * k)) % 256 = ((X m * 2 ^ (51 * m - 8 * k) % 256 : Nat) : Int) := by
  rw [show ((X m : Nat) : Int) * 2 ^ (51 * m - 8 * k) = ((X m * 2 ^ (51 * m - 8 * k) : Nat) : Int) from by rw [Int.natCast_mul, Int.natCast_pow]; rfl]
  generalize X m * 2 ^ (51 * m - 8 * k) = y
  rw [IntKind.wrap_u64]
  omega
 rw [e1, e2, e3, zfi _ _ (zkD _ _) (Nat.mod_lt _ (by omega)), zw4 _ _ _ _ (zgE X 5 (fun i _ => hX i) m (by omega)) h (by omega), zdT]
theorem zw5 (X : Nat → Nat) (hX : ∀ i, X i < 2251799813685248) (m k : Nat) (hm : m < 5) (h : 51 * m ≤ 8 * k) :
  bits .or .u8 ((zoB X m k k : Nat) : Int) (((X m : Nat) : Int) / 2 ^ (8 * k - 51 * m) % 256) = ((zbc (zbp X (m + 1)) k : Nat) : Int) := by
 have e1 : zoB X m k k = zbc (zbp X m) k := by unfold zoB; rw [if_neg (by omega)]
 obtain ⟨b1, b2⟩ := zt1 (zbp X m) (X m) m k (zgE X 5 (fun i _ => hX i) m (by omega)) h
 have e3 : (((X m : Nat) : Int) / 2 ^ (8 * k - 51 * m) % 256) = ((X m / 2 ^ (8 * k - 51 * m) % 256 : Nat) : Int) := by
  rw [Int.natCast_emod, Int.natCast_ediv, Int.natCast_pow]; rfl
 rw [e1, b1, e3, zfi _ _ (by omega) (Nat.mod_lt _ (by omega)), Nat.zero_or, b2, zdT]
theorem zqm (X : Nat → Nat) (m k q : Nat) (v : Int) (hv : v = ((zbc (zbp X (m + 1)) k : Nat) : Int)) : upd (fun q => ((zoB X m k q : Nat) : Int)) k v q = ((zoB X m (k + 1) q : Nat) : Int) := by
 unfold upd zoB
 by_cases h : q = k
 ·rw [if_pos h, hv, h, if_pos (by omega)]
 ·rw [if_neg h]
  dsimp only
  by_cases h2 : q < k
  ·rw [if_pos h2, if_pos (by omega)]
  ·rw [if_neg h2, if_neg (by omega)]
attribute [local irreducible] zdA zbp zbc
theorem zt3 (F : Nat → Nat) (hF : ∀ i, i < 5 → F i < 9223372036854775808) (w : World) :
  Calls Tryz.prog 165 #[.agg (arr .u64 5 fun i => ((F i : Nat) : Int))] w fun e w' => e = .returned (.agg (arr .u8 32 fun k => ((zbc (zbp (zdA F) 5) k : Nat) : Int))) ∧ Below w.heap.size w w' := by
 go_enter Tryz.func165, Tryz.ntmps165
 obtain ⟨h0, h1, hsz, hb⟩ := zgT w (.cells (arr .u64 5 fun i => ((F i : Nat) : Int)) 168) (.cells (arr .u8 32 fun _ => 0) 23)
 go_wp2_with (first | (refine zat rfl rfl zCC ?_) | (refine zac rfl rfl rfl zbZ h0 ?_) | (go_at_call 184; fail))
 refine (ztZ F hF _).mono ?_
 rintro e w1 ⟨rfl, b1⟩
 have hX := ztY F
 generalize hXe : zdA F = X at hX ⊢
 have hXe' := Lib.hid hXe
 have hX' := Lib.hid hX
 clear hXe hF
 have g0 := zak b1 (by omega) h0
 have g1 := zak b1 (by omega) h1
 have hB := hb.trans (b1.mono (by omega))
 clear h0 h1 b1 hb hsz
 go_upto_region 2 with (refine zaf rfl rfl rfl rfl zbZ g0 ?_)
 have q0 := zaC (w := w1) (c' := arr .u64 5 fun i => ((X i : Nat) : Int)) g0
 have q1 := zcX (w := w1) (c' := arr .u64 5 fun i => ((X i : Nat) : Int)) (g := w.heap.size) g1 (by omega)
 have hBq := zaD hB (g := w.heap.size) (by omega) (arr .u64 5 fun i => ((X i : Nat) : Int))
 clear g0 g1 hB hX
 generalize w1.setRow w.heap.size (arr .u64 5 fun i => ((X i : Nat) : Int)) = w3 at *
 (try simp only [Act.put, jA, jB, jC])
 go_wp2_with (refine zac rfl rfl rfl zbZ q0 ?_)
 go_loopg [11] 5 (fun n i wr => ∃ m : Nat, m + n = 5 ∧ i = .int .i64 m ∧ wr.heap[w.heap.size + 1]? = some (.cells (arr .u8 32 fun k => ((zbc (zbp X m) k : Nat) : Int)) 23 (0, 0)) ∧ Below w.heap.size w wr)
 case atStart => exact ⟨0, rfl, rfl, zav q1 (fun k _ => by rw [zgF _ _ (by unfold zbp; exact Nat.two_pow_pos _)]; rfl), hBq⟩
 case round =>
  clear q0 q1 hBq
  obtain ⟨m, hm, rfl, g1, hB⟩ := hrel
  obtain ⟨go1, rfl⟩ : ∃ x, x = gk := ⟨_, rfl⟩
  have hm' := Lib.hid hm
  clear hm
  by_cases hlt : m < 5
  ·have xb := hX'.out m
   have g2 := zav g1 (f' := fun q => ((zoB X m (51 * m / 8) q : Nat) : Int)) (fun q _ => by rw [zrC X m q])
   clear g1
   obtain ⟨K, hK1, hK2, hK3⟩ : ∃ K, K ≤ 51 * m / 8 + 8 ∧ K ≤ 32 ∧ (51 * m / 8 + 8 ≤ K ∨ 32 ≤ K) := ⟨min (51 * m / 8 + 8) 32, by omega, by omega, by omega⟩
   go_upto_region 5 with (refine za2 rfl rfl Tryz.underlying168 Tryz.underlying32 rfl zmX rfl rfl (by omega) (by omega) (by omega) ?_)
   (try simp only [Act.put, jA, jB, jC])
   try rw [show decide ((m : Int) < 5) = true from decide_eq_true (by omega)]
   go_wp2
   go_loopg [6] (K - 51 * m / 8) (fun n i wr => ∃ k : Nat, k + n = K ∧ 51 * m / 8 ≤ k ∧ i = .int .i64 k ∧ wr.heap[w.heap.size + 1]? = some (.cells (arr .u8 32 fun q => ((zoB X m k q : Nat) : Int)) 23 (0, 0)) ∧ Below w.heap.size w wr)
   case atStart => exact ⟨51 * m / 8, by omega, by omega, by go_num, g2, hB⟩
   case round =>
    clear g2 hB
    obtain ⟨k, hk, hkm, rfl, g2, hB⟩ := hrel
    have hk' := Lib.hid hk
    clear hk
    by_cases hlk : k < K
    ·have c0 := za3 g2 k (by omega)
     have fz := zb4 g2 k
     by_cases hs : 8 * k < 51 * m
     ·go_wp2
      all_goals
       refine zbA 10 (by kernel_rfl) (by kernel_rfl) ?_
       (simp only [jH, jI, jF, jG])
       repeat (refine wpStill_step (fun K hK => ?_); go_simp; (try (simp only [↓IntWalk.iteOmega]; go_simp)); (try go_bits); refine hK _ ?_; clear hK K)
       refine wpStill_nil ?_
       go_wp2
       go_roundg (gk - 1)
       case measure => have := hk'.out; omega
       case rel =>
        have hk'' := hk'.out
        exact ⟨k + 1, by omega, by omega, by go_num, zav (zce g2 _ _) (fun q _ => zqm X m k q _ (zzU X hX'.out m k hlt hs hkm)), (hB.setCell (by show w.heap.size ≤ w.heap.size + 1; omega) _).drew⟩
     ·go_wp2
      all_goals
       refine zbA 9 (by kernel_rfl) (by kernel_rfl) ?_
       (simp only [jH, jI, jF, jG])
       repeat (refine wpStill_step (fun K hK => ?_); go_simp; (try (simp only [↓IntWalk.iteOmega]; go_simp)); (try go_bits); refine hK _ ?_; clear hK K)
       refine wpStill_nil ?_
       go_wp2
       go_roundg (gk - 1)
       case measure => have := hk'.out; omega
       case rel =>
        have hk'' := hk'.out
        exact ⟨k + 1, by omega, by omega, by go_num, zav (zce g2 _ _) (fun q _ => zqm X m k q _ (zw5 X hX'.out m k hlt (by omega))), (hB.setCell (by show w.heap.size ≤ w.heap.size + 1; omega) _).drew⟩
    ·obtain rfl : k = K := by have := hk'.out; omega
     have g3 := zav g2 (f' := fun q => ((zbc (zbp X (m + 1)) q : Nat) : Int)) (fun q hq => by rw [zt2 X (fun i _ => hX'.out i) m k q hlt hq hK3])
     go_wp2
     all_goals
      go_roundg (go1 - 1)
      case measure => have := hm'.out; omega
      case rel =>
       have hm'' := hm'.out
       exact ⟨m + 1, by omega, by go_num, g3, hB⟩
  ·obtain rfl : m = 5 := by have := hm'.out; omega
   go_wp2_with (first | (refine zac rfl rfl rfl zoA g1 ?_) | (refine zaf rfl rfl rfl rfl zoA g1 ?_))
   exact bodyPost_ret (zbK rfl rfl zoA (zaC g1)) rfl ⟨by rw [hXe'.out], zaD hB (by omega) _⟩
end
section
open Go.RowKit
def kvN (b : Nat → Nat) : Nat → Nat
 | 0 => 0
 | k + 1 => kvN b k + b k * 2 ^ (8 * k)
theorem zd6 (b : Nat → Nat) (k : Nat) : kvN b (k + 1) = kvN b k + b k * 2 ^ (8 * k) := rfl
theorem zjG (b : Nat → Nat) (n : Nat) (hb : ∀ i, i < n → b i < 256) : ∀ k, k ≤ n → kvN b k < 2 ^ (8 * k)
 | 0, _ => by unfold kvN; decide
 | k + 1, h => by
  have h1 := zjG b n hb k (by omega)
  have h2 : b k + 1 ≤ 256 := hb k (by omega)
  have h3 := Nat.mul_le_mul_right (2 ^ (8 * k)) h2
  rw [zd6, show 8 * (k + 1) = 8 + 8 * k from by omega, Nat.pow_add]
  rw [Nat.add_mul] at h3
  have : (2 : Nat) ^ 8 = 256 := by decide
  rw [this]
  omega
theorem zt4 (b : Nat → Nat) (i k : Nat) (hk : kvN b k < 2 ^ (8 * k)) (h : 8 * k ≤ 51 * i) : kvN b k / 2 ^ (51 * i) = 0 :=
 Nat.div_eq_of_lt (jT hk (Nat.pow_le_pow_right (by omega) h))
theorem zCD (b : Nat → Nat) (i k : Nat) (hk : kvN b k < 2 ^ (8 * k)) (h : 8 * k < 51 * i) : b k / 2 ^ (51 * i - 8 * k) = kvN b (k + 1) / 2 ^ (51 * i) := by
 obtain ⟨t, ht⟩ : ∃ t, 51 * i = 8 * k + t := ⟨51 * i - 8 * k, by omega⟩
 rw [show 51 * i - 8 * k = t from by omega, ht, Nat.pow_add, ← Nat.div_div_eq_div_mul, zd6, Nat.mul_comm (b k), Nat.add_mul_div_left _ _ (Nat.two_pow_pos _), Nat.div_eq_of_lt hk, Nat.zero_add]
theorem zzV (b : Nat → Nat) (i k : Nat) (hk : kvN b k < 2 ^ (8 * k)) (h : 51 * i ≤ 8 * k) : (kvN b k / 2 ^ (51 * i)) ||| (b k * 2 ^ (8 * k - 51 * i)) = kvN b (k + 1) / 2 ^ (51 * i) := by
 obtain ⟨t, ht⟩ : ∃ t, 8 * k = 51 * i + t := ⟨8 * k - 51 * i, by omega⟩
 have ha : kvN b k / 2 ^ (51 * i) < 2 ^ t := by
  rw [Nat.div_lt_iff_lt_mul (Nat.two_pow_pos _), ← Nat.pow_add, show t + 51 * i = 8 * k from by omega]; exact hk
 rw [show 8 * k - 51 * i = t from by omega, zt0 _ _ _ ha, zd6, ht, Nat.pow_add, show b k * (2 ^ (51 * i) * 2 ^ t) = 2 ^ (51 * i) * (b k * 2 ^ t) from by rw [Nat.mul_left_comm], Nat.add_mul_div_left _ _ (Nat.two_pow_pos _)]
theorem zt5 (b : Nat → Nat) (i k : Nat) (h : 51 * i + 51 ≤ 8 * k) : ∀ d, kvN b (k + d) / 2 ^ (51 * i) % 2251799813685248 = kvN b k / 2 ^ (51 * i) % 2251799813685248
 | 0 => rfl
 | d + 1 => by
  rw [show k + (d + 1) = k + d + 1 from by omega, zd6, ← zt5 b i k h d]
  obtain ⟨t, ht⟩ : ∃ t, 8 * (k + d) = 51 * i + (51 + t) := ⟨8 * (k + d) - 51 * i - 51, by omega⟩
  rw [ht, Nat.pow_add, show b (k + d) * (2 ^ (51 * i) * 2 ^ (51 + t)) = 2 ^ (51 * i) * (b (k + d) * 2 ^ (51 + t)) from by rw [Nat.mul_left_comm], Nat.add_mul_div_left _ _ (Nat.two_pow_pos _)]
  rw [Nat.pow_add, show b (k + d) * (2 ^ 51 * 2 ^ t) = 2251799813685248 * (b (k + d) * 2 ^ t) from by rw [show (2 : Nat) ^ 51 = 2251799813685248 from by decide, Nat.mul_left_comm], Nat.add_mul_mod_self_left]
def ofN (b : Nat → Nat) (i : Nat) : Nat := kvN b 32 / 2 ^ (51 * i) % 2251799813685248
def zm0 (b : Nat → Nat) (m k q : Nat) : Nat := if q = m then kvN b k / 2 ^ (51 * m) else if q < m then ofN b q else 0
theorem ziw (a : Nat) (h : a < 18446744073709551616) : bits .and .u64 (a : Int) 2251799813685247 = ((a % 2251799813685248 : Nat) : Int) := zkC a 0 (by omega)
theorem zqn (b : Nat → Nat) (i k : Nat) (hk : kvN b k < 2 ^ (8 * k)) (h : 8 * k ≤ 51 * i + 64) : kvN b k / 2 ^ (51 * i) < 18446744073709551616 := by
 rw [Nat.div_lt_iff_lt_mul (Nat.two_pow_pos _)]
 refine jT hk ?_
 rw [show (18446744073709551616 : Nat) = 2 ^ 64 from by decide, ← Nat.pow_add]
 exact Nat.pow_le_pow_right (by omega) (by omega)
theorem zw6 (b : Nat → Nat) (hb : ∀ i, i < 32 → b i < 256) (m k : Nat) (hk : k < 32) (h : 8 * k < 51 * m) :
  bits .or .u64 ((zm0 b m k m : Nat) : Int) (((b k : Nat) : Int) / 2 ^ (-(8 * (k : Int) - 51 * (m : Int))).toNat) = ((kvN b (k + 1) / 2 ^ (51 * m) : Nat) : Int) := by
 have hl := zjG b 32 hb k (by omega)
 have e1 : zm0 b m k m = 0 := by unfold zm0; rw [if_pos rfl, zt4 b m k hl (by omega)]
 have e2 : (-(8 * (k : Int) - 51 * (m : Int))).toNat = 51 * m - 8 * k := by omega
 have e3 : ((b k : Nat) : Int) / 2 ^ (51 * m - 8 * k) = ((b k / 2 ^ (51 * m - 8 * k) : Nat) : Int) := by rw [Int.natCast_ediv, Int.natCast_pow]; rfl
 have hb' := hb k hk
 have hd : b k / 2 ^ (51 * m - 8 * k) ≤ b k := Nat.div_le_self _ _
 rw [e1, e2, e3, bits_or_u64_nat _ _ (by omega) (by omega), Nat.zero_or, zCD b m k hl h]
theorem zt6 (b : Nat → Nat) (hb : ∀ i, i < 32 → b i < 256) (m k : Nat) (hk : k < 32) (h : 51 * m ≤ 8 * k) (h2 : 8 * k ≤ 51 * m + 56) :
  bits .or .u64 ((zm0 b m k m : Nat) : Int) (IntKind.u64.wrap (((b k : Nat) : Int) * 2 ^ (8 * k - 51 * m))) = ((kvN b (k + 1) / 2 ^ (51 * m) : Nat) : Int) := by
 have hl := zjG b 32 hb k (by omega)
 have e1 : zm0 b m k m = kvN b k / 2 ^ (51 * m) := by unfold zm0; rw [if_pos rfl]
 have hb' := hb k hk
 have hp : b k * 2 ^ (8 * k - 51 * m) < 18446744073709551616 := by
  have h3 : 2 ^ (8 * k - 51 * m) ≤ 2 ^ 56 := Nat.pow_le_pow_right (by omega) (by omega)
  have h4 : b k * 2 ^ (8 * k - 51 * m) ≤ 255 * 2 ^ 56 := Nat.mul_le_mul (by omega) h3
  omega
 have e3 : IntKind.u64.wrap (((b k : Nat) : Int) * 2 ^ (8 * k - 51 * m)) = ((b k * 2 ^ (8 * k - 51 * m) : Nat) : Int) := by
  rw [show ((b k : Nat) : Int) * 2 ^ (8 * k - 51 * m) = ((b k * 2 ^ (8 * k - 51 * m) : Nat) : Int) from by rw [Int.natCast_mul, Int.natCast_pow]; rfl, IntKind.wrap_u64]
  omega
 rw [e1, e3, bits_or_u64_nat _ _ (zqn b m k hl (by omega)) hp, zzV b m k hl h]
theorem zm1 (b : Nat → Nat) (m k q : Nat) (v : Int) (hv : v = ((kvN b (k + 1) / 2 ^ (51 * m) : Nat) : Int)) : upd (fun q => ((zm0 b m k q : Nat) : Int)) m v q = ((zm0 b m (k + 1) q : Nat) : Int) := by
 unfold upd zm0
 by_cases h : q = m
 ·rw [if_pos h, hv, if_pos h]
 ·rw [if_neg h, if_neg h]; dsimp only; rw [if_neg h]
theorem zrD (b : Nat → Nat) (hb : ∀ i, i < 32 → b i < 256) (m q : Nat) (hm : m < 5) : (if q < m then ofN b q else 0) = zm0 b m (51 * m / 8) q := by
 unfold zm0
 by_cases h : q = m
 ·rw [if_pos h, if_neg (by omega), zt4 b m _ (zjG b 32 hb _ (by omega)) (by omega)]
 ·rw [if_neg h]
theorem zt7 (b : Nat → Nat) (m k : Nat) (hm : m < 5) (hk : 51 * m / 8 + 8 ≤ k ∨ 32 ≤ k) (hk2 : k ≤ 32) : kvN b k / 2 ^ (51 * m) % 2251799813685248 = ofN b m := by
 unfold ofN
 have := zt5 b m k (by omega) (32 - k)
 rw [show k + (32 - k) = 32 from by omega] at this
 exact this.symm
theorem zw7 (b : Nat → Nat) (_hb : ∀ i, i < 32 → b i < 256) (m k q : Nat) (hm : m < 5) (hk : 51 * m / 8 + 8 ≤ k ∨ 32 ≤ k) (hk2 : k ≤ 32) (sm : kvN b k / 2 ^ (51 * m) < 18446744073709551616) :
  upd (fun q => ((zm0 b m k q : Nat) : Int)) m (bits .and .u64 (((kvN b k : Nat) : Int) / 2 ^ (51 * m)) 2251799813685247) q = ((if q < m + 1 then ofN b q else 0 : Nat) : Int) := by
 have e3 : ((kvN b k : Nat) : Int) / 2 ^ (51 * m) = ((kvN b k / 2 ^ (51 * m) : Nat) : Int) := by rw [Int.natCast_ediv, Int.natCast_pow]; rfl
 rw [e3, ziw _ sm, zt7 b m k hm hk hk2]
 unfold upd zm0
 by_cases h : q = m
 ·rw [if_pos h, h, if_pos (by omega)]
 ·rw [if_neg h]; dsimp only; rw [if_neg h]
  by_cases h2 : q < m
  ·rw [if_pos h2, if_pos (by omega)]
  ·rw [if_neg h2, if_neg (by omega)]
attribute [local irreducible] kvN ofN
theorem zCE (b : Nat → Nat) (hb : ∀ i, i < 32 → b i < 256) (w : World) :
  Calls Tryz.prog 128 #[.agg (arr .u8 32 fun i => ((b i : Nat) : Int))] w fun e w' => e = .returned (.agg (arr .u64 5 fun i => ((ofN b i : Nat) : Int))) ∧ Below w.heap.size w w' := by
 go_enter Tryz.func128, Tryz.ntmps128
 obtain ⟨h0, h1, hsz, hbl⟩ := zgT w (.cells (arr .u8 32 fun i => ((b i : Nat) : Int)) 23) (.cells (arr .u64 5 fun _ => 0) 168)
 have hb' := Lib.hid hb
 clear hb
 go_wp2_with (refine zat rfl rfl zv5 ?_)
 go_loopg [8] 5 (fun n i wr => ∃ m : Nat, m + n = 5 ∧ i = .int .i64 m ∧ wr.heap[w.heap.size]? = some (.cells (arr .u8 32 fun i => ((b i : Nat) : Int)) 23 (0, 0)) ∧ wr.heap[w.heap.size + 1]? = some (.cells (arr .u64 5 fun q => ((if q < m then ofN b q else 0 : Nat) : Int)) 168 (0, 0)) ∧ Below w.heap.size w wr)
 case atStart => exact ⟨0, rfl, rfl, h0, zav h1 (fun k _ => by rw [if_neg (Nat.not_lt_zero k)]; rfl), hbl⟩
 case round =>
  clear h0 h1 hbl hsz
  obtain ⟨m, hm, rfl, g0, g1, hB⟩ := hrel
  obtain ⟨go1, rfl⟩ : ∃ x, x = gk := ⟨_, rfl⟩
  have hm' := Lib.hid hm
  clear hm
  by_cases hlt : m < 5
  ·have g2 := zav g1 (f' := fun q => ((zm0 b m (51 * m / 8) q : Nat) : Int)) (fun q _ => by rw [← zrD b hb'.out m q hlt])
   clear g1
   obtain ⟨K, hK1, hK2, hK3⟩ : ∃ K, K ≤ 51 * m / 8 + 8 ∧ K ≤ 32 ∧ (51 * m / 8 + 8 ≤ K ∨ 32 ≤ K) := ⟨min (51 * m / 8 + 8) 32, by omega, by omega, by omega⟩
   go_upto_region 4 with (fail)
   (try simp only [Act.put, jA, jB, jC])
   try rw [show decide ((m : Int) < 5) = true from decide_eq_true (by omega)]
   go_wp2
   go_loopg [5] (K - 51 * m / 8) (fun n i wr => ∃ k : Nat, k + n = K ∧ 51 * m / 8 ≤ k ∧ i = .int .i64 k ∧ wr.heap[w.heap.size]? = some (.cells (arr .u8 32 fun i => ((b i : Nat) : Int)) 23 (0, 0)) ∧ wr.heap[w.heap.size + 1]? = some (.cells (arr .u64 5 fun q => ((zm0 b m k q : Nat) : Int)) 168 (0, 0)) ∧ Below w.heap.size w wr)
   case atStart => exact ⟨51 * m / 8, by omega, by omega, by go_num, g0, g2, hB⟩
   case round =>
    clear g0 g2 hB
    obtain ⟨k, hk, hkm, rfl, g0, g2, hB⟩ := hrel
    have hk' := Lib.hid hk
    clear hk
    by_cases hlk : k < K
    ·have c0 := za3 g2 m (by omega)
     have c1 := za3 g0 k (by omega)
     have bk := hb'.out k (by omega)
     have fz := zb4 g2 m
     by_cases hs : 8 * k < 51 * m
     ·go_wp2
      all_goals
       refine zbA 9 (by kernel_rfl) (by kernel_rfl) ?_
       (simp only [jH, jI, jF, jG])
       repeat (refine wpStill_step (fun K hK => ?_); go_simp; (try (simp only [↓IntWalk.iteOmega]; go_simp)); (try go_bits); refine hK _ ?_; clear hK K)
       refine wpStill_nil ?_
       go_wp2
       go_roundg (gk - 1)
       case measure => have := hk'.out; omega
       case rel =>
        have hk'' := hk'.out
        exact ⟨k + 1, by omega, by omega, by go_num, zcf g0 _ _ (by omega), zav (zce g2 _ _) (fun q _ => zm1 b m k q _ (zw6 b hb'.out m k (by omega) hs)), (hB.setCell (by show w.heap.size ≤ w.heap.size + 1; omega) _).drew⟩
     ·go_wp2
      all_goals
       refine zbA 8 (by kernel_rfl) (by kernel_rfl) ?_
       (simp only [jH, jI, jF, jG])
       repeat (refine wpStill_step (fun K hK => ?_); go_simp; (try (simp only [↓IntWalk.iteOmega]; go_simp)); (try go_bits); refine hK _ ?_; clear hK K)
       refine wpStill_nil ?_
       go_wp2
       go_roundg (gk - 1)
       case measure => have := hk'.out; omega
       case rel =>
        have hk'' := hk'.out
        exact ⟨k + 1, by omega, by omega, by go_num, zcf g0 _ _ (by omega), zav (zce g2 _ _) (fun q _ => zm1 b m k q _ (zt6 b hb'.out m k (by omega) (by omega) (by omega))), (hB.setCell (by show w.heap.size ≤ w.heap.size + 1; omega) _).drew⟩
    ·obtain rfl : k = K := by have := hk'.out; omega
     have c0 := za3 g2 m (by omega)
     have fz := zb4 g2 m
     have sm := zqn b m k (zjG b 32 hb'.out k hK2) (by omega)
     have e1 : zm0 b m k m = kvN b k / 2 ^ (51 * m) := by unfold zm0; rw [if_pos rfl]
     rw [e1] at c0
     go_wp2
     all_goals
      go_roundg (go1 - 1)
      case measure => have := hm'.out; omega
      case rel =>
       have hm'' := hm'.out
       refine ⟨m + 1, by omega, by go_num, zcf g0 _ _ (by omega), zav (zce g2 _ _) (fun q _ => ?_), hB.setCell (by show w.heap.size ≤ w.heap.size + 1; omega) _⟩
       exact zw7 b hb'.out m k q hlt hK3 hK2 sm
  ·obtain rfl : m = 5 := by have := hm'.out; omega
   have g2 := zav g1 (f' := fun q => ((ofN b q : Nat) : Int)) (fun q hq => by rw [if_pos hq])
   clear g1
   go_wp2_with (first | (refine zac rfl rfl rfl zbZ g2 ?_) | (refine zaf rfl rfl rfl rfl zbZ g2 ?_))
   exact bodyPost_ret (zbK rfl rfl zbZ (zaC g2)) rfl ⟨rfl, zaD hB (by omega) _⟩
end
section
open Go.RowKit
inductive CPlan where
 | done (p : List (Nat × Bool))
 | fork (p : List (Nat × Bool)) (i : Nat) (pi : CPlan) (j : Nat) (pj : CPlan)
def CPlan.size : CPlan → Nat
 | .done p => p.length
 | .fork p _ pi _ _ => p.length + (pi.size + 1)
section
variable {P : Program} {md : Region.Mode} {Q : Exit → Act → World → Prop} {N n : Nat} {w0 : World} {l : List Oper}
end
end
section
open Go.RowKit
theorem zaI {P : Program} {w : World} {fn : Func} {p q : Tmp} {ty : TypeId} {n t g : Nat} {k : IntKind} {f : Nat → Int} {fr : Nat × Nat} {v : Value} (h : fn.results = #[.cell p ty, .tmp q]) {tmps : Array Value} (hp : tmps.getD p undef = .pointer (some ⟨g, 0, none⟩)) (hq : tmps.getD q undef = v)
  (hT : zjU P ty n) (hg : w.heap[g]? = some (.cells (arr k n f) t fr)) : (results fn tmps).run P w = .ok (.tuple #[.agg (arr k n f), v]) w := by
 have hp' : tmps[p]?.getD undef = .pointer (some ⟨g, 0, none⟩) := by simpa using hp
 have hq' : tmps[q]?.getD undef = v := by simpa using hq
 simp [results, h, hp', hq', asAddr, zb6 hT hg]
theorem zt8 : Tryz.prog.built 23 [] = some (arr .u8 32 fun _ => 0) := by kernel_rfl
theorem ze2 : Tryz.prog.built 168 [] = some (arr .u64 5 fun _ => 0) := by kernel_rfl
attribute [local irreducible] zdA zbp zbc
def zdB (F : Nat → Nat) (k : Nat) : Nat := if okF F 5 then zbc (zbp (zdA F) 5) k else 0
theorem zqo {F : Nat → Nat} (h : okF F 5) (i : Nat) (hi : i < 5) : F i < 9223372036854775808 := by have := h i hi; omega
theorem zoC (F : Nat → Nat) (hF : ∀ i, i < 5 → F i < 18446744073709551616) (w : World) :
  Calls Tryz.prog 135 #[.agg (arr .u64 5 fun i => ((F i : Nat) : Int))] w fun e w' => e = .returned (.tuple #[.agg (arr .u8 32 fun k => ((zdB F k : Nat) : Int)), .int .i64 (if okF F 5 then 0 else 1)]) ∧ Below w.heap.size w w' := by
 go_enter Tryz.func135, Tryz.ntmps135
 obtain ⟨h0, h1, hsz, hb⟩ := zgT w (.cells (arr .u64 5 fun i => ((F i : Nat) : Int)) 168) (.cells (arr .u8 32 fun _ => 0) 23)
 go_upto_region 1 with (refine zat rfl rfl zCC ?_)
 generalize (w.alloc (.cells (arr .u64 5 fun i => ((F i : Nat) : Int)) 168)).alloc (.cells (arr .u8 32 fun _ => 0) 23) = wa at *
 (try simp only [Act.put, jA, jB, jC])
 obtain ⟨g2, hz2, bl⟩ := zgS wa (.cells (arr .u64 5 fun i => ((F i : Nat) : Int)) 168)
 rw [hsz] at g2
 go_wp2_with (first | (refine zac rfl rfl rfl zbZ h0 ?_) | (refine zcm rfl rfl Tryz.underlying217 (by simp [Act.eval, Act.put]) (zmZ fun i => ((F i : Nat) : Int)) ?_) | (go_at_call 164; fail))
 refine (zgC 1 5 rfl (by omega) F hF _ _ _ g2).mono ?_
 rintro e w2 ⟨rfl, b2⟩
 have b3 := bl.trans (b2.mono (by omega))
 have q0 := zak b3 (by omega) h0
 have q1 := zak b3 (by omega) h1
 have hB := hb.trans (b3.mono (by omega))
 clear b2 b3 bl g2 h0 h1 hb hz2 hsz
 by_cases hq : okF F 5
 ·rw [show decide (okF F 5) = true from decide_eq_true hq]
  go_wp2_with (first | (refine zac rfl rfl rfl zbZ q0 ?_) | (go_at_call 165; fail))
  refine (zt3 F (fun i hi => zqo hq i hi) _).mono ?_
  rintro e w4 ⟨rfl, b4⟩
  have e1 := zak b4 (jM q1) q1
  have hBe := hB.trans (b4.mono hB.size)
  go_wp2_with (refine zaf rfl rfl rfl rfl zoA e1 ?_)
  refine bodyPost_ret (zaI rfl rfl rfl zoA (zaC e1)) rfl ⟨?_, zaD hBe (by omega) _⟩
  rw [show (arr .u8 32 fun k => ((zdB F k : Nat) : Int)) = arr .u8 32 fun k => ((zbc (zbp (zdA F) 5) k : Nat) : Int) from zc5 fun k _ => by unfold zdB; rw [if_pos hq]]
  first | rfl | (rw [if_pos hq]; rfl)
 ·rw [show decide (okF F 5) = false from decide_eq_false hq]
  go_wp2_with (first | (refine zbL rfl (zbQ rfl (by simp [Act.eval, Act.put]) zt8) ?_) | (refine zaf rfl rfl rfl rfl zoA q1 ?_))
  refine bodyPost_ret (zaI rfl rfl rfl zoA (zaC q1)) rfl ⟨?_, zaD hB (by omega) _⟩
  rw [show (arr .u8 32 fun k => ((zdB F k : Nat) : Int)) = arr .u8 32 fun _ => 0 from zc5 fun k _ => by unfold zdB; rw [if_neg hq]; rfl]
  first | rfl | (rw [if_neg hq]; rfl)
def addN (F G : Nat → Nat) (i : Nat) : Nat := if okF F 5 ∧ okF G 5 then zcU (fun i => F i + G i) i else 0
theorem zzW (F G : Nat → Nat) (hF : ∀ i, i < 5 → F i < 18446744073709551616) (hG : ∀ i, i < 5 → G i < 18446744073709551616) (w : World) :
  Calls Tryz.prog 160 #[.agg (arr .u64 5 fun i => ((F i : Nat) : Int)), .agg (arr .u64 5 fun i => ((G i : Nat) : Int))] w fun e w' => e = .returned (.tuple #[.agg (arr .u64 5 fun k => ((addN F G k : Nat) : Int)), .int .i64 (if okF F 5 ∧ okF G 5 then 0 else 1)]) ∧ Below w.heap.size w w' := by
 go_enter Tryz.func160, Tryz.ntmps160
 obtain ⟨h0, h1, h2, hsz, hb⟩ := zmf w (.cells (arr .u64 5 fun i => ((F i : Nat) : Int)) 168) (.cells (arr .u64 5 fun i => ((G i : Nat) : Int)) 168) (.cells (arr .u64 5 fun _ => 0) 168)
 go_upto_region 1 with (refine zat rfl rfl zv5 ?_)
 generalize ((w.alloc (.cells (arr .u64 5 fun i => ((F i : Nat) : Int)) 168)).alloc (.cells (arr .u64 5 fun i => ((G i : Nat) : Int)) 168)).alloc (.cells (arr .u64 5 fun _ => 0) 168) = wa at *
 (try simp only [Act.put, jA, jB, jC])
 obtain ⟨g3, hz2, bl⟩ := zgS wa (.cells (arr .u64 10 fun i => ((zkB F G i : Nat) : Int)) 168)
 rw [hsz] at g3
 go_wp2_with (first | (refine zac rfl rfl rfl zbZ h0 ?_) | (refine zac rfl rfl rfl zbZ h1 ?_) | (refine zcm rfl rfl Tryz.underlying217 (by simp [Act.eval, Act.put]) (ziv F G) ?_) | (go_at_call 164; fail))
 refine (zgC 2 10 rfl (by omega) (zkB F G) (fun i hi => zoz F G _ hF hG i hi) _ _ _ g3).mono ?_
 rintro e w2 ⟨rfl, b2⟩
 have b3 := bl.trans (b2.mono (by omega))
 have q0 := zak b3 (by omega) h0
 have q1 := zak b3 (by omega) h1
 have q2 := zak b3 (by omega) h2
 have hB := hb.trans (b3.mono (by omega))
 clear b2 b3 bl g3 h0 h1 h2 hb hz2 hsz
 by_cases hq : okF F 5 ∧ okF G 5
 ·rw [show decide (okF (zkB F G) 10) = true from decide_eq_true ((zgD F G).2 hq)]
  have hq' := Lib.hid hq
  go_wp2
  go_loopg [13] 5 (fun n i wr => ∃ m : Nat, m + n = 5 ∧ i = .int .i64 m ∧ wr.heap[w.heap.size]? = some (.cells (arr .u64 5 fun i => ((if i < m then F i + G i else F i : Nat) : Int)) 168 (0, 0)) ∧
   wr.heap[w.heap.size + 1]? = some (.cells (arr .u64 5 fun i => ((G i : Nat) : Int)) 168 (0, 0)) ∧ wr.heap[w.heap.size + 1 + 1]? = some (.cells (arr .u64 5 fun _ => 0) 168 (0, 0)) ∧ Below w.heap.size w wr)
  case atStart => exact ⟨0, rfl, rfl, zav q0 (fun i _ => by rw [if_neg (Nat.not_lt_zero i)]), q1, q2, hB⟩
  case round =>
   clear q0 q1 q2 hB
   obtain ⟨m, hm, rfl, q0, q1, q2, hB⟩ := hrel
   have hm' := Lib.hid hm
   clear hm
   by_cases hlt : m < 5
   ·have f1 := hq'.out.1 m hlt
    have f2 := hq'.out.2 m hlt
    have c0 := za3 q0 m hlt
    have c1 := za3 q1 m hlt
    have fz := zb4 q0 m
    simp only [Nat.lt_irrefl, if_false] at c0
    go_wp2
    refine zbA 8 (by kernel_rfl) (by kernel_rfl) ?_
    (simp only [jH, jI, jF, jG])
    repeat (refine wpStill_step (fun K hK => ?_); go_simp; (try (simp only [↓IntWalk.iteOmega]; go_simp)); (try go_bits); refine hK _ ?_; clear hK K)
    refine wpStill_nil ?_
    go_wp2
    go_roundg (gk - 1)
    case measure => have := hm'.out; omega
    case rel =>
     have hm'' := hm'.out
     refine ⟨m + 1, by omega, by go_num, zav (zce q0 m _) (fun i _ => ?_), zcf q1 _ _ (by omega), zcf q2 _ _ (by omega), (hB.setCell (jV _) _).drew⟩
     unfold upd
     by_cases h : i = m
     ·rw [if_pos h, h, if_pos (by omega)]; rfl
     ·rw [if_neg h]
      dsimp only
      by_cases h2 : i < m
      ·rw [if_pos h2, if_pos (by omega)]
      ·rw [if_neg h2, if_neg (by omega)]
   ·obtain rfl : m = 5 := by have := hm'.out; omega
    have p0 := zav (f' := fun i => ((F i + G i : Nat) : Int)) q0 (fun i hi => by rw [if_pos hi])
    clear q0
    go_wp2_with (first | (refine zac rfl rfl rfl zbZ p0 ?_) | (go_at_call 180; fail))
    refine (zez (fun i => F i + G i) (fun i hi => by have := hq'.out.1 i hi; have := hq'.out.2 i hi; show F i + G i < _; omega) _).mono ?_
    rintro e w4 ⟨rfl, b4⟩
    have e2 := zak b4 (jM q2) q2
    have hBe := hB.trans (b4.mono hB.size)
    go_wp2_with (refine zaf rfl rfl rfl rfl zbZ e2 ?_)
    refine bodyPost_ret (zaI rfl rfl rfl zbZ (zaC e2)) rfl ⟨?_, zaD hBe (by omega) _⟩
    rw [show (arr .u64 5 fun k => ((addN F G k : Nat) : Int)) = arr .u64 5 fun k => ((zcU (fun i => F i + G i) k : Nat) : Int) from zc5 fun k _ => by unfold addN; rw [if_pos hq'.out]]
    first | rfl | (rw [if_pos hq'.out]; rfl)
 ·rw [show decide (okF (zkB F G) 10) = false from decide_eq_false fun h => hq ((zgD F G).1 h)]
  go_wp2_with (first | (refine zbL rfl (zbQ rfl (by simp [Act.eval, Act.put]) ze2) ?_) | (refine zaf rfl rfl rfl rfl zbZ q2 ?_))
  refine bodyPost_ret (zaI rfl rfl rfl zbZ (zaC q2)) rfl ⟨?_, zaD hB (by omega) _⟩
  rw [show (arr .u64 5 fun k => ((addN F G k : Nat) : Int)) = arr .u64 5 fun _ => 0 from zc5 fun k _ => by unfold addN; rw [if_neg hq]; rfl]
  first | rfl | (rw [if_neg hq]; rfl)
end
section
open Go.RowKit
namespace M64
theorem maskN (a : Nat) (ha : a < 18446744073709551616) : bits .and .u64 (a : Int) 4294967295 = ((a % 4294967296 : Nat) : Int) := by
 have h := bits_and_u64_nat a 4294967295 ha (by omega)
 have e : a &&& 4294967295 = a % 4294967296 := Nat.and_two_pow_sub_one_eq_mod a 32
 rw [e] at h
 exact h
theorem divN (a : Nat) : (a : Int) / 4294967296 = ((a / 4294967296 : Nat) : Int) := by omega
theorem mulN (a b : Nat) : (a : Int) * (b : Int) = ((a * b : Nat) : Int) := (Int.natCast_mul a b).symm
theorem addN (a b : Nat) : (a : Int) + (b : Int) = ((a + b : Nat) : Int) := (Int.natCast_add a b).symm
theorem wrapN (a : Nat) (ha : a < 18446744073709551616) : IntKind.u64.wrap (a : Int) = (a : Int) := by rw [IntKind.wrap_u64]; omega
theorem wrapM (a : Nat) : IntKind.u64.wrap (a : Int) = ((a % 18446744073709551616 : Nat) : Int) := by rw [IntKind.wrap_u64]; omega
end M64
theorem zm2 (x y : Nat) (hx : x < 18446744073709551616) (hy : y < 18446744073709551616) (w : World) :
  Calls Tryz.prog 186 #[.int .u64 x, .int .u64 y] w fun e w' => e = .returned (.tuple #[.int .u64 ((x * y / 18446744073709551616 : Nat) : Int), .int .u64 ((x * y % 18446744073709551616 : Nat) : Int)]) ∧ w = w' := by
 obtain ⟨bd, bt, bw, hhi⟩ := Lib.mul64_hi x y hx hy
 have ba := Lib.half_mul_le (a := x / 4294967296) (b := y / 4294967296) (by omega) (by omega)
 have bb := Lib.half_mul_le (a := x / 4294967296) (b := y % 4294967296) (by omega) (by omega)
 have bc := Lib.half_mul_le (a := x % 4294967296) (b := y / 4294967296) (by omega) (by omega)
 have ba' : x / 4294967296 * (y / 4294967296) < 18446744073709551616 := by omega
 have bb' : x / 4294967296 * (y % 4294967296) < 18446744073709551616 := by omega
 have bc' : x % 4294967296 * (y / 4294967296) < 18446744073709551616 := by omega
 have bh1 : x / 4294967296 * (y / 4294967296) + (x / 4294967296 * (y % 4294967296) + x % 4294967296 * (y % 4294967296) / 4294967296) / 4294967296 < 18446744073709551616 := by omega
 have bh : x / 4294967296 * (y / 4294967296) + (x / 4294967296 * (y % 4294967296) + x % 4294967296 * (y % 4294967296) / 4294967296) / 4294967296 + ((x / 4294967296 * (y % 4294967296) + x % 4294967296 * (y % 4294967296) / 4294967296) % 4294967296 + x % 4294967296 * (y / 4294967296)) / 4294967296 < 18446744073709551616 := by omega
 go_enter Tryz.func186, Tryz.ntmps186
 go_wp2
 simp only [M64.maskN x hx, M64.maskN y hy, M64.divN, M64.mulN, M64.addN, M64.wrapN _ bd, M64.wrapN _ bb', M64.wrapN _ bt, M64.maskN _ bt, M64.wrapN _ bc', M64.wrapN _ bw, M64.wrapN _ ba', M64.wrapN _ bh1, M64.wrapN _ bh, M64.wrapM (x * y)]
 rw [hhi]
 go_ret2
 exact ⟨rfl, rfl⟩
theorem zm3 (x y : Nat) (w : World) :
  (callFunc 187 #[.int .u64 (x : Int), .int .u64 (y : Int), .int .u64 0]).run Tryz.prog w =
   .ok (.value (.tuple #[.int .u64 (((x + y) % 18446744073709551616 : Nat) : Int), .int .u64 (((x + y) / 18446744073709551616 : Nat) : Int)])) w := by
 rw [run_callFunc_extern Tryz.func187 (by kernel_rfl) (by kernel_rfl) (by kernel_rfl) (e := add64Entry) (by kernel_rfl), run_add64 x y 0 (by omega) (by omega) (by omega) (by omega)]
 simp only [Result.andThen]
 congr 5 <;> omega
theorem zfj : zjU Tryz.prog 222 2 := ⟨_, Tryz.underlying222, rfl, by kernel_rfl⟩
theorem zyB : zhQ Tryz.prog 222 .u64 2 := by unfold zhQ; kernel_rfl
def hlN (v : Nat) (i : Nat) : Nat := if i = 0 then v / 18446744073709551616 else v % 18446744073709551616
theorem zrE (x y : Int) : Tryz.prog.built 222 [(0, .int .u64 x), (1, .int .u64 y)] = some (arr .u64 2 fun i => if i = 0 then x else y) := by kernel_rfl
theorem zkE (v a b : Nat) (ha : a < 18446744073709551616) (hb : b < 18446744073709551616) (hv : v + a * b < 340282366920938463463374607431768211456) (w : World) :
  Calls Tryz.prog 185 #[.agg (arr .u64 2 fun i => ((hlN v i : Nat) : Int)), .int .u64 a, .int .u64 b] w fun e w' => e = .returned (.agg (arr .u64 2 fun i => ((hlN (v + a * b) i : Nat) : Int))) ∧ Below w.heap.size w w' := by
 obtain ⟨p, hp⟩ : ∃ p, p = a * b := ⟨_, rfl⟩
 rw [← hp] at hv ⊢
 have Hp := Lib.hid hp
 clear hp
 go_enter Tryz.func185, Tryz.ntmps185
 obtain ⟨g0, g1, hz, hb0⟩ := zgT w (.cells (arr .u64 2 fun i => ((hlN v i : Nat) : Int)) 222) (.cells (arr .u64 2 fun _ => 0) 222)
 go_upto_region 1 with (refine zat rfl rfl zyB ?_)
 generalize (w.alloc (.cells (arr .u64 2 fun i => ((hlN v i : Nat) : Int)) 222)).alloc (.cells (arr .u64 2 fun _ => 0) 222) = wa at *
 (try simp only [Act.put, jA, jB, jC])
 go_wp2_with (go_at_call 186; fail)
 refine (zm2 a b ha hb _).mono ?_
 rintro e w1 ⟨rfl, rfl⟩
 rw [← Hp.out]
 obtain ⟨ph, hph⟩ : ∃ x, x = p / 18446744073709551616 := ⟨_, rfl⟩
 obtain ⟨pl, hpl⟩ : ∃ x, x = p % 18446744073709551616 := ⟨_, rfl⟩
 obtain ⟨vh, hvh⟩ : ∃ x, x = v / 18446744073709551616 := ⟨_, rfl⟩
 obtain ⟨vl, hvl⟩ : ∃ x, x = v % 18446744073709551616 := ⟨_, rfl⟩
 obtain ⟨so, hso⟩ : ∃ x, x = (pl + vl) / 18446744073709551616 := ⟨_, rfl⟩
 obtain ⟨sl, hsl⟩ : ∃ x, x = (pl + vl) % 18446744073709551616 := ⟨_, rfl⟩
 have c0 : wa.cell? ⟨w.heap.size, 0, none⟩ = some (.int .u64 (vh : Int)) := by rw [hvh]; exact za3 g0 0 (by omega)
 have c1 : wa.cell? ⟨w.heap.size, 1, none⟩ = some (.int .u64 (vl : Int)) := by rw [hvl]; exact za3 g0 1 (by omega)
 have ra := zm3 pl vl
 rw [← hso, ← hsl] at ra
 rw [← hph, ← hpl]
 have e0 : sl = (v + p) % 18446744073709551616 := by omega
 have e1 : vh + ph + so = (v + p) / 18446744073709551616 := by omega
 have b1 : vh + ph + so < 18446744073709551616 := by omega
 have E0 := Lib.hid e0
 have E1 := Lib.hid e1
 clear e0 e1 hph hpl hvh hvl hso hsl
 go_wp2_with (first | (refine zmh rfl rfl (by simp [Act.eval, Act.put]) (zrE _ _) ?_) | (refine zaf (f' := fun i => if i = 0 then ((vh : Int) + ph + so) else (sl : Int)) rfl rfl rfl rfl zfj g1 ?_))
 refine bodyPost_ret (zbK rfl rfl zfj (zaC g1)) rfl ⟨?_, zaD hb0 (by omega) _⟩
 rw [zc5 (f := fun i => ((hlN (v + p) i : Nat) : Int)) (g := fun i => if i = 0 then ((vh : Int) + ph + so) else (sl : Int)) (fun i _ => by
  unfold hlN
  split
  ·rw [← E1.out]; omega
  ·rw [← E0.out])]
end
section
def pN : Nat := 57896044618658097711785492504343953926634992332820282019728792003956564819949
theorem zaN (X : Nat → Nat) : zbp X 5 = X 0 + X 1 * 2251799813685248 + X 2 * 5070602400912917605986812821504 + X 3 * 11417981541647679048466287755595961091061972992 + X 4 * 25711008708143844408671393477458601640355247900524685364822016 := by
 simp [zbp]
theorem zw8 (F : Nat → Nat) : ovN F 1 = F 0 / 2251799813685248 ∧ ovN F 2 = (F 1 + ovN F 1) / 2251799813685248 ∧ ovN F 3 = (F 2 + ovN F 2) / 2251799813685248 ∧ ovN F 4 = (F 3 + ovN F 3) / 2251799813685248 ∧ ovN F 5 = (F 4 + ovN F 4) / 2251799813685248 := by
 refine ⟨?_, rfl, rfl, rfl, rfl⟩
 show (F 0 + 0) / 2251799813685248 = _
 rw [Nat.add_zero]
theorem zw9 (F : Nat → Nat) : loN F 0 = F 0 % 2251799813685248 ∧ loN F 1 = (F 1 + ovN F 1) % 2251799813685248 ∧ loN F 2 = (F 2 + ovN F 2) % 2251799813685248 ∧ loN F 3 = (F 3 + ovN F 3) % 2251799813685248 ∧ loN F 4 = (F 4 + ovN F 4) % 2251799813685248 := by
 refine ⟨?_, rfl, rfl, rfl, rfl⟩
 show (F 0 + 0) % 2251799813685248 = _
 rw [Nat.add_zero]
theorem zt9 (F : Nat → Nat) : zbp (loN F) 5 + ovN F 5 * 57896044618658097711785492504343953926634992332820282019728792003956564819968 = zbp F 5 := by
 obtain ⟨o1, o2, o3, o4, o5⟩ := zw8 F
 obtain ⟨l0, l1, l2, l3, l4⟩ := zw9 F
 rw [zaN, zaN, l0, l1, l2, l3, l4]
 generalize ovN F 5 = u5 at *
 generalize ovN F 4 = u4 at *
 generalize ovN F 3 = u3 at *
 generalize ovN F 2 = u2 at *
 generalize ovN F 1 = u1 at *
 generalize F 0 = a0 at *
 generalize F 1 = a1 at *
 generalize F 2 = a2 at *
 generalize F 3 = a3 at *
 generalize F 4 = a4 at *
 omega
theorem zix (F : Nat → Nat) : zbp (zcU F) 5 + ovN F 5 * pN = zbp F 5 := by
 have h := zt9 F
 rw [zaN] at h
 rw [zaN]
 have c0 : zcU F 0 = loN F 0 + 19 * ovN F 5 := rfl
 have c1 : zcU F 1 = loN F 1 := rfl
 have c2 : zcU F 2 = loN F 2 := rfl
 have c3 : zcU F 3 = loN F 3 := rfl
 have c4 : zcU F 4 = loN F 4 := rfl
 rw [c0, c1, c2, c3, c4]
 unfold pN
 omega
theorem zxa (F : Nat → Nat) : quN F 1 = (F 0 + 19) / 2251799813685248 ∧ quN F 2 = (F 1 + quN F 1) / 2251799813685248 ∧ quN F 3 = (F 2 + quN F 2) / 2251799813685248 ∧ quN F 4 = (F 3 + quN F 3) / 2251799813685248 ∧ quN F 5 = (F 4 + quN F 4) / 2251799813685248 := ⟨rfl, rfl, rfl, rfl, rfl⟩
theorem zCF (G : Nat → Nat) : quN G 5 = (zbp G 5 + 19) / 57896044618658097711785492504343953926634992332820282019728792003956564819968 := by
 obtain ⟨o1, o2, o3, o4, o5⟩ := zxa G
 rw [zaN]
 generalize quN G 5 = u5 at *
 generalize quN G 4 = u4 at *
 generalize quN G 3 = u3 at *
 generalize quN G 2 = u2 at *
 generalize quN G 1 = u1 at *
 generalize G 0 = a0 at *
 generalize G 1 = a1 at *
 generalize G 2 = a2 at *
 generalize G 3 = a3 at *
 generalize G 4 = a4 at *
 omega
theorem zCG (G : Nat → Nat) (h : zbp G 5 < 2 * pN) : zbp (loN (upN G)) 5 = zbp G 5 % pN := by
 have h1 := zt9 (upN G)
 have h2 := zCF G
 have h3 : zbp (upN G) 5 = zbp G 5 + 19 * quN G 5 := by
  rw [zaN, zaN]
  have c0 : upN G 0 = G 0 + 19 * quN G 5 := rfl
  have c1 : upN G 1 = G 1 := rfl
  have c2 : upN G 2 = G 2 := rfl
  have c3 : upN G 3 = G 3 := rfl
  have c4 : upN G 4 = G 4 := rfl
  rw [c0, c1, c2, c3, c4]
  omega
 have h4 : zbp (loN (upN G)) 5 < 2 ^ (51 * 5) := zgE _ 5 (fun i _ => Nat.mod_lt _ (by omega)) 5 (jV _)
 have h5 : (2 : Nat) ^ (51 * 5) = 57896044618658097711785492504343953926634992332820282019728792003956564819968 := by decide
 rw [h5] at h4
 generalize zbp (loN (upN G)) 5 = r at *
 generalize ovN (upN G) 5 = o at *
 generalize zbp (upN G) 5 = s at *
 generalize quN G 5 = q at *
 generalize zbp G 5 = v at *
 unfold pN at *
 by_cases hv : v < 57896044618658097711785492504343953926634992332820282019728792003956564819949
 ·rw [Nat.mod_eq_of_lt hv]
  have hq : q = 0 := by omega
  subst hq
  omega
 ·have hm : v % 57896044618658097711785492504343953926634992332820282019728792003956564819949 = v - 57896044618658097711785492504343953926634992332820282019728792003956564819949 := by
   rw [Nat.mod_eq_sub_mod (by omega), Nat.mod_eq_of_lt (by omega)]
  have hq : q = 1 := by omega
  subst hq
  rw [hm]
  have ho : o = 1 := by omega
  subst ho
  omega
theorem zCH (F : Nat → Nat) (hF : ∀ i, i < 5 → F i < 9223372036854775808) : zbp (zcU (zcU F)) 5 < 2 * pN := by
 have a0 := zcn (zcU F) (fun i hi => by have := zcn F hF i hi; omega) 0 (by omega)
 have a1 := zcn (zcU F) (fun i hi => by have := zcn F hF i hi; omega) 1 (by omega)
 have a2 := zcn (zcU F) (fun i hi => by have := zcn F hF i hi; omega) 2 (by omega)
 have a3 := zcn (zcU F) (fun i hi => by have := zcn F hF i hi; omega) 3 (by omega)
 have a4 := zcn (zcU F) (fun i hi => by have := zcn F hF i hi; omega) 4 (by omega)
 rw [zaN]
 unfold pN
 omega
theorem zua (F : Nat → Nat) (hF : ∀ i, i < 5 → F i < 9223372036854775808) : zbp (zdA F) 5 = zbp F 5 % pN := by
 show zbp (loN (upN (zcU (zcU F)))) 5 = _
 rw [zCG _ (zCH F hF)]
 have h1 := zix F
 have h2 := zix (zcU F)
 rw [← h1, ← h2, Nat.add_mul_mod_self_right, Nat.add_mul_mod_self_right]
end
section
theorem ziy (b c : Nat → Nat) : ∀ k, (∀ i, i < k → b i = c i) → kvN b k = kvN c k
 | 0, _ => rfl
 | k + 1, h => by rw [zd6, zd6, ziy b c k (fun i hi => h i (by omega)), h k (by omega)]
theorem zqp (v : Nat) : ∀ k, kvN (zbc v) k = v % 2 ^ (8 * k)
 | 0 => by unfold kvN; rw [Nat.mul_zero, Nat.pow_zero, Nat.mod_one]
 | k + 1 => by
  rw [zd6, zqp v k, show 8 * (k + 1) = 8 * k + 8 from by omega, Nat.pow_add, Nat.mod_mul]
  unfold zbc
  rw [Nat.mul_comm (v / 2 ^ (8 * k) % 256)]
def zDM (v i : Nat) : Nat := v / 2 ^ (51 * i) % 2251799813685248
theorem zzX (v : Nat) : zbp (zDM v) 5 = v % 57896044618658097711785492504343953926634992332820282019728792003956564819968 := by
 rw [zaN]
 unfold zDM
 rw [show (2 : Nat) ^ (51 * 0) = 1 from by decide, show (2 : Nat) ^ (51 * 1) = 2251799813685248 from by decide, show (2 : Nat) ^ (51 * 2) = 5070602400912917605986812821504 from by decide, show (2 : Nat) ^ (51 * 3) = 11417981541647679048466287755595961091061972992 from by decide, show (2 : Nat) ^ (51 * 4) = 25711008708143844408671393477458601640355247900524685364822016 from by decide]
 omega
theorem zzY (b : Nat → Nat) (i : Nat) : ofN b i = zDM (kvN b 32) i := rfl
end
section
def zbG (F G : Nat → Nat) (n c : Nat) : Nat := if (n / 5 + n % 5) % 5 = c then F (n / 5) * (if 5 ≤ n / 5 + n % 5 then 19 * G (n % 5) else G (n % 5)) else 0
def zdH (F G : Nat → Nat) : Nat → Nat → Nat
 | 0, _ => 0
 | n + 1, c => zdH F G n c + zbG F G n c
theorem ziz (F G : Nat → Nat) (n c : Nat) : zdH F G (n + 1) c = zdH F G n c + zbG F G n c := rfl
theorem zzZ (F G : Nat → Nat) (hF : ∀ i, i < 5 → F i < 4503599627370496) (hG : ∀ i, i < 5 → G i < 4503599627370496) (n c : Nat) (hn : n < 25) :
  zbG F G n c ≤ 385365782469381738054997774434304 := by
 unfold zbG
 have f := hF (n / 5) (by omega)
 have g := hG (n % 5) (by omega)
 split
 ·have : F (n / 5) * (if 5 ≤ n / 5 + n % 5 then 19 * G (n % 5) else G (n % 5)) ≤ 4503599627370496 * (19 * 4503599627370496) := Nat.mul_le_mul (by omega) (by split <;> omega)
  omega
 ·omega
theorem zub (F G : Nat → Nat) (hF : ∀ i, i < 5 → F i < 4503599627370496) (hG : ∀ i, i < 5 → G i < 4503599627370496) (c : Nat) : ∀ n, n ≤ 25 → zdH F G n c ≤ n * 385365782469381738054997774434304
 | 0, _ => by unfold zdH; omega
 | n + 1, h => by
  have := zub F G hF hG c n (by omega)
  have := zzZ F G hF hG n c (by omega)
  rw [ziz]; omega
theorem zxb (a b0 b1 b2 b3 b4 c1 c2 c3 c4 : Nat) : a * (b0 + b1 * c1 + b2 * c2 + b3 * c3 + b4 * c4) = a * b0 + a * b1 * c1 + a * b2 * c2 + a * b3 * c3 + a * b4 * c4 := by
 simp only [Nat.mul_add, Nat.mul_assoc]
theorem zhB (a c b0 b1 b2 b3 b4 c1 c2 c3 c4 : Nat) : a * c * (b0 + b1 * c1 + b2 * c2 + b3 * c3 + b4 * c4) = a * b0 * c + a * b1 * (c * c1) + a * b2 * (c * c2) + a * b3 * (c * c3) + a * b4 * (c * c4) := by
 rw [Nat.mul_add, Nat.mul_add, Nat.mul_add, Nat.mul_add, Nat.mul_mul_mul_comm a c b1, Nat.mul_mul_mul_comm a c b2, Nat.mul_mul_mul_comm a c b3, Nat.mul_mul_mul_comm a c b4, Nat.mul_right_comm a c b0]
theorem zz0 (F G : Nat → Nat) : ∃ q, zbp F 5 * zbp G 5 = zbp (zdH F G 25) 5 + q * pN := by
 refine ⟨?_, ?_⟩
 ·exact (F 1 * G 4 + F 2 * G 3 + F 3 * G 2 + F 4 * G 1) + (F 2 * G 4 + F 3 * G 3 + F 4 * G 2) * 2251799813685248 + (F 3 * G 4 + F 4 * G 3) * 5070602400912917605986812821504 + (F 4 * G 4) * 11417981541647679048466287755595961091061972992
 ·rw [zaN, zaN, zaN]
  have e : ∀ c, zdH F G 25 c = zbG F G 0 c + zbG F G 1 c + zbG F G 2 c + zbG F G 3 c + zbG F G 4 c + zbG F G 5 c + zbG F G 6 c + zbG F G 7 c + zbG F G 8 c + zbG F G 9 c + zbG F G 10 c + zbG F G 11 c + zbG F G 12 c + zbG F G 13 c + zbG F G 14 c + zbG F G 15 c + zbG F G 16 c + zbG F G 17 c + zbG F G 18 c + zbG F G 19 c + zbG F G 20 c + zbG F G 21 c + zbG F G 22 c + zbG F G 23 c + zbG F G 24 c := by
   intro c; simp only [zdH]; omega
  have e0 : zdH F G 25 0 = F 0 * G 0 + 19 * (F 1 * G 4 + F 2 * G 3 + F 3 * G 2 + F 4 * G 1) := by rw [e]; simp [zbG]; simp only [Nat.mul_left_comm _ 19 _]; omega
  have e1 : zdH F G 25 1 = F 0 * G 1 + F 1 * G 0 + 19 * (F 2 * G 4 + F 3 * G 3 + F 4 * G 2) := by rw [e]; simp [zbG]; simp only [Nat.mul_left_comm _ 19 _]; omega
  have e2 : zdH F G 25 2 = F 0 * G 2 + F 1 * G 1 + F 2 * G 0 + 19 * (F 3 * G 4 + F 4 * G 3) := by rw [e]; simp [zbG]; simp only [Nat.mul_left_comm _ 19 _]; omega
  have e3 : zdH F G 25 3 = F 0 * G 3 + F 1 * G 2 + F 2 * G 1 + F 3 * G 0 + 19 * (F 4 * G 4) := by rw [e]; simp [zbG, Nat.mul_left_comm _ 19 _]
  have e4 : zdH F G 25 4 = F 0 * G 4 + F 1 * G 3 + F 2 * G 2 + F 3 * G 1 + F 4 * G 0 := by rw [e]; simp [zbG]
  rw [e0, e1, e2, e3, e4]
  unfold pN
  rw [Nat.add_mul, Nat.add_mul, Nat.add_mul, Nat.add_mul, zxb, zhB, zhB, zhB, zhB]
  omega
attribute [local irreducible] zdH
def ziA (V : Nat → Nat) (i : Nat) : Nat := if i = 0 then (19 * ovN V 5 + loN V 0) % 2251799813685248 else if i = 1 then loN V 1 + (19 * ovN V 5 + loN V 0) / 2251799813685248 else loN V i
theorem zxc (V : Nat → Nat) : zbp (ziA V) 5 + ovN V 5 * pN = zbp V 5 := by
 have h := zt9 V
 rw [zaN] at h
 rw [zaN, ← h]
 unfold ziA pN
 simp only [if_true, show (1 : Nat) ≠ 0 from by omega, show (2 : Nat) ≠ 0 from by omega, show (2 : Nat) ≠ 1 from by omega, show (3 : Nat) ≠ 0 from by omega, show (3 : Nat) ≠ 1 from by omega, show (4 : Nat) ≠ 0 from by omega, show (4 : Nat) ≠ 1 from by omega, if_false]
 omega
theorem zuc (V : Nat → Nat) (hV : ∀ i, i < 5 → V i < 10384593717069655257060992658440192) : ∀ m, m ≤ 5 → ovN V m < 9223372036854775808
 | 0, _ => by unfold ovN; omega
 | m + 1, h => by
  have := zuc V hV m (by omega)
  have := hV m (by omega)
  rw [zf3]
  omega
theorem zud (V : Nat → Nat) (hV : ∀ i, i < 5 → V i < 10384593717069655257060992658440192) (i : Nat) (_hi : i < 5) : ziA V i < 9223372036854775808 := by
 have := zuc V hV 5 (by omega)
 have l : ∀ m, loN V m < 2251799813685248 := fun m => Nat.mod_lt _ (by omega)
 have := l 0
 have := l 1
 have := l i
 unfold ziA
 split
 ·omega
 ·split <;> omega
theorem zyC (F G : Nat → Nat) (hF : ∀ i, i < 5 → F i < 4503599627370496) (hG : ∀ i, i < 5 → G i < 4503599627370496) (n c : Nat) (hn : n ≤ 25) : zdH F G n c < 10384593717069655257060992658440192 := by
 have := zub F G hF hG c n hn
 omega
def zb9 (F G : Nat → Nat) (i : Nat) : Nat := zcU (ziA (zdH F G 25)) i
theorem zxd (F G : Nat → Nat) : zbp (zb9 F G) 5 % pN = zbp F 5 * zbp G 5 % pN := by
 obtain ⟨q, hq⟩ := zz0 F G
 have h1 := zix (ziA (zdH F G 25))
 have h2 := zxc (zdH F G 25)
 have e : zbp (zb9 F G) 5 = zbp (zcU (ziA (zdH F G 25))) 5 := rfl
 rw [e, hq, ← h2, ← h1]
 rw [Nat.add_mul_mod_self_right, Nat.add_mul_mod_self_right, Nat.add_mul_mod_self_right]
theorem zd7 (F G : Nat → Nat) (hF : okF F 5) (hG : okF G 5) : okF (zb9 F G) 5 := fun i hi => by
 have := zcn (ziA (zdH F G 25)) (fun i hi => zud _ (fun c hc => zyC F G hF hG 25 c (by omega)) i hi) i hi
 show zcU _ i < _
 omega
def zrF (i : Nat) : Nat := if i = 0 then 2251799813685229 else 2251799813685247
def zcN (F G : Nat → Nat) (i : Nat) : Nat := F i + (4 * zrF i - G i)
theorem zue (F G : Nat → Nat) (hF : okF F 5) (i : Nat) (hi : i < 5) : zcN F G i < 9223372036854775808 := by
 have := hF i hi
 unfold zcN zrF
 split <;> omega
theorem zxe (F G : Nat → Nat) (hG : okF G 5) : zbp (zcN F G) 5 + zbp G 5 = zbp F 5 + 4 * pN := by
 rw [zaN, zaN, zaN]
 have := hG 0 (by omega); have := hG 1 (by omega); have := hG 2 (by omega); have := hG 3 (by omega); have := hG 4 (by omega)
 unfold zcN zrF pN
 simp only [if_true, show (1 : Nat) ≠ 0 from by omega, show (2 : Nat) ≠ 0 from by omega, show (3 : Nat) ≠ 0 from by omega, show (4 : Nat) ≠ 0 from by omega, if_false]
 omega
theorem zz1 (F G : Nat → Nat) (hG : okF G 5) : (zbp (zcU (zcN F G)) 5 + zbp G 5) % pN = zbp F 5 % pN := by
 have h1 := zix (zcN F G)
 have h2 := zxe F G hG
 have e : zbp (zcU (zcN F G)) 5 + zbp G 5 + ovN (zcN F G) 5 * pN = zbp F 5 + 4 * pN := by omega
 rw [← Nat.add_mul_mod_self_right _ (ovN (zcN F G) 5), e, Nat.add_mul_mod_self_right]
theorem zz2 (F G : Nat → Nat) : zbp (zcU fun i => F i + G i) 5 % pN = (zbp F 5 + zbp G 5) % pN := by
 have h1 := zix (fun i => F i + G i)
 have e : zbp (fun i => F i + G i) 5 = zbp F 5 + zbp G 5 := by rw [zaN, zaN, zaN]; omega
 rw [← e, ← h1, Nat.add_mul_mod_self_right]
theorem zyD (F : Nat → Nat) (hF : ∀ i, i < 5 → F i < 9223372036854775808) : okF (zcU F) 5 := fun i hi => by
 have := zcn F hF i hi
 omega
end
section
open Go.RowKit
attribute [local irreducible] zdH zdA zbc
theorem zz3 : zhQ Tryz.prog 223 .u64 10 := by unfold zhQ; kernel_rfl
theorem zz4 : zjU Tryz.prog 223 10 := ⟨_, Tryz.underlying223, rfl, by kernel_rfl⟩
def zjk (V : Nat → Nat) (i : Nat) : Nat := hlN (V (i / 2)) (i % 2)
theorem zoD (V : Nat → Nat) (c off j : Nat) (ho : off = c * 2) (hj : j < 2) : zjk V (off + j) = hlN (V c) j := by
 unfold zjk
 rw [show (off + j) / 2 = c from by omega, show (off + j) % 2 = j from by omega]
theorem zqq (F G : Nat → Nat) (n c off v : Nat) (ho : off = c * 2) (hc : (n / 5 + n % 5) % 5 = c) (hv : v = zdH F G n c + F (n / 5) * (if 5 ≤ n / 5 + n % 5 then 19 * G (n % 5) else G (n % 5))) (i : Nat) :
  zfH (fun i => ((zjk (zdH F G n) i : Nat) : Int)) off 2 (fun j => ((hlN v j : Nat) : Int)) i = ((zjk (zdH F G (n + 1)) i : Nat) : Int) := by
 unfold zfH
 by_cases h : off ≤ i ∧ i < off + 2
 ·rw [if_pos h]
  unfold zjk
  rw [show i / 2 = c from by omega, show i % 2 = i - off from by omega, ziz, hv]
  unfold zbG
  rw [if_pos hc]
 ·rw [if_neg h]
  unfold zjk
  rw [ziz]
  unfold zbG
  rw [if_neg (by omega), Nat.add_zero]
theorem zuf (hi lo : Nat) (h : hi < 1125899906842624) (hl : lo < 18446744073709551616) : bits .or .u64 ((hi : Int) * 8192) ((lo : Int) / 2251799813685248) = ((hi * 8192 + lo / 2251799813685248 : Nat) : Int) := by
 have h1 := bits_or_u64_nat (hi * 8192) (lo / 2251799813685248) (by omega) (by omega)
 have e : hi * 8192 ||| lo / 2251799813685248 = hi * 8192 + lo / 2251799813685248 := by
  have := zt0 (lo / 2251799813685248) hi 13 (by omega)
  rw [Nat.or_comm, show (8192 : Nat) = 2 ^ 13 from rfl, this, Nat.add_comm]
 rw [e] at h1
 rw [← h1]
 congr 1
theorem zkF (F G : Nat → Nat) (hF : okF F 5) (hG : okF G 5) (w : World) :
  Calls Tryz.prog 167 #[.agg (arr .u64 5 fun i => ((F i : Nat) : Int)), .agg (arr .u64 5 fun i => ((G i : Nat) : Int))] w fun e w' => e = .returned (.agg (arr .u64 5 fun k => ((zb9 F G k : Nat) : Int))) ∧ Below w.heap.size w w' := by
 go_enter Tryz.func167, Tryz.ntmps167
 obtain ⟨h0, h1, h2, hsz, hb⟩ := zmf w (.cells (arr .u64 5 fun i => ((F i : Nat) : Int)) 168) (.cells (arr .u64 5 fun i => ((G i : Nat) : Int)) 168) (.cells (arr .u64 5 fun _ => 0) 168)
 go_upto_region 1 with (refine zat rfl rfl zv5 ?_)
 generalize ((w.alloc (.cells (arr .u64 5 fun i => ((F i : Nat) : Int)) 168)).alloc (.cells (arr .u64 5 fun i => ((G i : Nat) : Int)) 168)).alloc (.cells (arr .u64 5 fun _ => 0) 168) = wa at *
 (try simp only [Act.put, jA, jB, jC])
 obtain ⟨h3, hz3, bl⟩ := zgS wa (.cells (arr .u64 10 fun _ => 0) 223)
 go_upto_region 2 with (refine zat rfl rfl zz3 ?_)
 replace h0 := zak bl (by omega) h0
 replace h1 := zak bl (by omega) h1
 replace h2 := zak bl (by omega) h2
 replace hb := hb.trans (bl.mono (by omega))
 rw [hsz] at h3 ⊢
 generalize wa.alloc (.cells (arr .u64 10 fun _ => 0) 223) = wb at *
 clear hz3 bl hsz
 (try simp only [Act.put, jA, jB, jC])
 go_wp2_with (refine zac rfl rfl rfl zbZ h0 ?_)
 have hF' := Lib.hid hF
 have hG' := Lib.hid hG
 have al := Lib.hid (zyC F G hF hG)
 clear hF hG
 go_loopg [18] 5 (fun n i wr => ∃ m : Nat, m + n = 5 ∧ i = .int .i64 m ∧ wr.heap[w.heap.size + 1]? = some (.cells (arr .u64 5 fun i => ((G i : Nat) : Int)) 168 (0, 0)) ∧ wr.heap[w.heap.size + 1 + 1]? = some (.cells (arr .u64 5 fun _ => 0) 168 (0, 0)) ∧
  wr.heap[w.heap.size + 3]? = some (.cells (arr .u64 10 fun i => ((zjk (zdH F G (5 * m)) i : Nat) : Int)) 223 (0, 0)) ∧ Below w.heap.size w wr)
 case atStart => exact ⟨0, rfl, rfl, h1, h2, zav h3 (fun i _ => by unfold zjk hlN zdH; split <;> rfl), hb⟩
 case round =>
  clear h0 h1 h2 h3 hb
  obtain ⟨m, hm, rfl, h1, h2, h3, hB⟩ := hrel
  obtain ⟨go1, rfl⟩ : ∃ x, x = gk := ⟨_, rfl⟩
  have hm' := Lib.hid hm
  clear hm
  by_cases hlt : m < 5
  ·go_wp2_with (first | (refine za2 rfl rfl Tryz.underlying168 Tryz.underlying32 rfl zmX rfl rfl (by omega) (by omega) (by omega) ?_) | (refine zac rfl rfl rfl zbZ h1 ?_))
   go_loopg [23] 5 (fun n i wr => ∃ j : Nat, j + n = 5 ∧ i = .int .i64 j ∧ wr.heap[w.heap.size + 1]? = some (.cells (arr .u64 5 fun i => ((G i : Nat) : Int)) 168 (0, 0)) ∧ wr.heap[w.heap.size + 1 + 1]? = some (.cells (arr .u64 5 fun _ => 0) 168 (0, 0)) ∧
    wr.heap[w.heap.size + 3]? = some (.cells (arr .u64 10 fun i => ((zjk (zdH F G (5 * m + j)) i : Nat) : Int)) 223 (0, 0)) ∧ Below w.heap.size w wr)
   case atStart => exact ⟨0, rfl, rfl, h1, h2, h3, hB⟩
   case round =>
    clear h1 h2 h3 hB
    obtain ⟨j, hj, rfl, h1, h2, h3, hB⟩ := hrel
    have hj' := Lib.hid hj
    clear hj
    by_cases hlj : j < 5
    ·have fb := hF'.out m hlt
     have gb := hG'.out j hlj
     by_cases hge : 5 ≤ m + j
     ·have vb := al.out (5 * m + j) (m + j - 5) (by omega)
      have pb : F m * (19 * G j) ≤ 4503599627370496 * (19 * 4503599627370496) := Nat.mul_le_mul (by omega) (by omega)
      go_wp2_with (first | (refine za2 rfl rfl Tryz.underlying168 Tryz.underlying32 rfl zmX rfl rfl (by omega) (by omega) (by omega) ?_) | (refine zcB (off := (m + j - 5) * 2) (fun i => ((hlN (zdH F G (5 * m + j) (m + j - 5)) i : Nat) : Int)) rfl rfl rfl zfj h3 (by omega) (fun i hi => by rw [zoD _ (m + j - 5) _ i rfl hi]) ?_) | (go_at_call 185; fail))
      rw [show (19 * ((G j : Nat) : Int)) = ((19 * G j : Nat) : Int) from by omega]
      refine (zkE (zdH F G (5 * m + j) (m + j - 5)) (F m) (19 * G j) (by omega) (by omega) (by omega) _).mono ?_
      rintro e w4 ⟨rfl, b4⟩
      replace h1 := zak b4 (jM h1) h1
      replace h2 := zak b4 (jM h2) h2
      replace h3 := zak b4 (jM h3) h3
      replace hB := hB.trans (b4.mono hB.size)
      clear b4
      go_wp2_with (refine zcK rfl rfl rfl rfl zfj h3 (by omega) ?_)
      go_roundg (gk - 1)
      case measure => have := hj'.out; omega
      case rel =>
       have hj'' := hj'.out
       have d1 : (5 * m + j) / 5 = m := by omega
       have d2 : (5 * m + j) % 5 = j := by omega
       exact ⟨j + 1, by omega, by go_num, zcX h1 (by omega), zcX h2 (by omega), zav (zaC h3) (fun i _ => zqq F G (5 * m + j) (m + j - 5) _ _ rfl (by rw [d1, d2]; omega) (by rw [d1, d2, if_pos hge]) i), zaD hB (by omega) _⟩
     ·have vb := al.out (5 * m + j) (m + j) (by omega)
      have pb : F m * (G j) ≤ 4503599627370496 * (19 * 4503599627370496) := Nat.mul_le_mul (by omega) (by omega)
      go_wp2_with (first | (refine za2 rfl rfl Tryz.underlying168 Tryz.underlying32 rfl zmX rfl rfl (by omega) (by omega) (by omega) ?_) | (refine zcB (off := (m + j) * 2) (fun i => ((hlN (zdH F G (5 * m + j) (m + j)) i : Nat) : Int)) rfl rfl rfl zfj h3 (by omega) (fun i hi => by rw [zoD _ (m + j) _ i rfl hi]) ?_) | (go_at_call 185; fail))
      refine (zkE (zdH F G (5 * m + j) (m + j)) (F m) (G j) (by omega) (by omega) (by omega) _).mono ?_
      rintro e w4 ⟨rfl, b4⟩
      replace h1 := zak b4 (jM h1) h1
      replace h2 := zak b4 (jM h2) h2
      replace h3 := zak b4 (jM h3) h3
      replace hB := hB.trans (b4.mono hB.size)
      clear b4
      go_wp2_with (refine zcK rfl rfl rfl rfl zfj h3 (by omega) ?_)
      go_roundg (gk - 1)
      case measure => have := hj'.out; omega
      case rel =>
       have hj'' := hj'.out
       have d1 : (5 * m + j) / 5 = m := by omega
       have d2 : (5 * m + j) % 5 = j := by omega
       exact ⟨j + 1, by omega, by go_num, zcX h1 (by omega), zcX h2 (by omega), zav (zaC h3) (fun i _ => zqq F G (5 * m + j) (m + j) _ _ rfl (by rw [d1, d2]; omega) (by rw [d1, d2, if_neg hge]) i), zaD hB (by omega) _⟩
    ·obtain rfl : j = 5 := by have := hj'.out; omega
     go_wp2
     go_roundg (go1 - 1)
     case measure => have := hm'.out; omega
     case rel =>
      have hm'' := hm'.out
      exact ⟨m + 1, by omega, by go_num, h1, h2, h3, hB⟩
  ·obtain rfl : m = 5 := by have := hm'.out; omega
   have vl : ∀ c, c < 5 → zdH F G 25 c < 10384593717069655257060992658440192 := fun c _ => al.out 25 c (by omega)
   have h3' : wr.heap[w.heap.size + 3]? = some (.cells (arr .u64 10 fun i => ((zjk (zdH F G 25) i : Nat) : Int)) 223 (0, 0)) := h3
   have ob := zuc (zdH F G 25) vl
   obtain ⟨V, hV⟩ : ∃ V, V = zdH F G 25 := ⟨_, rfl⟩
   rw [← hV] at vl h3' ob
   have hV' := Lib.hid hV
   clear h3 al hm' hV
   go_wp2_with (refine zac rfl rfl rfl zz4 h3' ?_)
   have vl' := Lib.hid vl
   have ob' := Lib.hid ob
   clear h3' vl ob h1
   go_loopg [11, 47] 5 (fun n o i wr => ∃ m : Nat, m + n = 5 ∧ i = .int .i64 m ∧ o = .int .u64 ((ovN V m : Nat) : Int) ∧ wr.heap[w.heap.size + 1 + 1]? = some (.cells (arr .u64 5 fun i => ((if i < m then loN V i else 0 : Nat) : Int)) 168 (0, 0)) ∧ Below w.heap.size w wr)
   case atStart => exact ⟨0, rfl, rfl, (by unfold ovN; rfl), zav h2 (fun i _ => by rw [if_neg (Nat.not_lt_zero i)]; rfl), hB⟩
   case round =>
    clear h2 hB
    obtain ⟨m, hm, rfl, rfl, h2, hB⟩ := hrel
    have hm' := Lib.hid hm
    clear hm
    by_cases hlt : m < 5
    ·have vb := vl'.out m hlt
     have ob := ob'.out m (by omega)
     obtain ⟨ga, hza, bla⟩ := zgS wr (.cells (arr .u64 2 fun _ => 0) 222)
     go_upto_region 18 with (first | (refine zhk rfl rfl Tryz.underlying223 zfj rfl rfl (by omega) (by omega) (by omega) (fun i => ((hlN (V m) i : Nat) : Int)) (fun i hi => by rw [zoD V m _ i (by omega) hi]) ?_) | (refine zat rfl rfl zyB ?_) | (refine zaf rfl rfl rfl rfl zfj ga ?_))
     have q13 := zaC (c' := arr .u64 2 fun i => ((hlN (V m) i : Nat) : Int)) ga
     have l2 := jM h2
     replace h2 := zcX (g := wr.heap.size) (c' := arr .u64 2 fun i => ((hlN (V m) i : Nat) : Int)) (zak bla l2 h2) (Nat.ne_of_lt l2)
     have lB := hB.size
     replace hB := zaD (hB.trans (bla.mono hB.size)) hB.size (arr .u64 2 fun i => ((hlN (V m) i : Nat) : Int))
     clear ga hza bla
     generalize (wr.alloc (.cells (arr .u64 2 fun _ => 0) 222)).setRow wr.heap.size (arr .u64 2 fun i => ((hlN (V m) i : Nat) : Int)) = wq at *
     generalize wr.heap.size = BW at *
     (try simp only [Act.put, jA, jB, jC])
     go_wp2_with (first | (refine zac rfl rfl rfl zfj q13 ?_) | (go_at_call 185; fail))
     refine (zkE (V m) (ovN V m) 1 (by omega) (by omega) (by omega) _).mono ?_
     rintro e w4 ⟨rfl, b4⟩
     rw [Nat.mul_one]
     replace h2 := zak b4 (jM h2) h2
     replace q13 := zak b4 (jM q13) q13
     replace hB := hB.trans (b4.mono hB.size)
     clear b4
     go_upto_region 19 with (refine zaf rfl rfl rfl rfl zfj q13 ?_)
     replace h2 := zcX (g := BW) (c' := arr .u64 2 fun i => ((hlN (V m + ovN V m) i : Nat) : Int)) h2 (Nat.ne_of_lt l2)
     replace hB := zaD hB lB (arr .u64 2 fun i => ((hlN (V m + ovN V m) i : Nat) : Int))
     replace q13 := zaC (c' := arr .u64 2 fun i => ((hlN (V m + ovN V m) i : Nat) : Int)) q13
     generalize w4.setRow BW (arr .u64 2 fun i => ((hlN (V m + ovN V m) i : Nat) : Int)) = w5 at *
     (try simp only [Act.put, jA, jB, jC])
     obtain ⟨hi, hhi⟩ : ∃ x, x = (V m + ovN V m) / 18446744073709551616 := ⟨_, rfl⟩
     obtain ⟨lo, hlo⟩ : ∃ x, x = (V m + ovN V m) % 18446744073709551616 := ⟨_, rfl⟩
     have c0 : w5.cell? ⟨BW, 0, none⟩ = some (.int .u64 (hi : Int)) := by rw [hhi]; exact za3 q13 0 (by omega)
     have c1 : w5.cell? ⟨BW, 1, none⟩ = some (.int .u64 (lo : Int)) := by rw [hlo]; exact za3 q13 1 (by omega)
     have am := ziw lo (by omega)
     have hib : hi < 1125899906842624 := by omega
     have lob : lo < 18446744073709551616 := by omega
     have hhi' := Lib.hid hhi
     have hlo' := Lib.hid hlo
     clear hhi hlo vb
     have l13 := jM q13
     have c2 := za3 h2 m hlt
     have fz := zb4 h2 m
     have orf := zuf hi lo hib lob
     obtain ⟨ov1, ho1⟩ : ∃ x, x = hi * 8192 + lo / 2251799813685248 := ⟨_, rfl⟩
     rw [← ho1] at orf
     have ho1' := Lib.hid ho1
     clear ho1
     go_region
     go_wp2
     go_roundg (gk - 1)
     case measure => have := hm'.out; omega
     case rel =>
      have hm'' := hm'.out
      have e1 := hhi'.out
      have e2 := hlo'.out
      have e3 := ho1'.out
      refine ⟨m + 1, by omega, by go_num, ?_, zav (zce h2 m _) (fun i _ => ?_), (hB.setCell (by show w.heap.size ≤ w.heap.size + 1 + 1; omega) _).drew⟩
      ·rw [zf3, e3, e1, e2]; congr 2; omega
      ·unfold upd
       by_cases h : i = m
       ·rw [if_pos h, h, if_pos (by omega)]
        unfold loN
        omega
       ·rw [if_neg h]
        dsimp only
        by_cases h2 : i < m
        ·rw [if_pos h2, if_pos (by omega)]
        ·rw [if_neg h2, if_neg (by omega)]
    ·obtain rfl : m = 5 := by have := hm'.out; omega
     have ob := ob'.out 5 (by omega)
     have fl := Lib.hid (zud V vl'.out)
     replace h2 := zav (f' := fun i => ((loN V i : Nat) : Int)) h2 (fun i hi => by rw [if_pos hi])
     have lb0 : loN V 0 < 2251799813685248 := Nat.mod_lt _ (by omega)
     have lb1 : loN V 1 < 2251799813685248 := Nat.mod_lt _ (by omega)
     obtain ⟨ov, hov⟩ : ∃ x, x = ovN V 5 := ⟨_, rfl⟩
     rw [← hov] at ob ⊢
     have hov' := Lib.hid hov
     clear hov
     go_wp2_with (go_at_call 186; fail)
     refine (zm2 ov 19 (by omega) (by omega) _).mono ?_
     rintro e w4 ⟨rfl, rfl⟩
     obtain ⟨mh, hmh⟩ : ∃ x, x = ov * 19 / 18446744073709551616 := ⟨_, rfl⟩
     obtain ⟨ml, hml⟩ : ∃ x, x = ov * 19 % 18446744073709551616 := ⟨_, rfl⟩
     obtain ⟨lz, hlz⟩ : ∃ x, x = loN V 0 := ⟨_, rfl⟩
     have c0 : wr.cell? ⟨w.heap.size + 1 + 1, 0, none⟩ = some (.int .u64 (lz : Int)) := by rw [hlz]; exact za3 h2 0 (by omega)
     have c1 := za3 h2 1 (by omega)
     have fz0 := zb4 h2 0
     have fz1 := zb4 h2 1
     rw [← hlz] at lb0
     rw [← hmh, ← hml]
     have ra := zm3 ml lz
     obtain ⟨al, hal⟩ : ∃ x, x = (ml + lz) % 18446744073709551616 := ⟨_, rfl⟩
     obtain ⟨ac, hac⟩ : ∃ x, x = (ml + lz) / 18446744073709551616 := ⟨_, rfl⟩
     rw [← hal, ← hac] at ra
     have am := ziw al (by omega)
     have hs : mh + ac < 1125899906842624 := by omega
     have orf := zuf (mh + ac) al hs (by omega)
     rw [Int.natCast_add] at orf
     obtain ⟨rr, hrr⟩ : ∃ x, x = (mh + ac) * 8192 + al / 2251799813685248 := ⟨_, rfl⟩
     rw [← hrr] at orf
     have rb : rr < 1125899906842624 := by omega
     have alb : al < 18446744073709551616 := by omega
     have t0 : al % 2251799813685248 = (19 * ov + lz) % 2251799813685248 := by omega
     have t1 : rr = (19 * ov + lz) / 2251799813685248 := by omega
     have T0 := Lib.hid t0
     have T1 := Lib.hid t1
     have HLZ := Lib.hid hlz
     clear hlz hmh hml hal hac hrr t0 t1
     go_upto_region 25 with (fail)
     have k2 := zav (f' := fun i => ((ziA V i : Nat) : Int)) (zce (zce h2 0 (((al : Nat) : Int) % 2251799813685248)) 1 (((loN V 1 : Nat) : Int) + ((rr : Nat) : Int))) (fun i _ => by
      have e0 := T0.out
      have e1 := T1.out
      rw [HLZ.out, hov'.out] at e0 e1
      unfold upd ziA
      by_cases h1 : i = 1
      ·rw [if_pos h1, if_neg (by omega), if_pos h1, e1]; omega
      ·rw [if_neg h1, if_neg h1]
       by_cases h0 : i = 0
       ·rw [if_pos h0, if_pos h0, ← e0]; omega
       ·rw [if_neg h0, if_neg h0])
     have lB : w.heap.size ≤ w.heap.size + 1 + 1 := by omega
     have hBk := (hB.setCell (p := ⟨w.heap.size + 1 + 1, 0, none⟩) lB (.int .u64 (((al : Nat) : Int) % 2251799813685248))).setCell (p := ⟨w.heap.size + 1 + 1, 1, none⟩) lB (.int .u64 (((loN V 1 : Nat) : Int) + ((rr : Nat) : Int)))
     clear c0 c1 fz0 fz1 h2 hB
     go_wp2_with (first | (refine zac rfl rfl rfl zbZ k2 ?_) | (go_at_call 180; fail))
     refine (zez (ziA V) fl.out _).mono ?_
     rintro e w4 ⟨rfl, b4⟩
     have e2 := zak b4 (jM k2) k2
     have hBe := hBk.trans (b4.mono hBk.size)
     go_wp2_with (refine zaf rfl rfl rfl rfl zbZ e2 ?_)
     refine bodyPost_ret (zbK rfl rfl zbZ (zaC e2)) rfl ⟨?_, zaD hBe (by omega) _⟩
     rw [hV'.out]
     rfl
end
section
open Go.RowKit
attribute [local irreducible] zdH zdA zbc zb9 zcU zcN
def zm4 (F G H : Nat → Nat) (i : Nat) : Nat := if okF F 5 ∧ okF G 5 then H i else 0
def mulN (F G : Nat → Nat) : Nat → Nat := zm4 F G (zb9 F G)
def zDN (F G : Nat → Nat) : Nat → Nat := zm4 F G (zcU (zcN F G))
theorem zm5 {F G : Nat → Nat} (h : okF F 5 ∧ okF G 5) (H : Nat → Nat) : zm4 F G H = H := by funext i; unfold zm4; rw [if_pos h]
theorem zqr {F G : Nat → Nat} (h : ¬ (okF F 5 ∧ okF G 5)) (H : Nat → Nat) : zm4 F G H = fun _ => 0 := by funext i; unfold zm4; rw [if_neg h]
theorem zz5 (F G : Nat → Nat) (hF : ∀ i, i < 5 → F i < 18446744073709551616) (hG : ∀ i, i < 5 → G i < 18446744073709551616) (w : World) :
  Calls Tryz.prog 162 #[.agg (arr .u64 5 fun i => ((F i : Nat) : Int)), .agg (arr .u64 5 fun i => ((G i : Nat) : Int))] w fun e w' => e = .returned (.tuple #[.agg (arr .u64 5 fun k => ((mulN F G k : Nat) : Int)), .int .i64 (if okF F 5 ∧ okF G 5 then 0 else 1)]) ∧ Below w.heap.size w w' := by
 go_enter Tryz.func162, Tryz.ntmps162
 obtain ⟨h0, h1, h2, hsz, hb⟩ := zmf w (.cells (arr .u64 5 fun i => ((F i : Nat) : Int)) 168) (.cells (arr .u64 5 fun i => ((G i : Nat) : Int)) 168) (.cells (arr .u64 5 fun _ => 0) 168)
 go_upto_region 1 with (refine zat rfl rfl zv5 ?_)
 generalize ((w.alloc (.cells (arr .u64 5 fun i => ((F i : Nat) : Int)) 168)).alloc (.cells (arr .u64 5 fun i => ((G i : Nat) : Int)) 168)).alloc (.cells (arr .u64 5 fun _ => 0) 168) = wa at *
 (try simp only [Act.put, jA, jB, jC])
 obtain ⟨g3, hz2, bl⟩ := zgS wa (.cells (arr .u64 10 fun i => ((zkB F G i : Nat) : Int)) 168)
 rw [hsz] at g3
 go_wp2_with (first | (refine zac rfl rfl rfl zbZ h0 ?_) | (refine zac rfl rfl rfl zbZ h1 ?_) | (refine zcm rfl rfl Tryz.underlying217 (by simp [Act.eval, Act.put]) (ziv F G) ?_) | (go_at_call 164; fail))
 refine (zgC 2 10 rfl (by omega) (zkB F G) (fun i hi => zoz F G _ hF hG i hi) _ _ _ g3).mono ?_
 rintro e w2 ⟨rfl, b2⟩
 have b3 := bl.trans (b2.mono (by omega))
 have q0 := zak b3 (by omega) h0
 have q1 := zak b3 (by omega) h1
 have q2 := zak b3 (by omega) h2
 have hB := hb.trans (b3.mono (by omega))
 clear b2 b3 bl g3 h0 h1 h2 hb hz2 hsz
 by_cases hq : okF F 5 ∧ okF G 5
 ·rw [show decide (okF (zkB F G) 10) = true from decide_eq_true ((zgD F G).2 hq)]
  have hq' := Lib.hid hq
  go_wp2_with (first | (refine zac rfl rfl rfl zbZ q0 ?_) | (refine zac rfl rfl rfl zbZ q1 ?_) | (go_at_call 167; fail))
  refine (zkF F G hq'.out.1 hq'.out.2 _).mono ?_
  rintro e w4 ⟨rfl, b4⟩
  have e2 := zak b4 (jM q2) q2
  have hBe := hB.trans (b4.mono hB.size)
  go_wp2_with (refine zaf rfl rfl rfl rfl zbZ e2 ?_)
  refine bodyPost_ret (zaI rfl rfl rfl zbZ (zaC e2)) rfl ⟨?_, zaD hBe (by omega) _⟩
  unfold mulN
  rw [zm5 hq'.out]
  first | rfl | (rw [if_pos hq'.out]; rfl)
 ·rw [show decide (okF (zkB F G) 10) = false from decide_eq_false fun h => hq ((zgD F G).1 h)]
  go_wp2_with (first | (refine zbL rfl (zbQ rfl (by simp [Act.eval, Act.put]) ze2) ?_) | (refine zaf rfl rfl rfl rfl zbZ q2 ?_))
  refine bodyPost_ret (zaI rfl rfl rfl zbZ (zaC q2)) rfl ⟨?_, zaD hB (by omega) _⟩
  unfold mulN
  rw [zqr hq]
  first | rfl | (rw [if_neg hq]; rfl)
theorem zm6 (F G : Nat → Nat) (m : Nat) (h : G m < 4503599627370496) : ((F m : Nat) : Int) + (4 * ((zrF m : Nat) : Int) - ((G m : Nat) : Int)) = ((zcN F G m : Nat) : Int) := by
 unfold zcN zrF
 split <;> omega
theorem zz6 (F G : Nat → Nat) (hF : ∀ i, i < 5 → F i < 18446744073709551616) (hG : ∀ i, i < 5 → G i < 18446744073709551616) (w : World) :
  Calls Tryz.prog 161 #[.agg (arr .u64 5 fun i => ((F i : Nat) : Int)), .agg (arr .u64 5 fun i => ((G i : Nat) : Int))] w fun e w' => e = .returned (.tuple #[.agg (arr .u64 5 fun k => ((zDN F G k : Nat) : Int)), .int .i64 (if okF F 5 ∧ okF G 5 then 0 else 1)]) ∧ Below w.heap.size w w' := by
 go_enter Tryz.func161, Tryz.ntmps161
 obtain ⟨h0, h1, h2, hsz, hb⟩ := zmf w (.cells (arr .u64 5 fun i => ((F i : Nat) : Int)) 168) (.cells (arr .u64 5 fun i => ((G i : Nat) : Int)) 168) (.cells (arr .u64 5 fun _ => 0) 168)
 go_upto_region 1 with (refine zat rfl rfl zv5 ?_)
 generalize ((w.alloc (.cells (arr .u64 5 fun i => ((F i : Nat) : Int)) 168)).alloc (.cells (arr .u64 5 fun i => ((G i : Nat) : Int)) 168)).alloc (.cells (arr .u64 5 fun _ => 0) 168) = wa at *
 (try simp only [Act.put, jA, jB, jC])
 obtain ⟨g3, hz2, bl⟩ := zgS wa (.cells (arr .u64 10 fun i => ((zkB F G i : Nat) : Int)) 168)
 rw [hsz] at g3
 go_wp2_with (first | (refine zac rfl rfl rfl zbZ h0 ?_) | (refine zac rfl rfl rfl zbZ h1 ?_) | (refine zcm rfl rfl Tryz.underlying217 (by simp [Act.eval, Act.put]) (ziv F G) ?_) | (go_at_call 164; fail))
 refine (zgC 2 10 rfl (by omega) (zkB F G) (fun i hi => zoz F G _ hF hG i hi) _ _ _ g3).mono ?_
 rintro e w2 ⟨rfl, b2⟩
 have b3 := bl.trans (b2.mono (by omega))
 have q0 := zak b3 (by omega) h0
 have q1 := zak b3 (by omega) h1
 have q2 := zak b3 (by omega) h2
 have hB := hb.trans (b3.mono (by omega))
 clear b2 b3 bl g3 h0 h1 h2 hb hz2 hsz
 by_cases hq : okF F 5 ∧ okF G 5
 ·rw [show decide (okF (zkB F G) 10) = true from decide_eq_true ((zgD F G).2 hq)]
  have hq' := Lib.hid hq
  go_wp2
  go_loopg [14] 5 (fun n i wr => ∃ m : Nat, m + n = 5 ∧ i = .int .i64 m ∧ wr.heap[w.heap.size]? = some (.cells (arr .u64 5 fun i => ((if i < m then zcN F G i else F i : Nat) : Int)) 168 (0, 0)) ∧
   wr.heap[w.heap.size + 1]? = some (.cells (arr .u64 5 fun i => ((G i : Nat) : Int)) 168 (0, 0)) ∧ wr.heap[w.heap.size + 1 + 1]? = some (.cells (arr .u64 5 fun _ => 0) 168 (0, 0)) ∧ Below w.heap.size w wr)
  case atStart => exact ⟨0, rfl, rfl, zav q0 (fun i _ => by rw [if_neg (Nat.not_lt_zero i)]), q1, q2, hB⟩
  case round =>
   clear q0 q1 q2 hB
   obtain ⟨m, hm, rfl, q0, q1, q2, hB⟩ := hrel
   have hm' := Lib.hid hm
   clear hm
   by_cases hlt : m < 5
   ·have f1 := hq'.out.1 m hlt
    have f2 := hq'.out.2 m hlt
    have c0 := za3 q0 m hlt
    have c1 := za3 q1 m hlt
    have fz := zb4 q0 m
    simp only [Nat.lt_irrefl, if_false] at c0
    have dc := zm6 F G m f2
    by_cases h0 : m = 0
    all_goals
     first | (have hm0 : ((m : Int) == 0) = true := by simp [h0]) | (have hm0 : ((m : Int) == 0) = false := by simp [h0])
     have H0 := Lib.hid h0
     clear h0 dc
     go_wp2
     refine zbA 11 (by kernel_rfl) (by kernel_rfl) ?_
     (simp only [jH, jI, jF, jG])
     repeat (refine wpStill_step (fun K hK => ?_); go_simp; (try (simp only [↓IntWalk.iteOmega]; go_simp)); (try go_bits); refine hK _ ?_; clear hK K)
     refine wpStill_nil ?_
     go_wp2
     go_roundg (gk - 1)
     case measure => have := hm'.out; omega
     case rel =>
      have hm'' := hm'.out
      have h0 := H0.out
      have dc := zm6 F G m f2
      unfold zrF at dc
      first | rw [if_pos h0] at dc | rw [if_neg h0] at dc
      refine ⟨m + 1, by omega, by go_num, zav (zce q0 m _) (fun i _ => ?_), zcf q1 _ _ (by omega), zcf q2 _ _ (by omega), (hB.setCell (jV _) _).drew⟩
      unfold upd
      by_cases h : i = m
      ·rw [if_pos h, h, if_pos (by omega), ← dc]; omega
      ·rw [if_neg h]
       dsimp only
       by_cases h2 : i < m
       ·rw [if_pos h2, if_pos (by omega)]
       ·rw [if_neg h2, if_neg (by omega)]
   ·obtain rfl : m = 5 := by have := hm'.out; omega
    have p0 := zav (f' := fun i => ((zcN F G i : Nat) : Int)) q0 (fun i hi => by rw [if_pos hi])
    clear q0
    go_wp2_with (first | (refine zac rfl rfl rfl zbZ p0 ?_) | (go_at_call 180; fail))
    refine (zez (zcN F G) (fun i hi => zue F G hq'.out.1 i hi) _).mono ?_
    rintro e w4 ⟨rfl, b4⟩
    have e2 := zak b4 (jM q2) q2
    have hBe := hB.trans (b4.mono hB.size)
    go_wp2_with (refine zaf rfl rfl rfl rfl zbZ e2 ?_)
    refine bodyPost_ret (zaI rfl rfl rfl zbZ (zaC e2)) rfl ⟨?_, zaD hBe (by omega) _⟩
    unfold zDN
    rw [zm5 hq'.out]
    first | rfl | (rw [if_pos hq'.out]; rfl)
 ·rw [show decide (okF (zkB F G) 10) = false from decide_eq_false fun h => hq ((zgD F G).1 h)]
  go_wp2_with (first | (refine zbL rfl (zbQ rfl (by simp [Act.eval, Act.put]) ze2) ?_) | (refine zaf rfl rfl rfl rfl zbZ q2 ?_))
  refine bodyPost_ret (zaI rfl rfl rfl zbZ (zaC q2)) rfl ⟨?_, zaD hB (by omega) _⟩
  unfold zDN
  rw [zqr hq]
  first | rfl | (rw [if_neg hq]; rfl)
end
section
open Go.RowKit
attribute [local irreducible] zdH zdA zbc zb9 zcU zcN
def sqN (F : Nat → Nat) : Nat → Nat → Nat
 | 0 => F
 | n + 1 => zb9 (sqN F n) (sqN F n)
theorem ziB (F : Nat → Nat) (hF : okF F 5) : ∀ n, okF (sqN F n) 5
 | 0 => hF
 | n + 1 => zd7 _ _ (ziB F hF n) (ziB F hF n)
theorem zqs (F : Nat → Nat) (n : Nat) : sqN F (n + 1) = zb9 (sqN F n) (sqN F n) := rfl
attribute [local irreducible] sqN
theorem zgG (F : Nat → Nat) (hF : okF F 5) (N : Nat) (hN : N < 1000) (w : World) :
  Calls Tryz.prog 168 #[.agg (arr .u64 5 fun i => ((F i : Nat) : Int)), .int .i64 N] w fun e w' => e = .returned (.agg (arr .u64 5 fun k => ((sqN F N k : Nat) : Int))) ∧ Below w.heap.size w w' := by
 go_enter Tryz.func168, Tryz.ntmps168
 obtain ⟨h0, h1, hsz, hb⟩ := zgT w (.cells (arr .u64 5 fun i => ((F i : Nat) : Int)) 168) (.cells (arr .u64 5 fun _ => 0) 168)
 go_upto_region 1 with (refine zat rfl rfl zv5 ?_)
 generalize (w.alloc (.cells (arr .u64 5 fun i => ((F i : Nat) : Int)) 168)).alloc (.cells (arr .u64 5 fun _ => 0) 168) = wa at *
 (try simp only [Act.put, jA, jB, jC])
 simp only [World.size_alloc]
 have hF' := Lib.hid hF
 clear hF hsz
 go_wp2
 go_loopg [6] N (fun n i wr => ∃ m : Nat, m + n = N ∧ i = .int .i64 m ∧ wr.heap[w.heap.size]? = some (.cells (arr .u64 5 fun i => ((sqN F m i : Nat) : Int)) 168 (0, 0)) ∧
  wr.heap[w.heap.size + 1]? = some (.cells (arr .u64 5 fun _ => 0) 168 (0, 0)) ∧ Below w.heap.size w wr)
 case atStart => exact ⟨0, by omega, rfl, (by unfold sqN; exact h0), h1, hb⟩
 case round =>
  clear h0 h1 hb
  obtain ⟨m, hm, rfl, h0, h1, hB⟩ := hrel
  have hm' := Lib.hid hm
  clear hm
  by_cases hlt : m < N
  ·have ok := Lib.hid (ziB F hF'.out m)
   go_wp2_with (first | (refine zac rfl rfl rfl zbZ h0 ?_) | (go_at_call 167; fail))
   refine (zkF (sqN F m) (sqN F m) ok.out ok.out _).mono ?_
   rintro e w4 ⟨rfl, b4⟩
   replace h0 := zak b4 (jM h0) h0
   replace h1 := zak b4 (jM h1) h1
   replace hB := hB.trans (b4.mono hB.size)
   clear b4
   go_wp2_with (refine zaf rfl rfl rfl rfl zbZ h0 ?_)
   go_roundg (gk - 1)
   case measure => have := hm'.out; omega
   case rel =>
    have hm'' := hm'.out
    exact ⟨m + 1, by omega, by go_num, (by rw [zqs]; exact zaC h0), zcX h1 (by omega), zaD hB (jV _) _⟩
  ·obtain rfl : m = N := by have := hm'.out; omega
   go_wp2_with (first | (refine zac rfl rfl rfl zbZ h0 ?_) | (refine zaf rfl rfl rfl rfl zbZ h1 ?_))
   exact bodyPost_ret (zbK rfl rfl zbZ (zaC h1)) rfl ⟨rfl, zaD hB (by omega) _⟩
def zfv (X : Nat → Nat) (n : Nat) (Y : Nat → Nat) : Nat → Nat := zb9 (sqN X n) Y
theorem zeA (X Y : Nat → Nat) (n : Nat) (hX : okF X 5) (hY : okF Y 5) : okF (zfv X n Y) 5 := zd7 _ _ (ziB X hX n) hY
theorem zxf (X Y : Nat → Nat) (hX : okF X 5) (hY : okF Y 5) (N : Nat) (hN : N < 1000) (w : World) :
  Calls Tryz.prog 166 #[.agg (arr .u64 5 fun i => ((X i : Nat) : Int)), .int .i64 N, .agg (arr .u64 5 fun i => ((Y i : Nat) : Int))] w fun e w' => e = .returned (.agg (arr .u64 5 fun k => ((zfv X N Y k : Nat) : Int))) ∧ Below w.heap.size w w' := by
 go_enter Tryz.func166, Tryz.ntmps166
 obtain ⟨h0, h1, h2, hsz, hb⟩ := zmf w (.cells (arr .u64 5 fun i => ((X i : Nat) : Int)) 168) (.cells (arr .u64 5 fun i => ((Y i : Nat) : Int)) 168) (.cells (arr .u64 5 fun _ => 0) 168)
 go_upto_region 1 with (refine zat rfl rfl zv5 ?_)
 generalize ((w.alloc (.cells (arr .u64 5 fun i => ((X i : Nat) : Int)) 168)).alloc (.cells (arr .u64 5 fun i => ((Y i : Nat) : Int)) 168)).alloc (.cells (arr .u64 5 fun _ => 0) 168) = wa at *
 (try simp only [Act.put, jA, jB, jC])
 simp only [World.size_alloc]
 refine zi8 5 [Is (.agg (arr .u64 5 fun i => ((X i : Nat) : Int))), Is (.int .i64 N), Is (.agg (arr .u64 5 fun k => ((sqN X N k : Nat) : Int))), Is (.agg (arr .u64 5 fun i => ((Y i : Nat) : Int))), Is (.agg (arr .u64 5 fun k => ((zfv X N Y k : Nat) : Int)))]
  [[], [], [0, 1], [], [2, 3]] (by kernel_rfl) (by kernel_rfl) rfl (zhW (zeL _) (zhW (zeL _) (zhW (zeL _) (zhW (zeL _) (zhW (zeL _) zBU))))) ?_ ?_
 ·(simp only [jH, jI, jF, jG, List.zip_cons_cons, List.zip_nil_left, List.zip_nil_right, zhS, zse, under, zcQ, zcv, jD, jE, List.range_succ, List.range_zero, List.nil_append, List.cons_append, Act.put, jA, jB, jC])
  refine ⟨?_, ?_, ?_, ?_, ?_, trivial⟩
  ·intro x0 x1 x2 x3 x4 w' hb'
   exact zfJ rfl rfl rfl zbZ (zak hb' (jM (w := wa) h0) h0) rfl
  ·intro x0 x1 x2 x3 x4 w' hb'
   exact zss rfl rfl rfl
  ·intro x0 x1 x2 x3 x4 w' hb' e0 e1
   unfold Is at e0 e1
   subst e0 e1
   refine zsr rfl (fun K hK => ?_)
   go_simp
   refine (zgG X hX N hN _).mono ?_
   rintro e w4 ⟨rfl, b4⟩
   exact hK _ _ b4 rfl
  ·intro x0 x1 x2 x3 x4 w' hb'
   exact zfJ rfl rfl rfl zbZ (zak hb' (jM (w := wa) h1) h1) rfl
  ·intro x0 x1 x2 x3 x4 w' hb' e0 e1
   unfold Is at e0 e1
   subst e0 e1
   refine zsr rfl (fun K hK => ?_)
   go_simp
   refine (zkF _ Y (ziB X hX N) hY _).mono ?_
   rintro e w4 ⟨rfl, b4⟩
   exact hK _ _ b4 rfl
 ·(simp only [jH, jI, jF, jG, List.zip_cons_cons, List.zip_nil_left, List.zip_nil_right, zhS, zse, under, zcQ, zcv, jD, jE, List.range_succ, List.range_zero, List.nil_append, List.cons_append, Act.put, jA, jB, jC])
  intro x0 x1 x2 x3 x4 w' hb' e0 e1 e2 e3 e4
  unfold Is at e0 e1 e2 e3 e4
  subst e0 e1 e2 e3 e4
  replace h2 := zak hb' (jM (w := wa) h2) h2
  have hB := (hb.drew).trans (hb'.mono hb.size)
  go_wp2_with (refine zaf rfl rfl rfl rfl zbZ h2 ?_)
  exact bodyPost_ret (zbK rfl rfl zbZ (zaC h2)) rfl ⟨rfl, zaD hB (by omega) _⟩
end
section
open Go.RowKit
def zbq (o : Oper) : Bool := match o.op with | .alloc _ => true | _ => false
def zqt (v : Value) (w : World) : Prop := ∃ B, v = .pointer (some ⟨B, 0, none⟩) ∧ B < w.heap.size
theorem zqt.below {v : Value} {w w' : World} (h : zqt v w) (hb : Below w.heap.size w w') : zqt v w' := by
 obtain ⟨B, rfl, hB⟩ := h
 exact ⟨B, rfl, jT hB hb.size⟩
def zgH (w : World) : Addr := ⟨w.heap.size, 0, none⟩
def zeB (P : Program) (ops : Array Oper) (Q : Exit → Act → World → Prop) (o : Oper) (r : zfD) (a : Act) (w : World) : Prop :=
 match o.op with
 | .alloc _ => Region.wanted o (yielded ops a.tmps) = true ∧ (∃ b, (execOp a.eval o).run P w = .ok (.value (.pointer (some (zgH w)))) (w.alloc b) ∧ r (.pointer (some (zgH w))) (w.alloc b))
 | _ => zdJ P ops Q o r a w
def zhC (P : Program) (ops : Array Oper) (Q : Exit → Act → World → Prop) (n : Nat) (hd : List Oper) (a : Act) (w0 : World) (R : List zfD) : List (Oper × zfD × List Nat) → Prop
 | [] => True
 | (o, r, js) :: l => (zse n fun xs => ∀ w', Below w0.heap.size w0 w' → under R xs w' js (zeB P ops Q o r (zcv hd a xs) w')) ∧ zhC P ops Q n hd a w0 R l
def zcO (xs : List Value) (i j : Nat) : Prop := match xs[i]?, xs[j]? with | some x, some y => x ≠ y | _, _ => True
def zqu (xs : List Value) : List (Nat × Nat) → Prop → Prop
 | [], p => p
 | d :: ds, p => zcO xs d.1 d.2 → zqu xs ds p
theorem zm7 {xs : List Value} {p : Prop} : ∀ (ds : List (Nat × Nat)), zqu xs ds p → (∀ d ∈ ds, zcO xs d.1 d.2) → p
 | [], h, _ => h
 | d :: ds, h, hd => zm7 ds (h (hd d (by simp))) (fun k hk => hd k (by simp [hk]))
def zqv (l : List Oper) (n : Nat) (D : List (Nat × Nat)) : Bool :=
 D.all fun d => decide (d.1 < d.2) && decide (d.2 < n) && (match l[d.1]? with | some o => zbq o | none => false) && (match l[d.2]? with | some o => zbq o | none => false)
section
variable {P : Program} {Q : Exit → Act → World → Prop} {l : List Oper} {n : Nat} {a : Act} {w0 : World}
theorem zgZ {R : List zfD} {hd : List Oper} : ∀ (items : List (Oper × zfD × List Nat)), zhC P l.toArray Q n hd a w0 R items → ∀ (i : Nat) (o : Oper) (r : zfD) (js : List Nat), items[i]? = some (o, r, js) →
  zse n fun xs => ∀ w', Below w0.heap.size w0 w' → under R xs w' js (zeB P l.toArray Q o r (zcv hd a xs) w')
 | [], _, _, _, _, _, h => by simp at h
 | (o', r', js') :: items, h, 0, o, r, js, hi => by
  simp only [jD, Option.some.injEq, Prod.mk.injEq] at hi
  obtain ⟨rfl, rfl, rfl⟩ := hi
  exact h.1
 | (o', r', js') :: items, h, i + 1, o, r, js, hi => zgZ items h.2 i o r js (by simpa using hi)
theorem zrH {o : Oper} (h : zbq o = true) : ∃ ty, o.op = .alloc ty := by
 unfold zbq at h
 split at h
 ·rename_i ty he
  exact ⟨ty, he⟩
 ·cases h
structure ApInv (l : List Oper) (n : Nat) (listed : Array Bool) (xs : List Value) (w : World) : Prop where
 inh : ∀ k o, k < n → l[k]? = some o → zbq o = true → listed.getD k true = true → ∀ x, xs[k]? = some x → zqt x w
 ap : ∀ i j o o', i < n → j < n → l[i]? = some o → l[j]? = some o' → zbq o = true → zbq o' = true → listed.getD i true = true → listed.getD j true = true → i ≠ j → zcO xs i j
theorem zCI {D : List (Nat × Nat)} {listed : Array Bool} {xs : List Value} {w : World} (hD : zqv l n D = true) (h : ApInv l n listed xs w) (hl : ∀ i, i < n → listed.getD i true = true) : ∀ d ∈ D, zcO xs d.1 d.2 := by
 intro d hd
 unfold zqv at hD
 rw [List.all_eq_true] at hD
 have h1 := hD d hd
 simp only [Bool.and_eq_true, jS] at h1
 obtain ⟨⟨⟨h2, h3⟩, h4⟩, h5⟩ := h1
 split at h4
 ·rename_i o ho
  split at h5
  ·rename_i o' ho'
   exact h.ap d.1 d.2 o o' (by omega) h3 ho ho' h4 h5 (hl _ (by omega)) (hl _ h3) (by omega)
  ·cases h5
 ·cases h4
theorem zrI {xs : List Value} {i j : Nat} (h : zcO xs i j) : zcO xs j i := by
 unfold zcO at *
 split
 ·rename_i x y hx hy
  rw [hx, hy] at h
  exact Ne.symm h
 ·trivial
theorem zCJ {listed : Array Bool} {xs : List Value} {w w2 : World} {j : Nat} {oj : Oper} {v : Value} (h : ApInv l n listed xs w) (hoj : l[j]? = some oj) (hx : xs.length = n) (hj : j < n) (hjl : listed.getD j true = false) (hb : Below w.heap.size w w2)
  (hal : zbq oj = true → v = .pointer (some (zgH w)) ∧ w.heap.size < w2.heap.size) : ApInv l n (listed.setIfInBounds j true) (xs.set j v) w2 := by
 have key : ∀ k o', k < n → l[k]? = some o' → zbq o' = true → listed.getD k true = true → k ≠ j → zbq oj = true → zcO (xs.set j v) k j := by
  intro k o' hk ho' ha' hl hkj ha
  obtain ⟨rfl, _⟩ := hal ha
  unfold zcO
  rw [List.getElem?_set_ne (Ne.symm hkj), List.getElem?_set_self (by omega)]
  split
  ·rename_i x y hx1 hy1
   injection hy1 with hy1
   subst hy1
   obtain ⟨B, rfl, hB⟩ := h.inh k o' hk ho' ha' hl _ hx1
   intro e
   injection e with e
   injection e with e
   unfold zgH at e
   injection e with e
   omega
  ·trivial
 refine ⟨fun k o hk ho ha hl x hxk => ?_, fun i k o o' hi hk ho ho' ha ha' hli hlk hne => ?_⟩
 ·by_cases hkj : k = j
  ·subst hkj
   obtain rfl : o = oj := by rw [hoj] at ho; exact (Option.some.inj ho).symm
   obtain ⟨rfl, h2⟩ := hal ha
   rw [List.getElem?_set_self (by omega)] at hxk
   obtain rfl := Option.some.inj hxk
   exact ⟨_, rfl, h2⟩
  ·rw [List.getElem?_set_ne (Ne.symm hkj)] at hxk
   rw [getD_set_ne true (Ne.symm hkj)] at hl
   exact (h.inh k o hk ho ha hl x hxk).below hb
 ·by_cases hij : i = j
  ·subst hij
   obtain rfl : o = oj := by rw [hoj] at ho; exact (Option.some.inj ho).symm
   rw [getD_set_ne true hne] at hlk
   exact zrI (key k o' hk ho' ha' hlk (Ne.symm hne) ha)
  ·by_cases hkj : k = j
   ·subst hkj
    obtain rfl : o' = oj := by rw [hoj] at ho'; exact (Option.some.inj ho').symm
    rw [getD_set_ne true (Ne.symm hij)] at hli
    exact key i o hi ho ha hli hij ha'
   ·rw [getD_set_ne true (Ne.symm hij)] at hli
    rw [getD_set_ne true (Ne.symm hkj)] at hlk
    have := h.ap i k o o' hi hk ho ho' ha ha' hli hlk hne
    unfold zcO at this ⊢
    rw [List.getElem?_set_ne (Ne.symm hij), List.getElem?_set_ne (Ne.symm hkj)]
    exact this
theorem ziC {id : Nat} {w : World} (n : Nat) (R : List zfD) (ps : List (List Nat)) (D : List (Nat × Nat)) (hm : P.follows .mixedOrders = true) (hB : zhU l n ps = true) (hD : zqv l n D = true) (hR : R.length = n) (hst : ∀ r ∈ R, zjZ r)
  (hop : zhC P l.toArray Q n (l.take n) a w.drew R ((l.take n).zip (R.zip ps)))
  (hend : zse n fun xs => ∀ w', Below w.heap.size w.drew w' → under R xs w' (List.range n) (zqu xs D (wpList P l.toArray Q (l.drop n) (zcv (l.take n) a xs) w'))) : (Code.region id l.toArray true).wp P Q a w := by
 simp only [zhU, Bool.and_eq_true, jS] at hB
 obtain ⟨⟨⟨⟨⟨⟨⟨hsel, hn⟩, hp⟩, hs⟩, hc⟩, hd⟩, hps⟩, hseq⟩ := hB
 have hn' : n < l.toArray.size := by simpa using hn
 have inv0 : HeadInv .any l.toArray n (Array.replicate l.toArray.size false) :=
  ⟨by simp, fun j oj _ hl => (by rw [getD_replicate_false] at hl; cases hl), fun t _ ht => getD_in (by simpa using ht) (getD_replicate_false _ _)⟩
 have main : ∀ (f : Nat) (listed : Array Bool) (xs : List Value) (w' : World), HeadInv .any l.toArray n listed → zgo n listed = f → xs.length = n → Below w.heap.size w.drew w' →
   (∀ j, j < n → listed.getD j true = true → zcQ R xs w' j) → ApInv l n listed xs w' →
   wpAnyC P .any l.toArray Q (fun _ => True) n (fun listed' a' w' => Region.seqB .any l.toArray (l.toArray.size - n) n listed' = true ∧ wpList P l.toArray Q (l.drop n) a' w') f listed (zcv (l.take n) a xs) w' := by
  intro f
  induction f with
  | zero =>
   intro listed xs w' inv hr hx hb hf hap
   refine ⟨?_, zm7 D (zfI _ (zhR n _ hend xs hx w' hb) (fun j hj => hf j (List.mem_range.1 hj) (zc6 n listed hr j (List.mem_range.1 hj)))) (zCI hD hap (zc6 n listed hr))⟩
   have e : listed = (List.replicate n true ++ List.replicate (l.length - n) false).toArray := by
    apply Array.ext_getElem?
    intro i
    have hsz := inv.size
    simp only [List.size_toArray] at hsz
    by_cases hi : i < n
    ·have h1 := zc6 n listed hr i hi
     have h2 : i < listed.size := by omega
     simp [h2] at h1
     simp [List.getElem?_append, hi, h2, h1]
    ·by_cases hi2 : i < l.length
     ·have h1 := inv.tail i (by omega) (by simpa using hi2)
      have h2 : i < listed.size := by omega
      simp [h2] at h1
      simp only [jL, List.getElem?_append, List.length_replicate, hi, if_false, List.getElem?_replicate]
      rw [if_pos (by omega), Array.getElem?_eq_getElem h2, h1]
     ·rw [Array.getElem?_eq_none (by omega)]
      simp only [jL, List.getElem?_append, List.length_replicate, hi, if_false, List.getElem?_replicate]
      rw [if_neg (by omega)]
   rw [e]
   simpa using hseq
  | succ f ih =>
   intro listed xs w' inv hr hx hb hf hap
   obtain ⟨i, hi, hil, hmin⟩ := zjY n listed hr
   refine ⟨?_, fun j hj => ?_⟩
   ·intro h0
    obtain ⟨o, ho, he, _⟩ := zcw l ps 0 hps i ps[i] (by simp)
    have : i ∈ Region.ready .any l.toArray listed := mem_ready.2 ⟨hil, o, by simpa using ho, fun e hee hbe => by
     have h1 := he e hee hbe
     have h2 := hmin e.on (by omega)
     have h3 : e.on < listed.size := by rw [inv.size]; simp; omega
     simp [h3] at h2 ⊢
     exact h2⟩
    rw [h0] at this
    cases this
   ·have hjn : j < n := by
     rcases Nat.lt_or_ge j n with h | h
     ·exact h
     ·exact absurd hj (tail_waits hs hc hn' inv _ i rfl hi hil j h)
    refine ⟨hjn, ?_⟩
    obtain ⟨hjl, oj, hoj, hall⟩ := mem_ready.1 hj
    have hoj' : l[j]? = some oj := by simpa using hoj
    have hjp : j < ps.length := by omega
    have hjR : j < R.length := by omega
    have hit : ((l.take n).zip (R.zip ps))[j]? = some (oj, R[j], ps[j]) := by
     rw [List.getElem?_zip_eq_some]
     refine ⟨by rw [List.getElem?_take, if_pos hjn]; exact hoj', ?_⟩
     rw [List.getElem?_zip_eq_some]
     exact ⟨by simp [hjR], by simp [hjp]⟩
    obtain ⟨oj', hoj2, _, hpj⟩ := zcw l ps 0 hps j ps[j] (by simp [hjp])
    obtain rfl : oj' = oj := by
     rw [Nat.zero_add, hoj'] at hoj2
     exact (Option.some.inj hoj2).symm
    have hfree := zfI _ (zhR n _ (zgZ _ hop j oj' R[j] ps[j] hit) xs hx w' hb) (fun k hk => by
     obtain ⟨e, hee, hbe, hek⟩ := hpj k hk
     have h1 := hall e hee hbe
     rw [hek] at h1
     by_cases hkn : k < n
     ·refine hf k hkn ?_
      by_cases h2 : k < listed.size
      ·simp [h2] at h1 ⊢; exact h1
      ·simp [Array.getElem?_eq_none (Nat.le_of_not_lt h2)] at h1
     ·unfold zcQ
      rw [List.getElem?_eq_none (l := R) (by omega)]
      trivial)
    have go : ∀ (v : Value) (w2 : World), Below w'.heap.size w' w2 → R[j] v w2 → (zbq oj' = true → v = .pointer (some (zgH w')) ∧ w'.heap.size < w2.heap.size) →
      wpAnyC P .any l.toArray Q (fun _ => True) n (fun listed' a' w' => Region.seqB .any l.toArray (l.toArray.size - n) n listed' = true ∧ wpList P l.toArray Q (l.drop n) a' w') f (listed.setIfInBounds j true) ((zcv (l.take n) a xs).put oj'.dst v) w2 := by
     intro v w2 hb2 hv hal
     rw [zjW (l.take n) j oj' a xs v hd (by rw [List.getElem?_take, if_pos hjn]; exact hoj') (by omega)]
     refine ih _ _ _ (inv.set hj hjn) ?_ (by simpa using hx) (hb.trans (hb2.mono hb.size)) (fun k hk hkl => ?_) (zCJ hap hoj' hx hjn hjl hb2 hal)
     ·have := zjX n listed j hjn hjl
      omega
     ·by_cases hkj : k = j
      ·subst hkj
       unfold zcQ
       simp only [jP hjR, List.getElem?_set_self (show k < xs.length by omega)]
       exact hv
      ·have h1 := hf k hk (by rwa [getD_set_ne true (Ne.symm hkj)] at hkl)
       unfold zcQ at h1 ⊢
       rw [List.getElem?_set_ne (Ne.symm hkj)]
       have hkR : k < R.length := by omega
       have hkx : k < xs.length := by omega
       simp only [jP hkR, jP hkx] at h1 ⊢
       exact hst _ (List.getElem_mem hkR) _ _ _ hb2 h1
    unfold wpOp
    simp only [hoj]
    by_cases hA : zbq oj' = true
    ·obtain ⟨ty, hop2⟩ := zrH hA
     unfold zeB at hfree
     rw [hop2] at hfree
     obtain ⟨hw, b, hrun, hr2⟩ := hfree
     rw [if_pos hw]
     refine .inl ?_
     unfold Oper.wp
     rw [hrun]
     exact ⟨trivial, go _ _ ((Below.refl _ _).alloc (jV _) _) hr2 (fun _ => ⟨rfl, by simp⟩)⟩
    ·have hfree : zdJ P l.toArray Q oj' R[j] (zcv (l.take n) a xs) w' := by
      unfold zeB at hfree
      unfold zbq at hA
      split at hfree
      ·rename_i ty he
       rw [he] at hA
       exact absurd rfl hA
      ·exact hfree
     unfold zdJ at hfree
     split
     ·rename_i hw
      rw [if_pos hw] at hfree
      refine .inl (Oper.wp_mono (fun a' w2 h => ?_) hfree)
      obtain ⟨hb2, v, rfl, hv⟩ := h
      exact ⟨trivial, go v w2 hb2 hv (fun h => absurd h hA)⟩
     ·rename_i hw
      rw [if_neg hw] at hfree
      exact ⟨trivial, go undef w' (Below.refl _ _) hfree (fun h => absurd h hA)⟩
 obtain ⟨xs0, hx0, hf0⟩ := zjV (l.take n) a
 have H := main n (Array.replicate l.toArray.size false) xs0 w.drew inv0 (by
  unfold zgo
  rw [List.filter_eq_self.2 (fun i hi => ?_)]
  ·simp
  ·have := List.mem_range.1 hi
   have : i < l.length := by omega
   simp [this]) (by simp at hx0; omega) (Below.refl _ _) (fun j hj hl => by
  have : j < l.length := by omega
  simp [this] at hl) ⟨fun k o hk ho ha hl => by
  have : k < l.length := by omega
  simp [this] at hl, fun i j o o' hi hj ho ho' ha ha' hl => by
  have : i < l.length := by omega
  simp [this] at hl⟩
 rw [hf0] at H
 refine wp_region_any hm ?_
 have hdl : (l.drop n).length = l.toArray.size - n := by simp
 have := wpAny_of_anyC (g := l.toArray.size - n) (fun listed a' w' hL => by
  have := wpAny_of_seq (md := .any) (Q' := Q) (l.drop n) n listed a' w' (fun j => by simp [List.getElem?_drop]) (by rw [hdl]; exact hL.1) hL.2
  rwa [hdl] at this) _ _ _ _ H
 rw [show n + (l.toArray.size - n) = l.toArray.size by omega] at this
 exact this
variable {ops : Array Oper} {o : Oper} {r : zfD} {w : World}
theorem zxg (h : zdJ P ops Q o r a w) (ho : zbq o = false) : zeB P ops Q o r a w := by
 unfold zeB
 unfold zbq at ho
 split
 ·rename_i ty he
  rw [he] at ho
  cases ho
 ·exact h
end
end
section
open Go.RowKit
inductive Fk where
 | v (x : Value)
 | n (z : List Chunk) (ty : TypeId)
def Fk.val : Fk → Option Value
 | .v x => some x
 | .n _ _ => none
def Fk.fact (m : Nat) : Fk → zfD
 | .v x => Is x
 | .n z ty => zBV m (.cells (ca z) ty (0, 0))
def zfw : List (Option Nat) → List (Option Value) → List (Nat × Value) → List (Nat × Value)
 | some d :: ds, some x :: ks, l => zfw ds ks ((d, x) :: l)
 | some _ :: ds, none :: ks, l => zfw ds ks l
 | none :: ds, _ :: ks, l => zfw ds ks l
 | [], _, l => l
 | _ :: _, [], l => l
def zoE (js : List Nat) : Nat → List Fk → List (Option Value)
 | _, [] => []
 | i, f :: fs => (bif js.any (Nat.beq i) then f.val else none) :: zoE js (i + 1) fs
def zCK (d : Nat) : List (Nat × Value) → Bool
 | [] => false
 | p :: l => Nat.beq p.1 d || zCK d l
def zug (N : Nat) : List (Option Nat) → List (Nat × Value) → Bool
 | [], _ => true
 | some d :: ds, l => !zCK d l && !(ds.any fun e => match e with | some e => Nat.beq d e | none => false) && Nat.blt d N && zug N ds l
 | none :: ds, l => zug N ds l
section
variable {a : Act} {N : Nat} {l : List (Nat × Value)}
theorem zqw {d : Nat} {u : Value} : ∀ {l : List (Nat × Value)}, zfe l d = some u → zCK d l = true
 | p :: l, h => by
  obtain ⟨e, v⟩ := p
  unfold zfe at h
  unfold zCK
  cases hb : Nat.beq e d with
  | true => rfl
  | false =>
   rw [hb] at h
   simp only [cond_false] at h
   rw [zqw h, Bool.or_true]
theorem Env.putU (E : Env a N l) {d : Nat} (x : Value) (h : zCK d l = false) : Env (a.put (some d) x) N l := by
 refine ⟨E.defers, by simp [Act.put, E.size], fun i u hi => ?_⟩
 have hne : d ≠ i := fun e => by
  subst e
  rw [zqw hi] at h
  cases h
 have h1 := E.val i u hi
 rw [← h1]
 show (a.tmps.setIfInBounds d x).getD i undef = _
 simp only [jN]
 rw [Array.getElem?_setIfInBounds_ne hne]
theorem ziD {N d : Nat} {x : Value} : ∀ {ds : List (Option Nat)} {l : List (Nat × Value)}, zug N ds l = true → (ds.any fun e => match e with | some e => Nat.beq d e | none => false) = false → zug N ds ((d, x) :: l) = true
 | [], _, _, _ => rfl
 | none :: ds, l, h, hd => by
  unfold zug at h ⊢
  simp only [List.any_cons, Bool.false_or] at hd
  exact ziD h hd
 | some e :: ds, l, h, hd => by
  unfold zug at h ⊢
  simp only [List.any_cons, Bool.or_eq_false_iff] at hd
  simp only [Bool.and_eq_true, Bool.not_eq_true'] at h ⊢
  obtain ⟨⟨⟨h1, h2⟩, h3⟩, h4⟩ := h
  refine ⟨⟨⟨?_, h2⟩, h3⟩, ziD h4 hd.2⟩
  unfold zCK
  rw [hd.1, h1]
  rfl
theorem Env.fill : ∀ (hd : List Oper) (ds : List (Option Nat)) (xs : List Value) (ks : List (Option Value)) {a : Act} {l : List (Nat × Value)}, hd.map (·.dst) = ds → xs.length = hd.length → ks.length = hd.length → zug N ds l = true →
  (∀ (i : Nat) (v : Value), ks[i]? = some (some v) → xs[i]? = some v) → Env a N l → Env (zcv hd a xs) N (zfw ds ks l)
 | [], ds, xs, ks, a, l, hds, hx, hk, hB, hv, E => by
  subst hds
  cases ks with
  | nil => exact E
  | cons k ks => simp at hk
 | o :: hd, ds, xs, ks, a, l, hds, hx, hk, hB, hv, E => by
  subst hds
  cases xs with
  | nil => simp at hx
  | cons x xs =>
   cases ks with
   | nil => simp at hk
   | cons k ks =>
    have hx' : xs.length = hd.length := by simpa using hx
    have hk' : ks.length = hd.length := by simpa using hk
    have hv' : ∀ (i : Nat) (v : Value), ks[i]? = some (some v) → xs[i]? = some v := fun i v h => by simpa using hv (i + 1) v (by simpa using h)
    have h0 := hv 0
    rw [List.map_cons] at hB ⊢
    show Env (zcv hd (a.put o.dst x) xs) N _
    cases hd0 : o.dst with
    | none =>
     rw [hd0] at hB
     have hB' : zug N (hd.map (·.dst)) l = true := by unfold zug at hB; exact hB
     have := Env.fill hd _ xs ks (a := a.put none x) (l := l) rfl hx' hk' hB' hv' E.none_
     cases k <;> exact this
    | some d =>
     rw [hd0] at hB
     unfold zug at hB
     simp only [Bool.and_eq_true, Bool.not_eq_true'] at hB
     obtain ⟨⟨⟨h1, h2⟩, h3⟩, h4⟩ := hB
     cases k with
     | none => exact Env.fill hd _ xs ks rfl hx' hk' h4 hv' (E.putU x h1)
     | some v =>
      have hxv : x = v := by simpa using h0 v rfl
      subst hxv
      exact Env.fill hd _ xs ks rfl hx' hk' (ziD h4 h2) hv' (E.put h3)
end
theorem zoF : ∀ (n : Nat) (p : List Value → Prop), (∀ xs, xs.length = n → p xs) → zse n p
 | 0, p, h => h [] rfl
 | n + 1, p, h => fun x => zoF n _ fun xs hx => h (x :: xs) (by simp [hx])
theorem zkG {R : List zfD} {xs : List Value} {w : World} {p : Prop} : ∀ (js : List Nat), ((∀ j ∈ js, zcQ R xs w j) → p) → under R xs w js p
 | [], h => h fun j hj => by cases hj
 | j :: js, h => fun hj => zkG js fun hjs => h fun k hk => by
   rcases List.mem_cons.1 hk with rfl | hk
   ·exact hj
   ·exact hjs k hk
theorem zm8 {xs : List Value} {p : Prop} : ∀ (ds : List (Nat × Nat)), ((∀ d ∈ ds, zcO xs d.1 d.2) → p) → zqu xs ds p
 | [], h => h fun d hd => by cases hd
 | d :: ds, h => fun hd => zm8 ds fun hds => h fun k hk => by
   rcases List.mem_cons.1 hk with rfl | hk
   ·exact hd
   ·exact hds k hk
section
variable {P : Program} {ops : Array Oper} {Q : Exit → Act → World → Prop} {o : Oper} {a : Act} {w w' w0 : World} {N : Nat} {l : List (Nat × Value)} {X G : List Nat} {L : List Res} {R : List (World → Prop)} {ds : List (Option Nat)} {Fs : List Fk}
theorem Sep.ownL (h : Sep X G w0 w L R) (hb : Frm [] w w') (qs : List Res) (hq : ∀ q ∈ qs, q.holds w') (hk : ∀ k ∈ zab qs, w.heap.size ≤ k) (hnd : (zab qs).Nodup) : Sep X G w0 w' (qs ++ L) R := by
 have h' := h.grow hb
 have hs := h.frm.size
 refine ⟨h'.frm, h.xlt, fun r hr => ?_, ?_, fun k hk' => ?_, fun r hr => (h.facts r hr).step hb.size (fun k hk _ => hb.block k hk (by simp)) fun k hk' => ?_⟩
 ·rcases List.mem_append.1 hr with hr | hr
  ·exact hq r hr
  ·exact h'.holds r hr
 ·rw [zai]
  exact List.nodup_append.2 ⟨hnd, h.apart, fun a ha b hb' e => by
   subst e
   have := h.lt a hb'
   have := hk a ha
   omega⟩
 ·rw [zai] at hk'
  rcases List.mem_append.1 hk' with h1 | h1
  ·exact .inr (jU hs (hk k h1))
  ·exact h.mine k h1
 ·rcases List.mem_append.1 hk' with h1 | h1
  ·exact .inl (List.mem_append_left _ h1)
  ·rw [zai] at h1
   rcases List.mem_append.1 h1 with h2 | h2
   ·exact .inr (hk k h2)
   ·exact .inl (List.mem_append_right _ h2)
def fop (P : Program) (ops : Array Oper) (Q : Exit → Act → World → Prop) (N : Nat) (X G : List Nat) (w0 : World) (L : List Res) (R : List (World → Prop)) (env : List (Nat × Value)) (o : Oper) : Fk → Prop
 | .v x => o.guard = none ∧ zbq o = false ∧ ∀ a w, Env a N env → Sep X G w0 w L R → ∀ K : Act → World → Prop, (∀ w', Below w.heap.size w w' → K (a.put o.dst x) w') → o.wp P a w K Q
 | .n z ty => o.guard = none ∧ o.op = .alloc ty ∧ zdM P ty = some (ca z)
def zjH (P : Program) (ops : Array Oper) (Q : Exit → Act → World → Prop) (N : Nat) (X G : List Nat) (w0 : World) (L : List Res) (R : List (World → Prop)) (ds : List (Option Nat)) (Fs : List Fk) (l : List (Nat × Value)) : List Oper → List (List Nat) → List Fk → Prop
 | o :: os, js :: ps, f :: fs => fop P ops Q N X G w0 L R (zfw ds (zoE js 0 Fs) l) o f ∧ zjH P ops Q N X G w0 L R ds Fs l os ps fs
 | _, _, _ => True
theorem zqx {fs : List Fk} : zjH P ops Q N X G w0 L R ds Fs l [] [] fs := by unfold zjH; trivial
theorem zCL {v : Value} {js : List Nat} {os : List Oper} {ps : List (List Nat)} {fs : List Fk} (h : ∀ w, Sep X G w0 w L R → PK P zfp w (zfw ds (zoE js 0 Fs) l) o v) (hg : o.guard = none) (ha : zbq o = false) (h2 : zjH P ops Q N X G w0 L R ds Fs l os ps fs) :
  zjH P ops Q N X G w0 L R ds Fs l (o :: os) (js :: ps) (.v v :: fs) := by
 unfold zjH
 refine ⟨⟨hg, ha, fun a w E H K hK => ?_⟩, h2⟩
 unfold Oper.wp
 rw [h w H w (CanB.Keep.refl _ _) a N E]
 exact hK w (Below.refl _ _)
theorem zCM {v : Value} {js : List Nat} {os : List Oper} {ps : List (List Nat)} {fs : List Fk} (h : ∀ a w, Env a N (zfw ds (zoE js 0 Fs) l) → Sep X G w0 w L R → ∀ K : Act → World → Prop, (∀ w', Below w.heap.size w w' → K (a.put o.dst v) w') → o.wp P a w K Q) (hg : o.guard = none) (ha : zbq o = false) (h2 : zjH P ops Q N X G w0 L R ds Fs l os ps fs) :
  zjH P ops Q N X G w0 L R ds Fs l (o :: os) (js :: ps) (.v v :: fs) := by
 unfold zjH
 exact ⟨⟨hg, ha, h⟩, h2⟩
theorem zyE {z : List Chunk} {ty : TypeId} {js : List Nat} {os : List Oper} {ps : List (List Nat)} {fs : List Fk} (ho : o.op = .alloc ty) (hz : zdM P ty = some (ca z)) (hg : o.guard = none) (h2 : zjH P ops Q N X G w0 L R ds Fs l os ps fs) :
  zjH P ops Q N X G w0 L R ds Fs l (o :: os) (js :: ps) (.n z ty :: fs) := by
 unfold zjH
 exact ⟨⟨hg, ho, hz⟩, h2⟩
theorem zqy : ∀ (os : List Oper) (ps : List (List Nat)) (fs : List Fk), zjH P ops Q N X G w0 L R ds Fs l os ps fs → ∀ (i : Nat) (o : Oper) (js : List Nat) (f : Fk), os[i]? = some o → ps[i]? = some js → fs[i]? = some f → fop P ops Q N X G w0 L R (zfw ds (zoE js 0 Fs) l) o f
 | o :: os, js :: ps, f :: fs, h, 0, o', js', f', h1, h2, h3 => by
  unfold zjH at h
  simp only [jD, Option.some.injEq] at h1 h2 h3
  subst h1 h2 h3
  exact h.1
 | o :: os, js :: ps, f :: fs, h, i + 1, o', js', f', h1, h2, h3 => by
  unfold zjH at h
  simp only [jE] at h1 h2 h3
  exact zqy os ps fs h.2 i o' js' f' h1 h2 h3
 | [], _, _, _, i, _, _, _, h1, _, _ => by simp at h1
 | _ :: _, [], _, _, i, _, _, _, _, h2, _ => by simp at h2
 | _ :: _, _ :: _, [], _, i, _, _, _, _, _, h3 => by simp at h3
theorem zqz (js : List Nat) : ∀ (i : Nat) (fs : List Fk), (zoE js i fs).length = fs.length
 | _, [] => rfl
 | i, f :: fs => by rw [zoE, List.length_cons, List.length_cons, zqz js (i + 1) fs]
theorem zqA (js : List Nat) : ∀ (k : Nat) (fs : List Fk) (i : Nat) (v : Value), (zoE js k fs)[i]? = some (some v) → k + i ∈ js ∧ fs[i]? = some (.v v)
 | k, [], i, v, h => by simp [zoE] at h
 | k, f :: fs, 0, v, h => by
  rw [zoE, jD, Option.some.injEq] at h
  cases hb : js.any (Nat.beq k) with
  | false => rw [hb] at h; cases h
  | true =>
   rw [hb, cond_true] at h
   obtain ⟨j, hj, he⟩ := List.any_eq_true.1 hb
   have := Nat.eq_of_beq_eq_true he
   subst this
   cases f with
   | v x =>
    have hx : x = v := Option.some.inj h
    subst hx
    exact ⟨hj, rfl⟩
   | n z ty => cases h
 | k, f :: fs, i + 1, v, h => by
  rw [zoE, jE] at h
  have := zqA js (k + 1) fs i v h
  rw [jE]
  exact ⟨by rw [show k + (i + 1) = k + 1 + i by omega]; exact this.1, this.2⟩
def zyF (B : Nat → Nat) : Nat → List Fk → List Res
 | _, [] => []
 | i, .v _ :: fs => zyF B (i + 1) fs
 | i, .n z ty :: fs => .blk (B i) (ca z) ty :: zyF B (i + 1) fs
def zqB (B : Nat → Nat) : Nat → List Fk → List (Option Value)
 | _, [] => []
 | i, .v x :: fs => some x :: zqB B (i + 1) fs
 | i, .n _ _ :: fs => some (.pointer (some ⟨B i, 0, none⟩)) :: zqB B (i + 1) fs
def zEd : Fk → Bool
 | .n _ _ => true
 | .v _ => false
def zxh : Nat → List Fk → List Nat
 | _, [] => []
 | i, f :: fs => bif zEd f then i :: zxh (i + 1) fs else zxh (i + 1) fs
def zuh : List Nat → List (Nat × Nat)
 | [] => []
 | i :: is => is.map (fun j => (i, j)) ++ zuh is
theorem zf4 : ∀ (k : Nat) (fs : List Fk) (i : Nat), i ∈ zxh k fs → k ≤ i ∧ ∃ z ty, fs[i - k]? = some (.n z ty)
 | k, [], i, h => by cases h
 | k, .v x :: fs, i, h => by
  have := zf4 (k + 1) fs i h
  refine ⟨by omega, ?_⟩
  obtain ⟨z, ty, hz⟩ := this.2
  exact ⟨z, ty, by rw [show i - k = (i - (k + 1)) + 1 by omega, jE]; exact hz⟩
 | k, .n z ty :: fs, i, h => by
  rcases List.mem_cons.1 h with rfl | h
  ·exact ⟨jV _, z, ty, by rw [Nat.sub_self]; rfl⟩
  ·have := zf4 (k + 1) fs i h
   refine ⟨by omega, ?_⟩
   obtain ⟨z', ty', hz⟩ := this.2
   exact ⟨z', ty', by rw [show i - k = (i - (k + 1)) + 1 by omega, jE]; exact hz⟩
theorem zf5 (B : Nat → Nat) : ∀ (k : Nat) (fs : List Fk), zab (zyF B k fs) = (zxh k fs).map B
 | _, [] => rfl
 | k, .v _ :: fs => zf5 B (k + 1) fs
 | k, .n z ty :: fs => by
  show [B k] ++ zab (zyF B (k + 1) fs) = (k :: zxh (k + 1) fs).map B
  rw [zf5 B (k + 1) fs]
  rfl
theorem zkH (B : Nat → Nat) : ∀ (k : Nat) (fs : List Fk) (q : Res), q ∈ zyF B k fs → ∃ i z ty, fs[i]? = some (.n z ty) ∧ q = .blk (B (k + i)) (ca z) ty
 | k, [], q, h => by cases h
 | k, .v x :: fs, q, h => by
  obtain ⟨i, z, ty, h1, h2⟩ := zkH B (k + 1) fs q h
  exact ⟨i + 1, z, ty, by rw [jE]; exact h1, by rw [show k + (i + 1) = k + 1 + i by omega]; exact h2⟩
 | k, .n z ty :: fs, q, h => by
  rcases List.mem_cons.1 h with rfl | h
  ·exact ⟨0, z, ty, rfl, rfl⟩
  ·obtain ⟨i, z, ty, h1, h2⟩ := zkH B (k + 1) fs q h
   exact ⟨i + 1, z, ty, by rw [jE]; exact h1, by rw [show k + (i + 1) = k + 1 + i by omega]; exact h2⟩
theorem ziE (B : Nat → Nat) : ∀ (is : List Nat), (∀ d ∈ zuh is, B d.1 ≠ B d.2) → (is.map B).Nodup
 | [], _ => List.nodup_nil
 | i :: is, h => by
  rw [List.map_cons, List.nodup_cons]
  refine ⟨fun hm => ?_, ziE B is fun d hd => h d (List.mem_append_right _ hd)⟩
  obtain ⟨j, hj, he⟩ := List.mem_map.1 hm
  exact h (i, j) (List.mem_append_left _ (List.mem_map.2 ⟨j, hj, rfl⟩)) he.symm
theorem zkI (B : Nat → Nat) : ∀ (k : Nat) (fs : List Fk), (zqB B k fs).length = fs.length
 | _, [] => rfl
 | k, .v _ :: fs => by rw [zqB, List.length_cons, List.length_cons, zkI B (k + 1) fs]
 | k, .n _ _ :: fs => by rw [zqB, List.length_cons, List.length_cons, zkI B (k + 1) fs]
theorem zkJ (B : Nat → Nat) : ∀ (k : Nat) (fs : List Fk) (i : Nat) (v : Value), (zqB B k fs)[i]? = some (some v) → fs[i]? = some (.v v) ∨ ∃ z ty, fs[i]? = some (.n z ty) ∧ v = .pointer (some ⟨B (k + i), 0, none⟩)
 | k, [], i, v, h => by simp [zqB] at h
 | k, .v x :: fs, 0, v, h => .inl (by rw [zqB, jD, Option.some.injEq, Option.some.injEq] at h; rw [h]; rfl)
 | k, .n z ty :: fs, 0, v, h => .inr ⟨z, ty, rfl, by rw [zqB, jD, Option.some.injEq, Option.some.injEq] at h; exact h.symm⟩
 | k, .v x :: fs, i + 1, v, h => by
  rw [zqB, jE] at h
  have := zkJ B (k + 1) fs i v h
  rw [jE, show k + (i + 1) = k + 1 + i by omega]
  exact this
 | k, .n z ty :: fs, i + 1, v, h => by
  rw [zqB, jE] at h
  have := zkJ B (k + 1) fs i v h
  rw [jE, show k + (i + 1) = k + 1 + i by omega]
  exact this
theorem zui {n : Nat} {hd : List Oper} {Rs : List zfD} : ∀ (items : List (Oper × zfD × List Nat)), (∀ (i : Nat) (o : Oper) (r : zfD) (js : List Nat), items[i]? = some (o, r, js) → zse n fun xs => ∀ w', Below w0.heap.size w0 w' → under Rs xs w' js (zeB P ops Q o r (zcv hd a xs) w')) → zhC P ops Q n hd a w0 Rs items
 | [], _ => trivial
 | (o, r, js) :: l, h => ⟨h 0 o r js rfl, zui l fun i o r js hi => h (i + 1) o r js (by rw [jE]; exact hi)⟩
theorem Fk.stays (m : Nat) (f : Fk) : zjZ (f.fact m) := by
 cases f
 ·exact zeL _
 ·exact zst _ _
theorem zm9 {id : Nat} {lo : List Oper} (E : Env a N l) (H : Sep X G w0 w L R) (n : Nat) (Fs : List Fk) (ps : List (List Nat)) (D : List (Nat × Nat)) (ds : List (Option Nat)) (hm : P.follows .mixedOrders = true) (hB : zhU lo n ps = true) (hD : zqv lo n D = true) (hds : (lo.take n).map (·.dst) = ds)
  (hlen : Fs.length = n) (hN : zuh (zxh 0 Fs) = D) (hdis : zug N ds l = true)
  (hops : zjH P lo.toArray Q N X G w0 L R ds Fs l (lo.take n) ps Fs)
  (hend : ∀ (B : Nat → Nat) a' w', Env a' N (zfw ds (zqB B 0 Fs) l) → Sep X G w0 w' (zyF B 0 Fs ++ L) R → wpList P lo.toArray Q (lo.drop n) a' w') : (Code.region id lo.toArray true).wp P Q a w := by
 have hB2 := hB
 simp only [zhU, Bool.and_eq_true, jS] at hB2
 obtain ⟨⟨⟨⟨⟨⟨⟨_, hn⟩, hp⟩, _⟩, _⟩, _⟩, _⟩, _⟩ := hB2
 have htl : (lo.take n).length = n := by rw [List.length_take]; omega
 have Hd : Sep X G w0 w.drew L R := H.drew
 refine ziC n (Fs.map (Fk.fact w.drew.heap.size)) ps D hm hB hD (by rw [List.length_map, hlen]) (fun r hr => by
  obtain ⟨f, _, rfl⟩ := List.mem_map.1 hr
  exact f.stays _) (zui _ fun i o r js hi => zoF _ _ fun xs hx w' hb => zkG js fun hjs => ?_) (zoF _ _ fun xs hx w' hb => zkG _ fun hall => zm8 D fun hap => ?_)
 ·rw [List.getElem?_zip_eq_some] at hi
  obtain ⟨h1, h2⟩ := hi
  rw [List.getElem?_zip_eq_some] at h2
  obtain ⟨h2, h3⟩ := h2
  simp only at h1 h2 h3
  rw [List.getElem?_map, Option.map_eq_some_iff] at h2
  obtain ⟨f, hf, rfl⟩ := h2
  have hF := zqy _ _ _ hops i o js f h1 h3 hf
  have hE : Env (zcv (lo.take n) a xs) N (zfw ds (zoE js 0 Fs) l) := Env.fill _ _ _ _ hds (by rw [hx, htl]) (by rw [zqz, hlen, htl]) hdis (fun k v hk => by
   obtain ⟨h4, h5⟩ := zqA js 0 Fs k v hk
   rw [Nat.zero_add] at h4
   have h6 := hjs k h4
   unfold zcQ at h6
   rw [List.getElem?_map, h5] at h6
   have hkx : k < xs.length := by
    have := (List.getElem?_eq_some_iff.1 h5).1
    omega
   rw [jP hkx] at h6 ⊢
   have h7 : xs[k] = v := h6
   rw [h7]) E
  have hS : Sep X G w0 w' L R := Hd.grow (Frm.of_below hb)
  cases f with
  | v x =>
   obtain ⟨hg, ha, hK⟩ := hF
   refine zxg (zsr (by unfold Region.wanted; rw [hg]) fun K hK' => ?_) ha
   exact hK _ w' hE hS K fun w2 hb2 => hK' x w2 hb2 rfl
  | n z ty =>
   obtain ⟨hg, ho, hz⟩ := hF
   obtain ⟨i', zv, h4, h5, h6⟩ := zds hz
   unfold zeB
   rw [ho]
   refine ⟨by unfold Region.wanted; rw [hg], .cells (ca z) ty (0, 0), ?_, w'.heap.size, rfl, hb.size, heap_alloc_new _ _⟩
   unfold execOp
   simp [ho, Instr.alloc, zeroValue, typeInfo, h4, h5, newVar, newRow, newObj, h6, Sem.run_bind, zgH]
   rfl
 ·let B : Nat → Nat := fun i => match xs[i]? with | some (.pointer (some ad)) => ad.block | _ => 0
  have hfv : ∀ (i : Nat) (v : Value), Fs[i]? = some (Fk.v v) → xs[i]? = some v := fun i v h => by
   have hi : i < n := by have := (List.getElem?_eq_some_iff.1 h).1; omega
   have h1 := hall i (List.mem_range.2 hi)
   unfold zcQ at h1
   rw [List.getElem?_map, h, jP (show i < xs.length by omega)] at h1
   rw [jP (show i < xs.length by omega)]
   have h2 : xs[i] = v := h1
   rw [h2]
  have hfn : ∀ (i : Nat) (z : List Chunk) (ty : TypeId), Fs[i]? = some (Fk.n z ty) → xs[i]? = some (.pointer (some ⟨B i, 0, none⟩)) ∧ w.drew.heap.size ≤ B i ∧ w'.heap[B i]? = some (.cells (ca z) ty (0, 0)) := fun i z ty h => by
   have hi : i < n := by have := (List.getElem?_eq_some_iff.1 h).1; omega
   have h1 := hall i (List.mem_range.2 hi)
   unfold zcQ at h1
   rw [List.getElem?_map, h, jP (show i < xs.length by omega)] at h1
   obtain ⟨b, hb1, hb2, hb3⟩ := h1
   have hxi : xs[i]? = some (.pointer (some ⟨b, 0, none⟩)) := by rw [jP (show i < xs.length by omega), hb1]
   have hBi : B i = b := by show (match xs[i]? with | some (.pointer (some ad)) => ad.block | _ => 0) = b; rw [hxi]
   rw [hBi]
   exact ⟨hxi, hb2, hb3⟩
  refine hend B _ w' (Env.fill _ _ _ _ hds (by rw [hx, htl]) (by rw [zkI, hlen, htl]) hdis (fun i v hi => ?_) E) (Hd.ownL (Frm.of_below hb) _ (fun q hq => ?_) (fun k hk => ?_) ?_)
  ·rcases zkJ B 0 Fs i v hi with h1 | ⟨z, ty, h1, rfl⟩
   ·exact hfv i v h1
   ·rw [Nat.zero_add]
    exact (hfn i z ty h1).1
  ·obtain ⟨i, z, ty, h1, rfl⟩ := zkH B 0 Fs q hq
   rw [Nat.zero_add]
   exact (hfn i z ty h1).2.2
  ·rw [zf5] at hk
   obtain ⟨i, hi, rfl⟩ := List.mem_map.1 hk
   obtain ⟨_, z, ty, h1⟩ := zf4 0 Fs i hi
   exact (hfn i z ty (by simpa using h1)).2.1
  ·rw [zf5]
   refine ziE B _ fun d hd he => ?_
   have h1 := hap d (by rw [← hN]; exact hd)
   have hmem : d.1 ∈ zxh 0 Fs ∧ d.2 ∈ zxh 0 Fs := by
    clear h1 he
    generalize zxh 0 Fs = is at hd
    induction is with
    | nil => cases hd
    | cons i is ih =>
     rcases List.mem_append.1 hd with h | h
     ·obtain ⟨j, hj, rfl⟩ := List.mem_map.1 h
      exact ⟨List.mem_cons_self .., List.mem_cons_of_mem _ hj⟩
     ·exact ⟨List.mem_cons_of_mem _ (ih h).1, List.mem_cons_of_mem _ (ih h).2⟩
   obtain ⟨_, z1, t1, g1⟩ := zf4 0 Fs d.1 hmem.1
   obtain ⟨_, z2, t2, g2⟩ := zf4 0 Fs d.2 hmem.2
   have e1 := (hfn d.1 z1 t1 (by simpa using g1)).1
   have e2 := (hfn d.2 z2 t2 (by simpa using g2)).1
   unfold zcO at h1
   rw [e1, e2, he] at h1
   exact h1 rfl
end
section
variable {P : Program} {Q : Exit → Act → World → Prop} {ops : Array Oper} {l : List (Nat × Value)} {o : Oper} {N : Nat} {X G : List Nat} {w0 : World} {L : List Res} {R : List (World → Prop)} {ds : List (Option Nat)} {Fs : List Fk} {v : Value} {js : List Nat} {os : List Oper} {ps : List (List Nat)} {fs : List Fk}
theorem Fv (h : ∀ w, Sep X G w0 w L R → PK P zfp w (zfw ds (zoE js 0 Fs) l) o v) (h2 : zjH P ops Q N X G w0 L R ds Fs l os ps fs) (hg : o.guard = none := by rfl) (ha : zbq o = false := by rfl) : zjH P ops Q N X G w0 L R ds Fs l (o :: os) (js :: ps) (.v v :: fs) := zCL h hg ha h2
theorem Fw {f : FuncId} {x : Operand} {xs : Array Operand} {ts : Array TypeId} {fs' cs : Array Value} {vs : List Value} (ho : o.op = .call { callee := .value x, args := xs, argTypes := ts }) (hx : ev (zfw ds (zoE js 0 Fs) l) x = some (.func (.func f) fs' cs)) (hargs : evs (zfw ds (zoE js 0 Fs) l) xs.toList = some vs)
 (h : ∀ w, Sep X G w0 w L R → Calls P f (fs' ++ vs.toArray ++ cs) w fun e w' => e = .returned v ∧ Sep (X ++ zab L) [] w w' [] []) (h2 : zjH P ops Q N X G w0 L R ds Fs l os ps fs) (hf : fnB P f = true := by kernel_rfl) (hg : o.guard = none := by rfl) (ha : zbq o = false := by rfl) : zjH P ops Q N X G w0 L R ds Fs l (o :: os) (js :: ps) (.v v :: fs) :=
 zCM (fun a w E H K hK => by
 refine zhr E ho hx hargs hf ?_
 refine (h w H).mono ?_
 rintro e w2 ⟨rfl, H1⟩
 exact hK _ H1.frm.below) hg ha h2
end
end
section
open Go.RowKit
def uw (F : Nat → Nat) (i : Nat) : Value := .int .u64 ((F i : Nat) : Int)
theorem zbR (n : Nat) (F : Nat → Nat) : arr .u64 n (fun i => ((F i : Nat) : Int)) = ca [.row n (uw F)] := by simp [arr, zhb, ca, cl, Chunk.cells, uw]
theorem zfk {X : List Nat} {w0 w' : World} (hX : ∀ k ∈ X, k < w0.heap.size) (hb : Below w0.heap.size w0 w') : Sep X [] w0 w' [] [] :=
 ⟨Frm.of_below hb, hX, fun _ h => (by cases h), List.nodup_nil, fun _ h => (by cases h), fun _ h => by cases h⟩
end
namespace CanB
open Go.RowKit
inductive Tr where
 | nil
 | pure (i : Nat) (t : Tr)
 | eff (i : Nat) (t more : Tr)
inductive Tro where
 | nil
 | pure (o : Oper) (t : Tro)
 | eff (o : Oper) (t more : Tro)
section
variable {P : Program} {Q : Exit → Act → World → Prop} {md : Region.Mode} {N : Nat → Prop} {n : Nat} {w0 : World} {T : Act → World → Prop} {l : List Oper}
end
end CanB
section
open Go.RowKit
section
variable {P : Program} {ops : Array Oper} {Q : Exit → Act → World → Prop} {o : Oper} {a : Act} {w ws : World} {N d : Nat} {l : List (Nat × Value)} {v : Value} {S : Nat → Prop} {T : Act → World → Prop} {p m : CanB.Tro}
end
section
variable {P : Program} {o : Oper} {a : Act} {w : World} {Q : Exit → Act → World → Prop} {N : Nat} {l : List (Nat × Value)} {v : Value} {K : Act → World → Prop} {X G : List Nat} {w0 : World} {L : List Res} {R : List (World → Prop)}
end
section
variable {P : Program} {ops : Array Oper} {Q : Exit → Act → World → Prop} {S : Nat → Prop} {T : Act → World → Prop} {p : CanB.Tro} {a : Act} {o : Oper} {w ws w1 : World} {N d : Nat} {l : List (Nat × Value)} {v : Value}
end
end
end Go.Proofs.YtcmmpiaogfnmoaaGreatDoor
