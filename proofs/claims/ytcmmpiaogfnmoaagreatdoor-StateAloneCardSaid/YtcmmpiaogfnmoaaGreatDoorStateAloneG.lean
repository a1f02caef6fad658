/- wire.Num at one number, behind a text. Walks by computing: a key of a list, as a text. No program is in sight. Walks by computing: slices with new numbers, at a function's end. No program is in sight. Walks by computing: in the rounds of a range over a function, and behind it. No program is in sight. A range over a function. No program is in sight. Structs held against each other. No program is in sight. Plain: the numbers modulo the prime of layer 5; the curve x² + y² = 1 + d x² y², where d is no square: its law is whole, and hangs on no order. Plain: the ladder of layer 6 is a multiple of a  -/
import Derived.Test.YtcmmpiaogfnmoaaGreatDoorStateAloneF
import Derived.RangeFuncKeeps
import Derived.RangeFuncLeaves
import Derived.ProofKit
import Derived.OpenShut
import Derived.ShutString
import Derived.ChangeOld
import Derived.Lib.LaidU8
import Derived.LaidHandle
import Derived.LaidLaws
import Derived.Handed
import Derived.Deep.DeepLaidRun
set_option linter.unusedSimpArgs false
set_option linter.unusedVariables false
set_option maxRecDepth 200000
set_option maxHeartbeats 6000000
namespace Go.Proofs.YtcmmpiaogfnmoaaGreatDoor
section
open Go.RowKit
attribute [local irreducible] beL beK
theorem zA2 (A : Option Addr) (n0 c : Nat) (l0 : List Nat) (hl0 : n0 ≤ 100000000000) (W n : Nat) (h1 : 1 ≤ W) (h8 : W ≤ 8) (hn : n < 18446744073709551616) (hf : n < 256 ^ W) (h : Nat) (w : World) (hh : h < w.heap.size) (hx : w.cell? ⟨h, 0, none⟩ = some (.int .u64 n)) (ht : Txt w w.heap.size A n0 c l0) :
  Calls Tryz.prog 40 #[.slice A n0 c, .int .i64 W, .slice (some ⟨h, 0, none⟩) 1 1] w (fun e w' => ∃ v, e = .returned (.tuple #[v, .int .i64 0]) ∧ Own w' w.heap.size 5 v (l0 ++ beL W n) ∧ Below w.heap.size w w') := by
 have HN := Lib.hid hn
 have HF := Lib.hid hf
 clear hn hf
 go_enter Tryz.func40, Tryz.ntmps40
 have hb : Below w.heap.size w (w.alloc (.cells #[.int .i64 W] 3)) := (Below.refl _ _).alloc (jV _) _
 have c0 := zu0 w (.int .i64 (W : Int)) 3
 have cx := zdV hb hh hx
 have ht2 := ((ht.below hb).more (B' := (w.alloc (.cells #[.int .i64 W] 3)).heap.size) hb.size)
 have hln := ht.len
 go_wp2_with (go_at_call 64; fail)
 refine (zoY W n h8 HN.out w.heap.size h _ c0 cx).mono ?_
 rintro e w1 ⟨rfl, hw1⟩
 subst hw1
 rw [decide_eq_true HF.out]
 go_wp2_with (go_at_call 67; fail)
 refine (zuX A n0 c l0 _ ht2 (by omega)).mono ?_
 rintro e w2 ⟨v2, rfl, hown, b2⟩
 rw [World.size_alloc] at hown
 have hs := b2.size
 rw [World.size_alloc] at hs b2
 have hB := hb.trans (b2.mono (by omega))
 replace c0 := zdV b2 (by omega) c0
 replace cx := zdV b2 (by omega) cx
 clear b2 hb
 go_wp2
 go_loopg [8, 26] 1 (fun k v i wr => (k = 1 ∧ i = .int .i64 0 ∧ Own wr (w.heap.size + 1) 5 v l0 ∨ k = 0 ∧ i = .int .i64 1 ∧ Own wr (w.heap.size + 1) 5 v (l0 ++ beL W n)) ∧ wr.cell? ⟨w.heap.size, 0, none⟩ = some (.int .i64 W) ∧ wr.cell? ⟨h, 0, none⟩ = some (.int .u64 n) ∧ w.heap.size + 1 ≤ wr.heap.size ∧ Below w.heap.size w wr)
 case atStart => exact ⟨.inl ⟨rfl, rfl, hown⟩, c0, cx, hs, hB⟩
 case round =>
  clear c0 cx hs hB hown
  obtain ⟨hr, c0, cx, hs, hB⟩ := hrel
  rcases hr with ⟨rfl, rfl, ho⟩ | ⟨rfl, rfl, ho⟩
  ·have HO := Lib.hid ho
   clear ho
   go_wp2_with (go_at_call 68; fail)
   refine (zuY _ l0 (w.heap.size + 1) W n h8 HN.out (by omega) _ HO.out hs).mono ?_
   rintro e w3 ⟨⟨v3, rfl, ho3⟩, b3⟩
   have HO3 := Lib.hid ho3
   replace c0 := zdV b3 (by omega) c0
   replace cx := zdV b3 (by omega) cx
   have hs3 := jU hs b3.size
   have hB3 := hB.trans (b3.mono (by omega))
   clear b3 hB hs HO ho3
   go_wp2
   go_roundg 0
   case measure => omega
   case rel => exact ⟨.inr ⟨rfl, rfl, HO3.out⟩, c0, cx, hs3, hB3⟩
  ·have HO := Lib.hid ho
   clear ho
   go_wp2
   go_ret2
   exact ⟨_, rfl, HO.out.mono (by omega), hB⟩
end
section
open Go.RowKit
section
variable {P : Program} {Tb : Tab} {N k k0 ix : Nat} {l : LE} {m : MB} {R : List SF} {o : Oper} {sv : SV} {K : KS} {rs : List RB}
variable {i j n0 n e : Nat}
theorem znu {xs : List (List Nat)} {x : List Nat} {ty : Nat} {xop : Operand} (r : Nat) (hj : xs[j]? = some x) (hr : R[r]? = some (.sl i n0 (SlF zbU xs))) (h32 : x.length = 32) (hb : ∀ y ∈ x, y < 256) (ho : o.op = .slice ty xop none none none) (ht : arK P ty = some (32, 1)) (hx : evS l xop = some (hpS i j 32 0)) : zfg P N k l m R o (.a (.s (.p (.hd k 32)))) [.gone] [.sl k 32 (TxG x)] := fun Q h X a w E H Kk hK => by
 have hfact : St (SlQ zbU xs (h.r i)) w (X ++ zab (zad h [] m)) := fun w' hk => by
  have h1 : ((h.r i).1 = none → n0 = 0) ∧ SlF zbU xs (h.r i) w' := H.facts _ (zaS.2 ⟨_, List.mem_of_getElem? hr, rfl⟩) w' hk
  obtain ⟨mm, hm⟩ := h1.2
  exact ⟨fun e => (hm.nil e).1, h1.2⟩
 obtain ⟨mm, hm⟩ := zry ztu hfact
 obtain ⟨ad, hA, h1, -⟩ := LiF.get hm hj
 let q : Qd := (some (ad.add (j * 32)), 32)
 let h1' : Hn := ⟨h.b, fun t => if t = k then q else h.r t, h.q⟩
 have er : h1'.r k = q := if_pos rfl
 have hx' : ev (zct h l) xop = some (.pointer (some (ad.add (j * 32)))) := by
  rw [zag (h := h) hx]
  show some (Value.pointer (some ((((h.r i).1.getD ⟨0, 0, none⟩).add (j * 32)).add 0))) = _
  rw [hA, zax]
  rfl
 have hrun := zoh (P := P) (S := zfp) (ws := w) ho ht hx' w (CanB.Keep.refl _ _) a N E
 unfold Oper.wp
 rw [hrun]
 have := hK h1' w (fun t ht => ⟨rfl, if_neg (by simp at ht; omega), rfl⟩) (Frm.refl _ _) (by
  show Sep (X ++ zab (zad h [] m)) [] w w [] (zaO h1' [_])
  refine (Sep.none_ H.xk).refacts fun r hr => ?_
  rcases List.mem_singleton.1 hr with rfl
  rw [show (X ++ zab (zad h [] m)) ++ zab ([] : List Res) = X ++ zab (zad h [] m) by simp [zab]]
  have h2 : St (TxF (some (ad.add (j * 32))) 32 x) w (X ++ zab (zad h [] m)) := zh5 h1 (by show cl [.key x] = _; rw [zjx, zh6 h32]) (by omega) (by omega) hb
  refine h2.imp fun w' hw => ?_
  show ((h1'.r k).1 = none → 32 = 0) ∧ TxF (h1'.r k).1 (h1'.r k).2 x w'
  rw [er]
  exact ⟨fun e => (by cases e), hw⟩)
 rw [show SV.den h1' (.a (.s (.p (.hd k 32)))) = .slice (some (ad.add (j * 32))) 32 32 by show Value.slice (h1'.r k).1 32 (h1'.r k).2 = _; rw [er]] at this
 exact this
end
end
section
open Go.RowKit
section
variable {X G : List Nat} {w0 : World} {Rr : Ending → World → Prop} {k : Nat} {sv : SV} {m : MB} {R : List SF}
theorem zkW {sv' : SV} (n : Nat) (F : Qd → World → Prop) (q : Hn → Qd) (hq : ∀ h h' : Hn, AgS (lt_ k) h h' → q h' = q h) (hF : ∀ (h : Hn) (X : List Nat) (w : World), Sp X w (zad h [] m) (zaO h R) → St (fun w => ((q h).1 = none → n = 0) ∧ F (q h) w) w (X ++ zab (zad h [] m))) (he : ∀ h : Hn, h.r k = q h → sv'.den h = sv.den h) (hw : sv'.wf (lt_ (k + 1)) = true) (hk : RetOk X G w0 Rr (k + 1) sv' m (.sl k n F :: R)) : RetOk X G w0 Rr k sv m R := ⟨fun h w ws wm wr H hX => by
 let h3 : Hn := ⟨h.b, fun t => if t = k then q h else h.r t, h.q⟩
 have er : h3.r k = q h := if_pos rfl
 have hag : AgS (lt_ k) h h3 := fun j hj => ⟨rfl, if_neg (by have := zci hj; omega), rfl⟩
 have eq3 : q h3 = q h := hq h h3 hag
 rw [← SV.same hag ws, ← he h3 (er.trans eq3.symm)]
 have e3 : zad h3 [] m = zad h [] m := zaP hag wm
 refine hk.ok h3 w hw (zd1 (zdc (Nat.le_succ k)) wm) (zau (Nat.ble_eq_true_of_le (jV _)) (zcE (zdc (Nat.le_succ k)) wr)) ?_ fun j hj => hX j (by rw [← e3]; exact hj)
 rw [e3]
 refine ⟨H.frm, H.xlt, H.holds, H.apart, H.mine, fun r hr => ?_⟩
 rcases List.mem_cons.1 hr with rfl | hr
 ·have := hF h X w (Sp.of_sep H hX)
  show St (fun w => ((h3.r k).1 = none → n = 0) ∧ F (h3.r k) w) w _
  rw [er]
  exact this
 ·rw [za5 hag wr] at hr
  exact H.facts r hr⟩
end
def zjn (i : Nat) : List SF → List SF
 | [] => []
 | .q j f :: R => bif Nat.beq j i then zjn i R else .q j f :: zjn i R
 | .nm j f :: R => bif Nat.beq j i then zjn i R else .nm j f :: zjn i R
 | r :: R => r :: zjn i R
def zyT (h : Hn) (i : Nat) (g : Nat → List Qd) : Hn := ⟨h.b, h.r, fun t => if t = i then g else h.q t⟩
section
variable {h : Hn} {i : Nat} {g : Nat → List Qd}
theorem zC3 : AgB (fun _ => true) h (zyT h i g) := fun _ _ => ⟨rfl, rfl⟩
theorem zoZ : ∀ (xs : List SP), wfP (fun _ => true) xs = true
 | [] => rfl
 | x :: xs => zau (by cases x <;> rfl) (zoZ xs)
theorem zxJ (x : SS) : x.wf (fun _ => true) = true := by
 cases x with
 | p x => cases x <;> rfl
 | fn f fs cs => exact zau (zoZ fs) (zoZ cs)
theorem zxK (x : SC) : x.wf (fun _ => true) = true := by
 cases x with
 | one x => exact zxJ x
 | key l => rfl
 | row n f => rfl
theorem zu1 : ∀ {cs : List SC}, wfC (fun _ => true) cs = true
 | [] => rfl
 | x :: cs => zau (zxK x) zu1
theorem znv {cs : List SC} : zay (zyT h i g) cs = zay h cs := zgu zC3 zu1
theorem ziQ : ∀ (m : MB) (s : List Nat), i ∈ s → zad (zyT h i g) s m = zad h s m
 | [], _, _ => rfl
 | (t, q) :: m, s, hs => by
  rw [zam, zam, ziQ m s hs, ziQ m (t :: s) (List.mem_cons_of_mem _ hs)]
  cases hm : zaR t s with
  | true => rfl
  | false =>
   have ht : t ≠ i := fun e => by
    rw [e, zas.2 hs] at hm
    cases hm
   have : RB.den (zyT h i g) t q = RB.den h t q := by
    cases q with
    | gone => rfl
    | blk cs ty => simp only [RB.den, znv]; rfl
    | row e sz n xs =>
     simp only [RB.den]
     show [Res.row (.slice (h.r t).1 n (h.r t).2) e sz n (xs (if t = i then g else h.q t))] = _
     rw [if_neg ht]
   rw [this]
theorem znw : ∀ {R : List SF} {r : World → Prop}, r ∈ zaO (zyT h i g) (zjn i R) → r ∈ zaO h R
 | [], r, hr => by cases hr
 | x :: R, r, hr => by
  have tl : r ∈ zaO (zyT h i g) (zjn i R) → r ∈ zaO h (x :: R) := fun h1 => List.mem_cons_of_mem _ (znw h1)
  cases x with
  | q j f =>
   unfold zjn at hr
   cases hb : Nat.beq j i with
   | true => rw [hb] at hr; exact tl hr
   | false =>
    rw [hb] at hr
    rcases List.mem_cons.1 hr with rfl | hr
    ·have hj : j ≠ i := fun e => by rw [e, Nat.beq_refl] at hb; cases hb
     refine List.mem_cons.2 (.inl ?_)
     show f (if j = i then g else h.q j) = f (h.q j)
     rw [if_neg hj]
    ·exact tl hr
  | nm j f =>
   unfold zjn at hr
   cases hb : Nat.beq j i with
   | true => rw [hb] at hr; exact tl hr
   | false =>
    rw [hb] at hr
    rcases List.mem_cons.1 hr with rfl | hr
    ·have hj : j ≠ i := fun e => by rw [e, Nat.beq_refl] at hb; cases hb
     refine List.mem_cons.2 (.inl ?_)
     show f (h.b j) (h.r j) (if j = i then g else h.q j) = f (h.b j) (h.r j) (h.q j)
     rw [if_neg hj]
    ·exact tl hr
  | c f => rcases List.mem_cons.1 hr with rfl | hr; exact List.mem_cons_self ..; exact tl hr
  | h j f => rcases List.mem_cons.1 hr with rfl | hr; exact List.mem_cons_self ..; exact tl hr
  | sl j n f => rcases List.mem_cons.1 hr with rfl | hr; exact List.mem_cons_self ..; exact tl hr
  | b j f => rcases List.mem_cons.1 hr with rfl | hr; exact List.mem_cons_self ..; exact tl hr
  | blk j cs =>
   rcases List.mem_cons.1 hr with rfl | hr
   ·refine List.mem_cons.2 (.inl ?_)
    show AtC ⟨h.b j, 0, none⟩ (zay (zyT h i g) cs) = _
    rw [znv]
    rfl
   ·exact tl hr
end
section
variable {P : Program} {Tb : Tab} {N k : Nat} {l : LE} {m : MB} {R : List SF} {o : Oper} {α : Type} {T : Ty α} [Dec T] {xs : List α} {x : α} {i j off ty e : Nat}
theorem zu2 {g : Nat → List Qd} {q : List Qd} (hj : xs[j]? = some x) : (itQ T xs g).set j (x, Dec.dec q) = itQ T xs fun u => if u = j then q else g u := by
 refine List.ext_getElem? fun t => ?_
 have hl : j < xs.length := (List.getElem?_eq_some_iff.1 hj).1
 rw [List.getElem?_set, zbD]
 unfold itQ
 rw [zbW, zbW]
 by_cases ht : j = t
 ·subst ht
  rw [if_pos rfl, if_pos hl, hj]
  simp
 ·rw [if_neg ht]
  have hu : ¬ t = j := fun e => ht e.symm
  show _ = Option.map (fun x => (x, Dec.dec (if t = j then q else g t))) xs[t]?
  rw [if_neg hu]
theorem zu3 {new : List SC} {nn : Nat × Bool} {xop y : Operand} (qn : Hn → List Qd) (hT : zbu P Tb) (hm : zaB m i = some (zbh T xs e)) (hj : xs[j]? = some x) (hr : .q i (zbY T xs) ∈ R) (ho : o.op = .store ty xop y) (hx : evS l xop = some (hpS i j T.sz off)) (hy : zff (evS l y) = some new) (hn : szT Tb ty = some nn) (hl : zeN new = nn.1) (h1 : ∀ h, zn9 (zay h new)) (hp : ∀ h μ, zi3 (T.ch x μ) off (zay h new) = some (T.ch x (Dec.dec (qn h))))
  (hnew : ∀ (h : Hn) (X : List Nat) (w : World), Sp X w (zad h [] m) (zaO h R) → St (T.nest x (Dec.dec (qn h))) w (X ++ zab (zad h [] m))) : zs2 P N k l m R o (zek undef) ((i, zbh T xs e) :: m) (.q i (zbY T xs) :: zjn i R) := fun Q h X a w E H Kk hK => by
 obtain ⟨g, hg, _⟩ := zp9 H hm hj
 have H0 := H.know (hnew h X w H)
 have H1 : Sp X w (.row (.slice (h.r i).1 xs.length (h.r i).2) e T.sz xs.length (zbI T (itQ T xs (h.q i))) :: zad h [i] m) (T.nest x (Dec.dec (qn h)) :: zaO h R) := H0.numAt hm
 cases hv : evS l y with
 | none => rw [hv] at hy; cases hy
 | some v =>
  rw [hv] at hy
  have hx' := (zag (h := h) hx).trans (by rw [zqa hg rfl])
  have hkm : ∀ j, j ∈ zab (zad h [] m) ↔ j ∈ zab (.row (.slice (h.r i).1 xs.length (h.r i).2) e T.sz xs.length (zbI T (itQ T xs (h.q i))) :: zad h [i] m) := fun j => (zar (zaJ h m [] i _ hm (by simp))).mem_iff
  refine zjw (T := T) (its := itQ T xs (h.q i)) (p := (x, Dec.dec (h.q i j))) (x, Dec.dec (qn h)) 0 E H1.sep rfl hg zbD.symm (zjA hj) ho hx' rfl (zag hv) (zdP hy) (h1 h) (hp h _) (by rw [zbb, hl]; exact zht (zeu hT hn)) fun w' HS hF => ?_
  let h2 : Hn := zyT h i fun u => if u = j then qn h else h.q i u
  have e1 : zad h2 [] ((i, zbh T xs e) :: m) = .row (.slice (h.r i).1 xs.length (h.r i).2) e T.sz xs.length (zbI T ((itQ T xs (h.q i)).set j (x, Dec.dec (qn h)))) :: zad h [i] m := by
   rw [zu2 hj, zam]
   show RB.den h2 i (zbh T xs e) ++ zad h2 [i] m = _
   rw [ziQ m [i] (List.mem_singleton.2 rfl)]
   show Res.row (.slice (h.r i).1 xs.length (h.r i).2) e T.sz xs.length (zbI T (itQ T xs (if i = i then _ else _))) :: zad h [i] m = _
   rw [if_pos rfl]
  have hk2 : ∀ j', j' ∈ zab (zad h2 [] ((i, zbh T xs e) :: m)) → j' ∈ zab (zad h [] m) := fun j' hj' => by
   rw [e1] at hj'
   exact (hkm j').2 hj'
  refine hK h2 w' (fun _ _ => ⟨rfl, rfl⟩) ⟨hF.os, hF.tape, hF.output, hF.size, fun t ht hn => hF.block t ht fun hm' => hn ?_⟩ ?_ fun j' hj' => .inl (hk2 j' hj')
  ·rcases List.mem_singleton.1 hm' with rfl
   rw [hkm]
   exact List.mem_append_left _ (by simp [Res.keys, Value.ownBlock, hg])
  ·rw [e1]
   refine (Sp.of_sep HS fun t ht hX => H1.xap t ht hX).refacts fun r hr' => ?_
   rcases List.mem_cons.1 hr' with rfl | hr'
   ·have a1 := HS.facts _ (List.mem_cons_of_mem _ (zaw.2 ⟨_, hr, rfl⟩))
    have a2 := HS.facts _ (List.mem_cons_self ..)
    show St (zbY T xs (if i = i then _ else _)) w' _
    rw [if_pos rfl]
    refine (St.and a1 a2).imp fun w1 hw => ?_
    show zfN T (itQ T xs _) w1
    rw [← zu2 hj]
    intro p hp'
    rcases List.mem_or_eq_of_mem_set hp' with h3 | rfl
    ·exact hw.1 p h3
    ·exact hw.2
   ·exact HS.facts _ (List.mem_cons_of_mem _ (znw hr'))
theorem zu4 {n : Nat} {ag : Bool} {sub : List SC} {xop : Operand} {Rs : List SF} {sv : SV} (g : T.μ → List Qd) (c : Nat) (hj : xs[j]? = some x) (hm : zaB m i = some (zbh T xs e)) (hr : .q i (zbY T xs) ∈ R) (ho : o.op = .load ty xop) (hx : evS l xop = some (hpS i j T.sz off)) (ht : tyK P ty = some (n, ag))
  (hv : (ag = true ∧ sv = .a (.agg sub)) ∨ ∃ v, ag = false ∧ n = 1 ∧ sub = [.one v] ∧ sv = .a (.s v))
  (hp : ∀ (μ : T.μ) (h : Hn), (∀ t, t < c → h.r (k + t) = qs (g μ) t) → zgq (T.ch x μ) off n = some (zay h sub))
  (hf : ∀ (μ : T.μ) (h : Hn) (w : World) (Y : List Nat), (∀ t, t < c → h.r (k + t) = qs (g μ) t) → St (T.nest x μ) w Y → ∀ r ∈ zaO h Rs, St r w Y) : zfg P N k l m R o sv (List.replicate c .gone) Rs := fun Q h X a w E H Kk hK => by
 obtain ⟨gb, hg, h1⟩ := zp9 H hm hj
 have h2 : St (T.nest x (Dec.dec (h.q i j))) w (X ++ zab (zad h [] m)) := (show St (zbY T xs (h.q i)) w _ from H.facts _ (zaS.2 ⟨_, hr, rfl⟩)).imp fun w' hw => hw _ (List.mem_of_getElem? (zjA hj))
 let h1' : Hn := ⟨h.b, fun t => if k ≤ t ∧ t < k + c then qs (g (Dec.dec (h.q i j))) (t - k) else h.r t, h.q⟩
 have hq : ∀ t, t < c → h1'.r (k + t) = qs (g (Dec.dec (h.q i j))) t := fun t ht => by
  show (if k ≤ k + t ∧ k + t < k + c then qs (g (Dec.dec (h.q i j))) (k + t - k) else h.r (k + t)) = _
  rw [if_pos ⟨by omega, by omega⟩, Nat.add_sub_cancel_left]
 have hpk := hp (Dec.dec (h.q i j)) h1' hq
 have hat := zer h1 hpk
 have hx' := (zag (h := h) hx).trans (by rw [zqa hg rfl])
 have hrun : (execOp a.eval o).run P w = .ok (.value (sv.den h1')) w := by
  rcases hv with ⟨rfl, rfl⟩ | ⟨v, rfl, rfl, rfl, rfl⟩
  ·exact zbm E ho hx' ht (zdr hpk).2.1 hat
  ·exact zaU E ho hx' ht hat
 have hden : ∀ (c i : Nat), zdu h1' i (List.replicate c RB.gone) = [] := by
  intro c
  induction c with
  | zero => intro i; rfl
  | succ c ih => intro i; rw [List.replicate_succ, zdu, ih]; rfl
 unfold Oper.wp
 rw [hrun]
 refine hK h1' w (fun t ht => ⟨rfl, if_neg (by rw [List.length_replicate] at ht; omega), rfl⟩) (Frm.refl _ _) ?_
 rw [hden]
 exact (Sep.none_ H.xk).refacts fun r hr => (hf (Dec.dec (h.q i j)) h1' w _ hq h2 r hr).mono (by simp [zab])
theorem zu5 {sv : SV} {m' : MB} {R' : List SF} {K : KS} (hs : zs2 P N k l m R o sv m' R') (h : bif okN k k sv m' R' then zji N o.dst sv l (fun l' => K k l' m' R') else False) : zdZ P N o k l m R K := ⟨sv, k, m', R', hs, h⟩
end
theorem Ct.frz {α : Type} {T : Ty α} [Dec T] {P : Program} {f : FuncId} {args : List Value} {X : List Nat} {w : World} {sv : SV} {zs : List α} {e : Nat} (hX : ∀ k ∈ X, k < w.heap.size) (h : Ct P f args X w sv [zbh T zs e] [.q 0 (zbY T zs)]) : Ct P f args X w sv [.gone] [.sl 0 zs.length (SlF T zs)] := by
 refine Calls.mono h ?_
 rintro e w' ⟨h, rfl, S⟩
 have hmx : ∀ k ∈ zab (zad h [] [(0, zbh T zs e)]), k ∉ X := fun k hk hm => by
  have h1 := hX k hm
  have h2 := (S.mine k hk).resolve_left (by simp)
  omega
 obtain ⟨h1, h2⟩ := zkw (h := h) (m := [(0, zbh T zs e)]) (R := [.q 0 (zbY T zs)]) (i := 0) rfl (.head _) (Sp.of_sep (show Sep X [] w w' (zad h [] [(0, zbh T zs e)]) _ from S) hmx)
 exact ⟨h, rfl, S.frm, S.xlt, h1.holds, h1.apart, fun j hj => S.mine j (h2 j hj), fun r hr => h1.facts r (by rcases List.mem_singleton.1 hr with rfl; exact List.mem_cons_self ..)⟩
end
section
open Go.RowKit
def nd (o : Oper) : Bool := match o.op with | .defer _ => false | _ => true
theorem zEw {o : Oper} (h : nd o = true) : ∀ c, o.op ≠ .defer c := fun c e => by unfold nd at h; rw [e] at h; cases h
theorem zu6 {r : Option Nat} {ρ : Operand → Value} {o : Oper} (h : nd o = true) : Oper.semAt r ρ o = execOp ρ o := by
 cases r with
 | none => rfl
 | some l => exact Oper.semAt_some l _ _ (zEw h)
abbrev dfr (ds : List Deferred) (a : Act) : Act := { a with defers := ds }
section
variable {P : Program} {r : Option Nat} {n : Nat} {ds : List Deferred}
abbrev zbH (r : Option Nat) : Fence := { Fence.wide with round := r }
theorem ziR (a : Act) (d : Option Tmp) (v : Value) : (dfr ds a).put d v = dfr ds (a.put d v) := by cases d <;> rfl
theorem zqW (a : Act) (x : Operand) : (dfr ds a).eval x = a.eval x := by cases x <;> rfl
theorem zEx {o : Oper} {a : Act} {w : World} {K K' : Act → World → Prop} {Q Q' : Exit → Act → World → Prop} (hd : nd o = true) (h : o.wp P a w K Q) (hK : ∀ a w, K a w → a.defers = [] ∧ K' (dfr ds a) w) (hQ : ∀ e a w, Q e a w → Q' e (dfr ds a) w) : o.wpIn (zbH r) n P (dfr ds a) w K' Q' := by
 refine ⟨fun _ _ => trivial, ?_⟩
 rw [zu6 hd, show (dfr ds a).eval = a.eval from funext (zqW a)]
 unfold Oper.wp at h
 have hL : LetsOut Q → LetsOut Q' := fun ⟨a, w, hq⟩ => ⟨_, w, hQ _ _ _ hq⟩
 revert h
 generalize (execOp a.eval o).run P w = res
 intro h
 have hdep : (zbH r).depth.isSome = true → 1 ≤ n := fun e => by cases e
 cases res with
 | ok x w' =>
  cases x with
  | value v => show K' _ _; rw [ziR]; exact (hK _ _ h).2
  | skip => show K' _ _; rw [ziR]; exact (hK _ _ h).2
  | enter f args =>
   refine ⟨hdep, trivial, fun cs hr => ?_⟩
   obtain ⟨e, w2, fr, hR, hs, hx⟩ := (callsIn_wide (n := n - 1)).2 h |>.2 cs (room_wide _)
   refine ⟨e, w2, fr, ?_, hs, hx⟩
   cases e with
   | returned v => show K' _ _; rw [ziR]; exact (hK _ _ hR).2
   | panicked c => exact hQ _ _ _ hR
   | outgrown => exact hL hR
  | row row args =>
   refine ⟨hdep, fun c cs hr => ?_⟩
   obtain ⟨v, w2, hR, hs⟩ := h c cs
   refine ⟨v, w2, ?_, stepsIn_wide.2 hs⟩
   show K' _ _
   rw [ziR]
   exact (hK _ _ hR).2
  | defer d =>
   have h1 := (hK _ _ h).1
   have : ({ a with defers := d :: a.defers }.put o.dst undef).defers = d :: a.defers := by cases o.dst <;> rfl
   rw [this] at h1
   cases h1
  | round l f tmps assign body => exact h.elim
  | recover => exact h.elim
  | spawn d => exact h.elim
  | _ => exact h.elim
 | halt x w' =>
  cases x with
  | panic v => exact hQ _ _ _ h
  | _ => exact h.elim
variable {T : Tab} {N : Nat} {X G : List Nat} {w0 : World} {Q : Exit → Act → World → Prop}
theorem zhH (hT : zbu P T) {K : KS} {ops : Array Oper} {os2 : List Oper} : ∀ {os : List Oper} {k : Nat} {l : LE} {m : MB} {R : List SF} {h : Hn} {a : Act} {w : World}, os.all nd = true → zsh P T N ops os k l m R K → VSt N X G w0 k l m R h a w → (∀ k' l' m' R' h' a' w', K k' l' m' R' → VSt N X G w0 k' l' m' R' h' a' w' → wpListIn (zbH r) n P ops Q os2 (dfr ds a') w') → wpListIn (zbH r) n P ops Q (os ++ os2) (dfr ds a) w
 | [], k, l, m, R, h, a, w, _, hv, H, hK => hK k l m R h a w hv H
 | o :: os, k, l, m, R, h, a, w, hnd, hv, H, hK => by
  have hnd2 : nd o = true ∧ os.all nd = true := by simpa using hnd
  unfold zsh at hv
  split at hv
  ·rename_i b hg
   have hw := zc7 H.env (zmz (h := h) hg)
   show wpListIn (zbH r) n P ops Q (o :: (os ++ os2)) (dfr ds a) w
   unfold wpListIn
   cases b with
   | true =>
    simp only [cond_true] at hv
    rw [if_pos hw]
    exact zEx (K := fun a' w' => ∃ k' l' m' R' h', zsh P T N ops os k' l' m' R' K ∧ VSt N X G w0 k' l' m' R' h' a' w') (Q := fun _ _ _ => False) hnd2.1 (zmA hT hv H fun k' l' m' R' h' a' w' hk HV => ⟨_, _, _, _, _, hk, HV⟩) (fun a' w' ⟨k', l', m', R', h', h1, h2⟩ => ⟨h2.env.defers, zhH hT hnd2.2 h1 h2 hK⟩) fun _ _ _ hq => hq.elim
   | false =>
    simp only [cond_false] at hv
    rw [if_neg (by rw [hw]; decide)]
    obtain ⟨l', h1, h2⟩ := H.put (sv := zek undef) rfl hv
    refine ⟨fun _ _ => trivial, ?_⟩
    rw [ziR]
    exact zhH hT hnd2.2 h1 h2 hK
  ·exact hv.elim
theorem zA3 (hT : zbu P T) {K : KS} {ops : Array Oper} {os : List Oper} {k : Nat} {l : LE} {m : MB} {R : List SF} {h : Hn} {a : Act} {w : World} (hn : os.all nd = true) (hv : zsh P T N ops os k l m R K) (H : VSt N X G w0 k l m R h a w) (hK : ∀ k' l' m' R' h' a' w', K k' l' m' R' → VSt N X G w0 k' l' m' R' h' a' w' → Q .normal (dfr ds a') w') : wpListIn (zbH r) n P ops Q os (dfr ds a) w := by
 have := zhH (r := r) (n := n) (ds := ds) (os2 := []) hT hn hv H hK
 rwa [List.append_nil] at this
def znY : Code → Bool
 | .skip => true
 | .region _ ops dr => bif dr then false else ops.toList.all nd
 | .seq x y => bif znY x then znY y else false
 | .cond _ x y => bif znY x then znY y else false
 | .block _ c => znY c
 | .exit _ => true
 | .ret => true
 | _ => false
theorem zkX (hT : zbu P T) : ∀ (c : Code) {k : Nat} {l : LE} {m : MB} {R : List SF} {Kn : KS} {Kx : Nat → KS} {Kr : KS} {Q : Exit → Act → World → Prop} {h : Hn} {a : Act} {w : World}, znY c = true → vC P T N c k l m R Kn Kx Kr → VSt N X G w0 k l m R h a w →
  (∀ k l m R h a w, Kn k l m R → VSt N X G w0 k l m R h a w → Q .normal (dfr ds a) w) → (∀ j k l m R h a w, Kx j k l m R → VSt N X G w0 k l m R h a w → Q (.exit j) (dfr ds a) w) → (∀ k l m R h a w, Kr k l m R → VSt N X G w0 k l m R h a w → Q .ret (dfr ds a) w) → c.wpIn (zbH r) n P Q (dfr ds a) w
 | .skip, k, l, m, R, Kn, Kx, Kr, Q, h, a, w, _, hv, H, hn, hx, hr => wpIn_skip (hn _ _ _ _ _ _ _ hv H)
 | .region id ops dr, k, l, m, R, Kn, Kx, Kr, Q, h, a, w, hs, hv, H, hn, hx, hr => by
  unfold vC at hv
  unfold znY at hs
  obtain ⟨lo⟩ := ops
  cases dr with
  | true => cases hs
  | false => exact wpIn_region_lit (zA3 hT hs hv H hn)
 | .seq x y, k, l, m, R, Kn, Kx, Kr, Q, h, a, w, hs, hv, H, hn, hx, hr => by
  unfold znY at hs
  have hs2 := zaa hs
  have direct : vC P T N x k l m R (fun k l m R => vC P T N y k l m R Kn Kx Kr) Kx Kr → (Code.seq x y).wpIn (zbH r) n P Q (dfr ds a) w := fun hv =>
   wpIn_seq (zkX hT x hs2.1 hv H (fun k l m R h a w hk HV => zkX hT y hs2.2 hk HV hn hx hr) (fun j k l m R h a w hk HV => hx j k l m R h a w hk HV) fun k l m R h a w hk HV => hr k l m R h a w hk HV)
  unfold vC at hv
  cases hb : Nat.ble 2 (nrm x) with
  | false => rw [hb] at hv; exact direct hv
  | true =>
   rw [hb] at hv
   rcases hv with hv | ⟨γ, I, φ, hv, hg⟩
   ·exact direct hv
   ·exact wpIn_seq (zkX hT x hs2.1 hv H (fun k' l' m' R' h' a' w' hk HV => by
     obtain ⟨g, l2, h2, h3, _, h5, h4⟩ := HV.gen hk hg
     exact zkX hT y hs2.2 h5 h4 hn hx hr) (fun j k l m R h a w hk HV => hx j k l m R h a w hk HV) fun k l m R h a w hk HV => hr k l m R h a w hk HV)
 | .cond c x y, k, l, m, R, Kn, Kx, Kr, Q, h, a, w, hs, hv, H, hn, hx, hr => by
  unfold znY at hs
  have hs2 := zaa hs
  unfold vC at hv
  split at hv
  ·rename_i b hb
   have hc := H.env.ev (zag (h := h) (zev hb))
   rw [← zqW (ds := ds)] at hc
   cases b with
   | true => exact wpIn_cond_true hc (zkX hT x hs2.1 hv H hn hx hr)
   | false => exact wpIn_cond_false hc (zkX hT y hs2.2 hv H hn hx hr)
  ·exact hv.elim
 | .block id c, k, l, m, R, Kn, Kx, Kr, Q, h, a, w, hs, hv, H, hn, hx, hr => wpIn_block (zkX hT c hs hv H (fun k l m R h a w hk HV => hn k l m R h a w hk HV) (fun j k l m R h a w hk HV => by
   show if j = id then _ else _
   by_cases e : j = id
   ·subst e
    rw [if_pos rfl]
    rw [Nat.beq_refl] at hk
    exact hn k l m R h a w hk HV
   ·rw [if_neg e]
    have hb : Nat.beq j id = false := by cases hb : Nat.beq j id with | false => rfl | true => exact absurd (Nat.eq_of_beq_eq_true hb) e
    rw [hb] at hk
    exact hx j k l m R h a w hk HV) fun k l m R h a w hk HV => hr k l m R h a w hk HV)
 | .exit id, k, l, m, R, Kn, Kx, Kr, Q, h, a, w, _, hv, H, hn, hx, hr => wpIn_exit (hx _ _ _ _ _ _ _ _ hv H)
 | .ret, k, l, m, R, Kn, Kx, Kr, Q, h, a, w, _, hv, H, hn, hx, hr => wpIn_ret (hr _ _ _ _ _ _ _ hv H)
 | .loop _, _, _, _, _, _, _, _, _, _, _, _, hs, _, _, _, _, _ => by cases hs
 | .rangeFunc _ _ _ _, _, _, _, _, _, _, _, _, _, _, _, hs, _, _, _, _, _ => by cases hs
 | .scope _, _, _, _, _, _, _, _, _, _, _, _, hs, _, _, _, _, _ => by cases hs
 | .label _, _, _, _, _, _, _, _, _, _, _, _, hs, _, _, _, _, _ => by cases hs
 | .goto _, _, _, _, _, _, _, _, _, _, _, _, hs, _, _, _, _, _ => by cases hs
 | .refuse _, _, _, _, _, _, _, _, _, _, _, _, hs, _, _, _, _, _ => by cases hs
theorem VSt.anew {k : Nat} {l : LE} {m : MB} {R R' : List SF} {h : Hn} {a : Act} {w : World} {L : Nat} {o : Obj} (H : VSt N [] G w0 k l m R h a w) (hL : L ∉ zab (zad h [] m)) (hR : ∀ r ∈ zaO h R', ∀ w, r w) (hw : wfR (lt_ k) R' = true) : VSt N [] (zab (zad h [] m)) (w.putObj L o) k l m R' h a (w.putObj L o) := by
 refine ⟨H.env, ⟨fun _ hk => (by cases hk), fun q hq => ?_, H.sp.apart, fun _ _ hk => (by cases hk), fun r hr w' _ => hR r hr w'⟩, Frm.refl _ _, fun j hj => .inl hj, H.wl, H.wm, hw⟩
 exact zbt (H.sp.holds q hq) fun j hj => World.putObj_heap_other fun e => hL (by first | (rw [e]; exact zbM.2 ⟨q, hq, hj⟩) | (rw [← e]; exact zbM.2 ⟨q, hq, hj⟩))
theorem zgO {a : Act} (h : a.defers = []) : dfr [] a = a := by cases a; subst h; rfl
theorem zfn (hT : zbu P T) (c : Code) {k : Nat} {l : LE} {m : MB} {R : List SF} {Kn : KS} {Kx : Nat → KS} {Kr : KS} {Q : Exit → Act → World → Prop} {h : Hn} {a : Act} {w : World} (hs : znY c = true) (hv : vC P T N c k l m R Kn Kx Kr) (H : VSt N X G w0 k l m R h a w)
  (hn : ∀ k l m R h a w, Kn k l m R → VSt N X G w0 k l m R h a w → Q .normal a w) (hx : ∀ j k l m R h a w, Kx j k l m R → VSt N X G w0 k l m R h a w → Q (.exit j) a w) (hr : ∀ k l m R h a w, Kr k l m R → VSt N X G w0 k l m R h a w → Q .ret a w) : c.wpIn (zbH r) n P Q a w := by
 have := zkX (r := r) (n := n) (ds := []) (Q := Q) hT c hs hv H (fun k l m R h a w hk HV => by rw [zgO HV.env.defers]; exact hn _ _ _ _ _ _ _ hk HV) (fun j k l m R h a w hk HV => by rw [zgO HV.env.defers]; exact hx _ _ _ _ _ _ _ _ hk HV) fun k l m R h a w hk HV => by rw [zgO HV.env.defers]; exact hr _ _ _ _ _ _ _ hk HV
 rwa [zgO H.env.defers] at this
theorem zxL (hT : zbu P T) {K : KS} {ops : Array Oper} {os os2 : List Oper} {k : Nat} {l : LE} {m : MB} {R : List SF} {h : Hn} {a : Act} {w : World} (hn : os.all nd = true) (hv : zsh P T N ops os k l m R K) (H : VSt N X G w0 k l m R h a w) (hK : ∀ k' l' m' R' h' a' w', K k' l' m' R' → VSt N X G w0 k' l' m' R' h' a' w' → wpListIn (zbH r) n P ops Q os2 a' w') : wpListIn (zbH r) n P ops Q (os ++ os2) a w := by
 have := zhH (r := r) (n := n) (ds := []) (Q := Q) (os2 := os2) hT hn hv H fun k l m R h a w hk HV => by rw [zgO HV.env.defers]; exact hK _ _ _ _ _ _ _ hk HV
 rwa [zgO H.env.defers] at this
theorem zo0 {f : FuncId} {fn : Func} {c : Code} {args : Array Value} {w : World} {R : Ending → World → Prop} {m : Nat} (hn : fn.ntmps = N) (hf : P.funcs[f]? = some fn) (hb : fn.body = some c) (hs : Nat.ble args.size N = true) (h : ∀ a, Env a N (zj0 0 args.toList) → c.wpIn (zbH none) m P (bodyPost P fn R) a w) : CallsIn (zbH none) m P f args w R :=
 callsIn_of_wp hf hb trivial (by subst hn; exact h _ (Env.start _ hs rfl))
theorem znx {f : FuncId} {fn : Func} {c : Code} {args : Array Value} {w : World} {R : Ending → World → Prop} {m : Nat} (hn : fn.ntmps = N) (hf : P.funcs[f]? = some fn) (hb : fn.body = some c) (hs : Nat.ble args.size N = true) (h : ∀ a, Env a N (zj0 0 args.toList) → c.wpIn (zbH none) m P (bodyPostM (zbH none) m P fn R) a w) : CallsIn (zbH none) m P f args w R :=
 callsIn_of_wp_marks hf hb trivial (by subst hn; exact h _ (Env.start _ hs rfl))
theorem zo1 (i : Nat) (hT : zbu P T) {K : KS} {ops : Array Oper} {os : List Oper} {k : Nat} {l : LE} {m : MB} {R : List SF} {h : Hn} {a : Act} {w : World} (H : VSt N X G w0 k l m R h a w) (hn : (os.take i).all nd = true) (hv : zsh P T N ops (os.take i) k l m R K) (hK : ∀ k' l' m' R' h' a' w', K k' l' m' R' → VSt N X G w0 k' l' m' R' h' a' w' → wpListIn (zbH r) n P ops Q (os.drop i) a' w') : wpListIn (zbH r) n P ops Q os a w := by
 have := zxL hT hn hv H hK
 rwa [List.take_append_drop] at this
abbrev noX : Nat → KS := fun _ _ _ _ _ => False
theorem zC4 (hT : zbu P T) (A B C D : Code) {Rg Tl : Code} {k : Nat} {l : LE} {m : MB} {R : List SF} {Kn Kr : KS} {h : Hn} {a : Act} {w : World} (hA : znY A = true) (hB : znY B = true) (hC : znY C = true) (hD : znY D = true)
  (hv : vC P T N A k l m R (fun k l m R => vC P T N B k l m R (fun k l m R => vC P T N C k l m R (fun k l m R => vC P T N D k l m R Kn noX Kr) noX Kr) noX Kr) noX Kr) (H : VSt N X G w0 k l m R h a w)
  (hn : ∀ k l m R h a w, Kn k l m R → VSt N X G w0 k l m R h a w → Rg.wpIn (zbH r) n P (Exit.then (Tl.wpIn (zbH r) n P Q) Q) a w) (hr : ∀ k l m R h a w, Kr k l m R → VSt N X G w0 k l m R h a w → Q .ret a w) : (A.seq (B.seq (C.seq ((D.seq Rg).seq Tl)))).wpIn (zbH r) n P Q a w :=
 wpIn_seq (zfn hT A hA hv H (fun _ _ _ _ _ _ _ hv H => wpIn_seq (zfn hT B hB hv H (fun _ _ _ _ _ _ _ hv H => wpIn_seq (zfn hT C hC hv H (fun _ _ _ _ _ _ _ hv H => wpIn_seq (wpIn_seq (zfn hT D hD hv H hn (fun _ _ _ _ _ _ _ _ hk _ => hk.elim) hr))) (fun _ _ _ _ _ _ _ _ hk _ => hk.elim) hr)) (fun _ _ _ _ _ _ _ _ hk _ => hk.elim) hr)) (fun _ _ _ _ _ _ _ _ hk _ => hk.elim) hr)
end
end
section
open Go.RowKit
structure Kept (n : Nat) (A B : World) : Prop where
 os : B.os = A.os
 tape : B.tape = A.tape
 output : B.output = A.output
 size : A.heap.size ≤ B.heap.size
 block : ∀ k, k < n → B.heap[k]? = A.heap[k]?
theorem Kept.refl (n : Nat) (A : World) : Kept n A A := ⟨rfl, rfl, rfl, jV _, fun _ _ => rfl⟩
theorem Kept.trans {n : Nat} {A B C : World} (h : Kept n A B) (k : Kept n B C) : Kept n A C := ⟨k.os.trans h.os, k.tape.trans h.tape, k.output.trans h.output, jU h.size k.size, fun i hi => (k.block i hi).trans (h.block i hi)⟩
theorem Kept.mono {n m : Nat} {A B : World} (h : Kept n A B) (hm : m ≤ n) : Kept m A B := ⟨h.os, h.tape, h.output, h.size, fun i hi => h.block i (jT hi hm)⟩
theorem Kept.put {n l : Nat} {A : World} {o : Obj} (hl : n ≤ l) : Kept n A (A.putObj l o) := ⟨rfl, rfl, rfl, by simp [World.putObj], fun i hi => World.putObj_heap_other (by omega)⟩
theorem Kept.alloc {n : Nat} {A : World} {o : Obj} (hn : n ≤ A.heap.size) : Kept n A (A.alloc o) := ⟨rfl, rfl, rfl, by rw [World.size_alloc]; omega, fun i hi => by
 show (A.heap.push o)[i]? = _
 rw [Array.getElem?_push_lt (by omega)]
 exact (Array.getElem?_eq_getElem (by omega)).symm⟩
def zyU (I : World → Prop) (Ix : Code → World → Prop) (D l : Nat) (A : World) : Exit → Act → World → Prop
 | .normal, _, B => I B ∧ B.heap[l]? = A.heap[l]? ∧ B.heap[D]? = A.heap[D]?
 | .ret, _, B => Ix .ret B ∧ B.heap[l]? = A.heap[l]? ∧ B.heap[D]? = A.heap[D]?
 | _, _, _ => False
abbrev zgP (a : Act) (D : Nat) : Act := { a with defers := { target := .collected D, args := #[] } :: a.defers }
theorem zu7 {P : Program} {n : Nat} {g : Operand} {ps : Array Tmp} {assign body : Code} {Q : Exit → Act → World → Prop} {a : Act} {w : World} {gf : Nat} {lb : Array Value}
  (hg : a.eval g = .func (.func gf) #[] lb) (eg : ∀ args w, (callFunc gf args).run P w = .ok (.enter gf args) w)
  {N : Nat} {encs : Nat → Array Value} (hps : ∀ i, (encs i).size = ps.size) (I : Nat → World → Prop) (Ix : Code → World → Prop)
  (hI : ∀ i A B, Kept w.heap.size A B → I i A → I i B) (hIx : ∀ c A B, Kept w.heap.size A B → Ix c A → Ix c B) (h0 : I 0 w)
  (hseq : ∀ (l : Nat) (J : Nat → World → Prop) (Jx : World → Prop) (W : World), (∀ i A, J i A → I i A) → (∀ i A B, Kept A.heap.size A B → J i A → J i B) → (∀ A B, Kept A.heap.size A B → Jx A → Jx B) →
   (∀ i A, i < N → J i A → YieldAt (zbH none) (n - 1 - 1) P l (encs i) A fun e B => (e = .returned (.bool true) ∧ J (i + 1) B) ∨ (e = .returned (.bool false) ∧ Jx B)) → J 0 W →
   CallsIn (zbH none) (n - 1) P gf (#[.func (.yield l) #[] #[]] ++ lb) W fun e B => (∃ v, e = .returned v) ∧ (J N B ∨ Jx B))
  (hround : ∀ (i : Nat) (A : World), i < N → I i A → w.heap.size + 2 ≤ A.heap.size →
   assign.wpIn (zbH (some (w.heap.size + 1))) (n - 1 - 1) P (Exit.then (fun a1 A1 => (A1.heap[w.heap.size + 1]? = A.heap[w.heap.size + 1]? ∧ A1.heap[w.heap.size]? = A.heap[w.heap.size]?) ∧
    ∀ o, body.wpIn (zbH (some (w.heap.size + 1))) (n - 1 - 1) P (zyU (I (i + 1)) Ix w.heap.size (w.heap.size + 1) (A1.putObj (w.heap.size + 1) o)) a1 (A1.putObj (w.heap.size + 1) o)) (fun _ _ _ => False))
    { tmps := (ps.zip (encs i)).foldl (fun t (p, v) => t.setIfInBounds p v) a.tmps, defers := [] } A)
  (hdone : ∀ W, I N W → W.heap[w.heap.size]? = some (.deferred (some [])) → w.heap.size < W.heap.size → Q .normal (zgP a w.heap.size) W)
  (hstop : ∀ c W, Ix c W → W.heap[w.heap.size]? = some (.deferred (some [])) → c.wpIn (zbH none) n P Q (zgP a w.heap.size) W) :
  (Code.rangeFunc g ps assign body).wpIn (zbH none) n P Q a w := by
 refine wpIn_rangeFunc ?_
 intro fn hfn
 obtain ⟨rec, hrec⟩ : ∃ rec : LoopState → Option Code → Loop, rec = fun st pe => { state := st, pending := pe, fn, tmps := a.tmps, params := ps, assign, body, defers := w.heap.size } := ⟨_, rfl⟩
 obtain ⟨W1, hW1⟩ : ∃ W1, (w.alloc (.deferred (some []))).alloc (.loop (rec .ready none)) = W1 := ⟨_, rfl⟩
 have hL1 : W1.heap[w.heap.size + 1]? = some (.loop (rec .ready none)) := by
  rw [← hW1]; have := World.alloc_heap_new (w.alloc (.deferred (some []))) (.loop (rec .ready none)); rwa [World.size_alloc] at this
 have hK1 : W1.heap[w.heap.size]? = some (.deferred (some [])) := by
  rw [← hW1]; exact (Below.heap_alloc _ _ _ (by simp)).trans (World.alloc_heap_new w _)
 have hk1 : Kept w.heap.size w W1 := by
  rw [← hW1]; exact (Kept.alloc (jV _)).trans (Kept.alloc (by simp))
 have hI1 : I 0 W1 := hI _ _ _ hk1 h0
 refine ⟨w.heap.size + 1, [{ target := .collected w.heap.size, args := #[] }], W1, { target := .fn (.func gf) lb, args := #[.func (.yield (w.heap.size + 1)) #[] #[]] }, W1, gf,
  #[.func (.yield (w.heap.size + 1)) #[] #[]] ++ lb, W1, ?_, ?_, ?_, ?_, fun e => (by cases e), ?_⟩
 ·rw [← hW1, hrec]; exact run_enterLoop_outer _ _ _ _ _
 ·simp only [resolve, hg]
  simp [go_sem]
 ·intro f' hf'; trivial
 ·simp [invoke, go_sem, eg]
 ·refine (hseq (w.heap.size + 1)
   (fun i W => I i W ∧ W.heap[w.heap.size + 1]? = some (.loop (rec .ready none)) ∧ W.heap[w.heap.size]? = some (.deferred (some [])) ∧ w.heap.size + 2 ≤ W.heap.size)
   (fun W => ∃ c, Ix c W ∧ W.heap[w.heap.size + 1]? = some (.loop (rec .done (some c))) ∧ W.heap[w.heap.size]? = some (.deferred (some [])) ∧ w.heap.size + 2 ≤ W.heap.size)
   W1 (fun i A h => h.1) (fun i A B hk ⟨h1, h2, h3, h4⟩ => ⟨hI _ _ _ (hk.mono (by omega)) h1, (hk.block _ (by omega)).trans h2, (hk.block _ (by omega)).trans h3, jU h4 hk.size⟩)
   (fun A B hk ⟨c, h1, h2, h3, h4⟩ => ⟨c, hIx _ _ _ (hk.mono (by omega)) h1, (hk.block _ (by omega)).trans h2, (hk.block _ (by omega)).trans h3, jU h4 hk.size⟩)
   ?_ ⟨hI1, hL1, hK1, by rw [← hW1]; simp⟩).mono ?_
  ·rintro i W hiN ⟨hi, hl, hk, hsz⟩
   have hy := run_yield (P := P) (args := encs i) hl (by rw [hrec]; exact hps i)
   rw [hrec] at hy
   refine ⟨fn, _, assign, body, hy, roundIn_of_wpIn hfn (wpIn_mono (hround i W hiN hi hsz) ?_)⟩
   rintro e a1 A1 hq
   cases e with
   | normal =>
    obtain ⟨⟨hl1, hk1⟩, hb⟩ := hq
    have hlA := hl1.trans hl
    have hlt : w.heap.size + 1 < A1.heap.size := (Array.getElem?_eq_some_iff.1 hlA).1
    refine ⟨_, run_beginRound hlA (by rw [hrec]), ?_⟩
    have hl2 : (A1.putObj (w.heap.size + 1) (.loop { rec .ready none with state := .busy })).heap[w.heap.size + 1]? = some (.loop { rec .ready none with state := .busy }) := World.putObj_heap_same hlt
    have hk2 : (A1.putObj (w.heap.size + 1) (.loop { rec .ready none with state := .busy })).heap[w.heap.size]? = some (.deferred (some [])) := (World.putObj_heap_other (by omega)).trans (hk1.trans hk)
    refine wpIn_mono (hb _) ?_
    rintro e a3 W3 hp
    have fin : ∀ (jump : Option Code), W3.heap[w.heap.size + 1]? = some (.loop { rec .ready none with state := .busy }) → W3.heap[w.heap.size]? = some (.deferred (some [])) →
      (Instr.endRound (w.heap.size + 1) jump).run P W3 = .ok (.bool jump.isNone) (W3.putObj (w.heap.size + 1) (.loop (rec (if jump.isNone then .ready else .done) jump))) ∧
      (W3.putObj (w.heap.size + 1) (.loop (rec (if jump.isNone then .ready else .done) jump))).heap[w.heap.size + 1]? = some (.loop (rec (if jump.isNone then .ready else .done) jump)) ∧
      (W3.putObj (w.heap.size + 1) (.loop (rec (if jump.isNone then .ready else .done) jump))).heap[w.heap.size]? = some (.deferred (some [])) ∧ w.heap.size + 2 ≤ (W3.putObj (w.heap.size + 1) (.loop (rec (if jump.isNone then .ready else .done) jump))).heap.size := fun jump hl3 hk3 => by
     have := run_endRound (P := P) jump hl3
     have hlt3 := (Array.getElem?_eq_some_iff.1 hl3).1
     rw [hrec] at this ⊢
     exact ⟨this, World.putObj_heap_same hlt3, (World.putObj_heap_other (by omega)).trans hk3, by simp [World.putObj]; omega⟩
    cases e with
    | normal =>
     obtain ⟨hi3, hl3, hk3⟩ := hp
     obtain ⟨hr, h4, h5, h6⟩ := fin none (hl3.trans hl2) (hk3.trans hk2)
     exact ⟨_, _, hr, .inl ⟨rfl, hI _ _ _ (Kept.put (by omega)) hi3, h4, h5, h6⟩⟩
    | ret =>
     obtain ⟨hi3, hl3, hk3⟩ := hp
     obtain ⟨hr, h4, h5, h6⟩ := fin (some .ret) (hl3.trans hl2) (hk3.trans hk2)
     exact ⟨_, _, hr, .inr ⟨rfl, .ret, hIx _ _ _ (Kept.put (by omega)) hi3, h4, h5, h6⟩⟩
    | exit id => exact hp.elim
    | goto t => exact hp.elim
    | panic ch => exact hp.elim
    | outgrown => exact hp.elim
   | exit id => exact hq.elim
   | goto t => exact hq.elim
   | ret => exact hq.elim
   | panic ch => exact hq.elim
   | outgrown => exact hq.elim
  ·rintro e W2 ⟨⟨v, rfl⟩, (⟨hi, hl, hk, hs⟩ | ⟨c, hi, hl, hk, hs⟩)⟩
   ·exact ⟨none, _, by have := run_endLoop (P := P) hl (by rw [hrec]; simp); rw [hrec] at this; exact this, hdone _ (hI _ _ _ (Kept.put (by omega)) hi) ((World.putObj_heap_other (by omega)).trans hk) (by simp [World.putObj]; omega)⟩
   ·exact ⟨some c, _, by have := run_endLoop (P := P) hl (by rw [hrec]; simp); rw [hrec] at this; exact this, hstop c _ (hIx _ _ _ (Kept.put (by omega)) hi) ((World.putObj_heap_other (by omega)).trans hk)⟩
theorem zxM {P : Program} {n lo : Nat} {o : Oper} {a : Act} {w : World} {K : Act → World → Prop} {Q : Exit → Act → World → Prop} {x : Operand} {xs : Array Operand} {ts : Array TypeId} {args : Array Value} {fn : Nat} {tmps : Array Value} {cA cB : Code} {R : Ending → World → Prop}
  (ho : o.op = .call { callee := .value x, args := xs, argTypes := ts }) (hx : a.eval x = .func (.yield lo) #[] #[]) (ha : xs.map a.eval = args) (hr : (Instr.yield lo args).run P w = .ok (.round lo fn tmps cA cB) w)
  (hR : RoundIn (zbH none) (n - 1) P lo fn tmps cA cB w R) (hK : ∀ e w', R e w' → ∃ v, e = .returned v ∧ K (a.put o.dst v) w') : o.wpIn (zbH none) n P a w K Q := by
 refine ⟨fun _ _ => trivial, ?_⟩
 have : (Oper.semAt (zbH none).round a.eval o).run P w = .ok (.round lo fn tmps cA cB) w := by
  show (execOp a.eval o).run P w = _
  unfold execOp
  rw [ho]
  simp only [resolve, Sem.run_bind, hx, ha, Deferred.ofValue, Sem.run_pure, Result.andThen_ok, invoke, Array.empty_append]
  exact hr
 rw [this]
 refine ⟨fun e => (by cases e), hR.mono fun e w' h => ?_⟩
 obtain ⟨v, rfl, hk⟩ := hK e w' h
 exact hk
theorem zyV {S : Nat → Bool} : ∀ {R1 : List SF}, (∀ x ∈ R1, x.wf S = true) → wfR S R1 = true
 | [], _ => rfl
 | x :: R1, h => zau (h x (List.mem_cons_self ..)) (zyV fun y hy => h y (List.mem_cons_of_mem _ hy))
theorem Frm.putL {G : List Nat} {A : World} {L : Nat} {o : Obj} : Frm (L :: G) A (A.putObj L o) := ⟨rfl, rfl, rfl, by simp [World.putObj], fun k hk hn => World.putObj_heap_other fun e => hn (by first | (rw [e]; exact List.mem_cons_self ..) | (rw [← e]; exact List.mem_cons_self ..))⟩
theorem Frm.wide {G G' : List Nat} {A B : World} (h : Frm G A B) (hG : ∀ k ∈ G, k ∈ G') : Frm G' A B := ⟨h.os, h.tape, h.output, h.size, fun k hk hn => h.block k hk fun hm => hn (hG k hm)⟩
theorem zxN {P : Program} {T : Tab} {N : Nat} {r : Option Nat} {n : Nat} {As Bd : Code} {G : List Nat} {k : Nat} {l : LE} {m : MB} {R : List SF} {h : Hn} {a : Act} {A : World} {Kn Kr : KS} {I : World → Prop} {Ix : Code → World → Prop} {L D : Nat} (R1 : List SF) (hT : zbu P T) (hsA : znY As = true) (hsB : znY Bd = true) (hL : L ∉ G) (hLw : L < A.heap.size) (hD : D ∉ G) (hDL : D < L) (H : VSt N [] G A k l m R h a A)
  (hv : vC P T N As k l m R (fun k' l' m' R' => (∀ x ∈ R1, x ∈ R') ∧ vC P T N Bd k' l' m' R1 Kn noX Kr) noX (fun _ _ _ _ => False)) (hR1 : ∀ (h : Hn) (r : World → Prop), r ∈ zaO h R1 → ∀ w w', r w → r w')
  (hn : ∀ k l m R h B, Kn k l m R → Sp [] B (zad h [] m) (zaO h R) → Frm (L :: G) A B → I B) (hr : ∀ k l m R h B, Kr k l m R → Sp [] B (zad h [] m) (zaO h R) → Frm (L :: G) A B → Ix .ret B) :
  As.wpIn (zbH r) n P (Exit.then (fun a1 A1 => (A1.heap[L]? = A.heap[L]? ∧ A1.heap[D]? = A.heap[D]?) ∧ ∀ o, Bd.wpIn (zbH r) n P (zyU I Ix D L (A1.putObj L o)) a1 (A1.putObj L o)) (fun _ _ _ => False)) a A := by
 refine zfn hT As hsA hv H (fun k' l' m' R' h' a' A1 ⟨hsub, hb⟩ H1 => ⟨⟨H1.frm.block L hLw hL, H1.frm.block D (by omega) hD⟩, fun o => ?_⟩) (fun _ _ _ _ _ _ _ _ hk _ => hk.elim) fun _ _ _ _ _ _ _ hk _ => hk.elim
 have hk1 : ∀ j, j < A.heap.size → j ∉ G → j ∉ zab (zad h' [] m') := fun j hj hg hm => (H1.mine j hm).elim hg (by omega)
 have hA2 : (A1.putObj L o).heap.size = A1.heap.size := by simp [World.putObj]
 have hs1 := H1.frm.size
 have fr : ∀ B, Frm (zab (zad h' [] m')) (A1.putObj L o) B → Frm (L :: G) A B := fun B hB =>
  (((H1.frm.wide (fun k hk => List.mem_cons_of_mem _ hk)).trans (Frm.putL (G := [])) (fun k hk => by rcases List.mem_singleton.1 hk with rfl; exact .inl (List.mem_cons_self ..))).trans hB fun k hk => (H1.mine k hk).imp (List.mem_cons_of_mem _) id)
 have HV := H1.anew (o := o) (R' := R1) (hk1 L hLw hL) (fun q hq w => by
  obtain ⟨x, hx, rfl⟩ := zaS.1 hq
  exact hR1 h' _ hq _ _ (H1.sp.facts _ (zaS.2 ⟨x, hsub x hx, rfl⟩)).now) (zyV fun x hx => zck H1.wr _ (hsub x hx))
 exact zfn hT Bd hsB hb HV (fun k l m R h a B hk H2 => ⟨hn _ _ _ _ _ _ hk H2.sp (fr B H2.frm), H2.frm.block L (by omega) (hk1 L hLw hL), H2.frm.block D (by omega) (hk1 D (by omega) hD)⟩) (fun _ _ _ _ _ _ _ _ hk _ => hk.elim) fun k l m R h a B hk H2 => ⟨hr _ _ _ _ _ _ hk H2.sp (fr B H2.frm), H2.frm.block L (by omega) (hk1 L hLw hL), H2.frm.block D (by omega) (hk1 D (by omega) hD)⟩
end
section
open Go.RowKit
def zny (P : Program) : List Field → List (Option IntKind) → Nat → Prop
 | [], [], _ => True
 | f :: F, some k :: fs, off => (f.name ≠ "_" ∧ f.offset = off ∧ P.underlying f.type = some (.int k)) ∧ zny P F fs (off + 1)
 | f :: F, none :: fs, off => (f.name ≠ "_" ∧ f.offset = off ∧ zjd P f.type .u8 32 ∧ (P.info? f.type).map (·.size) = some 32) ∧ zny P F fs (off + 32)
 | _, _, _ => False
structure StrT (P : Program) (t : TypeId) (fs : List (Option IntKind)) : Prop where
 under : P.underlying t = some (.struct (P.fieldsOf t))
 stood : P.stoodInHeld t = false
 guard : P.eqGuardType P.depth t = false
 flds : zny P (P.fieldsOf t).toList fs 0
def zrY (P : Program) (K : TypeId) : List Field → List (Option IntKind) → Nat → Bool
 | [], [], _ => true
 | f :: F, some k :: fs, off => (f.name != "_") && (Nat.beq f.offset off && ((match P.underlying f.type with | some (.int k') => ikB k' k | _ => false) && zrY P K F fs (off + 1)))
 | f :: F, none :: fs, off => (f.name != "_") && (Nat.beq f.offset off && (Nat.beq f.type K && ((match P.info? f.type with | some i => Nat.beq i.size 32 | none => false) && zrY P K F fs (off + 32))))
 | _, _, _ => false
theorem zhI {P : Program} {K : TypeId} (hK : zjd P K .u8 32) : ∀ {F : List Field} {fs : List (Option IntKind)} {off : Nat}, zrY P K F fs off = true → zny P F fs off
 | [], [], _, _ => trivial
 | f :: F, some k :: fs, off, h => by
  unfold zrY at h
  simp only [Bool.and_eq_true] at h
  obtain ⟨h1, h2, h3, h4⟩ := h
  refine ⟨⟨bne_iff_ne.1 h1, Nat.eq_of_beq_eq_true h2, ?_⟩, zhI hK h4⟩
  split at h3
  ·rename_i k' hu
   rw [hu, (of_decide_eq_true h3 : k' = k)]
  ·cases h3
 | f :: F, none :: fs, off, h => by
  unfold zrY at h
  simp only [Bool.and_eq_true] at h
  obtain ⟨h1, h2, h3, h5, h4⟩ := h
  have e := Nat.eq_of_beq_eq_true h3
  refine ⟨⟨bne_iff_ne.1 h1, Nat.eq_of_beq_eq_true h2, by rw [e]; exact hK, ?_⟩, zhI hK h4⟩
  split at h5
  ·rename_i i hi
   rw [hi]
   show some i.size = some 32
   rw [Nat.eq_of_beq_eq_true h5]
  ·cases h5
 | [], _ :: _, _, h => by cases h
 | _ :: _, [], _, h => by unfold zrY at h; cases h
def zso : List (Option IntKind) → List Chunk → Prop
 | [], [] => True
 | some k :: fs, .one (.int k' _) :: cs => k' = k ∧ zso fs cs
 | none :: fs, .key _ :: cs => zso fs cs
 | _, _ => False
def zsp : List Chunk → List Chunk → Bool
 | .one (.int _ a) :: cs, .one (.int _ b) :: ds => (a == b) && zsp cs ds
 | .key x :: cs, .key y :: ds => decide (zaX x = zaX y) && zsp cs ds
 | [], [] => true
 | _, _ => false
section
variable {P : Program} {w : World} {d : Nat}
theorem ziS {t : TypeId} {k m : List Nat} (hT : zjd P t .u8 32) : (Op.equalIn (d + 2) t (.agg (ca [.key k])) (.agg (ca [.key m]))).run P w = .ok (decide (zaX k = zaX m)) w := by
 obtain ⟨e, h1, h2, h3, _⟩ := hT
 rw [zcc, zcc, zda h1 h2 h3]
 congr 1
 rw [Bool.eq_iff_iff, decide_eq_true_iff, zka, zeS]
 constructor
 ·intro hs i hi
  have := hs i hi
  rw [Nat.zero_add] at this
  omega
 ·intro hs i hi
  rw [Nat.zero_add, hs i hi]
theorem zg3 {t : TypeId} {k : IntKind} {pre rest : List Value} {v : Value} (ht : P.underlying t = some (.int k)) : (part t (pre ++ v :: rest).toArray pre.length).run P w = .ok v w := by
 unfold part isAgg
 simp only [Sem.run_bind, run_underlying ht, Result.andThen_ok, Sem.run_pure]
 simp
theorem zg4 {t : TypeId} {pre rest : List Value} {x : List Nat} (hT : zjd P t .u8 32) (hs : (P.info? t).map (·.size) = some 32) : (part t (pre ++ (cl [.key x] ++ rest)).toArray pre.length).run P w = .ok (.agg (ca [.key x])) w := by
 obtain ⟨e, h1, _⟩ := hT
 have hsz : (sizeOf t).run P w = .ok 32 w := by
  cases hq : P.info? t with
  | none => simp [hq] at hs
  | some i =>
   have : i.size = 32 := by simpa [hq] using hs
   simp [sizeOf, typeInfo, hq, this]
 have hl : (cl [.key x]).length = 32 := by rw [zjx, List.length_map]; simp [zaX]
 unfold part isAgg
 simp only [Sem.run_bind, run_underlying h1, Result.andThen_ok, Sem.run_pure, hsz, if_true]
 congr 2
 rw [List.extract_toArray]
 unfold ca
 congr 1
 rw [List.extract_eq_take_drop]
 simp [hl]
theorem zhJ : ∀ (F : List Field) (fs : List (Option IntKind)) (cs ds : List Chunk) (pre pre' : List Value), pre'.length = pre.length → zny P F fs pre.length → zso fs cs → zso fs ds → (Op.eqFields (d + 2) (pre ++ cl cs).toArray (pre' ++ cl ds).toArray F).run P w = .ok (zsp cs ds) w
 | [], [], [], [], pre, pre', _, _, _, _ => rfl
 | f :: F, some k :: fs, .one (.int ka a) :: cs, .one (.int kb b) :: ds, pre, pre', hp, hF, h1, h2 => by
  obtain ⟨⟨n1, n2, n3⟩, hF⟩ := hF
  obtain ⟨hk1, h1⟩ := h1
  obtain ⟨hk2, h2⟩ := h2
  subst hk1
  subst hk2
  unfold Op.eqFields
  rw [if_pos n1, n2]
  have e1 : cl (.one (.int kb a) :: cs) = .int kb a :: cl cs := rfl
  have e2 : cl (.one (.int kb b) :: ds) = .int kb b :: cl ds := rfl
  rw [e1, e2]
  simp only [Sem.run_bind, zg3 n3, Result.andThen_ok]
  rw [← hp]
  simp only [zg3 n3, Result.andThen_ok, run_equalIn_int w (d + 1) f.type kb kb a b n3]
  have ih := zhJ F fs cs ds (pre ++ [.int kb a]) (pre' ++ [.int kb b]) (by simp [hp]) (by simpa using hF) h1 h2
  rw [List.append_assoc, List.append_assoc] at ih
  show _ = Result.ok ((a == b) && zsp cs ds) w
  cases hab : a == b with
  | true => simpa using ih
  | false => simp
 | f :: F, none :: fs, .key x :: cs, .key y :: ds, pre, pre', hp, hF, h1, h2 => by
  obtain ⟨⟨n1, n2, n3, n4⟩, hF⟩ := hF
  unfold Op.eqFields
  rw [if_pos n1, n2]
  have e1 : cl (.key x :: cs) = cl [.key x] ++ cl cs := by simp [cl]
  have e2 : cl (.key y :: ds) = cl [.key y] ++ cl ds := by simp [cl]
  have hl : ∀ z, (cl [.key z]).length = 32 := fun z => by rw [zjx, List.length_map]; simp [zaX]
  rw [e1, e2]
  simp only [Sem.run_bind, zg4 n3 n4, Result.andThen_ok]
  rw [← hp]
  simp only [zg4 n3 n4, Result.andThen_ok, ziS n3]
  have ih := zhJ F fs cs ds (pre ++ cl [.key x]) (pre' ++ cl [.key y]) (by simp [hp, hl]) (by rw [jQ, hl]; exact hF) h1 h2
  rw [List.append_assoc, List.append_assoc] at ih
  show _ = Result.ok (decide (zaX x = zaX y) && zsp cs ds) w
  cases hab : decide (zaX x = zaX y) with
  | true => simpa using ih
  | false => simp
variable {o : Oper} {l : List (Nat × Value)} {x y : Operand} {S : Nat → Prop} {ws : World}
theorem zC5 {t u : TypeId} {fs : List (Option IntKind)} {cs ds : List Chunk} (hT : StrT P t fs) (h1 : zso fs cs) (h2 : zso fs ds) (ho : o.op = .binOp .eql t x y u) (hx : ev l x = some (.agg (ca cs))) (hy : ev l y = some (.agg (ca ds))) : PK P S ws l o (.bool (zsp cs ds)) := fun w' _ a N E => by
 have hr := zhJ (d := 9997) (w := w') _ fs cs ds [] [] rfl hT.flds h1 h2
 unfold execOp
 simp only [ho, E.ev hx, E.ev hy, Sem.run_bind, run_eqGuard_agg w' _ t x y _ _ hT.guard, Result.andThen_ok, run_eql_struct, run_equalIn_agg w' 9999 t _ _ hT.under hT.stood]
 rw [show (Op.eqFields 9999 (ca cs) (ca ds) (P.fieldsOf t).toList).run P w' = _ from hr]
 rfl
theorem zC6 {t u : TypeId} {fs : List (Option IntKind)} {cs ds : List Chunk} (hT : StrT P t fs) (h1 : zso fs cs) (h2 : zso fs ds) (ho : o.op = .binOp .neq t x y u) (hx : ev l x = some (.agg (ca cs))) (hy : ev l y = some (.agg (ca ds))) : PK P S ws l o (.bool (!zsp cs ds)) := fun w' _ a N E => by
 have hr := zhJ (d := 9997) (w := w') _ fs cs ds [] [] rfl hT.flds h1 h2
 unfold execOp
 simp only [ho, E.ev hx, E.ev hy, Sem.run_bind, run_eqGuard_agg w' _ t x y _ _ hT.guard, Result.andThen_ok, run_neq_struct, run_equalIn_agg w' 9999 t _ _ hT.under hT.stood]
 rw [show (Op.eqFields 9999 (ca cs) (ca ds) (P.fieldsOf t).toList).run P w' = _ from hr]
 rfl
theorem zu8 {t u : TypeId} {fs : List (Option IntKind)} {cs ds : List Chunk} {b : Bool} (hb : zsp cs ds = b) (hT : StrT P t fs) (h1 : zso fs cs) (h2 : zso fs ds) (ho : o.op = .binOp .neq t x y u) (hx : ev l x = some (.agg (ca cs))) (hy : ev l y = some (.agg (ca ds))) : PK P S ws l o (.bool (!b)) := hb ▸ zC6 hT h1 h2 ho hx hy
theorem zu9 {t u : TypeId} {fs : List (Option IntKind)} {cs ds : List Chunk} {b : Bool} (hb : zsp cs ds = b) (hT : StrT P t fs) (h1 : zso fs cs) (h2 : zso fs ds) (ho : o.op = .binOp .eql t x y u) (hx : ev l x = some (.agg (ca cs))) (hy : ev l y = some (.agg (ca ds))) : PK P S ws l o (.bool b) := hb ▸ zC5 hT h1 h2 ho hx hy
end
end
section
theorem zxO (v w e : Nat) : zc2 (v * w) e = zc2 v e * zc2 w e := Nat.mul_pow v w e
instance pN_nz : NeZero pN := ⟨by unfold pN; decide +kernel⟩
abbrev K := Fin pN
def toK (a : Nat) : K := ⟨a % pN, Nat.mod_lt _ zdU⟩
theorem zva (a : K) : toK a.val = a := Fin.ext (Nat.mod_eq_of_lt a.isLt)
theorem zfA (a : Nat) : (toK a).val = a % pN := rfl
theorem znz {a b : Nat} : toK a = toK b ↔ a % pN = b % pN := ⟨fun h => congrArg Fin.val h, fun h => Fin.ext h⟩
theorem zo2 (a b : Nat) : toK (a + b) = toK a + toK b := Fin.ext (Nat.add_mod a b pN)
theorem zkY (a b : Nat) : toK (a * b) = toK a * toK b := Fin.ext (Nat.mul_mod a b pN)
theorem zo3 (a : Nat) : toK (a % pN) = toK a := Fin.ext (Nat.mod_mod a pN)
theorem zgf : toK 0 = 0 := Fin.ext (by rw [zfA, Nat.zero_mod]; rfl)
theorem ziT : toK 1 = 1 := Fin.ext (by rw [zfA]; rfl)
theorem zvb (a b : Nat) : toK (fA a b) = toK a + toK b := by unfold fA; rw [zo3, zo2]
theorem zqX (a b : Nat) : toK (fM a b) = toK a * toK b := by unfold fM; rw [zo3, zkY]
theorem zg5 (a b : Nat) (h : b < pN) : toK (fS a b) = toK a - toK b := by
 unfold fS
 rw [zo3, zo2]
 have e : toK (pN - b) + toK b = 0 := by rw [← zo2, Nat.sub_add_cancel (Nat.le_of_lt h)]; exact Fin.ext (by rw [zfA, Nat.mod_self]; rfl)
 grind
theorem zcH {a b : K} (h : a * b = 0) : a = 0 ∨ b = 0 := by
 have h1 : a.val * b.val % pN = 0 := congrArg Fin.val h
 have hp : IsP pN := zao.1
 rcases znd hp (Nat.dvd_of_mod_eq_zero h1) with h2 | h2
 ·exact .inl (Fin.ext (by have := Nat.eq_zero_of_dvd_of_lt h2 a.isLt; rw [this]; rfl))
 ·exact .inr (Fin.ext (by have := Nat.eq_zero_of_dvd_of_lt h2 b.isLt; rw [this]; rfl))
theorem znZ {a b : K} (ha : a ≠ 0) (hb : b ≠ 0) : a * b ≠ 0 := fun h => (zcH h).elim ha hb
theorem zC7 (n f b e : Nat) (h : e < 2 ^ f) : pw n f b e = zc2 b e % n := zxm n f b e h
attribute [local irreducible] zc2
def iv (a : K) : K := toK (zc2 a.val 57896044618658097711785492504343953926634992332820282019728792003956564819947)
theorem zbf {a : K} (h : a ≠ 0) : a * iv a = 1 := by
 have h1 : a.val % pN ≠ 0 := fun e => h (Fin.ext (by rw [Nat.mod_eq_of_lt a.isLt] at e; rw [e]; rfl))
 have h2 := znz.2 (zAh a.val h1)
 rw [zkY, zva, ziT] at h2
 exact h2
theorem zA4 : iv 0 = 0 := by
 have h := znf 57896044618658097711785492504343953926634992332820282019728792003956564819947 pN 0 (by omega) (Nat.zero_mod _)
 have h2 : iv 0 = toK (zc2 0 57896044618658097711785492504343953926634992332820282019728792003956564819947) := rfl
 rw [h2, ← zgf]
 exact znz.2 (h.trans (Nat.zero_mod _).symm)
theorem zEy {a : K} (h : a ≠ 0) : iv a ≠ 0 := fun e => by
 have h1 := zbf h
 rw [e] at h1
 have : (0 : K) = 1 := by grind
 exact absurd (congrArg Fin.val this) (by decide +kernel)
theorem zg6 : (1 : K) ≠ 0 := fun h => absurd (congrArg Fin.val h) (by decide +kernel)
theorem zg7 : (2 : K) ≠ 0 := fun h => absurd (congrArg Fin.val h) (by decide +kernel)
theorem zA5 {a b : K} (h : a * b = 1) : iv a = b := by
 have ha : a ≠ 0 := fun e => zg6 (by rw [← h, e]; grind)
 have := zbf ha
 grind
theorem zvc {a b c : K} (h : c ≠ 0) (e : a * c = b * c) : a = b := by
 have := zbf h
 have e2 : a * c * iv c = b * c * iv c := by rw [e]
 grind
def pk (a : K) (n : Nat) : K := toK (zc2 a.val n)
theorem zC8 (a : K) : pk a 1 = a := by unfold pk; rw [zqH, zva]
theorem zqY (a : K) (m n : Nat) : pk a m * pk a n = pk a (m + n) := by unfold pk; rw [← zkY, zqI]
theorem zC9 (a b : K) (n : Nat) : pk (a * b) n = pk a n * pk b n := by
 unfold pk
 rw [← zkY, ← zxO]
 exact znz.2 (zxp _ _ _ _ (by rw [show (a * b).val = a.val * b.val % pN from rfl, Nat.mod_mod]))
theorem zA6 {a : K} (h : a ≠ 0) : pk a 57896044618658097711785492504343953926634992332820282019728792003956564819948 = 1 := by
 have h1 : a.val % pN ≠ 0 := fun e => h (Fin.ext (by rw [Nat.mod_eq_of_lt a.isLt] at e; rw [e]; rfl))
 have h2 := zng a.val h1
 unfold pk
 rw [← ziT]
 exact znz.2 (h2.trans (Nat.mod_eq_of_lt zhE).symm)
theorem zhK {a : K} (h : a * a = 1) : a = 1 ∨ a = -1 := by
 have : (a - 1) * (a + 1) = 0 := by grind
 rcases zcH this with h1 | h1
 ·exact .inl (by grind)
 ·exact .inr (by grind)
def hf (a : K) : K := pk a 28948022309329048855892746252171976963317496166410141009864396001978282409974
theorem zqZ {a : K} (h : a ≠ 0) : hf a = 1 ∨ hf a = -1 := zhK (by
 unfold hf
 rw [zqY]
 exact zA6 h)
theorem zvd (a b : K) : hf (a * b) = hf a * hf b := zC9 a b _
theorem zEz {a : K} (h : a ≠ 0) : hf (a * a) = 1 := by
 rw [zvd]
 rcases zqZ h with h1 | h1 <;> rw [h1] <;> grind
theorem zq0 : (-1 : K) ≠ 1 := fun h => absurd (congrArg Fin.val h) (by decide +kernel)
theorem zve {a : K} (h : hf a = 1) : ∃ r : K, r * r = a := by
 have h1 : pk a 14474011154664524427946373126085988481658748083205070504932198000989141204987 * pk a 14474011154664524427946373126085988481658748083205070504932198000989141204987 = 1 := by rw [zqY]; exact h
 have h2 : pk a 7237005577332262213973186563042994240829374041602535252466099000494570602494 * pk a 7237005577332262213973186563042994240829374041602535252466099000494570602494 = pk a 14474011154664524427946373126085988481658748083205070504932198000989141204987 * a := by
  rw [zqY]
  have := zqY a 14474011154664524427946373126085988481658748083205070504932198000989141204987 1
  rw [zC8] at this
  rw [this]
 rcases zhK h1 with h3 | h3
 ·exact ⟨_, by rw [h2, h3]; grind⟩
 ·have hi : toK 19681161376707505956807079304988542015446066515923890162744021073123829784752 * toK 19681161376707505956807079304988542015446066515923890162744021073123829784752 = (-1 : K) := by decide +kernel
  generalize toK 19681161376707505956807079304988542015446066515923890162744021073123829784752 = i at hi
  generalize pk a 7237005577332262213973186563042994240829374041602535252466099000494570602494 = r at h2
  exact ⟨i * r, by rw [show i * r * (i * r) = i * i * (r * r) by grind, hi, h2, h3]; grind⟩
theorem zDa (v : Nat) (k : Nat) (h : pw pN 256 (v % pN) 28948022309329048855892746252171976963317496166410141009864396001978282409974 = k) : hf (toK v) = toK k := by
 unfold hf pk
 rw [zfA]
 have h1 := zC7 pN 256 (v % pN) 28948022309329048855892746252171976963317496166410141009864396001978282409974 (by decide +kernel)
 refine znz.2 ?_
 rw [← h1, h]
 rw [← h, h1, Nat.mod_mod]
def cA : K := toK 486662
theorem zkZ : hf (cA - 2) = -1 := by
 have h := zDa 486660 57896044618658097711785492504343953926634992332820282019728792003956564819948 (by decide +kernel)
 have e1 : cA - 2 = toK 486660 := by decide +kernel
 have e2 : (-1 : K) = toK 57896044618658097711785492504343953926634992332820282019728792003956564819948 := by decide +kernel
 rw [e1, h, e2]
def cS : K := toK 48802004052532134862652268456126542835229456083994414501085850622543968879637
theorem zDb : cS * cS = cA + 2 := by decide +kernel
theorem zk0 : cA + 2 ≠ 0 := fun h => absurd (congrArg Fin.val h) (by decide +kernel)
theorem zk1 : cA - 2 ≠ 0 := fun h => absurd (congrArg Fin.val h) (by decide +kernel)
theorem zq1 {a r : K} (h : r * r = a) (ha : a ≠ 0) : hf a = 1 := by
 rw [← h]
 exact zEz fun e => ha (by rw [← h, e]; grind)
theorem zvf : hf (cA + 2) = 1 := zq1 zDb zk0
theorem zA7 (s : K) : s * s ≠ (cA - 2) * (cA + 2) := fun h => by
 have h1 := zq1 h (znZ zk1 zk0)
 rw [zvd, zkZ, zvf] at h1
 exact zq0 (by grind)
theorem zFs (x1 y1 x2 y2 x3 y3 d i : K) (hd : d * i = 1) (h1 : x1 * x1 + y1 * y1 = 1 + d * (x1 * x1) * (y1 * y1)) (h2 : x2 * x2 + y2 * y2 = 1 + d * (x2 * x2) * (y2 * y2)) (h3 : x3 * x3 + y3 * y3 = 1 + d * (x3 * x3) * (y3 * y3)) :
  ((x1 * y2 + y1 * x2) * (1 - d * (x1 * x2) * (y1 * y2)) * y3 + (y1 * y2 - x1 * x2) * (1 + d * (x1 * x2) * (y1 * y2)) * x3) * ((1 + d * (x2 * x3) * (y2 * y3)) * (1 - d * (x2 * x3) * (y2 * y3)) + d * (x2 * y3 + y2 * x3) * (y2 * y3 - x2 * x3) * (x1 * y1)) =
  (x1 * (y2 * y3 - x2 * x3) * (1 + d * (x2 * x3) * (y2 * y3)) + y1 * (x2 * y3 + y2 * x3) * (1 - d * (x2 * x3) * (y2 * y3))) * ((1 + d * (x1 * x2) * (y1 * y2)) * (1 - d * (x1 * x2) * (y1 * y2)) + d * (x1 * y2 + y1 * x2) * (y1 * y2 - x1 * x2) * (x3 * y3)) := by grind
theorem zFt (x1 y1 x2 y2 x3 y3 d i : K) (hd : d * i = 1) (h1 : x1 * x1 + y1 * y1 = 1 + d * (x1 * x1) * (y1 * y1)) (h2 : x2 * x2 + y2 * y2 = 1 + d * (x2 * x2) * (y2 * y2)) (h3 : x3 * x3 + y3 * y3 = 1 + d * (x3 * x3) * (y3 * y3)) :
  ((y1 * y2 - x1 * x2) * (1 + d * (x1 * x2) * (y1 * y2)) * y3 - (x1 * y2 + y1 * x2) * (1 - d * (x1 * x2) * (y1 * y2)) * x3) * ((1 + d * (x2 * x3) * (y2 * y3)) * (1 - d * (x2 * x3) * (y2 * y3)) - d * (x2 * y3 + y2 * x3) * (y2 * y3 - x2 * x3) * (x1 * y1)) =
  (y1 * (y2 * y3 - x2 * x3) * (1 + d * (x2 * x3) * (y2 * y3)) - x1 * (x2 * y3 + y2 * x3) * (1 - d * (x2 * x3) * (y2 * y3))) * ((1 + d * (x1 * x2) * (y1 * y2)) * (1 - d * (x1 * x2) * (y1 * y2)) - d * (x1 * y2 + y1 * x2) * (y1 * y2 - x1 * x2) * (x3 * y3)) := by grind
theorem fr1 {a e y c b x B E : K} (p : b * B = 1) (q : e * E = 1) : (a * e * y + c * b * x) * B * E = a * B * y + c * E * x := by
 rw [show (a * e * y + c * b * x) * B * E = a * B * y * (e * E) + c * E * x * (b * B) by grind, p, q]; grind
theorem zFu {a e y c b x B E : K} (p : b * B = 1) (q : e * E = 1) : (c * b * y - a * e * x) * B * E = c * E * y - a * B * x := by
 rw [show (c * b * y - a * e * x) * B * E = c * E * y * (b * B) - a * B * x * (e * E) by grind, p, q]; grind
theorem fr2 {d a c x y b e B E : K} (p : b * B = 1) (q : e * E = 1) : (b * e + d * a * c * (x * y)) * B * E = 1 + d * (a * B * x) * (c * E * y) := by
 rw [show (b * e + d * a * c * (x * y)) * B * E = b * B * (e * E) + d * (a * B * x) * (c * E * y) by grind, p, q]; grind
theorem zEV {d a c x y b e B E : K} (p : b * B = 1) (q : e * E = 1) : (b * e - d * a * c * (x * y)) * B * E = 1 - d * (a * B * x) * (c * E * y) := by
 rw [show (b * e - d * a * c * (x * y)) * B * E = b * B * (e * E) - d * (a * B * x) * (c * E * y) by grind, p, q]; grind
theorem fr3 {d a c x y b e B E : K} (p : b * B = 1) (q : e * E = 1) : (b * e + d * a * c * (x * y)) * B * E = 1 + d * (x * (a * B)) * (y * (c * E)) := by
 rw [fr2 p q]; grind
theorem zFv {d a c x y b e B E : K} (p : b * B = 1) (q : e * E = 1) : (b * e - d * a * c * (x * y)) * B * E = 1 - d * (x * (a * B)) * (y * (c * E)) := by
 rw [zEV p q]; grind
theorem fr4 {x c b y a e B E : K} (p : b * B = 1) (q : e * E = 1) : (x * c * b + y * a * e) * B * E = x * (c * E) + y * (a * B) := by
 rw [show (x * c * b + y * a * e) * B * E = x * (c * E) * (b * B) + y * (a * B) * (e * E) by grind, p, q]; grind
theorem zFw {x c b y a e B E : K} (p : b * B = 1) (q : e * E = 1) : (y * c * b - x * a * e) * B * E = y * (c * E) - x * (a * B) := by
 rw [show (y * c * b - x * a * e) * B * E = y * (c * E) * (b * B) - x * (a * B) * (e * E) by grind, p, q]; grind
theorem fr6 {u v B E B' E' w z : K} (h : u * v = w * z) : u * B * E * (v * B' * E') = w * B' * E' * (z * B * E) := by
 rw [show u * B * E * (v * B' * E') = u * v * (B * E * B' * E') by grind, h]; grind
theorem zeF : (1 : K) - 0 = 1 := by decide +kernel
theorem fr5 {u v m m' M M' : K} (h : u * m' = v * m) (q : m * M = 1) (q' : m' * M' = 1) : u * M = v * M' := by
 have h1 : u * M = u * m' * M * M' := by rw [show u * m' * M * M' = u * M * (m' * M') by grind, q']; grind
 have h2 : v * M' = v * m * M * M' := by rw [show v * m * M * M' = v * M' * (m * M) by grind, q]; grind
 rw [h1, h2, h]
structure Ed where
 x : K
 y : K
def On (d : K) (P : Ed) : Prop := P.x * P.x + P.y * P.y = 1 + d * (P.x * P.x) * (P.y * P.y)
def zn0 (d : K) : Prop := ∀ s : K, s * s ≠ d
def tE (d : K) (P Q : Ed) : K := d * (P.x * Q.x) * (P.y * Q.y)
def zbS (d : K) (P Q : Ed) : Ed := ⟨(P.x * Q.y + P.y * Q.x) * iv (1 + tE d P Q), (P.y * Q.y - P.x * Q.x) * iv (1 - tE d P Q)⟩
def zn1 (P : Ed) : Ed := ⟨-P.x, P.y⟩
def zfE : Ed := ⟨0, 1⟩
theorem zEW {d : K} (hd : zn0 d) {P Q : Ed} (hP : On d P) (hQ : On d Q) : tE d P Q * tE d P Q ≠ 1 := by
 obtain ⟨x1, y1⟩ := P
 obtain ⟨x2, y2⟩ := Q
 unfold On tE at *
 dsimp only at *
 intro ht
 generalize hT : d * (x1 * x2) * (y1 * y2) = t at ht
 have hxy : x1 * y1 ≠ 0 := fun e => zg6 (by rw [← ht, ← hT]; grind)
 have k1 : (x1 + t * y1) * (x1 + t * y1) = d * ((x1 * y1) * (x2 + y2)) * ((x1 * y1) * (x2 + y2)) := by grind
 have k2 : (x1 - t * y1) * (x1 - t * y1) = d * ((x1 * y1) * (x2 - y2)) * ((x1 * y1) * (x2 - y2)) := by grind
 have key : ∀ a b : K, a * a = d * b * b → b = 0 := by
  intro a b h
  refine Classical.byContradiction fun hb => ?_
  have hi := zbf hb
  refine hd (a * iv b) ?_
  grind
 have z1 := key _ _ k1
 have z2 := key _ _ k2
 have z3 : x2 + y2 = 0 := (zcH z1).resolve_left hxy
 have z4 : x2 - y2 = 0 := (zcH z2).resolve_left hxy
 have z5 : x2 = 0 := by
  have : 2 * x2 = 0 := by grind
  exact (zcH this).resolve_left zg7
 exact zg6 (by rw [← ht, ← hT, z5]; grind)
theorem zeb {d : K} (hd : zn0 d) {P Q : Ed} (hP : On d P) (hQ : On d Q) : 1 + tE d P Q ≠ 0 := fun e => zEW hd hP hQ (by grind)
theorem zb7 {d : K} (hd : zn0 d) {P Q : Ed} (hP : On d P) (hQ : On d Q) : 1 - tE d P Q ≠ 0 := fun e => zEW hd hP hQ (by grind)
theorem zDc (d : K) : On d zfE := by unfold On zfE; dsimp only; grind
theorem zq2 {d : K} {P : Ed} (h : On d P) : On d (zn1 P) := by unfold On zn1 at *; dsimp only; grind
theorem znA {d : K} (hd : zn0 d) {P Q : Ed} (hP : On d P) (hQ : On d Q) : On d (zbS d P Q) := by
 have p1 := zbf (zeb hd hP hQ)
 have p2 := zbf (zb7 hd hP hQ)
 have p1' := zeb hd hP hQ
 have p2' := zb7 hd hP hQ
 unfold On zbS tE at *
 dsimp only
 generalize iv (1 + d * (P.x * Q.x) * (P.y * Q.y)) = B at *
 generalize iv (1 - d * (P.x * Q.x) * (P.y * Q.y)) = E at *
 generalize P.x = x1 at *
 generalize P.y = y1 at *
 generalize Q.x = x2 at *
 generalize Q.y = y2 at *
 have key : ((x1 * y2 + y1 * x2) * (x1 * y2 + y1 * x2)) * ((1 - d * (x1 * x2) * (y1 * y2)) * (1 - d * (x1 * x2) * (y1 * y2))) + ((y1 * y2 - x1 * x2) * (y1 * y2 - x1 * x2)) * ((1 + d * (x1 * x2) * (y1 * y2)) * (1 + d * (x1 * x2) * (y1 * y2))) = ((1 - d * (x1 * x2) * (y1 * y2)) * (1 - d * (x1 * x2) * (y1 * y2))) * ((1 + d * (x1 * x2) * (y1 * y2)) * (1 + d * (x1 * x2) * (y1 * y2))) + d * ((x1 * y2 + y1 * x2) * (x1 * y2 + y1 * x2)) * ((y1 * y2 - x1 * x2) * (y1 * y2 - x1 * x2)) := by grind
 generalize 1 + d * (x1 * x2) * (y1 * y2) = b at *
 generalize 1 - d * (x1 * x2) * (y1 * y2) = e at *
 generalize x1 * y2 + y1 * x2 = a at *
 generalize y1 * y2 - x1 * x2 = c at *
 clear hP hQ
 refine zvc (znZ (znZ p1' p1') (znZ p2' p2')) ?_
 grind
theorem zvg {d : K} (P Q : Ed) : zbS d P Q = zbS d Q P := by
 unfold zbS tE
 congr 1
 ·congr 1
  ·grind
  ·congr 1
   grind
 ·congr 1
  ·grind
  ·congr 1
   grind
theorem zq3 {d : K} (P : Ed) : zbS d P zfE = P := by
 have h1 : iv (1 : K) = 1 := zA5 (by grind)
 unfold zbS tE zfE
 dsimp only
 have z : d * (P.x * 0) * (P.y * 1) = 0 := by grind
 have z1 : ∀ t : K, t = 0 → 1 + t = 1 := fun t h => by rw [h]; exact Fin.add_zero 1
 have z2 : ∀ t : K, t = 0 → 1 - t = 1 := fun t h => by rw [h]; exact zeF
 rw [z1 _ z, z2 _ z, h1, show (P.x * 1 + P.y * 0) * 1 = P.x by grind, show (P.y * 1 - P.x * 0) * 1 = P.y by grind]
theorem zDd {d : K} (hd : zn0 d) {P : Ed} (h : On d P) : zbS d P (zn1 P) = zfE := by
 have p1 := zbf (zeb hd h (zq2 h))
 have p2 := zbf (zb7 hd h (zq2 h))
 unfold zbS zfE
 unfold tE zn1 On at *
 dsimp only at *
 generalize iv _ = B at *
 generalize iv _ = E at *
 congr 1
 ·grind
 ·grind
theorem zq4 {d : K} (hd : zn0 d) {P Q R : Ed} (hP : On d P) (hQ : On d Q) (hR : On d R) (d0 : d ≠ 0) : zbS d (zbS d P Q) R = zbS d P (zbS d Q R) := by
 have i0 := zbf d0
 have p1 := zbf (zeb hd hP hQ)
 have p2 := zbf (zb7 hd hP hQ)
 have p3 := zbf (zeb hd hQ hR)
 have p4 := zbf (zb7 hd hQ hR)
 have q1 := zbf (zeb hd (znA hd hP hQ) hR)
 have q2 := zbf (zb7 hd (znA hd hP hQ) hR)
 have q3 := zbf (zeb hd hP (znA hd hQ hR))
 have q4 := zbf (zb7 hd hP (znA hd hQ hR))
 rw [show zbS d (zbS d P Q) R = ⟨((zbS d P Q).x * R.y + (zbS d P Q).y * R.x) * iv (1 + tE d (zbS d P Q) R), ((zbS d P Q).y * R.y - (zbS d P Q).x * R.x) * iv (1 - tE d (zbS d P Q) R)⟩ from rfl, show zbS d P (zbS d Q R) = ⟨(P.x * (zbS d Q R).y + P.y * (zbS d Q R).x) * iv (1 + tE d P (zbS d Q R)), (P.y * (zbS d Q R).y - P.x * (zbS d Q R).x) * iv (1 - tE d P (zbS d Q R))⟩ from rfl]
 unfold On at hP hQ hR
 generalize iv (1 + tE d (zbS d P Q) R) = M at *
 generalize iv (1 - tE d (zbS d P Q) R) = N at *
 generalize iv (1 + tE d P (zbS d Q R)) = M' at *
 generalize iv (1 - tE d P (zbS d Q R)) = N' at *
 unfold zbS at *
 dsimp only at *
 unfold tE at *
 dsimp only at *
 generalize P.x = x1 at *
 generalize P.y = y1 at *
 generalize Q.x = x2 at *
 generalize Q.y = y2 at *
 generalize R.x = x3 at *
 generalize R.y = y3 at *
 generalize iv (1 + d * (x1 * x2) * (y1 * y2)) = B at *
 generalize iv (1 - d * (x1 * x2) * (y1 * y2)) = E at *
 generalize iv (1 + d * (x2 * x3) * (y2 * y3)) = B' at *
 generalize iv (1 - d * (x2 * x3) * (y2 * y3)) = E' at *
 generalize iv d = i at *
 have kx := zFs x1 y1 x2 y2 x3 y3 d i i0 hP hQ hR
 have ky := zFt x1 y1 x2 y2 x3 y3 d i i0 hP hQ hR
 clear hP hQ hR i0
 generalize 1 + d * (x1 * x2) * (y1 * y2) = b at *
 generalize 1 - d * (x1 * x2) * (y1 * y2) = e at *
 generalize 1 + d * (x2 * x3) * (y2 * y3) = b' at *
 generalize 1 - d * (x2 * x3) * (y2 * y3) = e' at *
 generalize x1 * y2 + y1 * x2 = a at *
 generalize y1 * y2 - x1 * x2 = c at *
 generalize x2 * y3 + y2 * x3 = a' at *
 generalize y2 * y3 - x2 * x3 = c' at *
 refine (congr (congrArg Ed.mk ?_) ?_)
 ·have g1 := fr6 (B := B) (E := E) (B' := B') (E' := E') kx
  rw [fr1 p1 p2, fr3 p3 p4, fr4 p3 p4, fr2 p1 p2] at g1
  exact fr5 g1 q1 q3
 ·have g1 := fr6 (B := B) (E := E) (B' := B') (E' := E') ky
  rw [zFu p1 p2, zFv p3 p4, zFw p3 p4, zEV p1 p2] at g1
  exact fr5 g1 q2 q4
end
section
attribute [local irreducible] zc2
def zcV (d : K) (P : Ed) : Nat → Ed
 | 0 => zfE
 | n + 1 => zbS d (zcV d P n) P
theorem zeG {d : K} (hd : zn0 d) {P : Ed} (h : On d P) : ∀ n, On d (zcV d P n)
 | 0 => zDc d
 | n + 1 => znA hd (zeG hd h n) h
theorem ziU {d : K} (P : Ed) : zbS d zfE P = P := by rw [zvg, zq3]
theorem ze6 {d : K} (hd : zn0 d) (d0 : d ≠ 0) {P : Ed} (h : On d P) (m : Nat) : ∀ n, zcV d P (m + n) = zbS d (zcV d P m) (zcV d P n)
 | 0 => (zq3 _).symm
 | n + 1 => by
  rw [← Nat.add_assoc, show zcV d P (m + n + 1) = zbS d (zcV d P (m + n)) P from rfl, ze6 hd d0 h m n, show zcV d P (n + 1) = zbS d (zcV d P n) P from rfl]
  exact zq4 hd (zeG hd h m) (zeG hd h n) h d0
theorem zhL {d : K} (hd : zn0 d) (d0 : d ≠ 0) {P : Ed} (h : On d P) (m : Nat) : ∀ n, zcV d (zcV d P m) n = zcV d P (m * n)
 | 0 => rfl
 | n + 1 => by
  rw [show zcV d (zcV d P m) (n + 1) = zbS d (zcV d (zcV d P m) n) (zcV d P m) from rfl, zhL hd d0 h m n, Nat.mul_succ, ze6 hd d0 h]
theorem zxP {d : K} (hd : zn0 d) (d0 : d ≠ 0) {P : Ed} (h : On d P) (n : Nat) : zbS d (zcV d P (n + 1)) (zn1 (zcV d P n)) = P := by
 rw [show zcV d P (n + 1) = zbS d (zcV d P n) P from rfl, zvg (zcV d P n) P, zq4 hd h (zeG hd h n) (zq2 (zeG hd h n)) d0, zDd hd (zeG hd h n), zq3]
theorem zo4 {d : K} : ∀ n, zcV d zfE n = zfE
 | 0 => rfl
 | n + 1 => by rw [show zcV d zfE (n + 1) = zbS d (zcV d zfE n) zfE from rfl, zo4 n, zq3]
def zho : Ed := ⟨0, -1⟩
theorem znB {d : K} : zbS d zho zho = zfE := by
 have h1 : iv (1 : K) = 1 := zA5 (by grind)
 unfold zbS tE zho zfE
 dsimp only
 have z : d * (0 * 0) * (-1 * -1) = (0 : K) := by grind
 have z1 : (1 : K) + 0 = 1 := Fin.add_zero 1
 rw [z, z1, zeF, h1]
 congr 1 <;> decide +kernel
theorem zq5 {d : K} : ∀ n, zcV d zho n = zfE ∨ zcV d zho n = zho
 | 0 => .inl rfl
 | n + 1 => by
  rw [show zcV d zho (n + 1) = zbS d (zcV d zho n) zho from rfl]
  rcases zq5 (d := d) n with h | h
  ·rw [h, ziU]; exact .inr rfl
  ·rw [h, znB]; exact .inl rfl
def cB : K := toK 121665
theorem zDe : cA = 4 * cB + 2 := by decide +kernel
structure Cv (d e : K) : Prop where
 free : zn0 d
 nz : d ≠ 0
 way : e = 1 ∧ d * (cB + 1) = cB ∨ e = -1 ∧ d * cB = cB + 1
def Rep (e X Z : K) (P : Ed) : Prop := X * (1 - P.y) = e * Z * (1 + P.y) ∧ ¬(X = 0 ∧ Z = 0)
theorem zEA : (2 : K) * iv 2 = 1 := zbf zg7
theorem zo5 {e X Z : K} {P : Ed} (he : e * e = 1) (h : Rep e X Z P) : ∃ l : K, l ≠ 0 ∧ X = e * l * (1 + P.y) ∧ Z = l * (1 - P.y) := by
 obtain ⟨h1, h2⟩ := h
 have h3 := zEA
 generalize iv (2 : K) = t at h3
 have a1 : X = e * ((e * X + Z) * t) * (1 + P.y) := by
  generalize P.y = y at *
  grind
 have a2 : Z = (e * X + Z) * t * (1 - P.y) := by
  generalize P.y = y at *
  grind
 refine ⟨_, fun e0 => h2 ?_, a1, a2⟩
 rw [e0] at a1 a2
 exact ⟨by rw [a1]; grind, by rw [a2]; grind⟩
theorem ee {d e : K} (h : Cv d e) : e * e = 1 := by rcases h.way with ⟨h1, _⟩ | ⟨h1, _⟩ <;> rw [h1] <;> decide +kernel
theorem zxQ {d y x c : K} (hd : d * (c + 1) = c) (h : x * x + y * y = 1 + d * (x * x) * (y * y)) : (1 - x * x) * (1 + c * (1 - y * y)) = y * y := by grind
theorem zxR {d y x c : K} (hd : d * c = c + 1) (h : x * x + y * y = 1 + d * (x * x) * (y * y)) : (1 - x * x) * (c - (c + 1) * (y * y)) = -(y * y) := by grind
theorem zEB {d : K} {P : Ed} (hd : zn0 d) (h : On d P) : ∃ q : K, q ≠ 0 ∧ q * (1 - (zbS d P P).y) = 2 - 2 * (P.y * P.y) ∧ q * (1 + (zbS d P P).y) = 2 - 2 * (P.x * P.x) := by
 have p2 := zbf (zb7 hd h h)
 have p2' := zb7 hd h h
 refine ⟨_, p2', ?_, ?_⟩
 ·unfold zbS
  unfold tE On at *
  dsimp only at *
  generalize iv _ = E at *
  generalize P.x = x at *
  generalize P.y = y at *
  rw [show (1 - d * (x * x) * (y * y)) * (1 - (y * y - x * x) * E) = (1 - d * (x * x) * (y * y)) - (y * y - x * x) * ((1 - d * (x * x) * (y * y)) * E) by clear h p2 p2'; grind, p2]
  clear p2 p2'
  grind
 ·unfold zbS
  unfold tE On at *
  dsimp only at *
  generalize iv _ = E at *
  generalize P.x = x at *
  generalize P.y = y at *
  rw [show (1 - d * (x * x) * (y * y)) * (1 + (y * y - x * x) * E) = (1 - d * (x * x) * (y * y)) + (y * y - x * x) * ((1 - d * (x * x) * (y * y)) * E) by clear h p2 p2'; grind, p2]
  clear p2 p2'
  grind
theorem zcr {a b c : K} (h : c ≠ 0) (e : c * a = c * b) : a = b := zvc h (by rw [show a * c = c * a by grind, e]; grind)
theorem zjM : (16 : K) ≠ 0 := fun h => absurd (congrArg Fin.val h) (by decide +kernel)
theorem zEC : cB ≠ 0 := fun h => absurd (congrArg Fin.val h) (by decide +kernel)
theorem zDf : cB + 1 ≠ 0 := fun h => absurd (congrArg Fin.val h) (by decide +kernel)
theorem zA8 {d e X Z : K} {P : Ed} (hc : Cv d e) (hP : On d P) (h : Rep e X Z P) :
  Rep e (((X + Z) * (X + Z)) * ((X - Z) * (X - Z))) (((X + Z) * (X + Z) - (X - Z) * (X - Z)) * ((X + Z) * (X + Z) + cB * ((X + Z) * (X + Z) - (X - Z) * (X - Z)))) (zbS d P P) := by
 obtain ⟨l, hl, e1, e2⟩ := zo5 (ee hc) h
 obtain ⟨q, hq, k1, k2⟩ := zEB hc.free hP
 clear h
 unfold Rep
 have c0 := zEC
 have c1 := zDf
 have w := hc.way
 generalize cB = c at *
 generalize (zbS d P P).y = Y at *
 unfold On at hP
 generalize P.x = x at *
 generalize P.y = y at *
 have l4 : 16 * (l * l * l * l) ≠ 0 := znZ zjM (znZ (znZ (znZ hl hl) hl) hl)
 subst e1 e2
 rcases w with ⟨he, hd⟩ | ⟨he, hd⟩
 ·subst he
  have k3 := zxQ hd hP
  have g1 : (1 * l * (1 + y) + l * (1 - y)) * (1 * l * (1 + y) + l * (1 - y)) = 4 * (l * l) := by clear k1 k2 k3 hP hd; grind
  have g2 : (1 * l * (1 + y) - l * (1 - y)) * (1 * l * (1 + y) - l * (1 - y)) = 4 * (l * l) * (y * y) := by clear k1 k2 k3 hP hd; grind
  rw [g1, g2]
  clear g1 g2
  have g3 : 4 * (l * l) * (4 * (l * l) * (y * y)) = 16 * (l * l * l * l) * (y * y) := by clear k1 k2 k3 hP hd; grind
  have g4 : (4 * (l * l) - 4 * (l * l) * (y * y)) * (4 * (l * l) + c * (4 * (l * l) - 4 * (l * l) * (y * y))) = 16 * (l * l * l * l) * ((1 - y * y) * (1 + c * (1 - y * y))) := by clear k1 k2 k3 hP hd; grind
  rw [g3, g4]
  clear g3 g4
  generalize 16 * (l * l * l * l) = m at *
  refine ⟨zcr hq ?_, fun ⟨z1, z2⟩ => ?_⟩
  ·rw [show q * (m * (y * y) * (1 - Y)) = m * (y * y) * (q * (1 - Y)) by clear k1 k2 k3 hP hd; grind, show q * (1 * (m * ((1 - y * y) * (1 + c * (1 - y * y)))) * (1 + Y)) = m * ((1 - y * y) * (1 + c * (1 - y * y))) * (q * (1 + Y)) by clear k1 k2 k3 hP hd; grind, k1, k2, show m * ((1 - y * y) * (1 + c * (1 - y * y))) * (2 - 2 * (x * x)) = m * (2 - 2 * (y * y)) * ((1 - x * x) * (1 + c * (1 - y * y))) by clear k1 k2 k3 hP hd; grind, k3]
   clear k1 k2 k3 hP hd
   grind
  ·have z3 := (zcH z1).resolve_left l4
   have z4 := (zcH z2).resolve_left l4
   rw [z3] at z4
   exact c1 (by clear k1 k2 k3 hP hd; grind)
 ·subst he
  have k3 := zxR hd hP
  have g1 : (-1 * l * (1 + y) + l * (1 - y)) * (-1 * l * (1 + y) + l * (1 - y)) = 4 * (l * l) * (y * y) := by clear k1 k2 k3 hP hd; grind
  have g2 : (-1 * l * (1 + y) - l * (1 - y)) * (-1 * l * (1 + y) - l * (1 - y)) = 4 * (l * l) := by clear k1 k2 k3 hP hd; grind
  rw [g1, g2]
  clear g1 g2
  have g3 : 4 * (l * l) * (y * y) * (4 * (l * l)) = 16 * (l * l * l * l) * (y * y) := by clear k1 k2 k3 hP hd; grind
  have g4 : (4 * (l * l) * (y * y) - 4 * (l * l)) * (4 * (l * l) * (y * y) + c * (4 * (l * l) * (y * y) - 4 * (l * l))) = 16 * (l * l * l * l) * ((1 - y * y) * (c - (c + 1) * (y * y))) := by clear k1 k2 k3 hP hd; grind
  rw [g3, g4]
  clear g3 g4
  generalize 16 * (l * l * l * l) = m at *
  refine ⟨zcr hq ?_, fun ⟨z1, z2⟩ => ?_⟩
  ·rw [show q * (m * (y * y) * (1 - Y)) = m * (y * y) * (q * (1 - Y)) by clear k1 k2 k3 hP hd; grind, show q * (-1 * (m * ((1 - y * y) * (c - (c + 1) * (y * y)))) * (1 + Y)) = -(m * ((1 - y * y) * (c - (c + 1) * (y * y))) * (q * (1 + Y))) by clear k1 k2 k3 hP hd; grind, k1, k2, show m * ((1 - y * y) * (c - (c + 1) * (y * y))) * (2 - 2 * (x * x)) = m * (2 - 2 * (y * y)) * ((1 - x * x) * (c - (c + 1) * (y * y))) by clear k1 k2 k3 hP hd; grind, k3]
   clear k1 k2 k3 hP hd
   grind
  ·have z3 := (zcH z1).resolve_left l4
   have z4 := (zcH z2).resolve_left l4
   rw [z3] at z4
   exact c0 (by clear k1 k2 k3 hP hd; grind)
theorem zED {d : K} {P Q : Ed} (hd : zn0 d) (hP : On d P) (hQ : On d Q) : (P.y + Q.y) * (P.y + Q.y) * ((1 - (zbS d P Q).y) * (1 - (zbS d P (zn1 Q)).y)) = (P.y - Q.y) * (P.y - Q.y) * ((1 + (zbS d P Q).y) * (1 + (zbS d P (zn1 Q)).y)) := by
 have p1 := zbf (zeb hd hP hQ)
 have p2 := zbf (zb7 hd hP hQ)
 have p3 := zbf (zb7 hd hP (zq2 hQ))
 have p1' := zeb hd hP hQ
 have p2' := zb7 hd hP hQ
 unfold zbS
 unfold tE zn1 On at *
 dsimp only at *
 have t1 : 1 - d * (P.x * -Q.x) * (P.y * Q.y) = 1 + d * (P.x * Q.x) * (P.y * Q.y) := by clear p1 p2 p3 hP hQ p1' p2'; grind
 rw [t1] at p3 ⊢
 clear p3 t1
 generalize iv (1 + d * (P.x * Q.x) * (P.y * Q.y)) = B at *
 generalize iv (1 - d * (P.x * Q.x) * (P.y * Q.y)) = E at *
 generalize P.x = x1 at *
 generalize P.y = y1 at *
 generalize Q.x = x2 at *
 generalize Q.y = y2 at *
 have key : (y1 + y2) * (y1 + y2) * ((1 - d * (x1 * x2) * (y1 * y2) - (y1 * y2 - x1 * x2)) * (1 + d * (x1 * x2) * (y1 * y2) - (y1 * y2 + x1 * x2))) = (y1 - y2) * (y1 - y2) * ((1 - d * (x1 * x2) * (y1 * y2) + (y1 * y2 - x1 * x2)) * (1 + d * (x1 * x2) * (y1 * y2) + (y1 * y2 + x1 * x2))) := by clear p1 p2 p1' p2'; grind
 generalize 1 + d * (x1 * x2) * (y1 * y2) = b at *
 generalize 1 - d * (x1 * x2) * (y1 * y2) = q at *
 clear hP hQ
 rw [show y1 * y2 - x1 * -x2 = y1 * y2 + x1 * x2 by clear p1 p2 key p1' p2'; grind]
 generalize y1 * y2 - x1 * x2 = s at *
 generalize y1 * y2 + x1 * x2 = r at *
 have m1 : q * (1 - s * E) = q - s := by clear p1 key p1' p2'; grind
 have m2 : q * (1 + s * E) = q + s := by clear p1 key p1' p2'; grind
 have m3 : b * (1 - r * B) = b - r := by clear p2 key p1' p2'; grind
 have m4 : b * (1 + r * B) = b + r := by clear p2 key p1' p2'; grind
 clear p1 p2
 generalize 1 - s * E = u1 at *
 generalize 1 + s * E = u2 at *
 generalize 1 - r * B = u3 at *
 generalize 1 + r * B = u4 at *
 refine zcr (znZ p2' p1') ?_
 rw [show q * b * ((y1 + y2) * (y1 + y2) * (u1 * u3)) = (y1 + y2) * (y1 + y2) * ((q * u1) * (b * u3)) by clear key m1 m2 m3 m4 p1' p2'; grind, show q * b * ((y1 - y2) * (y1 - y2) * (u2 * u4)) = (y1 - y2) * (y1 - y2) * ((q * u2) * (b * u4)) by clear key m1 m2 m3 m4 p1' p2'; grind, m1, m2, m3, m4]
 exact key
theorem zq6 {d x1 y1 : K} (h : x1 * x1 + y1 * y1 = 1 + d * (x1 * x1) * (y1 * y1)) (hy : y1 = 0) : x1 * x1 = 1 := by
 have h1 : x1 * x1 = (x1 * x1 + y1 * y1) - y1 * y1 := by clear h hy; grind
 rw [h1, h, hy]
 clear h h1
 have h2 : ∀ t : K, 1 + t * (0 * 0) - 0 * 0 = 1 := fun t => by
  have z : t * (0 * 0) = 0 := by grind
  rw [z]
  decide +kernel
 exact h2 _
theorem zxS {d : K} {P Q : Ed} (hP : On d P) (hQ : On d Q) (h1 : P.y = 0) (h2 : Q.y = 0) : (zbS d P (zn1 Q)).y * (zbS d P (zn1 Q)).y = 1 := by
 have e1 := zq6 hP h1
 have e2 := zq6 hQ h2
 have i1 : iv (1 : K) = 1 := zA5 (by grind)
 unfold zbS tE zn1
 dsimp only
 rw [h1, h2, show d * (P.x * -Q.x) * (0 * 0) = 0 by clear e1 e2 hP hQ h1 h2; grind, zeF, i1]
 generalize P.x = x1 at *
 generalize Q.x = x2 at *
 rw [show (0 * 0 - x1 * -x2) * 1 * ((0 * 0 - x1 * -x2) * 1) = (x1 * x1) * (x2 * x2) by clear e1 e2 hP hQ h1 h2; grind, e1, e2]
 decide +kernel
theorem zA9 {d e X1 Z1 X2 Z2 u : K} {P Q : Ed} (hc : Cv d e) (hP : On d P) (hQ : On d Q) (h1 : Rep e X1 Z1 P) (h2 : Rep e X2 Z2 Q)
  (hu : u * (1 - (zbS d P (zn1 Q)).y) = e * (1 + (zbS d P (zn1 Q)).y)) (hu0 : u ≠ 0) :
  Rep e (((X2 - Z2) * (X1 + Z1) + (X2 + Z2) * (X1 - Z1)) * ((X2 - Z2) * (X1 + Z1) + (X2 + Z2) * (X1 - Z1))) (u * (((X2 - Z2) * (X1 + Z1) - (X2 + Z2) * (X1 - Z1)) * ((X2 - Z2) * (X1 + Z1) - (X2 + Z2) * (X1 - Z1)))) (zbS d P Q) := by
 obtain ⟨l, hl, a1, a2⟩ := zo5 (ee hc) h1
 obtain ⟨m, hm, b1, b2⟩ := zo5 (ee hc) h2
 have k := zED hc.free hP hQ
 have dn := zxS hP hQ
 have he := ee hc
 clear h1 h2
 unfold Rep
 have w : e = 1 ∨ e = -1 := zhK he
 generalize (zbS d P Q).y = S at *
 generalize (zbS d P (zn1 Q)).y = D at *
 clear hP hQ hc
 generalize P.y = y1 at *
 generalize Q.y = y2 at *
 have n0 : 16 * (l * l) * (m * m) ≠ 0 := znZ (znZ zjM (znZ hl hl)) (znZ hm hm)
 have v0 : 1 - D ≠ 0 := fun z => zg7 (by
  have z2 : e * (1 + D) = 0 := by rw [← hu, z]; clear dn k hu; grind
  have z3 : 1 + D = e * (e * (1 + D)) := by rw [show e * (e * (1 + D)) = e * e * (1 + D) by clear dn k hu z z2 he; grind, he]; clear dn k hu z z2 he; grind
  rw [z2] at z3
  clear dn k hu z2 he
  grind)
 have g : ((X2 - Z2) * (X1 + Z1) + (X2 + Z2) * (X1 - Z1)) * ((X2 - Z2) * (X1 + Z1) + (X2 + Z2) * (X1 - Z1)) = 16 * (l * l) * (m * m) * ((y1 + y2) * (y1 + y2)) ∧ ((X2 - Z2) * (X1 + Z1) - (X2 + Z2) * (X1 - Z1)) * ((X2 - Z2) * (X1 + Z1) - (X2 + Z2) * (X1 - Z1)) = 16 * (l * l) * (m * m) * ((y1 - y2) * (y1 - y2)) := by
  clear dn k hu v0 n0 hu0 he
  subst a1 a2 b1 b2
  rcases w with w | w <;> subst w <;> constructor <;> grind
 rw [g.1, g.2]
 clear g a1 a2 b1 b2
 generalize 16 * (l * l) * (m * m) = n at *
 refine ⟨zcr v0 ?_, fun ⟨z1, z2⟩ => ?_⟩
 ·rw [show (1 - D) * (n * ((y1 + y2) * (y1 + y2)) * (1 - S)) = n * ((y1 + y2) * (y1 + y2) * ((1 - S) * (1 - D))) by clear dn k hu v0 n0 hu0 he; grind, k, show (1 - D) * (e * (u * (n * ((y1 - y2) * (y1 - y2)))) * (1 + S)) = e * (u * (1 - D)) * (n * ((y1 - y2) * (y1 - y2)) * (1 + S)) by clear dn k hu v0 n0 hu0 he; grind, hu, show e * (e * (1 + D)) * (n * ((y1 - y2) * (y1 - y2)) * (1 + S)) = e * e * ((1 + D) * (n * ((y1 - y2) * (y1 - y2)) * (1 + S))) by clear dn k hu v0 n0 hu0 he; grind, he]
  clear dn k hu v0 n0 hu0 he
  grind
 ·have s1 : y1 + y2 = 0 := by
   have := (zcH z1).resolve_left n0
   rcases zcH this with h | h <;> exact h
  have s2 : y1 - y2 = 0 := by
   have := (zcH ((zcH z2).resolve_left hu0)).resolve_left n0
   rcases zcH this with h | h <;> exact h
  have s3 : y1 = 0 := by
   have : 2 * y1 = 0 := by clear dn k hu z1 z2 he w; grind
   exact (zcH this).resolve_left zg7
  have s4 : y2 = 0 := by
   have : 2 * y2 = 0 := by clear dn k hu z1 z2 he w; grind
   exact (zcH this).resolve_left zg7
  rcases zhK (dn s3 s4) with h | h
  ·exact v0 (by rw [h]; decide +kernel)
  ·rw [h] at hu
   have : u * 2 = 0 := by
    have e1 : u * 2 = u * (1 - -1) := by clear hu k dn he; grind
    rw [e1, hu]
    clear hu k dn he
    grind
   exact (zcH this).elim hu0 zg7
def zrZ (e : K) (q : Pt) (P : Ed) : Prop := Rep e (toK q.x) (toK q.z) P
theorem zq7 {d e : K} {q : Pt} {P : Ed} (hc : Cv d e) (hP : On d P) (hq : zhm q) (h : zrZ e q P) : zrZ e (zur q) (zbS d P P) := by
 unfold zrZ at *
 have := zA8 hc hP h
 unfold zur zxq
 dsimp only
 simp only [zqX, zvb, zg5 _ _ hq.2, zg5 _ _ (zgJ _ _)]
 exact this
theorem zxT {d e : K} {q s : Pt} {u : Nat} {P Q : Ed} (hc : Cv d e) (hP : On d P) (hQ : On d Q) (hq : zhm q) (hs : zhm s) (h1 : zrZ e q P) (h2 : zrZ e s Q)
  (hu : toK u * (1 - (zbS d P (zn1 Q)).y) = e * (1 + (zbS d P (zn1 Q)).y)) (hu0 : toK u ≠ 0) : zrZ e (zqK u q s) (zbS d P Q) := by
 unfold zrZ at *
 have := zA9 hc hP hQ h1 h2 hu hu0
 unfold zqK zoL zoM
 dsimp only
 simp only [zqX, zvb, zg5 _ _ hq.2, zg5 _ _ hs.2, zg5 _ _ (zgJ _ _)]
 exact this
theorem zvh {e : K} {q s : Pt} {u : Nat} {P : Ed} (hq : zhm q) (hs : zhm s) (h : zrZ e (zqK u q s) P) : zrZ e (zqK u s q) P := by
 unfold zrZ zqK zoL zoM at *
 dsimp only at *
 simp only [zqX, zvb, zg5 _ _ hq.2, zg5 _ _ hs.2, zg5 _ _ (zgJ _ _)] at *
 generalize toK q.x = a at *
 generalize toK q.z = b at *
 generalize toK s.x = c at *
 generalize toK s.z = f at *
 rw [show ((a - b) * (c + f) + (a + b) * (c - f)) * ((a - b) * (c + f) + (a + b) * (c - f)) = ((c - f) * (a + b) + (c + f) * (a - b)) * ((c - f) * (a + b) + (c + f) * (a - b)) by clear h; grind, show ((a - b) * (c + f) - (a + b) * (c - f)) * ((a - b) * (c + f) - (a + b) * (c - f)) = ((c - f) * (a + b) - (c + f) * (a - b)) * ((c - f) * (a + b) - (c + f) * (a - b)) by clear h; grind]
 exact h
def zfF (k : Nat → Nat) : Nat → Nat
 | 0 => 0
 | n + 1 => 2 * zfF k n + zfm k n
theorem zo6 {d e : K} {P : Ed} {u : Nat} (hc : Cv d e) (hP : On d P) (hu : u < pN) (hu0 : toK u ≠ 0) (hq : toK u * (1 - P.y) = e * (1 + P.y)) (k : Nat → Nat) :
  ∀ n, zrZ e (ze5 u k n).1 (zcV d P (zfF k n)) ∧ zrZ e (ze5 u k n).2 (zcV d P (zfF k n + 1))
 | 0 => by
  refine ⟨⟨?_, ?_⟩, ⟨?_, ?_⟩⟩
  ·show toK 1 * (1 - 1) = e * toK 0 * (1 + 1)
   rw [zgf, show (1 : K) - 1 = 0 by decide +kernel, Fin.mul_zero, Fin.mul_zero, Fin.zero_mul]
  ·rintro ⟨h, _⟩
   exact zg6 (ziT.symm.trans h)
  ·rw [show zcV d P (zfF k 0 + 1) = zbS d zfE P from rfl, ziU]
   show toK u * (1 - P.y) = e * toK 1 * (1 + P.y)
   rw [hq, ziT]
   clear hq
   generalize P.y = y
   grind
  ·rintro ⟨_, h⟩
   exact zg6 (ziT.symm.trans h)
 | n + 1 => by
  have ih := zo6 hc hP hu hu0 hq k n
  have ok := zqL u hu k n
  have o1 := zeG hc.free hP (zfF k n)
  have o2 := zeG hc.free hP (zfF k n + 1)
  have hD := zxP hc.free hc.nz hP (zfF k n)
  have hs : zrZ e (zqK u (ze5 u k n).2 (ze5 u k n).1) (zcV d P (2 * zfF k n + 1)) := by
   have := zxT (u := u) hc o2 o1 ok.2 ok.1 ih.2 ih.1 (by rw [hD]; exact hq) hu0
   rwa [← ze6 hc.free hc.nz hP, show zfF k n + 1 + zfF k n = 2 * zfF k n + 1 by omega] at this
  rw [show ze5 u k (n + 1) = zjm u (zfm k n) (ze5 u k n).1 (ze5 u k n).2 from rfl, show zfF k (n + 1) = 2 * zfF k n + zfm k n from rfl]
  unfold zjm
  rcases zgK k n with hb | hb
  ·rw [hb, if_neg (by omega), Nat.add_zero]
   refine ⟨?_, zvh ok.2 ok.1 hs⟩
   have := zq7 hc o1 ok.1 ih.1
   rwa [← ze6 hc.free hc.nz hP, show zfF k n + zfF k n = 2 * zfF k n by omega] at this
  ·rw [hb, if_pos rfl]
   refine ⟨hs, ?_⟩
   have := zq7 hc o2 ok.2 ih.2
   rwa [← ze6 hc.free hc.nz hP, show zfF k n + 1 + (zfF k n + 1) = 2 * zfF k n + 1 + 1 by omega] at this
def zv6 (e Y : K) : K := if Y = 1 then 0 else e * (1 + Y) * iv (1 - Y)
theorem zq8 {Y : K} (h : Y ≠ 1) : 1 - Y ≠ 0 := fun e => h (by grind)
theorem zBa {d e X Z : K} {P : Ed} (hc : Cv d e) (h : Rep e X Z P) : X * iv Z = zv6 e P.y := by
 obtain ⟨h1, h2⟩ := h
 have he := ee hc
 unfold zv6
 generalize P.y = Y at *
 by_cases hY : Y = 1
 ·rw [if_pos hY]
  have hZ : Z = 0 := by
   have : e * (Z * 2) = 0 := by
    have e1 : e * (Z * 2) = e * Z * (1 + 1) := by clear h1 he; grind
    rw [e1]
    rw [hY] at h1
    rw [← h1]
    clear h1 he
    grind
   have e0 : e ≠ 0 := fun z => by rw [z] at he; exact zg6 (by rw [← he]; decide +kernel)
   exact (zcH ((zcH this).resolve_left e0)).resolve_right zg7
  rw [hZ, zA4]
  clear h1 he
  grind
 ·rw [if_neg hY]
  have hv := zbf (zq8 hY)
  have hZ : Z ≠ 0 := fun z => h2 ⟨by
   rw [z] at h1
   have : X * (1 - Y) = 0 := by rw [h1]; clear h1 he hv; grind
   exact (zcH this).resolve_right (zq8 hY), z⟩
  have hz := zbf hZ
  generalize iv Z = z' at *
  generalize iv (1 - Y) = w at *
  have e1 : X * z' = X * (1 - Y) * w * z' := by rw [show X * (1 - Y) * w * z' = X * z' * ((1 - Y) * w) by clear h1 he hv hz; grind, hv]; clear h1 he hv hz; grind
  rw [e1, h1, show e * Z * (1 + Y) * w * z' = e * (1 + Y) * w * (Z * z') by clear h1 he hv hz e1; grind, hz]
  clear h1 he hv hz e1
  grind
def zo7 (k : Nat → Nat) : Nat := zfF (zbk k) 255
theorem zq9 {d e : K} {P : Ed} {u : Nat} (hc : Cv d e) (hP : On d P) (hu : u < pN) (hu0 : toK u ≠ 0) (hq : toK u * (1 - P.y) = e * (1 + P.y)) (k : Nat → Nat) :
  toK (zea k u) = zv6 e (zcV d P (zo7 k)).y := by
 have h := (zo6 hc hP hu hu0 hq (zbk k) 255).1
 have ok := (zqL u hu (zbk k) 255).1
 show toK (zea k u) = zv6 e (zcV d P (zfF (zbk k) 255)).y
 rw [← zBa hc h]
 unfold zea
 rw [zqX]
 unfold iv
 rw [zfA, Nat.mod_eq_of_lt ok.2]
theorem zBb {d x y : K} (hf : zn0 d) (h : x * x + y * y = 1 + d * (x * x) * (y * y)) (hy : y * y = 1) : x = 0 := by
 have h1 : (x * x) * (1 - d) = 0 := by
  rw [hy] at h
  clear hy
  grind
 have h2 : 1 - d ≠ 0 := fun z => hf 1 (by clear h hy h1; grind)
 have := (zcH h1).resolve_right h2
 rcases zcH this with h | h <;> exact h
theorem zvi {d e : K} {P : Ed} (hc : Cv d e) (hP : On d P) (h : zv6 e P.y = 0) : P = zfE ∨ P = zho := by
 have he := ee hc
 obtain ⟨x, y⟩ := P
 unfold On at hP
 unfold zv6 at h
 dsimp only at h hP
 by_cases hY : y = 1
 ·subst hY
  have := zBb hc.free hP (by decide +kernel)
  subst this
  exact .inl rfl
 ·rw [if_neg hY] at h
  have e0 : e ≠ 0 := fun z => by rw [z] at he; exact zg6 (by rw [← he]; decide +kernel)
  have h1 := (zcH ((zcH h).resolve_right (zEy (zq8 hY)))).resolve_left e0
  have h2 : y = -1 := by clear h hP he; grind
  subst h2
  have := zBb hc.free hP (by decide +kernel)
  subst this
  exact .inr rfl
theorem zDg {e : K} {P : Ed} (h : P = zfE ∨ P = zho) : zv6 e P.y = 0 := by
 rcases h with h | h <;> subst h
 ·exact if_pos rfl
 ·have : zho.y ≠ 1 := zq0
  unfold zv6
  rw [if_neg this]
  show e * (1 + -1) * _ = 0
  generalize iv _ = w
  have : (1 + -1 : K) = 0 := by decide +kernel
  rw [this]
  grind
theorem zxU {d e : K} {P : Ed} {u : Nat} (hc : Cv d e) (hP : On d P) (hu : u < pN) (hu0 : toK u ≠ 0) (hq : toK u * (1 - P.y) = e * (1 + P.y)) (a b : Nat → Nat) :
  toK (zea a (zea b u)) = zv6 e (zcV d P (zo7 b * zo7 a)).y := by
 have h := zq9 hc hP hu hu0 hq b
 have hlt : zea b u < pN := zgJ _ _
 have oB := zeG hc.free hP (zo7 b)
 rw [← zhL hc.free hc.nz hP]
 by_cases h0 : toK (zea b u) = 0
 ·have hz : zea b u = 0 := by
   have := congrArg Fin.val h0
   rw [zfA, Nat.mod_eq_of_lt hlt] at this
   exact this
  rw [hz, znk, zgf]
  have hn := zvi hc oB (h.symm.trans h0)
  refine (zDg ?_).symm
  rcases hn with hn | hn <;> rw [hn]
  ·exact .inl (zo4 _)
  ·exact zq5 _
 ·refine zq9 hc oB hlt h0 ?_ a
  rw [h] at h0 ⊢
  generalize (zcV d P (zo7 b)).y = Y at *
  unfold zv6 at *
  by_cases hY : Y = 1
  ·rw [if_pos hY] at h0
   exact absurd rfl h0
  ·rw [if_neg hY] at h0 ⊢
   have hv := zbf (zq8 hY)
   generalize iv (1 - Y) = w at *
   rw [show e * (1 + Y) * w * (1 - Y) = e * (1 + Y) * ((1 - Y) * w) by clear h hv h0 hq; grind, hv]
   clear h hv h0 hq
   grind
theorem zxV {d : K} (h : d * (cA + 2) = cA - 2) : zn0 d := fun s hs => zA7 (s * (cA + 2)) (by
 rw [show s * (cA + 2) * (s * (cA + 2)) = s * s * (cA + 2) * (cA + 2) by clear h; grind, hs, h])
theorem zxX {d : K} (h : d * (cA - 2) = cA + 2) : zn0 d := fun s hs => zA7 (s * (cA - 2)) (by
 rw [show s * (cA - 2) * (s * (cA - 2)) = s * s * (cA - 2) * (cA - 2) by clear h; grind, hs, h]
 clear h
 generalize cA = c
 grind)
def zBR : K := (cA - 2) * iv (cA + 2)
def zBS : K := (cA + 2) * iv (cA - 2)
theorem zk2 : zBR * (cA + 2) = cA - 2 := by
 unfold zBR
 have h := zbf zk0
 rw [show (cA - 2) * iv (cA + 2) * (cA + 2) = (cA - 2) * ((cA + 2) * iv (cA + 2)) by clear h; grind, h]
 clear h
 grind
theorem zk3 : zBS * (cA - 2) = cA + 2 := by
 unfold zBS
 have h := zbf zk1
 rw [show (cA + 2) * iv (cA - 2) * (cA - 2) = (cA + 2) * ((cA - 2) * iv (cA - 2)) by clear h; grind, h]
 clear h
 grind
theorem zvj : (4 : K) ≠ 0 := fun h => absurd (congrArg Fin.val h) (by decide +kernel)
theorem zDh : Cv zBR 1 where
 free := zxV zk2
 nz := fun h => zk1 (by rw [← zk2, h, Fin.zero_mul])
 way := .inl ⟨rfl, by
  have h := zk2
  rw [zDe] at h
  generalize zBR = d at *
  generalize cB = c at *
  refine zcr zvj ?_
  grind⟩
theorem zDi : Cv zBS (-1) where
 free := zxX zk3
 nz := fun h => zk0 (by rw [← zk3, h, Fin.zero_mul])
 way := .inr ⟨rfl, by
  have h := zk3
  rw [zDe] at h
  generalize zBS = d at *
  generalize cB = c at *
  refine zcr zvj ?_
  grind⟩
theorem zBc (u : K) : u * u + cA * u + 1 ≠ 0 := fun h => zA7 (2 * u + cA) (by
 generalize cA = c at *
 grind)
theorem zxY {u : K} (h0 : u ≠ 0) : ∃ d e : K, ∃ P : Ed, Cv d e ∧ On d P ∧ u * (1 - P.y) = e * (1 + P.y) := by
 have hq := zBc u
 have hQ := zbf hq
 have w0 : u * (u * u + cA * u + 1) ≠ 0 := znZ h0 hq
 rcases zqZ w0 with hw | hw
 ·obtain ⟨r, hr⟩ := zve hw
  have hu : u + 1 ≠ 0 := fun z => by
   have hz : u = -1 := by clear hw hQ hr; grind
   have e1 : u * (u * u + cA * u + 1) = cA - 2 := by rw [hz]; clear hw hQ hr hz z; generalize cA = c; grind
   rw [e1, zkZ] at hw
   exact zq0 hw
  have hU := zbf hu
  have hs := zDb
  have hd := zk2
  refine ⟨zBR, 1, ⟨cS * r * iv (u * u + cA * u + 1), (u - 1) * iv (u + 1)⟩, zDh, ?_, ?_⟩
  ·unfold On
   dsimp only
   generalize iv (u + 1) = V at *
   generalize cS = s at *
   generalize zBR = d at *
   have hx : s * r * iv (u * u + cA * u + 1) * (s * r * iv (u * u + cA * u + 1)) = (cA + 2) * u * iv (u * u + cA * u + 1) := by
    generalize iv (u * u + cA * u + 1) = W at *
    rw [show s * r * W * (s * r * W) = s * s * (r * r) * W * W by clear hw hQ hU hs hr hd; grind, hs, hr, show (cA + 2) * (u * (u * u + cA * u + 1)) * W * W = (cA + 2) * u * W * ((u * u + cA * u + 1) * W) by clear hw hQ hU hs hr hd; generalize cA = c; grind, hQ]
    clear hw hQ hU hs hr hd
    grind
   rw [hx]
   have hW : u * u + cA * u + 1 ≠ 0 := hq
   generalize iv (u * u + cA * u + 1) = W at *
   clear hw hr hs hx w0
   generalize cA = c at *
   refine zcr hW (zcr (znZ hu hu) ?_)
   have m1 : (u + 1) * ((u - 1) * V) = u - 1 := by rw [show (u + 1) * ((u - 1) * V) = (u - 1) * ((u + 1) * V) by clear hQ hU hd; grind, hU]; clear hQ hU hd; grind
   generalize (u - 1) * V = y at *
   clear hU
   have m2 : (u + 1) * (u + 1) * (y * y) = (u - 1) * (u - 1) := by rw [← m1]; clear hQ hd; grind
   rw [show (u + 1) * (u + 1) * ((u * u + c * u + 1) * ((c + 2) * u * W + y * y)) = (u + 1) * (u + 1) * ((c + 2) * u * ((u * u + c * u + 1) * W)) + (u * u + c * u + 1) * ((u + 1) * (u + 1) * (y * y)) by clear hQ hd m1 m2; grind, show (u + 1) * (u + 1) * ((u * u + c * u + 1) * (1 + d * ((c + 2) * u * W) * (y * y))) = (u + 1) * (u + 1) * (u * u + c * u + 1) + d * (c + 2) * (u * ((u * u + c * u + 1) * W)) * ((u + 1) * (u + 1) * (y * y)) by clear hQ hd m1 m2; grind, hQ, m2, hd]
   clear hQ hd m1 m2
   grind
  ·dsimp only
   generalize iv (u + 1) = V at *
   clear hw hQ hr hs hd
   have e1 : 1 - (u - 1) * V = 2 * V := by
    refine zcr hu ?_
    grind
   have e2 : 1 + (u - 1) * V = 2 * u * V := by
    refine zcr hu ?_
    grind
   rw [e1, e2]
   clear e1 e2 hU
   grind
 ·have h1 : hf ((cA - 2) * (u * (u * u + cA * u + 1))) = 1 := by rw [zvd, zkZ, hw]; decide +kernel
  obtain ⟨r, hr⟩ := zve h1
  have hu : u - 1 ≠ 0 := fun z => by
   have hz : u = 1 := by clear hw hQ hr h1; grind
   have e1 : u * (u * u + cA * u + 1) = cA + 2 := by rw [hz]; clear hw hQ hr hz z h1; generalize cA = c; grind
   rw [e1, zvf] at hw
   exact zq0 hw.symm
  have hU := zbf hu
  have hd := zk3
  refine ⟨zBS, -1, ⟨r * iv (u * u + cA * u + 1), (u + 1) * iv (u - 1)⟩, zDi, ?_, ?_⟩
  ·unfold On
   dsimp only
   generalize iv (u - 1) = V at *
   generalize zBS = d at *
   have hx : r * iv (u * u + cA * u + 1) * (r * iv (u * u + cA * u + 1)) = (cA - 2) * u * iv (u * u + cA * u + 1) := by
    generalize iv (u * u + cA * u + 1) = W at *
    rw [show r * W * (r * W) = (r * r) * W * W by clear hw hQ hU hr hd h1; grind, hr, show (cA - 2) * (u * (u * u + cA * u + 1)) * W * W = (cA - 2) * u * W * ((u * u + cA * u + 1) * W) by clear hw hQ hU hr hd h1; generalize cA = c; grind, hQ]
    clear hw hQ hU hr hd h1
    grind
   rw [hx]
   have hW : u * u + cA * u + 1 ≠ 0 := hq
   generalize iv (u * u + cA * u + 1) = W at *
   clear hw hr hx w0 h1
   generalize cA = c at *
   refine zcr hW (zcr (znZ hu hu) ?_)
   have m1 : (u - 1) * ((u + 1) * V) = u + 1 := by rw [show (u - 1) * ((u + 1) * V) = (u + 1) * ((u - 1) * V) by clear hQ hU hd; grind, hU]; clear hQ hU hd; grind
   generalize (u + 1) * V = y at *
   clear hU
   have m2 : (u - 1) * (u - 1) * (y * y) = (u + 1) * (u + 1) := by rw [← m1]; clear hQ hd; grind
   rw [show (u - 1) * (u - 1) * ((u * u + c * u + 1) * ((c - 2) * u * W + y * y)) = (u - 1) * (u - 1) * ((c - 2) * u * ((u * u + c * u + 1) * W)) + (u * u + c * u + 1) * ((u - 1) * (u - 1) * (y * y)) by clear hQ hd m1 m2; grind, show (u - 1) * (u - 1) * ((u * u + c * u + 1) * (1 + d * ((c - 2) * u * W) * (y * y))) = (u - 1) * (u - 1) * (u * u + c * u + 1) + d * (c - 2) * (u * ((u * u + c * u + 1) * W)) * ((u - 1) * (u - 1) * (y * y)) by clear hQ hd m1 m2; grind, hQ, m2, hd]
   clear hQ hd m1 m2
   grind
  ·dsimp only
   generalize iv (u - 1) = V at *
   clear hw hQ hr hd h1
   have e1 : 1 - (u + 1) * V = -2 * V := by
    refine zcr hu ?_
    grind
   have e2 : 1 + (u + 1) * V = 2 * u * V := by
    refine zcr hu ?_
    grind
   rw [e1, e2]
   clear e1 e2 hU
   grind
end
section
theorem oq2 : IsP 2 := small (by decide +kernel)
theorem oq3 : IsP 3 := small (by decide +kernel)
theorem oq5 : IsP 5 := small (by decide +kernel)
theorem oq7 : IsP 7 := small (by decide +kernel)
theorem zDj : IsP 11 := small (by decide +kernel)
theorem zEE : IsP 13 := small (by decide +kernel)
theorem zEF : IsP 17 := small (by decide +kernel)
theorem zFx : IsP 19 := small (by decide +kernel)
theorem zEX : IsP 23 := small (by decide +kernel)
theorem zEY : IsP 41 := small (by decide +kernel)
theorem zEZ : IsP 43 := small (by decide +kernel)
theorem zFy : IsP 47 := small (by decide +kernel)
theorem zFz : IsP 67 := small (by decide +kernel)
theorem zE0 : IsP 73 := small (by decide +kernel)
theorem zFA : IsP 79 := small (by decide +kernel)
theorem zEG : IsP 113 := small (by decide +kernel)
theorem zEH : IsP 269 := small (by decide +kernel)
theorem zEI : IsP 307 := small (by decide +kernel)
theorem zDk : IsL 1361 := za7 1361 3 [2, 2, 2, 2, 5, 17] (by decide +kernel) (all_cons oq2 (all_cons oq2 (all_cons oq2 (all_cons oq2 (all_cons oq5 (all_cons zEF zaq))))))
theorem zDm : IsL 1723 := za7 1723 3 [2, 3, 7, 41] (by decide +kernel) (all_cons oq2 (all_cons oq3 (all_cons oq7 (all_cons zEY zaq))))
theorem zDn : IsL 2551 := za7 2551 6 [2, 3, 5, 5, 17] (by decide +kernel) (all_cons oq2 (all_cons oq3 (all_cons oq5 (all_cons oq5 (all_cons zEF zaq)))))
theorem zDo : IsL 2851 := za7 2851 2 [2, 3, 5, 5, 19] (by decide +kernel) (all_cons oq2 (all_cons oq3 (all_cons oq5 (all_cons oq5 (all_cons zFx zaq)))))
theorem zDp : IsL 2939 := za7 2939 2 [2, 13, 113] (by decide +kernel) (all_cons oq2 (all_cons zEE (all_cons zEG zaq)))
theorem zDq : IsL 3797 := za7 3797 2 [2, 2, 13, 73] (by decide +kernel) (all_cons oq2 (all_cons oq2 (all_cons zEE (all_cons zE0 zaq))))
theorem zDr : IsL 5879 := za7 5879 11 [2, 2939] (by decide +kernel) (all_cons oq2 (all_cons zDp.1 zaq))
theorem zBd : IsL 17231 := za7 17231 13 [2, 5, 1723] (by decide +kernel) (all_cons oq2 (all_cons oq5 (all_cons zDm.1 zaq)))
theorem zBe : IsL 22111 := za7 22111 6 [2, 3, 5, 11, 67] (by decide +kernel) (all_cons oq2 (all_cons oq3 (all_cons oq5 (all_cons zDj (all_cons zFz zaq)))))
theorem zBf : IsL 30703 := za7 30703 3 [2, 3, 7, 17, 43] (by decide +kernel) (all_cons oq2 (all_cons oq3 (all_cons oq7 (all_cons zEF (all_cons zEZ zaq)))))
theorem zBg : IsL 34123 := za7 34123 2 [2, 3, 11, 11, 47] (by decide +kernel) (all_cons oq2 (all_cons oq3 (all_cons zDj (all_cons zDj (all_cons zFy zaq)))))
theorem zBh : IsL 41081 := za7 41081 3 [2, 2, 2, 5, 13, 79] (by decide +kernel) (all_cons oq2 (all_cons oq2 (all_cons oq2 (all_cons oq5 (all_cons zEE (all_cons zFA zaq))))))
theorem zBi : IsL 82163 := za7 82163 2 [2, 41081] (by decide +kernel) (all_cons oq2 (all_cons zBh.1 zaq))
theorem zxZ : IsL 132667 := za7 132667 5 [2, 3, 22111] (by decide +kernel) (all_cons oq2 (all_cons oq3 (all_cons zBe.1 zaq)))
theorem zx0 : IsL 137849 := za7 137849 3 [2, 2, 2, 17231] (by decide +kernel) (all_cons oq2 (all_cons oq2 (all_cons oq2 (all_cons zBd.1 zaq))))
theorem zx1 : IsL 409477 := za7 409477 2 [2, 2, 3, 34123] (by decide +kernel) (all_cons oq2 (all_cons oq2 (all_cons oq3 (all_cons zBg.1 zaq))))
theorem zx2 : IsL 531581 := za7 531581 2 [2, 2, 5, 7, 3797] (by decide +kernel) (all_cons oq2 (all_cons oq2 (all_cons oq5 (all_cons oq7 (all_cons zDq.1 zaq)))))
theorem zvk : IsL 1224481 := za7 1224481 13 [2, 2, 2, 2, 2, 3, 5, 2551] (by decide +kernel) (all_cons oq2 (all_cons oq2 (all_cons oq2 (all_cons oq2 (all_cons oq2 (all_cons oq3 (all_cons oq5 (all_cons zDn.1 zaq))))))))
theorem zr0 : IsL 14741173 := za7 14741173 2 [2, 2, 3, 3, 409477] (by decide +kernel) (all_cons oq2 (all_cons oq2 (all_cons oq3 (all_cons oq3 (all_cons zx1.1 zaq)))))
theorem zr1 : IsL 58964693 := za7 58964693 2 [2, 2, 14741173] (by decide +kernel) (all_cons oq2 (all_cons oq2 (all_cons zr0.1 zaq)))
theorem zo8 : IsL 292386187 := za7 292386187 2 [2, 3, 3, 3, 3, 307, 5879] (by decide +kernel) (all_cons oq2 (all_cons oq3 (all_cons oq3 (all_cons oq3 (all_cons oq3 (all_cons zEI (all_cons zDr.1 zaq)))))))
theorem zjo : IsL 213441916511 := za7 213441916511 13 [2, 5, 73, 292386187] (by decide +kernel) (all_cons oq2 (all_cons oq5 (all_cons zE0 (all_cons zo8.1 zaq))))
theorem zgg : IsL 1257559732178653 := za7 1257559732178653 2 [2, 2, 3, 7, 23, 531581, 1224481] (by decide +kernel) (all_cons oq2 (all_cons oq2 (all_cons oq3 (all_cons oq7 (all_cons zEX (all_cons zx2.1 (all_cons zvk.1 zaq)))))))
theorem zeH : IsL 4434155615661930479 := za7 4434155615661930479 17 [2, 41, 43, 1257559732178653] (by decide +kernel) (all_cons oq2 (all_cons zEY (all_cons zEZ (all_cons zgg.1 zaq))))
theorem zdW : IsL 3044861653679985063343 := za7 3044861653679985063343 5 [2, 3, 11, 30703, 82163, 132667, 137849] (by decide +kernel) (all_cons oq2 (all_cons oq3 (all_cons zDj (all_cons zBf.1 (all_cons zBi.1 (all_cons zxZ.1 (all_cons zx0.1 zaq)))))))
theorem zcP : IsL 172054593956031949258510691 := za7 172054593956031949258510691 2 [2, 5, 1361, 2851, 4434155615661930479] (by decide +kernel) (all_cons oq2 (all_cons oq5 (all_cons zDk.1 (all_cons zDo.1 (all_cons zeH.1 zaq)))))
theorem zca : IsL 198211423230930754013084525763697 := za7 198211423230930754013084525763697 5 [2, 2, 2, 2, 3, 23, 58964693, 3044861653679985063343] (by decide +kernel) (all_cons oq2 (all_cons oq2 (all_cons oq2 (all_cons oq2 (all_cons oq3 (all_cons zEX (all_cons zr1.1 (all_cons zdW.1 zaq))))))))
theorem zbw : IsL 19757330305831588566944191468367130476339 := za7 19757330305831588566944191468367130476339 2 [2, 269, 213441916511, 172054593956031949258510691] (by decide +kernel) (all_cons oq2 (all_cons zEH (all_cons zjo.1 (all_cons zcP.1 zaq))))
theorem zbr : IsL 276602624281642239937218680557139826668747 := za7 276602624281642239937218680557139826668747 2 [2, 7, 19757330305831588566944191468367130476339] (by decide +kernel) (all_cons oq2 (all_cons oq7 (all_cons zbw.1 zaq)))
theorem zaj : IsL 7237005577332262213973186563042994240857116359379907606001950938285454250989 := za7 7237005577332262213973186563042994240857116359379907606001950938285454250989 2 [2, 2, 3, 11, 198211423230930754013084525763697, 276602624281642239937218680557139826668747] (by decide +kernel) (all_cons oq2 (all_cons oq2 (all_cons oq3 (all_cons zDj (all_cons zca.1 (all_cons zbr.1 zaq))))))
def znC : Nat := 7237005577332262213973186563042994240857116359379907606001950938285454250989
def zDs (i : Nat) : Nat := znC / 256 ^ i % 256
theorem zx3 : zfF zDs 255 = znC := by decide +kernel
theorem zEJ : (ze5 9 zDs 255).1.z = 0 := by decide +kernel
section
variable {d e : K} {P : Ed}
theorem zx4 (hc : Cv d e) (hP : On d P) (hy : P.y = 1) : P = zfE := by
 obtain ⟨x, y⟩ := P
 dsimp only at hy
 subst hy
 have := zBb hc.free hP (show (1 : K) * 1 = 1 by decide +kernel)
 subst this
 rfl
theorem zk4 : 9 < pN := by unfold pN; decide +kernel
theorem zo9 : toK 9 ≠ 0 := fun h => by
 have h1 := congrArg Fin.val h
 rw [zfA, Nat.mod_eq_of_lt zk4] at h1
 exact absurd h1 (by decide)
theorem zBj (hc : Cv d e) (hP : On d P) (hq : toK 9 * (1 - P.y) = e * (1 + P.y)) : zcV d P znC = zfE := by
 have h := (zo6 hc hP zk4 zo9 hq zDs 255).1
 rw [zx3] at h
 obtain ⟨h1, h2⟩ := h
 rw [zEJ, zgf] at h1 h2
 have hX : toK (ze5 9 zDs 255).1.x ≠ 0 := fun hx => h2 ⟨hx, rfl⟩
 have hon := zeG hc.free hP znC
 refine zx4 hc hon ?_
 generalize (zcV d P znC).y = Y at *
 generalize toK (ze5 9 zDs 255).1.x = Z at *
 have h3 : Z * (1 - Y) = 0 := by clear h2 hX hq; grind
 have h4 := (zcH h3).resolve_left hX
 clear h1 h2 h3 hX hq hon
 grind
theorem zFB (hc : Cv d e) (hq : toK 9 * (1 - P.y) = e * (1 + P.y)) : P ≠ zfE := fun h => by
 subst h
 have he := ee hc
 have e0 : e ≠ 0 := fun z => by rw [z] at he; exact zg6 (by rw [← he]; decide +kernel)
 have h1 : e * 2 = 0 := by
  have : zfE.y = 1 := rfl
  rw [this] at hq
  clear he e0
  grind
 exact zg7 ((zcH h1).resolve_left e0)
theorem mul_one (P : Ed) : zcV d P 1 = P := ziU P
theorem zBk (hc : Cv d e) (hP : On d P) : ∀ m n : Nat, zcV d P m = zfE → zcV d P n = zfE → zcV d P (Nat.gcd m n) = zfE := fun m => by
 induction m using Nat.strongRecOn with
 | ind m ih =>
  intro n hm hn
  by_cases h0 : m = 0
  ·subst h0; rw [Nat.gcd_zero_left]; exact hn
  ·rw [Nat.gcd_rec]
   refine ih (n % m) (Nat.mod_lt _ (Nat.pos_of_ne_zero h0)) m ?_ hm
   have h1 : zcV d P (m * (n / m) + n % m) = zfE := by rw [Nat.div_add_mod]; exact hn
   rw [ze6 hc.free hc.nz hP, ← zhL hc.free hc.nz hP, hm, zo4, ziU] at h1
   exact h1
theorem zBm (hc : Cv d e) (hP : On d P) (hq : toK 9 * (1 - P.y) = e * (1 + P.y)) {n : Nat} (h : zcV d P n = zfE) : znC ∣ n := by
 have h1 := zBk hc hP znC n (zBj hc hP hq) h
 rcases zaj.1.2 (Nat.gcd znC n) (Nat.gcd_dvd_left ..) with h2 | h2
 ·rw [h2, mul_one] at h1
  exact absurd h1 (zFB hc hq)
 ·have h3 := Nat.gcd_dvd_right znC n
  rw [h2] at h3
  exact h3
end
theorem zvm (k : Nat → Nat) : ∀ n, zfF k n < 2 ^ n
 | 0 => by show 0 < 1; decide
 | n + 1 => by
  have h1 := zvm k n
  have h2 := zgK k n
  rw [zfF, Nat.pow_succ]
  omega
theorem zra (k : Nat → Nat) (h : zfF k 1 = 1) : ∀ n, 0 < zfF k (n + 1)
 | 0 => by rw [h]; decide
 | n + 1 => by
  have h1 := zra k h n
  rw [zfF]
  omega
theorem zvn (k : Nat → Nat) : zfF (zbk k) 1 = 1 := by
 show 2 * 0 + zfm (zbk k) 0 = 1
 unfold zfm
 rw [show (254 - 0) / 8 = 31 from rfl, show (254 - 0) % 8 = 6 from rfl]
 show _ + zbk k 31 / 64 % 2 = 1
 have : zbk k 31 = k 31 % 64 + 64 := by unfold zbk; rw [if_neg (by decide), if_pos rfl]
 omega
theorem zr2 (k : Nat → Nat) : zo7 k = 8 * zfF (zbk k) 252 := by
 have h0 : zbk k 0 = k 0 / 8 * 8 := by unfold zbk; rw [if_pos rfl]
 have b : ∀ j, j < 3 → zfm (zbk k) (252 + j) = 0 := fun j hj => by
  unfold zfm
  rw [show (254 - (252 + j)) / 8 = 0 by omega, h0]
  rcases (by omega : j = 0 ∨ j = 1 ∨ j = 2) with h | h | h <;> subst h
  ·show k 0 / 8 * 8 / 4 % 2 = 0; omega
  ·show k 0 / 8 * 8 / 2 % 2 = 0; omega
  ·show k 0 / 8 * 8 / 1 % 2 = 0; omega
 have b0 := b 0 (by decide)
 have b1 := b 1 (by decide)
 have b2 := b 2 (by decide)
 show 2 * (2 * (2 * zfF (zbk k) 252 + zfm (zbk k) 252) + zfm (zbk k) 253) + zfm (zbk k) 254 = _
 rw [show zfm (zbk k) 252 = 0 from b0, show zfm (zbk k) 253 = 0 from b1, show zfm (zbk k) 254 = 0 from b2]
 omega
theorem zrb (k : Nat → Nat) : ¬ znC ∣ zo7 k := fun h => by
 rw [zr2] at h
 have h1 := zvm (zbk k) 252
 have h2 := zra (zbk k) (zvn k) 251
 have h3 : (2 : Nat) ^ 252 < znC := by unfold znC; decide +kernel
 have h4 : (8 : Nat) < znC := by unfold znC; decide +kernel
 rcases znd zaj.1 h with h5 | h5
 ·have := Nat.le_of_dvd (by decide) h5
  exact absurd h4 (by unfold znC; omega)
 ·have := Nat.le_of_dvd h2 h5
  exact absurd (jT (Nat.lt_trans h1 h3) this) (Nat.lt_irrefl _)
theorem zBn : ¬ znC ∣ 2 := fun h => absurd (Nat.le_of_dvd (by decide) h) (by unfold znC; omega)
theorem znD (a b : Nat → Nat) : zea a (zea b 9) ≠ 0 := fun h0 => by
 obtain ⟨d, e, P, hc, hP, hq⟩ := zxY zo9
 have h1 := zxU hc hP zk4 zo9 hq a b
 rw [h0, zgf] at h1
 have hon := zeG hc.free hP (zo7 b * zo7 a)
 have h2 : zcV d (zcV d P (zo7 b * zo7 a)) 2 = zfE := by
  show zbS d (zcV d (zcV d P (zo7 b * zo7 a)) 1) (zcV d P (zo7 b * zo7 a)) = zfE
  rw [mul_one]
  rcases zvi hc hon h1.symm with h3 | h3 <;> rw [h3]
  ·exact ziU _
  ·exact znB
 rw [zhL hc.free hc.nz hP] at h2
 have hp := zaj.1
 rcases znd hp (zBm hc hP hq h2) with h4 | h4
 ·rcases znd hp h4 with h5 | h5
  ·exact zrb _ h5
  ·exact zrb _ h5
 ·exact zBn h4
theorem zBo (b : Nat → Nat) : zea b 9 ≠ 0 := fun h0 => znD b b (by rw [h0, znk])
end
section
open Go.ChangeShapes Go.WideShapes Go.ChangeAt Go.RowKit
section
variable {H : Type} {enc : TypeId × Value → H} {P : Program} {w : World} {base : Nat} {spare : Nat → Bool} {held : Bool} {t e : TypeId} {v : Value} {d : DataW H} {p : List MemPlace} {r : Reach}
theorem zg8 {n : Nat} (ht : P.underlying t = some (.array n e)) (h : Value.okWide P w r base t v) : ∃ cs, v = .agg cs ∧ cs.size = P.cellsOf t := by
 simp only [Value.okWide, ht] at h
 obtain ⟨cs, h1, h2, _⟩ := h
 exact ⟨cs, h1, h2⟩
end
theorem zDt {n : Int} (h : (Lit.int .u8 n).wf = true) : 0 ≤ n ∧ n < 256 := by
 simp [Lit.wf, IntKind.min, IntKind.max, IntKind.signed, IntKind.bits] at h
 omega
theorem zvo {n : Int} (h : (Lit.int .i64 n).wf = true) : -9223372036854775808 ≤ n ∧ n < 9223372036854775808 := by
 simp [Lit.wf, IntKind.min, IntKind.max, IntKind.signed, IntKind.bits] at h
 omega
end
section
open Go.ChangeShapes Go.WideShapes Go.ChangeAt Go.RowKit
def zvp {H : Type} (P : Program) (t : TypeId) (d : DataW H) : Prop := ∀ n ∈ d.weights P t, n ≤ reachBytes
theorem zrc {H : Type} {P : Program} {ts : List TypeId} {ds : List (DataW H)} (hz : (DataW.weightsEach P ts ds).all (· ≤ reachBytes) = true) {j : Nat} {t : TypeId} {d : DataW H} (ht : ts[j]? = some t) (hd : ds[j]? = some d) : zvp P t d := fun n hn => by
 have := List.all_eq_true.1 hz n (DataW.weights_mem_each ht hd n hn)
 simpa using this
def Opn (P : Program) (t : TypeId) (φ : List Value → World → Prop) : Prop :=
 ∀ (H : Type) (enc : TypeId × Value → H) (w : World) (base : Nat) (spare : Nat → Bool) (held : Bool) (fuel : Nat) (x : DataW H × List MemPlace) (cs : List Value), DataW.trod enc P w base spare held fuel t cs = some x → zvp P t x.1 → φ cs w
theorem Opn.imp {P : Program} {t : TypeId} {φ ψ : List Value → World → Prop} (o : Opn P t φ) (h : ∀ cs w, φ cs w → ψ cs w) : Opn P t ψ := fun H enc w base spare held fuel x cs h1 h2 => h cs w (o H enc w base spare held fuel x cs h1 h2)
section
variable {P : Program} {t e : TypeId}
theorem zBp (ht : P.underlying t = some (.array 32 e)) (he : P.underlying e = some (.int .u8)) (hce : P.cellsOf e = 1) (hct : P.cellsOf t = 32) : Opn P t fun cs w => ∃ l : List Nat, l.length = 32 ∧ (∀ x ∈ l, x < 256) ∧ cs = cl [.key l] := fun H enc w base spare held fuel x cs h hl => by
 obtain ⟨xs, m, _, _, hcl, hxl, hall⟩ := DataW.trod_array ht h
 have key : ∀ i : Fin 32, ∃ z : Nat, cs[i.1]? = some (bv z) ∧ z < 256 := fun i => by
  have h1 := hall i.1 i.2
  rw [hce, Nat.mul_one, jP (by omega)] at h1
  obtain ⟨n, h2, _, hw⟩ := DataW.trod_int he h1
  have hb := zDt hw
  refine ⟨n.toNat, ?_, by omega⟩
  have : ((cs.drop i.1).take 1)[0]? = some (.int .u8 n) := by rw [h2]; rfl
  rw [List.getElem?_take_of_lt (by omega), List.getElem?_drop] at this
  rw [Nat.add_zero] at this
  rw [this]
  unfold bv
  rw [Int.toNat_of_nonneg hb.1]
 obtain ⟨f, hf⟩ := Classical.axiomOfChoice key
 refine ⟨List.ofFn f, by simp, fun y hy => ?_, ?_⟩
 ·obtain ⟨i, rfl⟩ := List.mem_ofFn.1 hy
  exact (hf i).2
 ·show cs = zgp (List.ofFn f) ++ []
  rw [List.append_nil]
  unfold zgp
  apply List.ext_getElem?
  intro i
  by_cases hi : i < 32
  ·rw [(hf ⟨i, hi⟩).1, List.getElem?_map, List.getElem?_range hi]
   show _ = some (bv ((List.ofFn f).getD i 0))
   rw [jR, List.getElem?_ofFn, dif_pos hi]
   rfl
  ·rw [List.getElem?_eq_none (by omega), List.getElem?_eq_none (by simp; omega)]
theorem zvq {φ : List Value → World → Prop} (o : Opn P t φ) {H : Type} {enc : TypeId × Value → H} {w : World} {base : Nat} {spare : Nat → Bool} {held : Bool} {v : Value} {d : DataW H} {p : List MemPlace} (h : DataW.Trod enc P w base spare held t v d p) (hl : zvp P t d) : φ v.cells.toList w := by
 obtain ⟨fuel, hf⟩ := h
 exact o H enc w base spare held fuel _ _ hf hl
theorem zyW {cs : Array Value} {X : List Chunk} (e : (Value.agg cs).cells.toList = cl X) : cs = ca X := by
 have e' : cs.toList = cl X := e
 exact Array.ext' (by rw [e']; rfl)
end
end
section
open Go.ChangeShapes Go.WideShapes Go.ChangeAt Go.RowKit
theorem zDu : Opn Tryz.prog 23 fun cs w => ∃ l : List Nat, l.length = 32 ∧ (∀ x ∈ l, x < 256) ∧ cs = cl [.key l] := zBp Tryz.underlying23 Tryz.underlying5 (by kernel_rfl) (by kernel_rfl)
def zvr : List Int := [1116352408, 1899447441, 3049323471, 3921009573, 961987163, 1508970993, 2453635748, 2870763221, 3624381080, 310598401, 607225278, 1426881987, 1925078388, 2162078206, 2614888103, 3248222580, 3835390401, 4022224774, 264347078, 604807628, 770255983, 1249150122, 1555081692, 1996064986, 2554220882, 2821834349, 2952996808, 3210313671, 3336571891, 3584528711, 113926993, 338241895, 666307205, 773529912, 1294757372, 1396182291, 1695183700, 1986661051, 2177026350, 2456956037, 2730485921, 2820302411, 3259730800, 3345764771, 3516065817, 3600352804, 4094571909, 275423344, 430227734, 506948616, 659060556, 883997877, 958139571, 1322822218, 1537002063, 1747873779, 1955562222, 2024104815, 2227730452, 2361852424, 2428436474, 2756734187, 3204031479, 3329325298]
def zE1 (i : Nat) : Nat := (zvr.getD i 0).toNat
theorem zr3 : cl [.row 64 fun i => u32 (zE1 i)] = zvr.map fun z => Value.int .u32 z := by kernel_rfl
theorem zBq {LL : List (String × DataW Unit)} (hm : ("coterie/sha.adds", Rows.laid_coterie_sha_adds) ∈ LL) {W : World} (h : laidMet Tryz.prog LL W) : St (AtC ⟨2, 0, none⟩ [.row 64 fun i => u32 (zE1 i)]) W [] := by
 obtain ⟨g, t, cs, fuel, p, hg, hty, hvar, hd⟩ := Lib.laidMet.reads h (n := "coterie/sha.adds") (d := Rows.laid_coterie_sha_adds) hm
 obtain rfl := Option.some.inj ((show Tryz.prog.globalNamed "coterie/sha.adds" = some 2 by kernel_rfl).symm.trans hg)
 obtain rfl := Option.some.inj ((show (Tryz.prog.globals[2 ]?).map (·.type) = some 199 by kernel_rfl).symm.trans hty)
 have hcs := Lib.cells_of_tab (zs := zvr) (k := .u32) Tryz.underlying199 Tryz.underlying147 (by kernel_rfl) (by kernel_rfl) hd
 rw [← zr3] at hcs
 intro w' hk j u hu
 rw [← hcs] at hu
 have h1 := World.var?_cell hg hvar j
 have h2 : cs[j]? = some u := by rw [← Array.getElem?_toList]; exact hu
 rw [h2] at h1
 rw [zb5, Nat.zero_add, ← h1]
 exact World.cell?_of_block (hk _ (World.block_lt_of_cell? _ _ h1) (by simp))
def zFC : ByteArray := { data := #[98, 121, 116, 101, 115, 46, 66, 117, 102, 102, 101, 114, 58, 32, 116, 111, 111, 32, 108, 97, 114, 103, 101] }
noncomputable def zFD : Nat := (World.holding Tryz.prog default ⟨#[], #[], []⟩).heap.size
noncomputable def zDv (os : Os) : World :=
 let w0 := World.holding Tryz.prog os ⟨#[.cells #[.string zFC] 252 ], #[], []⟩
 { w0 with heap := ((w0.heap.modify 1 fun
   | .cells _ t frozen => .cells #[.iface 236 (.pointer (some ⟨zFD, 0, none⟩))] t frozen
   | o => o).modify 2 fun
   | .cells _ t frozen => .cells (zvr.map fun z => Value.int .u32 z).toArray t frozen
   | o => o).modify 0 fun
   | .cells _ t frozen => .cells (zvr.map fun z => Value.int .u32 z).toArray t frozen
   | o => o }
end
end Go.Proofs.YtcmmpiaogfnmoaaGreatDoor
