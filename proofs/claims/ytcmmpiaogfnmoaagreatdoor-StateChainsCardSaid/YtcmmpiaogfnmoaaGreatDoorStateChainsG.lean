/- Walks by computing: slices with new numbers, at a function's end. No program is in sight. Walks by computing: in the rounds of a range over a function, and behind it. No program is in sight. A range over a function. No program is in sight. Plain: the numbers modulo the prime of layer 5; the curve x² + y² = 1 + d x² y², where d is no square: its law is whole, and hangs on no order. Plain: the ladder of layer 6 is a multiple of a point of the curve, or of its twist; two numbers, one behind the other, hang on no order. Plain: the order of the point 9 is a prime; multiplied by clamped numbers it i -/
import Derived.Test.YtcmmpiaogfnmoaaGreatDoorStateChainsF
import Derived.RangeFuncKeeps
import Derived.RangeFuncLeaves
import Derived.ProofKit
import Derived.OpenShut
import Derived.ShutString
import Derived.ChangeOld
import Derived.Lib.LaidU8
import Derived.LaidHandle
import Derived.LaidLaws
import Derived.Handed
import Derived.Deep.DeepLaidRun
set_option linter.unusedSimpArgs false
set_option linter.unusedVariables false
set_option maxRecDepth 200000
set_option maxHeartbeats 6000000
namespace Go.Proofs.YtcmmpiaogfnmoaaGreatDoor
section
open Go.RowKit
section
variable {X G : List Nat} {w0 : World} {Rr : Ending → World → Prop} {k : Nat} {sv : SV} {m : MB} {R : List SF}
theorem zkb {sv' : SV} (n : Nat) (F : Qd → World → Prop) (q : Hn → Qd) (hq : ∀ h h' : Hn, AgS (lt_ k) h h' → q h' = q h) (hF : ∀ (h : Hn) (X : List Nat) (w : World), Sp X w (zad h [] m) (zaN h R) → St (fun w => ((q h).1 = none → n = 0) ∧ F (q h) w) w (X ++ zab (zad h [] m))) (he : ∀ h : Hn, h.r k = q h → sv'.den h = sv.den h) (hw : sv'.wf (lt_ (k + 1)) = true) (hk : RetOk X G w0 Rr (k + 1) sv' m (.sl k n F :: R)) : RetOk X G w0 Rr k sv m R := ⟨fun h w ws wm wr H hX => by
 let h3 : Hn := ⟨h.b, fun t => if t = k then q h else h.r t, h.q⟩
 have er : h3.r k = q h := if_pos rfl
 have hag : AgS (lt_ k) h h3 := fun j hj => ⟨rfl, if_neg (by have := zb6 hj; omega), rfl⟩
 have eq3 : q h3 = q h := hq h h3 hag
 rw [← SV.same hag ws, ← he h3 (er.trans eq3.symm)]
 have e3 : zad h3 [] m = zad h [] m := zaK hag wm
 refine hk.ok h3 w hw (zdG (zcX (Nat.le_succ k)) wm) (zat (Nat.ble_eq_true_of_le (jV _)) (zcr (zcX (Nat.le_succ k)) wr)) ?_ fun j hj => hX j (by rw [← e3]; exact hj)
 rw [e3]
 refine ⟨H.frm, H.xlt, H.holds, H.apart, H.mine, fun r hr => ?_⟩
 rcases List.mem_cons.1 hr with rfl | hr
 ·have := hF h X w (Sp.of_sep H hX)
  show St (fun w => ((h3.r k).1 = none → n = 0) ∧ F (h3.r k) w) w _
  rw [er]
  exact this
 ·rw [zaX hag wr] at hr
  exact H.facts r hr⟩
end
end
section
open Go.RowKit
def nd (o : Oper) : Bool := match o.op with | .defer _ => false | _ => true
theorem zDf {o : Oper} (h : nd o = true) : ∀ c, o.op ≠ .defer c := fun c e => by unfold nd at h; rw [e] at h; cases h
theorem ztR {r : Option Nat} {ρ : Operand → Value} {o : Oper} (h : nd o = true) : Oper.semAt r ρ o = execOp ρ o := by
 cases r with
 | none => rfl
 | some l => exact Oper.semAt_some l _ _ (zDf h)
abbrev dfr (ds : List Deferred) (a : Act) : Act := { a with defers := ds }
section
variable {P : Program} {r : Option Nat} {n : Nat} {ds : List Deferred}
abbrev zby (r : Option Nat) : Fence := { Fence.wide with round := r }
theorem zii (a : Act) (d : Option Tmp) (v : Value) : (dfr ds a).put d v = dfr ds (a.put d v) := by cases d <;> rfl
theorem zpV (a : Act) (x : Operand) : (dfr ds a).eval x = a.eval x := by cases x <;> rfl
theorem zDg {o : Oper} {a : Act} {w : World} {K K' : Act → World → Prop} {Q Q' : Exit → Act → World → Prop} (hd : nd o = true) (h : o.wp P a w K Q) (hK : ∀ a w, K a w → a.defers = [] ∧ K' (dfr ds a) w) (hQ : ∀ e a w, Q e a w → Q' e (dfr ds a) w) : o.wpIn (zby r) n P (dfr ds a) w K' Q' := by
 refine ⟨fun _ _ => trivial, ?_⟩
 rw [ztR hd, show (dfr ds a).eval = a.eval from funext (zpV a)]
 unfold Oper.wp at h
 have hL : LetsOut Q → LetsOut Q' := fun ⟨a, w, hq⟩ => ⟨_, w, hQ _ _ _ hq⟩
 revert h
 generalize (execOp a.eval o).run P w = res
 intro h
 have hdep : (zby r).depth.isSome = true → 1 ≤ n := fun e => by cases e
 cases res with
 | ok x w' =>
  cases x with
  | value v => show K' _ _; rw [zii]; exact (hK _ _ h).2
  | skip => show K' _ _; rw [zii]; exact (hK _ _ h).2
  | enter f args =>
   refine ⟨hdep, trivial, fun cs hr => ?_⟩
   obtain ⟨e, w2, fr, hR, hs, hx⟩ := (callsIn_wide (n := n - 1)).2 h |>.2 cs (room_wide _)
   refine ⟨e, w2, fr, ?_, hs, hx⟩
   cases e with
   | returned v => show K' _ _; rw [zii]; exact (hK _ _ hR).2
   | panicked c => exact hQ _ _ _ hR
   | outgrown => exact hL hR
  | row row args =>
   refine ⟨hdep, fun c cs hr => ?_⟩
   obtain ⟨v, w2, hR, hs⟩ := h c cs
   refine ⟨v, w2, ?_, stepsIn_wide.2 hs⟩
   show K' _ _
   rw [zii]
   exact (hK _ _ hR).2
  | defer d =>
   have h1 := (hK _ _ h).1
   have : ({ a with defers := d :: a.defers }.put o.dst undef).defers = d :: a.defers := by cases o.dst <;> rfl
   rw [this] at h1
   cases h1
  | round l f tmps assign body => exact h.elim
  | recover => exact h.elim
  | spawn d => exact h.elim
  | _ => exact h.elim
 | halt x w' =>
  cases x with
  | panic v => exact hQ _ _ _ h
  | _ => exact h.elim
variable {T : Tab} {N : Nat} {X G : List Nat} {w0 : World} {Q : Exit → Act → World → Prop}
theorem zhe (hT : zbt P T) {K : KS} {ops : Array Oper} {os2 : List Oper} : ∀ {os : List Oper} {k : Nat} {l : LE} {m : MB} {R : List SF} {h : Hn} {a : Act} {w : World}, os.all nd = true → zq7 P T N ops os k l m R K → VSt N X G w0 k l m R h a w → (∀ k' l' m' R' h' a' w', K k' l' m' R' → VSt N X G w0 k' l' m' R' h' a' w' → wpListIn (zby r) n P ops Q os2 (dfr ds a') w') → wpListIn (zby r) n P ops Q (os ++ os2) (dfr ds a) w
 | [], k, l, m, R, h, a, w, _, hv, H, hK => hK k l m R h a w hv H
 | o :: os, k, l, m, R, h, a, w, hnd, hv, H, hK => by
  have hnd2 : nd o = true ∧ os.all nd = true := by simpa using hnd
  unfold zq7 at hv
  split at hv
  ·rename_i b hg
   have hw := zcT H.env (zkI (h := h) hg)
   show wpListIn (zby r) n P ops Q (o :: (os ++ os2)) (dfr ds a) w
   unfold wpListIn
   cases b with
   | true =>
    simp only [cond_true] at hv
    rw [if_pos hw]
    exact zDg (K := fun a' w' => ∃ k' l' m' R' h', zq7 P T N ops os k' l' m' R' K ∧ VSt N X G w0 k' l' m' R' h' a' w') (Q := fun _ _ _ => False) hnd2.1 (zkJ hT hv H fun k' l' m' R' h' a' w' hk HV => ⟨_, _, _, _, _, hk, HV⟩) (fun a' w' ⟨k', l', m', R', h', h1, h2⟩ => ⟨h2.env.defers, zhe hT hnd2.2 h1 h2 hK⟩) fun _ _ _ hq => hq.elim
   | false =>
    simp only [cond_false] at hv
    rw [if_neg (by rw [hw]; decide)]
    obtain ⟨l', h1, h2⟩ := H.put (sv := zdZ undef) rfl hv
    refine ⟨fun _ _ => trivial, ?_⟩
    rw [zii]
    exact zhe hT hnd2.2 h1 h2 hK
  ·exact hv.elim
theorem zzN (hT : zbt P T) {K : KS} {ops : Array Oper} {os : List Oper} {k : Nat} {l : LE} {m : MB} {R : List SF} {h : Hn} {a : Act} {w : World} (hn : os.all nd = true) (hv : zq7 P T N ops os k l m R K) (H : VSt N X G w0 k l m R h a w) (hK : ∀ k' l' m' R' h' a' w', K k' l' m' R' → VSt N X G w0 k' l' m' R' h' a' w' → Q .normal (dfr ds a') w') : wpListIn (zby r) n P ops Q os (dfr ds a) w := by
 have := zhe (r := r) (n := n) (ds := ds) (os2 := []) hT hn hv H hK
 rwa [List.append_nil] at this
def zmZ : Code → Bool
 | .skip => true
 | .region _ ops dr => bif dr then false else ops.toList.all nd
 | .seq x y => bif zmZ x then zmZ y else false
 | .cond _ x y => bif zmZ x then zmZ y else false
 | .block _ c => zmZ c
 | .exit _ => true
 | .ret => true
 | _ => false
theorem zkc (hT : zbt P T) : ∀ (c : Code) {k : Nat} {l : LE} {m : MB} {R : List SF} {Kn : KS} {Kx : Nat → KS} {Kr : KS} {Q : Exit → Act → World → Prop} {h : Hn} {a : Act} {w : World}, zmZ c = true → vC P T N c k l m R Kn Kx Kr → VSt N X G w0 k l m R h a w →
  (∀ k l m R h a w, Kn k l m R → VSt N X G w0 k l m R h a w → Q .normal (dfr ds a) w) → (∀ j k l m R h a w, Kx j k l m R → VSt N X G w0 k l m R h a w → Q (.exit j) (dfr ds a) w) → (∀ k l m R h a w, Kr k l m R → VSt N X G w0 k l m R h a w → Q .ret (dfr ds a) w) → c.wpIn (zby r) n P Q (dfr ds a) w
 | .skip, k, l, m, R, Kn, Kx, Kr, Q, h, a, w, _, hv, H, hn, hx, hr => wpIn_skip (hn _ _ _ _ _ _ _ hv H)
 | .region id ops dr, k, l, m, R, Kn, Kx, Kr, Q, h, a, w, hs, hv, H, hn, hx, hr => by
  unfold vC at hv
  unfold zmZ at hs
  obtain ⟨lo⟩ := ops
  cases dr with
  | true => cases hs
  | false => exact wpIn_region_lit (zzN hT hs hv H hn)
 | .seq x y, k, l, m, R, Kn, Kx, Kr, Q, h, a, w, hs, hv, H, hn, hx, hr => by
  unfold zmZ at hs
  have hs2 := zaa hs
  have direct : vC P T N x k l m R (fun k l m R => vC P T N y k l m R Kn Kx Kr) Kx Kr → (Code.seq x y).wpIn (zby r) n P Q (dfr ds a) w := fun hv =>
   wpIn_seq (zkc hT x hs2.1 hv H (fun k l m R h a w hk HV => zkc hT y hs2.2 hk HV hn hx hr) (fun j k l m R h a w hk HV => hx j k l m R h a w hk HV) fun k l m R h a w hk HV => hr k l m R h a w hk HV)
  unfold vC at hv
  cases hb : Nat.ble 2 (nrm x) with
  | false => rw [hb] at hv; exact direct hv
  | true =>
   rw [hb] at hv
   rcases hv with hv | ⟨γ, I, φ, hv, hg⟩
   ·exact direct hv
   ·exact wpIn_seq (zkc hT x hs2.1 hv H (fun k' l' m' R' h' a' w' hk HV => by
     obtain ⟨g, l2, h2, h3, _, h5, h4⟩ := HV.gen hk hg
     exact zkc hT y hs2.2 h5 h4 hn hx hr) (fun j k l m R h a w hk HV => hx j k l m R h a w hk HV) fun k l m R h a w hk HV => hr k l m R h a w hk HV)
 | .cond c x y, k, l, m, R, Kn, Kx, Kr, Q, h, a, w, hs, hv, H, hn, hx, hr => by
  unfold zmZ at hs
  have hs2 := zaa hs
  unfold vC at hv
  split at hv
  ·rename_i b hb
   have hc := H.env.ev (zaf (h := h) (zd3 hb))
   rw [← zpV (ds := ds)] at hc
   cases b with
   | true => exact wpIn_cond_true hc (zkc hT x hs2.1 hv H hn hx hr)
   | false => exact wpIn_cond_false hc (zkc hT y hs2.2 hv H hn hx hr)
  ·exact hv.elim
 | .block id c, k, l, m, R, Kn, Kx, Kr, Q, h, a, w, hs, hv, H, hn, hx, hr => wpIn_block (zkc hT c hs hv H (fun k l m R h a w hk HV => hn k l m R h a w hk HV) (fun j k l m R h a w hk HV => by
   show if j = id then _ else _
   by_cases e : j = id
   ·subst e
    rw [if_pos rfl]
    rw [Nat.beq_refl] at hk
    exact hn k l m R h a w hk HV
   ·rw [if_neg e]
    have hb : Nat.beq j id = false := by cases hb : Nat.beq j id with | false => rfl | true => exact absurd (Nat.eq_of_beq_eq_true hb) e
    rw [hb] at hk
    exact hx j k l m R h a w hk HV) fun k l m R h a w hk HV => hr k l m R h a w hk HV)
 | .exit id, k, l, m, R, Kn, Kx, Kr, Q, h, a, w, _, hv, H, hn, hx, hr => wpIn_exit (hx _ _ _ _ _ _ _ _ hv H)
 | .ret, k, l, m, R, Kn, Kx, Kr, Q, h, a, w, _, hv, H, hn, hx, hr => wpIn_ret (hr _ _ _ _ _ _ _ hv H)
 | .loop _, _, _, _, _, _, _, _, _, _, _, _, hs, _, _, _, _, _ => by cases hs
 | .rangeFunc _ _ _ _, _, _, _, _, _, _, _, _, _, _, _, hs, _, _, _, _, _ => by cases hs
 | .scope _, _, _, _, _, _, _, _, _, _, _, _, hs, _, _, _, _, _ => by cases hs
 | .label _, _, _, _, _, _, _, _, _, _, _, _, hs, _, _, _, _, _ => by cases hs
 | .goto _, _, _, _, _, _, _, _, _, _, _, _, hs, _, _, _, _, _ => by cases hs
 | .refuse _, _, _, _, _, _, _, _, _, _, _, _, hs, _, _, _, _, _ => by cases hs
theorem VSt.anew {k : Nat} {l : LE} {m : MB} {R R' : List SF} {h : Hn} {a : Act} {w : World} {L : Nat} {o : Obj} (H : VSt N [] G w0 k l m R h a w) (hL : L ∉ zab (zad h [] m)) (hR : ∀ r ∈ zaN h R', ∀ w, r w) (hw : wfR (lt_ k) R' = true) : VSt N [] (zab (zad h [] m)) (w.putObj L o) k l m R' h a (w.putObj L o) := by
 refine ⟨H.env, ⟨fun _ hk => (by cases hk), fun q hq => ?_, H.sp.apart, fun _ _ hk => (by cases hk), fun r hr w' _ => hR r hr w'⟩, Frm.refl _ _, fun j hj => .inl hj, H.wl, H.wm, hw⟩
 exact zbo (H.sp.holds q hq) fun j hj => World.putObj_heap_other fun e => hL (by first | (rw [e]; exact zbC.2 ⟨q, hq, hj⟩) | (rw [← e]; exact zbC.2 ⟨q, hq, hj⟩))
theorem zgq {a : Act} (h : a.defers = []) : dfr [] a = a := by cases a; subst h; rfl
theorem zeY (hT : zbt P T) (c : Code) {k : Nat} {l : LE} {m : MB} {R : List SF} {Kn : KS} {Kx : Nat → KS} {Kr : KS} {Q : Exit → Act → World → Prop} {h : Hn} {a : Act} {w : World} (hs : zmZ c = true) (hv : vC P T N c k l m R Kn Kx Kr) (H : VSt N X G w0 k l m R h a w)
  (hn : ∀ k l m R h a w, Kn k l m R → VSt N X G w0 k l m R h a w → Q .normal a w) (hx : ∀ j k l m R h a w, Kx j k l m R → VSt N X G w0 k l m R h a w → Q (.exit j) a w) (hr : ∀ k l m R h a w, Kr k l m R → VSt N X G w0 k l m R h a w → Q .ret a w) : c.wpIn (zby r) n P Q a w := by
 have := zkc (r := r) (n := n) (ds := []) (Q := Q) hT c hs hv H (fun k l m R h a w hk HV => by rw [zgq HV.env.defers]; exact hn _ _ _ _ _ _ _ hk HV) (fun j k l m R h a w hk HV => by rw [zgq HV.env.defers]; exact hx _ _ _ _ _ _ _ _ hk HV) fun k l m R h a w hk HV => by rw [zgq HV.env.defers]; exact hr _ _ _ _ _ _ _ hk HV
 rwa [zgq H.env.defers] at this
theorem zws (hT : zbt P T) {K : KS} {ops : Array Oper} {os os2 : List Oper} {k : Nat} {l : LE} {m : MB} {R : List SF} {h : Hn} {a : Act} {w : World} (hn : os.all nd = true) (hv : zq7 P T N ops os k l m R K) (H : VSt N X G w0 k l m R h a w) (hK : ∀ k' l' m' R' h' a' w', K k' l' m' R' → VSt N X G w0 k' l' m' R' h' a' w' → wpListIn (zby r) n P ops Q os2 a' w') : wpListIn (zby r) n P ops Q (os ++ os2) a w := by
 have := zhe (r := r) (n := n) (ds := []) (Q := Q) (os2 := os2) hT hn hv H fun k l m R h a w hk HV => by rw [zgq HV.env.defers]; exact hK _ _ _ _ _ _ _ hk HV
 rwa [zgq H.env.defers] at this
theorem zn0 {f : FuncId} {fn : Func} {c : Code} {args : Array Value} {w : World} {R : Ending → World → Prop} {m : Nat} (hn : fn.ntmps = N) (hf : P.funcs[f]? = some fn) (hb : fn.body = some c) (hs : Nat.ble args.size N = true) (h : ∀ a, Env a N (zji 0 args.toList) → c.wpIn (zby none) m P (bodyPost P fn R) a w) : CallsIn (zby none) m P f args w R :=
 callsIn_of_wp hf hb trivial (by subst hn; exact h _ (Env.start _ hs rfl))
theorem zmE {f : FuncId} {fn : Func} {c : Code} {args : Array Value} {w : World} {R : Ending → World → Prop} {m : Nat} (hn : fn.ntmps = N) (hf : P.funcs[f]? = some fn) (hb : fn.body = some c) (hs : Nat.ble args.size N = true) (h : ∀ a, Env a N (zji 0 args.toList) → c.wpIn (zby none) m P (bodyPostM (zby none) m P fn R) a w) : CallsIn (zby none) m P f args w R :=
 callsIn_of_wp_marks hf hb trivial (by subst hn; exact h _ (Env.start _ hs rfl))
theorem zn1 (i : Nat) (hT : zbt P T) {K : KS} {ops : Array Oper} {os : List Oper} {k : Nat} {l : LE} {m : MB} {R : List SF} {h : Hn} {a : Act} {w : World} (H : VSt N X G w0 k l m R h a w) (hn : (os.take i).all nd = true) (hv : zq7 P T N ops (os.take i) k l m R K) (hK : ∀ k' l' m' R' h' a' w', K k' l' m' R' → VSt N X G w0 k' l' m' R' h' a' w' → wpListIn (zby r) n P ops Q (os.drop i) a' w') : wpListIn (zby r) n P ops Q os a w := by
 have := zws hT hn hv H hK
 rwa [List.take_append_drop] at this
abbrev noX : Nat → KS := fun _ _ _ _ _ => False
theorem zBN (hT : zbt P T) (A B C D : Code) {Rg Tl : Code} {k : Nat} {l : LE} {m : MB} {R : List SF} {Kn Kr : KS} {h : Hn} {a : Act} {w : World} (hA : zmZ A = true) (hB : zmZ B = true) (hC : zmZ C = true) (hD : zmZ D = true)
  (hv : vC P T N A k l m R (fun k l m R => vC P T N B k l m R (fun k l m R => vC P T N C k l m R (fun k l m R => vC P T N D k l m R Kn noX Kr) noX Kr) noX Kr) noX Kr) (H : VSt N X G w0 k l m R h a w)
  (hn : ∀ k l m R h a w, Kn k l m R → VSt N X G w0 k l m R h a w → Rg.wpIn (zby r) n P (Exit.then (Tl.wpIn (zby r) n P Q) Q) a w) (hr : ∀ k l m R h a w, Kr k l m R → VSt N X G w0 k l m R h a w → Q .ret a w) : (A.seq (B.seq (C.seq ((D.seq Rg).seq Tl)))).wpIn (zby r) n P Q a w :=
 wpIn_seq (zeY hT A hA hv H (fun _ _ _ _ _ _ _ hv H => wpIn_seq (zeY hT B hB hv H (fun _ _ _ _ _ _ _ hv H => wpIn_seq (zeY hT C hC hv H (fun _ _ _ _ _ _ _ hv H => wpIn_seq (wpIn_seq (zeY hT D hD hv H hn (fun _ _ _ _ _ _ _ _ hk _ => hk.elim) hr))) (fun _ _ _ _ _ _ _ _ hk _ => hk.elim) hr)) (fun _ _ _ _ _ _ _ _ hk _ => hk.elim) hr)) (fun _ _ _ _ _ _ _ _ hk _ => hk.elim) hr)
end
end
section
open Go.RowKit
structure Kept (n : Nat) (A B : World) : Prop where
 os : B.os = A.os
 tape : B.tape = A.tape
 output : B.output = A.output
 size : A.heap.size ≤ B.heap.size
 block : ∀ k, k < n → B.heap[k]? = A.heap[k]?
theorem Kept.refl (n : Nat) (A : World) : Kept n A A := ⟨rfl, rfl, rfl, jV _, fun _ _ => rfl⟩
theorem Kept.trans {n : Nat} {A B C : World} (h : Kept n A B) (k : Kept n B C) : Kept n A C := ⟨k.os.trans h.os, k.tape.trans h.tape, k.output.trans h.output, jU h.size k.size, fun i hi => (k.block i hi).trans (h.block i hi)⟩
theorem Kept.mono {n m : Nat} {A B : World} (h : Kept n A B) (hm : m ≤ n) : Kept m A B := ⟨h.os, h.tape, h.output, h.size, fun i hi => h.block i (jT hi hm)⟩
theorem Kept.put {n l : Nat} {A : World} {o : Obj} (hl : n ≤ l) : Kept n A (A.putObj l o) := ⟨rfl, rfl, rfl, by simp [World.putObj], fun i hi => World.putObj_heap_other (by omega)⟩
theorem Kept.alloc {n : Nat} {A : World} {o : Obj} (hn : n ≤ A.heap.size) : Kept n A (A.alloc o) := ⟨rfl, rfl, rfl, by rw [World.size_alloc]; omega, fun i hi => by
 show (A.heap.push o)[i]? = _
 rw [Array.getElem?_push_lt (by omega)]
 exact (Array.getElem?_eq_getElem (by omega)).symm⟩
def zxC (I : World → Prop) (Ix : Code → World → Prop) (D l : Nat) (A : World) : Exit → Act → World → Prop
 | .normal, _, B => I B ∧ B.heap[l]? = A.heap[l]? ∧ B.heap[D]? = A.heap[D]?
 | .ret, _, B => Ix .ret B ∧ B.heap[l]? = A.heap[l]? ∧ B.heap[D]? = A.heap[D]?
 | _, _, _ => False
abbrev zgr (a : Act) (D : Nat) : Act := { a with defers := { target := .collected D, args := #[] } :: a.defers }
theorem ztS {P : Program} {n : Nat} {g : Operand} {ps : Array Tmp} {assign body : Code} {Q : Exit → Act → World → Prop} {a : Act} {w : World} {gf : Nat} {lb : Array Value}
  (hg : a.eval g = .func (.func gf) #[] lb) (eg : ∀ args w, (callFunc gf args).run P w = .ok (.enter gf args) w)
  {N : Nat} {encs : Nat → Array Value} (hps : ∀ i, (encs i).size = ps.size) (I : Nat → World → Prop) (Ix : Code → World → Prop)
  (hI : ∀ i A B, Kept w.heap.size A B → I i A → I i B) (hIx : ∀ c A B, Kept w.heap.size A B → Ix c A → Ix c B) (h0 : I 0 w)
  (hseq : ∀ (l : Nat) (J : Nat → World → Prop) (Jx : World → Prop) (W : World), (∀ i A, J i A → I i A) → (∀ i A B, Kept A.heap.size A B → J i A → J i B) → (∀ A B, Kept A.heap.size A B → Jx A → Jx B) →
   (∀ i A, i < N → J i A → YieldAt (zby none) (n - 1 - 1) P l (encs i) A fun e B => (e = .returned (.bool true) ∧ J (i + 1) B) ∨ (e = .returned (.bool false) ∧ Jx B)) → J 0 W →
   CallsIn (zby none) (n - 1) P gf (#[.func (.yield l) #[] #[]] ++ lb) W fun e B => (∃ v, e = .returned v) ∧ (J N B ∨ Jx B))
  (hround : ∀ (i : Nat) (A : World), i < N → I i A → w.heap.size + 2 ≤ A.heap.size →
   assign.wpIn (zby (some (w.heap.size + 1))) (n - 1 - 1) P (Exit.then (fun a1 A1 => (A1.heap[w.heap.size + 1]? = A.heap[w.heap.size + 1]? ∧ A1.heap[w.heap.size]? = A.heap[w.heap.size]?) ∧
    ∀ o, body.wpIn (zby (some (w.heap.size + 1))) (n - 1 - 1) P (zxC (I (i + 1)) Ix w.heap.size (w.heap.size + 1) (A1.putObj (w.heap.size + 1) o)) a1 (A1.putObj (w.heap.size + 1) o)) (fun _ _ _ => False))
    { tmps := (ps.zip (encs i)).foldl (fun t (p, v) => t.setIfInBounds p v) a.tmps, defers := [] } A)
  (hdone : ∀ W, I N W → W.heap[w.heap.size]? = some (.deferred (some [])) → w.heap.size < W.heap.size → Q .normal (zgr a w.heap.size) W)
  (hstop : ∀ c W, Ix c W → W.heap[w.heap.size]? = some (.deferred (some [])) → c.wpIn (zby none) n P Q (zgr a w.heap.size) W) :
  (Code.rangeFunc g ps assign body).wpIn (zby none) n P Q a w := by
 refine wpIn_rangeFunc ?_
 intro fn hfn
 obtain ⟨rec, hrec⟩ : ∃ rec : LoopState → Option Code → Loop, rec = fun st pe => { state := st, pending := pe, fn, tmps := a.tmps, params := ps, assign, body, defers := w.heap.size } := ⟨_, rfl⟩
 obtain ⟨W1, hW1⟩ : ∃ W1, (w.alloc (.deferred (some []))).alloc (.loop (rec .ready none)) = W1 := ⟨_, rfl⟩
 have hL1 : W1.heap[w.heap.size + 1]? = some (.loop (rec .ready none)) := by
  rw [← hW1]; have := World.alloc_heap_new (w.alloc (.deferred (some []))) (.loop (rec .ready none)); rwa [World.size_alloc] at this
 have hK1 : W1.heap[w.heap.size]? = some (.deferred (some [])) := by
  rw [← hW1]; exact (Below.heap_alloc _ _ _ (by simp)).trans (World.alloc_heap_new w _)
 have hk1 : Kept w.heap.size w W1 := by
  rw [← hW1]; exact (Kept.alloc (jV _)).trans (Kept.alloc (by simp))
 have hI1 : I 0 W1 := hI _ _ _ hk1 h0
 refine ⟨w.heap.size + 1, [{ target := .collected w.heap.size, args := #[] }], W1, { target := .fn (.func gf) lb, args := #[.func (.yield (w.heap.size + 1)) #[] #[]] }, W1, gf,
  #[.func (.yield (w.heap.size + 1)) #[] #[]] ++ lb, W1, ?_, ?_, ?_, ?_, fun e => (by cases e), ?_⟩
 ·rw [← hW1, hrec]; exact run_enterLoop_outer _ _ _ _ _
 ·simp only [resolve, hg]
  simp [go_sem]
 ·intro f' hf'; trivial
 ·simp [invoke, go_sem, eg]
 ·refine (hseq (w.heap.size + 1)
   (fun i W => I i W ∧ W.heap[w.heap.size + 1]? = some (.loop (rec .ready none)) ∧ W.heap[w.heap.size]? = some (.deferred (some [])) ∧ w.heap.size + 2 ≤ W.heap.size)
   (fun W => ∃ c, Ix c W ∧ W.heap[w.heap.size + 1]? = some (.loop (rec .done (some c))) ∧ W.heap[w.heap.size]? = some (.deferred (some [])) ∧ w.heap.size + 2 ≤ W.heap.size)
   W1 (fun i A h => h.1) (fun i A B hk ⟨h1, h2, h3, h4⟩ => ⟨hI _ _ _ (hk.mono (by omega)) h1, (hk.block _ (by omega)).trans h2, (hk.block _ (by omega)).trans h3, jU h4 hk.size⟩)
   (fun A B hk ⟨c, h1, h2, h3, h4⟩ => ⟨c, hIx _ _ _ (hk.mono (by omega)) h1, (hk.block _ (by omega)).trans h2, (hk.block _ (by omega)).trans h3, jU h4 hk.size⟩)
   ?_ ⟨hI1, hL1, hK1, by rw [← hW1]; simp⟩).mono ?_
  ·rintro i W hiN ⟨hi, hl, hk, hsz⟩
   have hy := run_yield (P := P) (args := encs i) hl (by rw [hrec]; exact hps i)
   rw [hrec] at hy
   refine ⟨fn, _, assign, body, hy, roundIn_of_wpIn hfn (wpIn_mono (hround i W hiN hi hsz) ?_)⟩
   rintro e a1 A1 hq
   cases e with
   | normal =>
    obtain ⟨⟨hl1, hk1⟩, hb⟩ := hq
    have hlA := hl1.trans hl
    have hlt : w.heap.size + 1 < A1.heap.size := (Array.getElem?_eq_some_iff.1 hlA).1
    refine ⟨_, run_beginRound hlA (by rw [hrec]), ?_⟩
    have hl2 : (A1.putObj (w.heap.size + 1) (.loop { rec .ready none with state := .busy })).heap[w.heap.size + 1]? = some (.loop { rec .ready none with state := .busy }) := World.putObj_heap_same hlt
    have hk2 : (A1.putObj (w.heap.size + 1) (.loop { rec .ready none with state := .busy })).heap[w.heap.size]? = some (.deferred (some [])) := (World.putObj_heap_other (by omega)).trans (hk1.trans hk)
    refine wpIn_mono (hb _) ?_
    rintro e a3 W3 hp
    have fin : ∀ (jump : Option Code), W3.heap[w.heap.size + 1]? = some (.loop { rec .ready none with state := .busy }) → W3.heap[w.heap.size]? = some (.deferred (some [])) →
      (Instr.endRound (w.heap.size + 1) jump).run P W3 = .ok (.bool jump.isNone) (W3.putObj (w.heap.size + 1) (.loop (rec (if jump.isNone then .ready else .done) jump))) ∧
      (W3.putObj (w.heap.size + 1) (.loop (rec (if jump.isNone then .ready else .done) jump))).heap[w.heap.size + 1]? = some (.loop (rec (if jump.isNone then .ready else .done) jump)) ∧
      (W3.putObj (w.heap.size + 1) (.loop (rec (if jump.isNone then .ready else .done) jump))).heap[w.heap.size]? = some (.deferred (some [])) ∧ w.heap.size + 2 ≤ (W3.putObj (w.heap.size + 1) (.loop (rec (if jump.isNone then .ready else .done) jump))).heap.size := fun jump hl3 hk3 => by
     have := run_endRound (P := P) jump hl3
     have hlt3 := (Array.getElem?_eq_some_iff.1 hl3).1
     rw [hrec] at this ⊢
     exact ⟨this, World.putObj_heap_same hlt3, (World.putObj_heap_other (by omega)).trans hk3, by simp [World.putObj]; omega⟩
    cases e with
    | normal =>
     obtain ⟨hi3, hl3, hk3⟩ := hp
     obtain ⟨hr, h4, h5, h6⟩ := fin none (hl3.trans hl2) (hk3.trans hk2)
     exact ⟨_, _, hr, .inl ⟨rfl, hI _ _ _ (Kept.put (by omega)) hi3, h4, h5, h6⟩⟩
    | ret =>
     obtain ⟨hi3, hl3, hk3⟩ := hp
     obtain ⟨hr, h4, h5, h6⟩ := fin (some .ret) (hl3.trans hl2) (hk3.trans hk2)
     exact ⟨_, _, hr, .inr ⟨rfl, .ret, hIx _ _ _ (Kept.put (by omega)) hi3, h4, h5, h6⟩⟩
    | exit id => exact hp.elim
    | goto t => exact hp.elim
    | panic ch => exact hp.elim
    | outgrown => exact hp.elim
   | exit id => exact hq.elim
   | goto t => exact hq.elim
   | ret => exact hq.elim
   | panic ch => exact hq.elim
   | outgrown => exact hq.elim
  ·rintro e W2 ⟨⟨v, rfl⟩, (⟨hi, hl, hk, hs⟩ | ⟨c, hi, hl, hk, hs⟩)⟩
   ·exact ⟨none, _, by have := run_endLoop (P := P) hl (by rw [hrec]; simp); rw [hrec] at this; exact this, hdone _ (hI _ _ _ (Kept.put (by omega)) hi) ((World.putObj_heap_other (by omega)).trans hk) (by simp [World.putObj]; omega)⟩
   ·exact ⟨some c, _, by have := run_endLoop (P := P) hl (by rw [hrec]; simp); rw [hrec] at this; exact this, hstop c _ (hIx _ _ _ (Kept.put (by omega)) hi) ((World.putObj_heap_other (by omega)).trans hk)⟩
theorem zwt {P : Program} {n lo : Nat} {o : Oper} {a : Act} {w : World} {K : Act → World → Prop} {Q : Exit → Act → World → Prop} {x : Operand} {xs : Array Operand} {ts : Array TypeId} {args : Array Value} {fn : Nat} {tmps : Array Value} {cA cB : Code} {R : Ending → World → Prop}
  (ho : o.op = .call { callee := .value x, args := xs, argTypes := ts }) (hx : a.eval x = .func (.yield lo) #[] #[]) (ha : xs.map a.eval = args) (hr : (Instr.yield lo args).run P w = .ok (.round lo fn tmps cA cB) w)
  (hR : RoundIn (zby none) (n - 1) P lo fn tmps cA cB w R) (hK : ∀ e w', R e w' → ∃ v, e = .returned v ∧ K (a.put o.dst v) w') : o.wpIn (zby none) n P a w K Q := by
 refine ⟨fun _ _ => trivial, ?_⟩
 have : (Oper.semAt (zby none).round a.eval o).run P w = .ok (.round lo fn tmps cA cB) w := by
  show (execOp a.eval o).run P w = _
  unfold execOp
  rw [ho]
  simp only [resolve, Sem.run_bind, hx, ha, Deferred.ofValue, Sem.run_pure, Result.andThen_ok, invoke, Array.empty_append]
  exact hr
 rw [this]
 refine ⟨fun e => (by cases e), hR.mono fun e w' h => ?_⟩
 obtain ⟨v, rfl, hk⟩ := hK e w' h
 exact hk
theorem zxD {S : Nat → Bool} : ∀ {R1 : List SF}, (∀ x ∈ R1, x.wf S = true) → wfR S R1 = true
 | [], _ => rfl
 | x :: R1, h => zat (h x (List.mem_cons_self ..)) (zxD fun y hy => h y (List.mem_cons_of_mem _ hy))
theorem Frm.putL {G : List Nat} {A : World} {L : Nat} {o : Obj} : Frm (L :: G) A (A.putObj L o) := ⟨rfl, rfl, rfl, by simp [World.putObj], fun k hk hn => World.putObj_heap_other fun e => hn (by first | (rw [e]; exact List.mem_cons_self ..) | (rw [← e]; exact List.mem_cons_self ..))⟩
theorem Frm.wide {G G' : List Nat} {A B : World} (h : Frm G A B) (hG : ∀ k ∈ G, k ∈ G') : Frm G' A B := ⟨h.os, h.tape, h.output, h.size, fun k hk hn => h.block k hk fun hm => hn (hG k hm)⟩
theorem zwu {P : Program} {T : Tab} {N : Nat} {r : Option Nat} {n : Nat} {As Bd : Code} {G : List Nat} {k : Nat} {l : LE} {m : MB} {R : List SF} {h : Hn} {a : Act} {A : World} {Kn Kr : KS} {I : World → Prop} {Ix : Code → World → Prop} {L D : Nat} (R1 : List SF) (hT : zbt P T) (hsA : zmZ As = true) (hsB : zmZ Bd = true) (hL : L ∉ G) (hLw : L < A.heap.size) (hD : D ∉ G) (hDL : D < L) (H : VSt N [] G A k l m R h a A)
  (hv : vC P T N As k l m R (fun k' l' m' R' => (∀ x ∈ R1, x ∈ R') ∧ vC P T N Bd k' l' m' R1 Kn noX Kr) noX (fun _ _ _ _ => False)) (hR1 : ∀ (h : Hn) (r : World → Prop), r ∈ zaN h R1 → ∀ w w', r w → r w')
  (hn : ∀ k l m R h B, Kn k l m R → Sp [] B (zad h [] m) (zaN h R) → Frm (L :: G) A B → I B) (hr : ∀ k l m R h B, Kr k l m R → Sp [] B (zad h [] m) (zaN h R) → Frm (L :: G) A B → Ix .ret B) :
  As.wpIn (zby r) n P (Exit.then (fun a1 A1 => (A1.heap[L]? = A.heap[L]? ∧ A1.heap[D]? = A.heap[D]?) ∧ ∀ o, Bd.wpIn (zby r) n P (zxC I Ix D L (A1.putObj L o)) a1 (A1.putObj L o)) (fun _ _ _ => False)) a A := by
 refine zeY hT As hsA hv H (fun k' l' m' R' h' a' A1 ⟨hsub, hb⟩ H1 => ⟨⟨H1.frm.block L hLw hL, H1.frm.block D (by omega) hD⟩, fun o => ?_⟩) (fun _ _ _ _ _ _ _ _ hk _ => hk.elim) fun _ _ _ _ _ _ _ hk _ => hk.elim
 have hk1 : ∀ j, j < A.heap.size → j ∉ G → j ∉ zab (zad h' [] m') := fun j hj hg hm => (H1.mine j hm).elim hg (by omega)
 have hA2 : (A1.putObj L o).heap.size = A1.heap.size := by simp [World.putObj]
 have hs1 := H1.frm.size
 have fr : ∀ B, Frm (zab (zad h' [] m')) (A1.putObj L o) B → Frm (L :: G) A B := fun B hB =>
  (((H1.frm.wide (fun k hk => List.mem_cons_of_mem _ hk)).trans (Frm.putL (G := [])) (fun k hk => by rcases List.mem_singleton.1 hk with rfl; exact .inl (List.mem_cons_self ..))).trans hB fun k hk => (H1.mine k hk).imp (List.mem_cons_of_mem _) id)
 have HV := H1.anew (o := o) (R' := R1) (hk1 L hLw hL) (fun q hq w => by
  obtain ⟨x, hx, rfl⟩ := zaO.1 hq
  exact hR1 h' _ hq _ _ (H1.sp.facts _ (zaO.2 ⟨x, hsub x hx, rfl⟩)).now) (zxD fun x hx => zb9 H1.wr _ (hsub x hx))
 exact zeY hT Bd hsB hb HV (fun k l m R h a B hk H2 => ⟨hn _ _ _ _ _ _ hk H2.sp (fr B H2.frm), H2.frm.block L (by omega) (hk1 L hLw hL), H2.frm.block D (by omega) (hk1 D (by omega) hD)⟩) (fun _ _ _ _ _ _ _ _ hk _ => hk.elim) fun k l m R h a B hk H2 => ⟨hr _ _ _ _ _ _ hk H2.sp (fr B H2.frm), H2.frm.block L (by omega) (hk1 L hLw hL), H2.frm.block D (by omega) (hk1 D (by omega) hD)⟩
end
section
theorem zwv (v w e : Nat) : zcN (v * w) e = zcN v e * zcN w e := Nat.mul_pow v w e
instance pN_nz : NeZero pN := ⟨by unfold pN; decide +kernel⟩
abbrev K := Fin pN
def toK (a : Nat) : K := ⟨a % pN, Nat.mod_lt _ zdz⟩
theorem ztT (a : K) : toK a.val = a := Fin.ext (Nat.mod_eq_of_lt a.isLt)
theorem zfd (a : Nat) : (toK a).val = a % pN := rfl
theorem zmF {a b : Nat} : toK a = toK b ↔ a % pN = b % pN := ⟨fun h => congrArg Fin.val h, fun h => Fin.ext h⟩
theorem zn2 (a b : Nat) : toK (a + b) = toK a + toK b := Fin.ext (Nat.add_mod a b pN)
theorem zkd (a b : Nat) : toK (a * b) = toK a * toK b := Fin.ext (Nat.mul_mod a b pN)
theorem zn3 (a : Nat) : toK (a % pN) = toK a := Fin.ext (Nat.mod_mod a pN)
theorem zfT : toK 0 = 0 := Fin.ext (by rw [zfd, Nat.zero_mod]; rfl)
theorem zij : toK 1 = 1 := Fin.ext (by rw [zfd]; rfl)
theorem ztU (a b : Nat) : toK (fA a b) = toK a + toK b := by unfold fA; rw [zn3, zn2]
theorem zpW (a b : Nat) : toK (fM a b) = toK a * toK b := by unfold fM; rw [zn3, zkd]
theorem zgE (a b : Nat) (h : b < pN) : toK (fS a b) = toK a - toK b := by
 unfold fS
 rw [zn3, zn2]
 have e : toK (pN - b) + toK b = 0 := by rw [← zn2, Nat.sub_add_cancel (Nat.le_of_lt h)]; exact Fin.ext (by rw [zfd, Nat.mod_self]; rfl)
 grind
theorem zct {a b : K} (h : a * b = 0) : a = 0 ∨ b = 0 := by
 have h1 : a.val * b.val % pN = 0 := congrArg Fin.val h
 have hp : IsP pN := zam.1
 rcases zmp hp (Nat.dvd_of_mod_eq_zero h1) with h2 | h2
 ·exact .inl (Fin.ext (by have := Nat.eq_zero_of_dvd_of_lt h2 a.isLt; rw [this]; rfl))
 ·exact .inr (Fin.ext (by have := Nat.eq_zero_of_dvd_of_lt h2 b.isLt; rw [this]; rfl))
theorem zm0 {a b : K} (ha : a ≠ 0) (hb : b ≠ 0) : a * b ≠ 0 := fun h => (zct h).elim ha hb
theorem zBO (n f b e : Nat) (h : e < 2 ^ f) : pw n f b e = zcN b e % n := zv4 n f b e h
attribute [local irreducible] zcN
def iv (a : K) : K := toK (zcN a.val 57896044618658097711785492504343953926634992332820282019728792003956564819947)
theorem za7 {a : K} (h : a ≠ 0) : a * iv a = 1 := by
 have h1 : a.val % pN ≠ 0 := fun e => h (Fin.ext (by rw [Nat.mod_eq_of_lt a.isLt] at e; rw [e]; rfl))
 have h2 := zmF.2 (zy1 a.val h1)
 rw [zkd, ztT, zij] at h2
 exact h2
theorem zzO : iv 0 = 0 := by
 have h := zmr 57896044618658097711785492504343953926634992332820282019728792003956564819947 pN 0 (by omega) (Nat.zero_mod _)
 have h2 : iv 0 = toK (zcN 0 57896044618658097711785492504343953926634992332820282019728792003956564819947) := rfl
 rw [h2, ← zfT]
 exact zmF.2 (h.trans (Nat.zero_mod _).symm)
theorem zDh {a : K} (h : a ≠ 0) : iv a ≠ 0 := fun e => by
 have h1 := za7 h
 rw [e] at h1
 have : (0 : K) = 1 := by grind
 exact absurd (congrArg Fin.val this) (by decide +kernel)
theorem zgF : (1 : K) ≠ 0 := fun h => absurd (congrArg Fin.val h) (by decide +kernel)
theorem zgG : (2 : K) ≠ 0 := fun h => absurd (congrArg Fin.val h) (by decide +kernel)
theorem zzP {a b : K} (h : a * b = 1) : iv a = b := by
 have ha : a ≠ 0 := fun e => zgF (by rw [← h, e]; grind)
 have := za7 ha
 grind
theorem ztV {a b c : K} (h : c ≠ 0) (e : a * c = b * c) : a = b := by
 have := za7 h
 have e2 : a * c * iv c = b * c * iv c := by rw [e]
 grind
def pk (a : K) (n : Nat) : K := toK (zcN a.val n)
theorem zBP (a : K) : pk a 1 = a := by unfold pk; rw [zpG, ztT]
theorem zpX (a : K) (m n : Nat) : pk a m * pk a n = pk a (m + n) := by unfold pk; rw [← zkd, zpH]
theorem zBQ (a b : K) (n : Nat) : pk (a * b) n = pk a n * pk b n := by
 unfold pk
 rw [← zkd, ← zwv]
 exact zmF.2 (zv7 _ _ _ _ (by rw [show (a * b).val = a.val * b.val % pN from rfl, Nat.mod_mod]))
theorem zzQ {a : K} (h : a ≠ 0) : pk a 57896044618658097711785492504343953926634992332820282019728792003956564819948 = 1 := by
 have h1 : a.val % pN ≠ 0 := fun e => h (Fin.ext (by rw [Nat.mod_eq_of_lt a.isLt] at e; rw [e]; rfl))
 have h2 := zms a.val h1
 unfold pk
 rw [← zij]
 exact zmF.2 (h2.trans (Nat.mod_eq_of_lt zhb).symm)
theorem zhf {a : K} (h : a * a = 1) : a = 1 ∨ a = -1 := by
 have : (a - 1) * (a + 1) = 0 := by grind
 rcases zct this with h1 | h1
 ·exact .inl (by grind)
 ·exact .inr (by grind)
def hf (a : K) : K := pk a 28948022309329048855892746252171976963317496166410141009864396001978282409974
theorem zpY {a : K} (h : a ≠ 0) : hf a = 1 ∨ hf a = -1 := zhf (by
 unfold hf
 rw [zpX]
 exact zzQ h)
theorem ztW (a b : K) : hf (a * b) = hf a * hf b := zBQ a b _
theorem zDi {a : K} (h : a ≠ 0) : hf (a * a) = 1 := by
 rw [ztW]
 rcases zpY h with h1 | h1 <;> rw [h1] <;> grind
theorem zpZ : (-1 : K) ≠ 1 := fun h => absurd (congrArg Fin.val h) (by decide +kernel)
theorem ztX {a : K} (h : hf a = 1) : ∃ r : K, r * r = a := by
 have h1 : pk a 14474011154664524427946373126085988481658748083205070504932198000989141204987 * pk a 14474011154664524427946373126085988481658748083205070504932198000989141204987 = 1 := by rw [zpX]; exact h
 have h2 : pk a 7237005577332262213973186563042994240829374041602535252466099000494570602494 * pk a 7237005577332262213973186563042994240829374041602535252466099000494570602494 = pk a 14474011154664524427946373126085988481658748083205070504932198000989141204987 * a := by
  rw [zpX]
  have := zpX a 14474011154664524427946373126085988481658748083205070504932198000989141204987 1
  rw [zBP] at this
  rw [this]
 rcases zhf h1 with h3 | h3
 ·exact ⟨_, by rw [h2, h3]; grind⟩
 ·have hi : toK 19681161376707505956807079304988542015446066515923890162744021073123829784752 * toK 19681161376707505956807079304988542015446066515923890162744021073123829784752 = (-1 : K) := by decide +kernel
  generalize toK 19681161376707505956807079304988542015446066515923890162744021073123829784752 = i at hi
  generalize pk a 7237005577332262213973186563042994240829374041602535252466099000494570602494 = r at h2
  exact ⟨i * r, by rw [show i * r * (i * r) = i * i * (r * r) by grind, hi, h2, h3]; grind⟩
theorem zBR (v : Nat) (k : Nat) (h : pw pN 256 (v % pN) 28948022309329048855892746252171976963317496166410141009864396001978282409974 = k) : hf (toK v) = toK k := by
 unfold hf pk
 rw [zfd]
 have h1 := zBO pN 256 (v % pN) 28948022309329048855892746252171976963317496166410141009864396001978282409974 (by decide +kernel)
 refine zmF.2 ?_
 rw [← h1, h]
 rw [← h, h1, Nat.mod_mod]
def cA : K := toK 486662
theorem zke : hf (cA - 2) = -1 := by
 have h := zBR 486660 57896044618658097711785492504343953926634992332820282019728792003956564819948 (by decide +kernel)
 have e1 : cA - 2 = toK 486660 := by decide +kernel
 have e2 : (-1 : K) = toK 57896044618658097711785492504343953926634992332820282019728792003956564819948 := by decide +kernel
 rw [e1, h, e2]
def cS : K := toK 48802004052532134862652268456126542835229456083994414501085850622543968879637
theorem zBS : cS * cS = cA + 2 := by decide +kernel
theorem zkf : cA + 2 ≠ 0 := fun h => absurd (congrArg Fin.val h) (by decide +kernel)
theorem zkg : cA - 2 ≠ 0 := fun h => absurd (congrArg Fin.val h) (by decide +kernel)
theorem zp0 {a r : K} (h : r * r = a) (ha : a ≠ 0) : hf a = 1 := by
 rw [← h]
 exact zDi fun e => ha (by rw [← h, e]; grind)
theorem ztY : hf (cA + 2) = 1 := zp0 zBS zkf
theorem zzR (s : K) : s * s ≠ (cA - 2) * (cA + 2) := fun h => by
 have h1 := zp0 h (zm0 zkg zkf)
 rw [ztW, zke, ztY] at h1
 exact zpZ (by grind)
theorem zD8 (x1 y1 x2 y2 x3 y3 d i : K) (hd : d * i = 1) (h1 : x1 * x1 + y1 * y1 = 1 + d * (x1 * x1) * (y1 * y1)) (h2 : x2 * x2 + y2 * y2 = 1 + d * (x2 * x2) * (y2 * y2)) (h3 : x3 * x3 + y3 * y3 = 1 + d * (x3 * x3) * (y3 * y3)) :
  ((x1 * y2 + y1 * x2) * (1 - d * (x1 * x2) * (y1 * y2)) * y3 + (y1 * y2 - x1 * x2) * (1 + d * (x1 * x2) * (y1 * y2)) * x3) * ((1 + d * (x2 * x3) * (y2 * y3)) * (1 - d * (x2 * x3) * (y2 * y3)) + d * (x2 * y3 + y2 * x3) * (y2 * y3 - x2 * x3) * (x1 * y1)) =
  (x1 * (y2 * y3 - x2 * x3) * (1 + d * (x2 * x3) * (y2 * y3)) + y1 * (x2 * y3 + y2 * x3) * (1 - d * (x2 * x3) * (y2 * y3))) * ((1 + d * (x1 * x2) * (y1 * y2)) * (1 - d * (x1 * x2) * (y1 * y2)) + d * (x1 * y2 + y1 * x2) * (y1 * y2 - x1 * x2) * (x3 * y3)) := by grind
theorem zD9 (x1 y1 x2 y2 x3 y3 d i : K) (hd : d * i = 1) (h1 : x1 * x1 + y1 * y1 = 1 + d * (x1 * x1) * (y1 * y1)) (h2 : x2 * x2 + y2 * y2 = 1 + d * (x2 * x2) * (y2 * y2)) (h3 : x3 * x3 + y3 * y3 = 1 + d * (x3 * x3) * (y3 * y3)) :
  ((y1 * y2 - x1 * x2) * (1 + d * (x1 * x2) * (y1 * y2)) * y3 - (x1 * y2 + y1 * x2) * (1 - d * (x1 * x2) * (y1 * y2)) * x3) * ((1 + d * (x2 * x3) * (y2 * y3)) * (1 - d * (x2 * x3) * (y2 * y3)) - d * (x2 * y3 + y2 * x3) * (y2 * y3 - x2 * x3) * (x1 * y1)) =
  (y1 * (y2 * y3 - x2 * x3) * (1 + d * (x2 * x3) * (y2 * y3)) - x1 * (x2 * y3 + y2 * x3) * (1 - d * (x2 * x3) * (y2 * y3))) * ((1 + d * (x1 * x2) * (y1 * y2)) * (1 - d * (x1 * x2) * (y1 * y2)) - d * (x1 * y2 + y1 * x2) * (y1 * y2 - x1 * x2) * (x3 * y3)) := by grind
theorem fr1 {a e y c b x B E : K} (p : b * B = 1) (q : e * E = 1) : (a * e * y + c * b * x) * B * E = a * B * y + c * E * x := by
 rw [show (a * e * y + c * b * x) * B * E = a * B * y * (e * E) + c * E * x * (b * B) by grind, p, q]; grind
theorem zEa {a e y c b x B E : K} (p : b * B = 1) (q : e * E = 1) : (c * b * y - a * e * x) * B * E = c * E * y - a * B * x := by
 rw [show (c * b * y - a * e * x) * B * E = c * E * y * (b * B) - a * B * x * (e * E) by grind, p, q]; grind
theorem fr2 {d a c x y b e B E : K} (p : b * B = 1) (q : e * E = 1) : (b * e + d * a * c * (x * y)) * B * E = 1 + d * (a * B * x) * (c * E * y) := by
 rw [show (b * e + d * a * c * (x * y)) * B * E = b * B * (e * E) + d * (a * B * x) * (c * E * y) by grind, p, q]; grind
theorem zDE {d a c x y b e B E : K} (p : b * B = 1) (q : e * E = 1) : (b * e - d * a * c * (x * y)) * B * E = 1 - d * (a * B * x) * (c * E * y) := by
 rw [show (b * e - d * a * c * (x * y)) * B * E = b * B * (e * E) - d * (a * B * x) * (c * E * y) by grind, p, q]; grind
theorem fr3 {d a c x y b e B E : K} (p : b * B = 1) (q : e * E = 1) : (b * e + d * a * c * (x * y)) * B * E = 1 + d * (x * (a * B)) * (y * (c * E)) := by
 rw [fr2 p q]; grind
theorem zEb {d a c x y b e B E : K} (p : b * B = 1) (q : e * E = 1) : (b * e - d * a * c * (x * y)) * B * E = 1 - d * (x * (a * B)) * (y * (c * E)) := by
 rw [zDE p q]; grind
theorem fr4 {x c b y a e B E : K} (p : b * B = 1) (q : e * E = 1) : (x * c * b + y * a * e) * B * E = x * (c * E) + y * (a * B) := by
 rw [show (x * c * b + y * a * e) * B * E = x * (c * E) * (b * B) + y * (a * B) * (e * E) by grind, p, q]; grind
theorem zEc {x c b y a e B E : K} (p : b * B = 1) (q : e * E = 1) : (y * c * b - x * a * e) * B * E = y * (c * E) - x * (a * B) := by
 rw [show (y * c * b - x * a * e) * B * E = y * (c * E) * (b * B) - x * (a * B) * (e * E) by grind, p, q]; grind
theorem fr6 {u v B E B' E' w z : K} (h : u * v = w * z) : u * B * E * (v * B' * E') = w * B' * E' * (z * B * E) := by
 rw [show u * B * E * (v * B' * E') = u * v * (B * E * B' * E') by grind, h]; grind
theorem zeh : (1 : K) - 0 = 1 := by decide +kernel
theorem fr5 {u v m m' M M' : K} (h : u * m' = v * m) (q : m * M = 1) (q' : m' * M' = 1) : u * M = v * M' := by
 have h1 : u * M = u * m' * M * M' := by rw [show u * m' * M * M' = u * M * (m' * M') by grind, q']; grind
 have h2 : v * M' = v * m * M * M' := by rw [show v * m * M * M' = v * M' * (m * M) by grind, q]; grind
 rw [h1, h2, h]
structure Ed where
 x : K
 y : K
def On (d : K) (P : Ed) : Prop := P.x * P.x + P.y * P.y = 1 + d * (P.x * P.x) * (P.y * P.y)
def zm1 (d : K) : Prop := ∀ s : K, s * s ≠ d
def tE (d : K) (P Q : Ed) : K := d * (P.x * Q.x) * (P.y * Q.y)
def zbJ (d : K) (P Q : Ed) : Ed := ⟨(P.x * Q.y + P.y * Q.x) * iv (1 + tE d P Q), (P.y * Q.y - P.x * Q.x) * iv (1 - tE d P Q)⟩
def zm2 (P : Ed) : Ed := ⟨-P.x, P.y⟩
def zfg : Ed := ⟨0, 1⟩
theorem zDF {d : K} (hd : zm1 d) {P Q : Ed} (hP : On d P) (hQ : On d Q) : tE d P Q * tE d P Q ≠ 1 := by
 obtain ⟨x1, y1⟩ := P
 obtain ⟨x2, y2⟩ := Q
 unfold On tE at *
 dsimp only at *
 intro ht
 generalize hT : d * (x1 * x2) * (y1 * y2) = t at ht
 have hxy : x1 * y1 ≠ 0 := fun e => zgF (by rw [← ht, ← hT]; grind)
 have k1 : (x1 + t * y1) * (x1 + t * y1) = d * ((x1 * y1) * (x2 + y2)) * ((x1 * y1) * (x2 + y2)) := by grind
 have k2 : (x1 - t * y1) * (x1 - t * y1) = d * ((x1 * y1) * (x2 - y2)) * ((x1 * y1) * (x2 - y2)) := by grind
 have key : ∀ a b : K, a * a = d * b * b → b = 0 := by
  intro a b h
  refine Classical.byContradiction fun hb => ?_
  have hi := za7 hb
  refine hd (a * iv b) ?_
  grind
 have z1 := key _ _ k1
 have z2 := key _ _ k2
 have z3 : x2 + y2 = 0 := (zct z1).resolve_left hxy
 have z4 : x2 - y2 = 0 := (zct z2).resolve_left hxy
 have z5 : x2 = 0 := by
  have : 2 * x2 = 0 := by grind
  exact (zct this).resolve_left zgG
 exact zgF (by rw [← ht, ← hT, z5]; grind)
theorem zdP {d : K} (hd : zm1 d) {P Q : Ed} (hP : On d P) (hQ : On d Q) : 1 + tE d P Q ≠ 0 := fun e => zDF hd hP hQ (by grind)
theorem zbU {d : K} (hd : zm1 d) {P Q : Ed} (hP : On d P) (hQ : On d Q) : 1 - tE d P Q ≠ 0 := fun e => zDF hd hP hQ (by grind)
theorem zBT (d : K) : On d zfg := by unfold On zfg; dsimp only; grind
theorem zp1 {d : K} {P : Ed} (h : On d P) : On d (zm2 P) := by unfold On zm2 at *; dsimp only; grind
theorem zmG {d : K} (hd : zm1 d) {P Q : Ed} (hP : On d P) (hQ : On d Q) : On d (zbJ d P Q) := by
 have p1 := za7 (zdP hd hP hQ)
 have p2 := za7 (zbU hd hP hQ)
 have p1' := zdP hd hP hQ
 have p2' := zbU hd hP hQ
 unfold On zbJ tE at *
 dsimp only
 generalize iv (1 + d * (P.x * Q.x) * (P.y * Q.y)) = B at *
 generalize iv (1 - d * (P.x * Q.x) * (P.y * Q.y)) = E at *
 generalize P.x = x1 at *
 generalize P.y = y1 at *
 generalize Q.x = x2 at *
 generalize Q.y = y2 at *
 have key : ((x1 * y2 + y1 * x2) * (x1 * y2 + y1 * x2)) * ((1 - d * (x1 * x2) * (y1 * y2)) * (1 - d * (x1 * x2) * (y1 * y2))) + ((y1 * y2 - x1 * x2) * (y1 * y2 - x1 * x2)) * ((1 + d * (x1 * x2) * (y1 * y2)) * (1 + d * (x1 * x2) * (y1 * y2))) = ((1 - d * (x1 * x2) * (y1 * y2)) * (1 - d * (x1 * x2) * (y1 * y2))) * ((1 + d * (x1 * x2) * (y1 * y2)) * (1 + d * (x1 * x2) * (y1 * y2))) + d * ((x1 * y2 + y1 * x2) * (x1 * y2 + y1 * x2)) * ((y1 * y2 - x1 * x2) * (y1 * y2 - x1 * x2)) := by grind
 generalize 1 + d * (x1 * x2) * (y1 * y2) = b at *
 generalize 1 - d * (x1 * x2) * (y1 * y2) = e at *
 generalize x1 * y2 + y1 * x2 = a at *
 generalize y1 * y2 - x1 * x2 = c at *
 clear hP hQ
 refine ztV (zm0 (zm0 p1' p1') (zm0 p2' p2')) ?_
 grind
theorem ztZ {d : K} (P Q : Ed) : zbJ d P Q = zbJ d Q P := by
 unfold zbJ tE
 congr 1
 ·congr 1
  ·grind
  ·congr 1
   grind
 ·congr 1
  ·grind
  ·congr 1
   grind
theorem zp2 {d : K} (P : Ed) : zbJ d P zfg = P := by
 have h1 : iv (1 : K) = 1 := zzP (by grind)
 unfold zbJ tE zfg
 dsimp only
 have z : d * (P.x * 0) * (P.y * 1) = 0 := by grind
 have z1 : ∀ t : K, t = 0 → 1 + t = 1 := fun t h => by rw [h]; exact Fin.add_zero 1
 have z2 : ∀ t : K, t = 0 → 1 - t = 1 := fun t h => by rw [h]; exact zeh
 rw [z1 _ z, z2 _ z, h1, show (P.x * 1 + P.y * 0) * 1 = P.x by grind, show (P.y * 1 - P.x * 0) * 1 = P.y by grind]
theorem zBU {d : K} (hd : zm1 d) {P : Ed} (h : On d P) : zbJ d P (zm2 P) = zfg := by
 have p1 := za7 (zdP hd h (zp1 h))
 have p2 := za7 (zbU hd h (zp1 h))
 unfold zbJ zfg
 unfold tE zm2 On at *
 dsimp only at *
 generalize iv _ = B at *
 generalize iv _ = E at *
 congr 1
 ·grind
 ·grind
theorem zp3 {d : K} (hd : zm1 d) {P Q R : Ed} (hP : On d P) (hQ : On d Q) (hR : On d R) (d0 : d ≠ 0) : zbJ d (zbJ d P Q) R = zbJ d P (zbJ d Q R) := by
 have i0 := za7 d0
 have p1 := za7 (zdP hd hP hQ)
 have p2 := za7 (zbU hd hP hQ)
 have p3 := za7 (zdP hd hQ hR)
 have p4 := za7 (zbU hd hQ hR)
 have q1 := za7 (zdP hd (zmG hd hP hQ) hR)
 have q2 := za7 (zbU hd (zmG hd hP hQ) hR)
 have q3 := za7 (zdP hd hP (zmG hd hQ hR))
 have q4 := za7 (zbU hd hP (zmG hd hQ hR))
 rw [show zbJ d (zbJ d P Q) R = ⟨((zbJ d P Q).x * R.y + (zbJ d P Q).y * R.x) * iv (1 + tE d (zbJ d P Q) R), ((zbJ d P Q).y * R.y - (zbJ d P Q).x * R.x) * iv (1 - tE d (zbJ d P Q) R)⟩ from rfl, show zbJ d P (zbJ d Q R) = ⟨(P.x * (zbJ d Q R).y + P.y * (zbJ d Q R).x) * iv (1 + tE d P (zbJ d Q R)), (P.y * (zbJ d Q R).y - P.x * (zbJ d Q R).x) * iv (1 - tE d P (zbJ d Q R))⟩ from rfl]
 unfold On at hP hQ hR
 generalize iv (1 + tE d (zbJ d P Q) R) = M at *
 generalize iv (1 - tE d (zbJ d P Q) R) = N at *
 generalize iv (1 + tE d P (zbJ d Q R)) = M' at *
 generalize iv (1 - tE d P (zbJ d Q R)) = N' at *
 unfold zbJ at *
 dsimp only at *
 unfold tE at *
 dsimp only at *
 generalize P.x = x1 at *
 generalize P.y = y1 at *
 generalize Q.x = x2 at *
 generalize Q.y = y2 at *
 generalize R.x = x3 at *
 generalize R.y = y3 at *
 generalize iv (1 + d * (x1 * x2) * (y1 * y2)) = B at *
 generalize iv (1 - d * (x1 * x2) * (y1 * y2)) = E at *
 generalize iv (1 + d * (x2 * x3) * (y2 * y3)) = B' at *
 generalize iv (1 - d * (x2 * x3) * (y2 * y3)) = E' at *
 generalize iv d = i at *
 have kx := zD8 x1 y1 x2 y2 x3 y3 d i i0 hP hQ hR
 have ky := zD9 x1 y1 x2 y2 x3 y3 d i i0 hP hQ hR
 clear hP hQ hR i0
 generalize 1 + d * (x1 * x2) * (y1 * y2) = b at *
 generalize 1 - d * (x1 * x2) * (y1 * y2) = e at *
 generalize 1 + d * (x2 * x3) * (y2 * y3) = b' at *
 generalize 1 - d * (x2 * x3) * (y2 * y3) = e' at *
 generalize x1 * y2 + y1 * x2 = a at *
 generalize y1 * y2 - x1 * x2 = c at *
 generalize x2 * y3 + y2 * x3 = a' at *
 generalize y2 * y3 - x2 * x3 = c' at *
 refine (congr (congrArg Ed.mk ?_) ?_)
 ·have g1 := fr6 (B := B) (E := E) (B' := B') (E' := E') kx
  rw [fr1 p1 p2, fr3 p3 p4, fr4 p3 p4, fr2 p1 p2] at g1
  exact fr5 g1 q1 q3
 ·have g1 := fr6 (B := B) (E := E) (B' := B') (E' := E') ky
  rw [zEa p1 p2, zEb p3 p4, zEc p3 p4, zDE p1 p2] at g1
  exact fr5 g1 q2 q4
end
section
attribute [local irreducible] zcN
def zcG (d : K) (P : Ed) : Nat → Ed
 | 0 => zfg
 | n + 1 => zbJ d (zcG d P n) P
theorem zei {d : K} (hd : zm1 d) {P : Ed} (h : On d P) : ∀ n, On d (zcG d P n)
 | 0 => zBT d
 | n + 1 => zmG hd (zei hd h n) h
theorem zik {d : K} (P : Ed) : zbJ d zfg P = P := by rw [ztZ, zp2]
theorem zeI {d : K} (hd : zm1 d) (d0 : d ≠ 0) {P : Ed} (h : On d P) (m : Nat) : ∀ n, zcG d P (m + n) = zbJ d (zcG d P m) (zcG d P n)
 | 0 => (zp2 _).symm
 | n + 1 => by
  rw [← Nat.add_assoc, show zcG d P (m + n + 1) = zbJ d (zcG d P (m + n)) P from rfl, zeI hd d0 h m n, show zcG d P (n + 1) = zbJ d (zcG d P n) P from rfl]
  exact zp3 hd (zei hd h m) (zei hd h n) h d0
theorem zhg {d : K} (hd : zm1 d) (d0 : d ≠ 0) {P : Ed} (h : On d P) (m : Nat) : ∀ n, zcG d (zcG d P m) n = zcG d P (m * n)
 | 0 => rfl
 | n + 1 => by
  rw [show zcG d (zcG d P m) (n + 1) = zbJ d (zcG d (zcG d P m) n) (zcG d P m) from rfl, zhg hd d0 h m n, Nat.mul_succ, zeI hd d0 h]
theorem zww {d : K} (hd : zm1 d) (d0 : d ≠ 0) {P : Ed} (h : On d P) (n : Nat) : zbJ d (zcG d P (n + 1)) (zm2 (zcG d P n)) = P := by
 rw [show zcG d P (n + 1) = zbJ d (zcG d P n) P from rfl, ztZ (zcG d P n) P, zp3 hd h (zei hd h n) (zp1 (zei hd h n)) d0, zBU hd (zei hd h n), zp2]
theorem zn4 {d : K} : ∀ n, zcG d zfg n = zfg
 | 0 => rfl
 | n + 1 => by rw [show zcG d zfg (n + 1) = zbJ d (zcG d zfg n) zfg from rfl, zn4 n, zp2]
def zgV : Ed := ⟨0, -1⟩
theorem zmH {d : K} : zbJ d zgV zgV = zfg := by
 have h1 : iv (1 : K) = 1 := zzP (by grind)
 unfold zbJ tE zgV zfg
 dsimp only
 have z : d * (0 * 0) * (-1 * -1) = (0 : K) := by grind
 have z1 : (1 : K) + 0 = 1 := Fin.add_zero 1
 rw [z, z1, zeh, h1]
 congr 1 <;> decide +kernel
theorem zp4 {d : K} : ∀ n, zcG d zgV n = zfg ∨ zcG d zgV n = zgV
 | 0 => .inl rfl
 | n + 1 => by
  rw [show zcG d zgV (n + 1) = zbJ d (zcG d zgV n) zgV from rfl]
  rcases zp4 (d := d) n with h | h
  ·rw [h, zik]; exact .inr rfl
  ·rw [h, zmH]; exact .inl rfl
def cB : K := toK 121665
theorem zBV : cA = 4 * cB + 2 := by decide +kernel
structure Cv (d e : K) : Prop where
 free : zm1 d
 nz : d ≠ 0
 way : e = 1 ∧ d * (cB + 1) = cB ∨ e = -1 ∧ d * cB = cB + 1
def Rep (e X Z : K) (P : Ed) : Prop := X * (1 - P.y) = e * Z * (1 + P.y) ∧ ¬(X = 0 ∧ Z = 0)
theorem zDj : (2 : K) * iv 2 = 1 := za7 zgG
theorem zn5 {e X Z : K} {P : Ed} (he : e * e = 1) (h : Rep e X Z P) : ∃ l : K, l ≠ 0 ∧ X = e * l * (1 + P.y) ∧ Z = l * (1 - P.y) := by
 obtain ⟨h1, h2⟩ := h
 have h3 := zDj
 generalize iv (2 : K) = t at h3
 have a1 : X = e * ((e * X + Z) * t) * (1 + P.y) := by
  generalize P.y = y at *
  grind
 have a2 : Z = (e * X + Z) * t * (1 - P.y) := by
  generalize P.y = y at *
  grind
 refine ⟨_, fun e0 => h2 ?_, a1, a2⟩
 rw [e0] at a1 a2
 exact ⟨by rw [a1]; grind, by rw [a2]; grind⟩
theorem ee {d e : K} (h : Cv d e) : e * e = 1 := by rcases h.way with ⟨h1, _⟩ | ⟨h1, _⟩ <;> rw [h1] <;> decide +kernel
theorem zwx {d y x c : K} (hd : d * (c + 1) = c) (h : x * x + y * y = 1 + d * (x * x) * (y * y)) : (1 - x * x) * (1 + c * (1 - y * y)) = y * y := by grind
theorem zwy {d y x c : K} (hd : d * c = c + 1) (h : x * x + y * y = 1 + d * (x * x) * (y * y)) : (1 - x * x) * (c - (c + 1) * (y * y)) = -(y * y) := by grind
theorem zDk {d : K} {P : Ed} (hd : zm1 d) (h : On d P) : ∃ q : K, q ≠ 0 ∧ q * (1 - (zbJ d P P).y) = 2 - 2 * (P.y * P.y) ∧ q * (1 + (zbJ d P P).y) = 2 - 2 * (P.x * P.x) := by
 have p2 := za7 (zbU hd h h)
 have p2' := zbU hd h h
 refine ⟨_, p2', ?_, ?_⟩
 ·unfold zbJ
  unfold tE On at *
  dsimp only at *
  generalize iv _ = E at *
  generalize P.x = x at *
  generalize P.y = y at *
  rw [show (1 - d * (x * x) * (y * y)) * (1 - (y * y - x * x) * E) = (1 - d * (x * x) * (y * y)) - (y * y - x * x) * ((1 - d * (x * x) * (y * y)) * E) by clear h p2 p2'; grind, p2]
  clear p2 p2'
  grind
 ·unfold zbJ
  unfold tE On at *
  dsimp only at *
  generalize iv _ = E at *
  generalize P.x = x at *
  generalize P.y = y at *
  rw [show (1 - d * (x * x) * (y * y)) * (1 + (y * y - x * x) * E) = (1 - d * (x * x) * (y * y)) + (y * y - x * x) * ((1 - d * (x * x) * (y * y)) * E) by clear h p2 p2'; grind, p2]
  clear p2 p2'
  grind
theorem zcf {a b c : K} (h : c ≠ 0) (e : c * a = c * b) : a = b := ztV h (by rw [show a * c = c * a by grind, e]; grind)
theorem zi7 : (16 : K) ≠ 0 := fun h => absurd (congrArg Fin.val h) (by decide +kernel)
theorem zDm : cB ≠ 0 := fun h => absurd (congrArg Fin.val h) (by decide +kernel)
theorem zBW : cB + 1 ≠ 0 := fun h => absurd (congrArg Fin.val h) (by decide +kernel)
theorem zzS {d e X Z : K} {P : Ed} (hc : Cv d e) (hP : On d P) (h : Rep e X Z P) :
  Rep e (((X + Z) * (X + Z)) * ((X - Z) * (X - Z))) (((X + Z) * (X + Z) - (X - Z) * (X - Z)) * ((X + Z) * (X + Z) + cB * ((X + Z) * (X + Z) - (X - Z) * (X - Z)))) (zbJ d P P) := by
 obtain ⟨l, hl, e1, e2⟩ := zn5 (ee hc) h
 obtain ⟨q, hq, k1, k2⟩ := zDk hc.free hP
 clear h
 unfold Rep
 have c0 := zDm
 have c1 := zBW
 have w := hc.way
 generalize cB = c at *
 generalize (zbJ d P P).y = Y at *
 unfold On at hP
 generalize P.x = x at *
 generalize P.y = y at *
 have l4 : 16 * (l * l * l * l) ≠ 0 := zm0 zi7 (zm0 (zm0 (zm0 hl hl) hl) hl)
 subst e1 e2
 rcases w with ⟨he, hd⟩ | ⟨he, hd⟩
 ·subst he
  have k3 := zwx hd hP
  have g1 : (1 * l * (1 + y) + l * (1 - y)) * (1 * l * (1 + y) + l * (1 - y)) = 4 * (l * l) := by clear k1 k2 k3 hP hd; grind
  have g2 : (1 * l * (1 + y) - l * (1 - y)) * (1 * l * (1 + y) - l * (1 - y)) = 4 * (l * l) * (y * y) := by clear k1 k2 k3 hP hd; grind
  rw [g1, g2]
  clear g1 g2
  have g3 : 4 * (l * l) * (4 * (l * l) * (y * y)) = 16 * (l * l * l * l) * (y * y) := by clear k1 k2 k3 hP hd; grind
  have g4 : (4 * (l * l) - 4 * (l * l) * (y * y)) * (4 * (l * l) + c * (4 * (l * l) - 4 * (l * l) * (y * y))) = 16 * (l * l * l * l) * ((1 - y * y) * (1 + c * (1 - y * y))) := by clear k1 k2 k3 hP hd; grind
  rw [g3, g4]
  clear g3 g4
  generalize 16 * (l * l * l * l) = m at *
  refine ⟨zcf hq ?_, fun ⟨z1, z2⟩ => ?_⟩
  ·rw [show q * (m * (y * y) * (1 - Y)) = m * (y * y) * (q * (1 - Y)) by clear k1 k2 k3 hP hd; grind, show q * (1 * (m * ((1 - y * y) * (1 + c * (1 - y * y)))) * (1 + Y)) = m * ((1 - y * y) * (1 + c * (1 - y * y))) * (q * (1 + Y)) by clear k1 k2 k3 hP hd; grind, k1, k2, show m * ((1 - y * y) * (1 + c * (1 - y * y))) * (2 - 2 * (x * x)) = m * (2 - 2 * (y * y)) * ((1 - x * x) * (1 + c * (1 - y * y))) by clear k1 k2 k3 hP hd; grind, k3]
   clear k1 k2 k3 hP hd
   grind
  ·have z3 := (zct z1).resolve_left l4
   have z4 := (zct z2).resolve_left l4
   rw [z3] at z4
   exact c1 (by clear k1 k2 k3 hP hd; grind)
 ·subst he
  have k3 := zwy hd hP
  have g1 : (-1 * l * (1 + y) + l * (1 - y)) * (-1 * l * (1 + y) + l * (1 - y)) = 4 * (l * l) * (y * y) := by clear k1 k2 k3 hP hd; grind
  have g2 : (-1 * l * (1 + y) - l * (1 - y)) * (-1 * l * (1 + y) - l * (1 - y)) = 4 * (l * l) := by clear k1 k2 k3 hP hd; grind
  rw [g1, g2]
  clear g1 g2
  have g3 : 4 * (l * l) * (y * y) * (4 * (l * l)) = 16 * (l * l * l * l) * (y * y) := by clear k1 k2 k3 hP hd; grind
  have g4 : (4 * (l * l) * (y * y) - 4 * (l * l)) * (4 * (l * l) * (y * y) + c * (4 * (l * l) * (y * y) - 4 * (l * l))) = 16 * (l * l * l * l) * ((1 - y * y) * (c - (c + 1) * (y * y))) := by clear k1 k2 k3 hP hd; grind
  rw [g3, g4]
  clear g3 g4
  generalize 16 * (l * l * l * l) = m at *
  refine ⟨zcf hq ?_, fun ⟨z1, z2⟩ => ?_⟩
  ·rw [show q * (m * (y * y) * (1 - Y)) = m * (y * y) * (q * (1 - Y)) by clear k1 k2 k3 hP hd; grind, show q * (-1 * (m * ((1 - y * y) * (c - (c + 1) * (y * y)))) * (1 + Y)) = -(m * ((1 - y * y) * (c - (c + 1) * (y * y))) * (q * (1 + Y))) by clear k1 k2 k3 hP hd; grind, k1, k2, show m * ((1 - y * y) * (c - (c + 1) * (y * y))) * (2 - 2 * (x * x)) = m * (2 - 2 * (y * y)) * ((1 - x * x) * (c - (c + 1) * (y * y))) by clear k1 k2 k3 hP hd; grind, k3]
   clear k1 k2 k3 hP hd
   grind
  ·have z3 := (zct z1).resolve_left l4
   have z4 := (zct z2).resolve_left l4
   rw [z3] at z4
   exact c0 (by clear k1 k2 k3 hP hd; grind)
theorem zDn {d : K} {P Q : Ed} (hd : zm1 d) (hP : On d P) (hQ : On d Q) : (P.y + Q.y) * (P.y + Q.y) * ((1 - (zbJ d P Q).y) * (1 - (zbJ d P (zm2 Q)).y)) = (P.y - Q.y) * (P.y - Q.y) * ((1 + (zbJ d P Q).y) * (1 + (zbJ d P (zm2 Q)).y)) := by
 have p1 := za7 (zdP hd hP hQ)
 have p2 := za7 (zbU hd hP hQ)
 have p3 := za7 (zbU hd hP (zp1 hQ))
 have p1' := zdP hd hP hQ
 have p2' := zbU hd hP hQ
 unfold zbJ
 unfold tE zm2 On at *
 dsimp only at *
 have t1 : 1 - d * (P.x * -Q.x) * (P.y * Q.y) = 1 + d * (P.x * Q.x) * (P.y * Q.y) := by clear p1 p2 p3 hP hQ p1' p2'; grind
 rw [t1] at p3 ⊢
 clear p3 t1
 generalize iv (1 + d * (P.x * Q.x) * (P.y * Q.y)) = B at *
 generalize iv (1 - d * (P.x * Q.x) * (P.y * Q.y)) = E at *
 generalize P.x = x1 at *
 generalize P.y = y1 at *
 generalize Q.x = x2 at *
 generalize Q.y = y2 at *
 have key : (y1 + y2) * (y1 + y2) * ((1 - d * (x1 * x2) * (y1 * y2) - (y1 * y2 - x1 * x2)) * (1 + d * (x1 * x2) * (y1 * y2) - (y1 * y2 + x1 * x2))) = (y1 - y2) * (y1 - y2) * ((1 - d * (x1 * x2) * (y1 * y2) + (y1 * y2 - x1 * x2)) * (1 + d * (x1 * x2) * (y1 * y2) + (y1 * y2 + x1 * x2))) := by clear p1 p2 p1' p2'; grind
 generalize 1 + d * (x1 * x2) * (y1 * y2) = b at *
 generalize 1 - d * (x1 * x2) * (y1 * y2) = q at *
 clear hP hQ
 rw [show y1 * y2 - x1 * -x2 = y1 * y2 + x1 * x2 by clear p1 p2 key p1' p2'; grind]
 generalize y1 * y2 - x1 * x2 = s at *
 generalize y1 * y2 + x1 * x2 = r at *
 have m1 : q * (1 - s * E) = q - s := by clear p1 key p1' p2'; grind
 have m2 : q * (1 + s * E) = q + s := by clear p1 key p1' p2'; grind
 have m3 : b * (1 - r * B) = b - r := by clear p2 key p1' p2'; grind
 have m4 : b * (1 + r * B) = b + r := by clear p2 key p1' p2'; grind
 clear p1 p2
 generalize 1 - s * E = u1 at *
 generalize 1 + s * E = u2 at *
 generalize 1 - r * B = u3 at *
 generalize 1 + r * B = u4 at *
 refine zcf (zm0 p2' p1') ?_
 rw [show q * b * ((y1 + y2) * (y1 + y2) * (u1 * u3)) = (y1 + y2) * (y1 + y2) * ((q * u1) * (b * u3)) by clear key m1 m2 m3 m4 p1' p2'; grind, show q * b * ((y1 - y2) * (y1 - y2) * (u2 * u4)) = (y1 - y2) * (y1 - y2) * ((q * u2) * (b * u4)) by clear key m1 m2 m3 m4 p1' p2'; grind, m1, m2, m3, m4]
 exact key
theorem zp5 {d x1 y1 : K} (h : x1 * x1 + y1 * y1 = 1 + d * (x1 * x1) * (y1 * y1)) (hy : y1 = 0) : x1 * x1 = 1 := by
 have h1 : x1 * x1 = (x1 * x1 + y1 * y1) - y1 * y1 := by clear h hy; grind
 rw [h1, h, hy]
 clear h h1
 have h2 : ∀ t : K, 1 + t * (0 * 0) - 0 * 0 = 1 := fun t => by
  have z : t * (0 * 0) = 0 := by grind
  rw [z]
  decide +kernel
 exact h2 _
theorem zwz {d : K} {P Q : Ed} (hP : On d P) (hQ : On d Q) (h1 : P.y = 0) (h2 : Q.y = 0) : (zbJ d P (zm2 Q)).y * (zbJ d P (zm2 Q)).y = 1 := by
 have e1 := zp5 hP h1
 have e2 := zp5 hQ h2
 have i1 : iv (1 : K) = 1 := zzP (by grind)
 unfold zbJ tE zm2
 dsimp only
 rw [h1, h2, show d * (P.x * -Q.x) * (0 * 0) = 0 by clear e1 e2 hP hQ h1 h2; grind, zeh, i1]
 generalize P.x = x1 at *
 generalize Q.x = x2 at *
 rw [show (0 * 0 - x1 * -x2) * 1 * ((0 * 0 - x1 * -x2) * 1) = (x1 * x1) * (x2 * x2) by clear e1 e2 hP hQ h1 h2; grind, e1, e2]
 decide +kernel
theorem zzT {d e X1 Z1 X2 Z2 u : K} {P Q : Ed} (hc : Cv d e) (hP : On d P) (hQ : On d Q) (h1 : Rep e X1 Z1 P) (h2 : Rep e X2 Z2 Q)
  (hu : u * (1 - (zbJ d P (zm2 Q)).y) = e * (1 + (zbJ d P (zm2 Q)).y)) (hu0 : u ≠ 0) :
  Rep e (((X2 - Z2) * (X1 + Z1) + (X2 + Z2) * (X1 - Z1)) * ((X2 - Z2) * (X1 + Z1) + (X2 + Z2) * (X1 - Z1))) (u * (((X2 - Z2) * (X1 + Z1) - (X2 + Z2) * (X1 - Z1)) * ((X2 - Z2) * (X1 + Z1) - (X2 + Z2) * (X1 - Z1)))) (zbJ d P Q) := by
 obtain ⟨l, hl, a1, a2⟩ := zn5 (ee hc) h1
 obtain ⟨m, hm, b1, b2⟩ := zn5 (ee hc) h2
 have k := zDn hc.free hP hQ
 have dn := zwz hP hQ
 have he := ee hc
 clear h1 h2
 unfold Rep
 have w : e = 1 ∨ e = -1 := zhf he
 generalize (zbJ d P Q).y = S at *
 generalize (zbJ d P (zm2 Q)).y = D at *
 clear hP hQ hc
 generalize P.y = y1 at *
 generalize Q.y = y2 at *
 have n0 : 16 * (l * l) * (m * m) ≠ 0 := zm0 (zm0 zi7 (zm0 hl hl)) (zm0 hm hm)
 have v0 : 1 - D ≠ 0 := fun z => zgG (by
  have z2 : e * (1 + D) = 0 := by rw [← hu, z]; clear dn k hu; grind
  have z3 : 1 + D = e * (e * (1 + D)) := by rw [show e * (e * (1 + D)) = e * e * (1 + D) by clear dn k hu z z2 he; grind, he]; clear dn k hu z z2 he; grind
  rw [z2] at z3
  clear dn k hu z2 he
  grind)
 have g : ((X2 - Z2) * (X1 + Z1) + (X2 + Z2) * (X1 - Z1)) * ((X2 - Z2) * (X1 + Z1) + (X2 + Z2) * (X1 - Z1)) = 16 * (l * l) * (m * m) * ((y1 + y2) * (y1 + y2)) ∧ ((X2 - Z2) * (X1 + Z1) - (X2 + Z2) * (X1 - Z1)) * ((X2 - Z2) * (X1 + Z1) - (X2 + Z2) * (X1 - Z1)) = 16 * (l * l) * (m * m) * ((y1 - y2) * (y1 - y2)) := by
  clear dn k hu v0 n0 hu0 he
  subst a1 a2 b1 b2
  rcases w with w | w <;> subst w <;> constructor <;> grind
 rw [g.1, g.2]
 clear g a1 a2 b1 b2
 generalize 16 * (l * l) * (m * m) = n at *
 refine ⟨zcf v0 ?_, fun ⟨z1, z2⟩ => ?_⟩
 ·rw [show (1 - D) * (n * ((y1 + y2) * (y1 + y2)) * (1 - S)) = n * ((y1 + y2) * (y1 + y2) * ((1 - S) * (1 - D))) by clear dn k hu v0 n0 hu0 he; grind, k, show (1 - D) * (e * (u * (n * ((y1 - y2) * (y1 - y2)))) * (1 + S)) = e * (u * (1 - D)) * (n * ((y1 - y2) * (y1 - y2)) * (1 + S)) by clear dn k hu v0 n0 hu0 he; grind, hu, show e * (e * (1 + D)) * (n * ((y1 - y2) * (y1 - y2)) * (1 + S)) = e * e * ((1 + D) * (n * ((y1 - y2) * (y1 - y2)) * (1 + S))) by clear dn k hu v0 n0 hu0 he; grind, he]
  clear dn k hu v0 n0 hu0 he
  grind
 ·have s1 : y1 + y2 = 0 := by
   have := (zct z1).resolve_left n0
   rcases zct this with h | h <;> exact h
  have s2 : y1 - y2 = 0 := by
   have := (zct ((zct z2).resolve_left hu0)).resolve_left n0
   rcases zct this with h | h <;> exact h
  have s3 : y1 = 0 := by
   have : 2 * y1 = 0 := by clear dn k hu z1 z2 he w; grind
   exact (zct this).resolve_left zgG
  have s4 : y2 = 0 := by
   have : 2 * y2 = 0 := by clear dn k hu z1 z2 he w; grind
   exact (zct this).resolve_left zgG
  rcases zhf (dn s3 s4) with h | h
  ·exact v0 (by rw [h]; decide +kernel)
  ·rw [h] at hu
   have : u * 2 = 0 := by
    have e1 : u * 2 = u * (1 - -1) := by clear hu k dn he; grind
    rw [e1, hu]
    clear hu k dn he
    grind
   exact (zct this).elim hu0 zgG
def zqS (e : K) (q : Pt) (P : Ed) : Prop := Rep e (toK q.x) (toK q.z) P
theorem zp6 {d e : K} {q : Pt} {P : Ed} (hc : Cv d e) (hP : On d P) (hq : zgT q) (h : zqS e q P) : zqS e (ztg q) (zbJ d P P) := by
 unfold zqS at *
 have := zzS hc hP h
 unfold ztg zv8
 dsimp only
 simp only [zpW, ztU, zgE _ _ hq.2, zgE _ _ (zgk _ _)]
 exact this
theorem zwA {d e : K} {q s : Pt} {u : Nat} {P Q : Ed} (hc : Cv d e) (hP : On d P) (hQ : On d Q) (hq : zgT q) (hs : zgT s) (h1 : zqS e q P) (h2 : zqS e s Q)
  (hu : toK u * (1 - (zbJ d P (zm2 Q)).y) = e * (1 + (zbJ d P (zm2 Q)).y)) (hu0 : toK u ≠ 0) : zqS e (zpJ u q s) (zbJ d P Q) := by
 unfold zqS at *
 have := zzT hc hP hQ h1 h2 hu hu0
 unfold zpJ znM znN
 dsimp only
 simp only [zpW, ztU, zgE _ _ hq.2, zgE _ _ hs.2, zgE _ _ (zgk _ _)]
 exact this
theorem zt0 {e : K} {q s : Pt} {u : Nat} {P : Ed} (hq : zgT q) (hs : zgT s) (h : zqS e (zpJ u q s) P) : zqS e (zpJ u s q) P := by
 unfold zqS zpJ znM znN at *
 dsimp only at *
 simp only [zpW, ztU, zgE _ _ hq.2, zgE _ _ hs.2, zgE _ _ (zgk _ _)] at *
 generalize toK q.x = a at *
 generalize toK q.z = b at *
 generalize toK s.x = c at *
 generalize toK s.z = f at *
 rw [show ((a - b) * (c + f) + (a + b) * (c - f)) * ((a - b) * (c + f) + (a + b) * (c - f)) = ((c - f) * (a + b) + (c + f) * (a - b)) * ((c - f) * (a + b) + (c + f) * (a - b)) by clear h; grind, show ((a - b) * (c + f) - (a + b) * (c - f)) * ((a - b) * (c + f) - (a + b) * (c - f)) = ((c - f) * (a + b) - (c + f) * (a - b)) * ((c - f) * (a + b) - (c + f) * (a - b)) by clear h; grind]
 exact h
def zfh (k : Nat → Nat) : Nat → Nat
 | 0 => 0
 | n + 1 => 2 * zfh k n + zeX k n
theorem zn6 {d e : K} {P : Ed} {u : Nat} (hc : Cv d e) (hP : On d P) (hu : u < pN) (hu0 : toK u ≠ 0) (hq : toK u * (1 - P.y) = e * (1 + P.y)) (k : Nat → Nat) :
  ∀ n, zqS e (zeH u k n).1 (zcG d P (zfh k n)) ∧ zqS e (zeH u k n).2 (zcG d P (zfh k n + 1))
 | 0 => by
  refine ⟨⟨?_, ?_⟩, ⟨?_, ?_⟩⟩
  ·show toK 1 * (1 - 1) = e * toK 0 * (1 + 1)
   rw [zfT, show (1 : K) - 1 = 0 by decide +kernel, Fin.mul_zero, Fin.mul_zero, Fin.zero_mul]
  ·rintro ⟨h, _⟩
   exact zgF (zij.symm.trans h)
  ·rw [show zcG d P (zfh k 0 + 1) = zbJ d zfg P from rfl, zik]
   show toK u * (1 - P.y) = e * toK 1 * (1 + P.y)
   rw [hq, zij]
   clear hq
   generalize P.y = y
   grind
  ·rintro ⟨_, h⟩
   exact zgF (zij.symm.trans h)
 | n + 1 => by
  have ih := zn6 hc hP hu hu0 hq k n
  have ok := zpK u hu k n
  have o1 := zei hc.free hP (zfh k n)
  have o2 := zei hc.free hP (zfh k n + 1)
  have hD := zww hc.free hc.nz hP (zfh k n)
  have hs : zqS e (zpJ u (zeH u k n).2 (zeH u k n).1) (zcG d P (2 * zfh k n + 1)) := by
   have := zwA (u := u) hc o2 o1 ok.2 ok.1 ih.2 ih.1 (by rw [hD]; exact hq) hu0
   rwa [← zeI hc.free hc.nz hP, show zfh k n + 1 + zfh k n = 2 * zfh k n + 1 by omega] at this
  rw [show zeH u k (n + 1) = ziN u (zeX k n) (zeH u k n).1 (zeH u k n).2 from rfl, show zfh k (n + 1) = 2 * zfh k n + zeX k n from rfl]
  unfold ziN
  rcases zgm k n with hb | hb
  ·rw [hb, if_neg (by omega), Nat.add_zero]
   refine ⟨?_, zt0 ok.2 ok.1 hs⟩
   have := zp6 hc o1 ok.1 ih.1
   rwa [← zeI hc.free hc.nz hP, show zfh k n + zfh k n = 2 * zfh k n by omega] at this
  ·rw [hb, if_pos rfl]
   refine ⟨hs, ?_⟩
   have := zp6 hc o2 ok.2 ih.2
   rwa [← zeI hc.free hc.nz hP, show zfh k n + 1 + (zfh k n + 1) = 2 * zfh k n + 1 + 1 by omega] at this
def zuM (e Y : K) : K := if Y = 1 then 0 else e * (1 + Y) * iv (1 - Y)
theorem zp7 {Y : K} (h : Y ≠ 1) : 1 - Y ≠ 0 := fun e => h (by grind)
theorem zzU {d e X Z : K} {P : Ed} (hc : Cv d e) (h : Rep e X Z P) : X * iv Z = zuM e P.y := by
 obtain ⟨h1, h2⟩ := h
 have he := ee hc
 unfold zuM
 generalize P.y = Y at *
 by_cases hY : Y = 1
 ·rw [if_pos hY]
  have hZ : Z = 0 := by
   have : e * (Z * 2) = 0 := by
    have e1 : e * (Z * 2) = e * Z * (1 + 1) := by clear h1 he; grind
    rw [e1]
    rw [hY] at h1
    rw [← h1]
    clear h1 he
    grind
   have e0 : e ≠ 0 := fun z => by rw [z] at he; exact zgF (by rw [← he]; decide +kernel)
   exact (zct ((zct this).resolve_left e0)).resolve_right zgG
  rw [hZ, zzO]
  clear h1 he
  grind
 ·rw [if_neg hY]
  have hv := za7 (zp7 hY)
  have hZ : Z ≠ 0 := fun z => h2 ⟨by
   rw [z] at h1
   have : X * (1 - Y) = 0 := by rw [h1]; clear h1 he hv; grind
   exact (zct this).resolve_right (zp7 hY), z⟩
  have hz := za7 hZ
  generalize iv Z = z' at *
  generalize iv (1 - Y) = w at *
  have e1 : X * z' = X * (1 - Y) * w * z' := by rw [show X * (1 - Y) * w * z' = X * z' * ((1 - Y) * w) by clear h1 he hv hz; grind, hv]; clear h1 he hv hz; grind
  rw [e1, h1, show e * Z * (1 + Y) * w * z' = e * (1 + Y) * w * (Z * z') by clear h1 he hv hz e1; grind, hz]
  clear h1 he hv hz e1
  grind
def zn7 (k : Nat → Nat) : Nat := zfh (zbf k) 255
theorem zp8 {d e : K} {P : Ed} {u : Nat} (hc : Cv d e) (hP : On d P) (hu : u < pN) (hu0 : toK u ≠ 0) (hq : toK u * (1 - P.y) = e * (1 + P.y)) (k : Nat → Nat) :
  toK (zdO k u) = zuM e (zcG d P (zn7 k)).y := by
 have h := (zn6 hc hP hu hu0 hq (zbf k) 255).1
 have ok := (zpK u hu (zbf k) 255).1
 show toK (zdO k u) = zuM e (zcG d P (zfh (zbf k) 255)).y
 rw [← zzU hc h]
 unfold zdO
 rw [zpW]
 unfold iv
 rw [zfd, Nat.mod_eq_of_lt ok.2]
theorem zzV {d x y : K} (hf : zm1 d) (h : x * x + y * y = 1 + d * (x * x) * (y * y)) (hy : y * y = 1) : x = 0 := by
 have h1 : (x * x) * (1 - d) = 0 := by
  rw [hy] at h
  clear hy
  grind
 have h2 : 1 - d ≠ 0 := fun z => hf 1 (by clear h hy h1; grind)
 have := (zct h1).resolve_right h2
 rcases zct this with h | h <;> exact h
theorem zt1 {d e : K} {P : Ed} (hc : Cv d e) (hP : On d P) (h : zuM e P.y = 0) : P = zfg ∨ P = zgV := by
 have he := ee hc
 obtain ⟨x, y⟩ := P
 unfold On at hP
 unfold zuM at h
 dsimp only at h hP
 by_cases hY : y = 1
 ·subst hY
  have := zzV hc.free hP (by decide +kernel)
  subst this
  exact .inl rfl
 ·rw [if_neg hY] at h
  have e0 : e ≠ 0 := fun z => by rw [z] at he; exact zgF (by rw [← he]; decide +kernel)
  have h1 := (zct ((zct h).resolve_right (zDh (zp7 hY)))).resolve_left e0
  have h2 : y = -1 := by clear h hP he; grind
  subst h2
  have := zzV hc.free hP (by decide +kernel)
  subst this
  exact .inr rfl
theorem zBX {e : K} {P : Ed} (h : P = zfg ∨ P = zgV) : zuM e P.y = 0 := by
 rcases h with h | h <;> subst h
 ·exact if_pos rfl
 ·have : zgV.y ≠ 1 := zpZ
  unfold zuM
  rw [if_neg this]
  show e * (1 + -1) * _ = 0
  generalize iv _ = w
  have : (1 + -1 : K) = 0 := by decide +kernel
  rw [this]
  grind
theorem zwB {d e : K} {P : Ed} {u : Nat} (hc : Cv d e) (hP : On d P) (hu : u < pN) (hu0 : toK u ≠ 0) (hq : toK u * (1 - P.y) = e * (1 + P.y)) (a b : Nat → Nat) :
  toK (zdO a (zdO b u)) = zuM e (zcG d P (zn7 b * zn7 a)).y := by
 have h := zp8 hc hP hu hu0 hq b
 have hlt : zdO b u < pN := zgk _ _
 have oB := zei hc.free hP (zn7 b)
 rw [← zhg hc.free hc.nz hP]
 by_cases h0 : toK (zdO b u) = 0
 ·have hz : zdO b u = 0 := by
   have := congrArg Fin.val h0
   rw [zfd, Nat.mod_eq_of_lt hlt] at this
   exact this
  rw [hz, zmw, zfT]
  have hn := zt1 hc oB (h.symm.trans h0)
  refine (zBX ?_).symm
  rcases hn with hn | hn <;> rw [hn]
  ·exact .inl (zn4 _)
  ·exact zp4 _
 ·refine zp8 hc oB hlt h0 ?_ a
  rw [h] at h0 ⊢
  generalize (zcG d P (zn7 b)).y = Y at *
  unfold zuM at *
  by_cases hY : Y = 1
  ·rw [if_pos hY] at h0
   exact absurd rfl h0
  ·rw [if_neg hY] at h0 ⊢
   have hv := za7 (zp7 hY)
   generalize iv (1 - Y) = w at *
   rw [show e * (1 + Y) * w * (1 - Y) = e * (1 + Y) * ((1 - Y) * w) by clear h hv h0 hq; grind, hv]
   clear h hv h0 hq
   grind
theorem zwC {d : K} (h : d * (cA + 2) = cA - 2) : zm1 d := fun s hs => zzR (s * (cA + 2)) (by
 rw [show s * (cA + 2) * (s * (cA + 2)) = s * s * (cA + 2) * (cA + 2) by clear h; grind, hs, h])
theorem zwD {d : K} (h : d * (cA - 2) = cA + 2) : zm1 d := fun s hs => zzR (s * (cA - 2)) (by
 rw [show s * (cA - 2) * (s * (cA - 2)) = s * s * (cA - 2) * (cA - 2) by clear h; grind, hs, h]
 clear h
 generalize cA = c
 grind)
def zAC : K := (cA - 2) * iv (cA + 2)
def zAD : K := (cA + 2) * iv (cA - 2)
theorem zkh : zAC * (cA + 2) = cA - 2 := by
 unfold zAC
 have h := za7 zkf
 rw [show (cA - 2) * iv (cA + 2) * (cA + 2) = (cA - 2) * ((cA + 2) * iv (cA + 2)) by clear h; grind, h]
 clear h
 grind
theorem zki : zAD * (cA - 2) = cA + 2 := by
 unfold zAD
 have h := za7 zkg
 rw [show (cA + 2) * iv (cA - 2) * (cA - 2) = (cA + 2) * ((cA - 2) * iv (cA - 2)) by clear h; grind, h]
 clear h
 grind
theorem zt2 : (4 : K) ≠ 0 := fun h => absurd (congrArg Fin.val h) (by decide +kernel)
theorem zBY : Cv zAC 1 where
 free := zwC zkh
 nz := fun h => zkg (by rw [← zkh, h, Fin.zero_mul])
 way := .inl ⟨rfl, by
  have h := zkh
  rw [zBV] at h
  generalize zAC = d at *
  generalize cB = c at *
  refine zcf zt2 ?_
  grind⟩
theorem zBZ : Cv zAD (-1) where
 free := zwD zki
 nz := fun h => zkf (by rw [← zki, h, Fin.zero_mul])
 way := .inr ⟨rfl, by
  have h := zki
  rw [zBV] at h
  generalize zAD = d at *
  generalize cB = c at *
  refine zcf zt2 ?_
  grind⟩
theorem zzW (u : K) : u * u + cA * u + 1 ≠ 0 := fun h => zzR (2 * u + cA) (by
 generalize cA = c at *
 grind)
theorem zwE {u : K} (h0 : u ≠ 0) : ∃ d e : K, ∃ P : Ed, Cv d e ∧ On d P ∧ u * (1 - P.y) = e * (1 + P.y) := by
 have hq := zzW u
 have hQ := za7 hq
 have w0 : u * (u * u + cA * u + 1) ≠ 0 := zm0 h0 hq
 rcases zpY w0 with hw | hw
 ·obtain ⟨r, hr⟩ := ztX hw
  have hu : u + 1 ≠ 0 := fun z => by
   have hz : u = -1 := by clear hw hQ hr; grind
   have e1 : u * (u * u + cA * u + 1) = cA - 2 := by rw [hz]; clear hw hQ hr hz z; generalize cA = c; grind
   rw [e1, zke] at hw
   exact zpZ hw
  have hU := za7 hu
  have hs := zBS
  have hd := zkh
  refine ⟨zAC, 1, ⟨cS * r * iv (u * u + cA * u + 1), (u - 1) * iv (u + 1)⟩, zBY, ?_, ?_⟩
  ·unfold On
   dsimp only
   generalize iv (u + 1) = V at *
   generalize cS = s at *
   generalize zAC = d at *
   have hx : s * r * iv (u * u + cA * u + 1) * (s * r * iv (u * u + cA * u + 1)) = (cA + 2) * u * iv (u * u + cA * u + 1) := by
    generalize iv (u * u + cA * u + 1) = W at *
    rw [show s * r * W * (s * r * W) = s * s * (r * r) * W * W by clear hw hQ hU hs hr hd; grind, hs, hr, show (cA + 2) * (u * (u * u + cA * u + 1)) * W * W = (cA + 2) * u * W * ((u * u + cA * u + 1) * W) by clear hw hQ hU hs hr hd; generalize cA = c; grind, hQ]
    clear hw hQ hU hs hr hd
    grind
   rw [hx]
   have hW : u * u + cA * u + 1 ≠ 0 := hq
   generalize iv (u * u + cA * u + 1) = W at *
   clear hw hr hs hx w0
   generalize cA = c at *
   refine zcf hW (zcf (zm0 hu hu) ?_)
   have m1 : (u + 1) * ((u - 1) * V) = u - 1 := by rw [show (u + 1) * ((u - 1) * V) = (u - 1) * ((u + 1) * V) by clear hQ hU hd; grind, hU]; clear hQ hU hd; grind
   generalize (u - 1) * V = y at *
   clear hU
   have m2 : (u + 1) * (u + 1) * (y * y) = (u - 1) * (u - 1) := by rw [← m1]; clear hQ hd; grind
   rw [show (u + 1) * (u + 1) * ((u * u + c * u + 1) * ((c + 2) * u * W + y * y)) = (u + 1) * (u + 1) * ((c + 2) * u * ((u * u + c * u + 1) * W)) + (u * u + c * u + 1) * ((u + 1) * (u + 1) * (y * y)) by clear hQ hd m1 m2; grind, show (u + 1) * (u + 1) * ((u * u + c * u + 1) * (1 + d * ((c + 2) * u * W) * (y * y))) = (u + 1) * (u + 1) * (u * u + c * u + 1) + d * (c + 2) * (u * ((u * u + c * u + 1) * W)) * ((u + 1) * (u + 1) * (y * y)) by clear hQ hd m1 m2; grind, hQ, m2, hd]
   clear hQ hd m1 m2
   grind
  ·dsimp only
   generalize iv (u + 1) = V at *
   clear hw hQ hr hs hd
   have e1 : 1 - (u - 1) * V = 2 * V := by
    refine zcf hu ?_
    grind
   have e2 : 1 + (u - 1) * V = 2 * u * V := by
    refine zcf hu ?_
    grind
   rw [e1, e2]
   clear e1 e2 hU
   grind
 ·have h1 : hf ((cA - 2) * (u * (u * u + cA * u + 1))) = 1 := by rw [ztW, zke, hw]; decide +kernel
  obtain ⟨r, hr⟩ := ztX h1
  have hu : u - 1 ≠ 0 := fun z => by
   have hz : u = 1 := by clear hw hQ hr h1; grind
   have e1 : u * (u * u + cA * u + 1) = cA + 2 := by rw [hz]; clear hw hQ hr hz z h1; generalize cA = c; grind
   rw [e1, ztY] at hw
   exact zpZ hw.symm
  have hU := za7 hu
  have hd := zki
  refine ⟨zAD, -1, ⟨r * iv (u * u + cA * u + 1), (u + 1) * iv (u - 1)⟩, zBZ, ?_, ?_⟩
  ·unfold On
   dsimp only
   generalize iv (u - 1) = V at *
   generalize zAD = d at *
   have hx : r * iv (u * u + cA * u + 1) * (r * iv (u * u + cA * u + 1)) = (cA - 2) * u * iv (u * u + cA * u + 1) := by
    generalize iv (u * u + cA * u + 1) = W at *
    rw [show r * W * (r * W) = (r * r) * W * W by clear hw hQ hU hr hd h1; grind, hr, show (cA - 2) * (u * (u * u + cA * u + 1)) * W * W = (cA - 2) * u * W * ((u * u + cA * u + 1) * W) by clear hw hQ hU hr hd h1; generalize cA = c; grind, hQ]
    clear hw hQ hU hr hd h1
    grind
   rw [hx]
   have hW : u * u + cA * u + 1 ≠ 0 := hq
   generalize iv (u * u + cA * u + 1) = W at *
   clear hw hr hx w0 h1
   generalize cA = c at *
   refine zcf hW (zcf (zm0 hu hu) ?_)
   have m1 : (u - 1) * ((u + 1) * V) = u + 1 := by rw [show (u - 1) * ((u + 1) * V) = (u + 1) * ((u - 1) * V) by clear hQ hU hd; grind, hU]; clear hQ hU hd; grind
   generalize (u + 1) * V = y at *
   clear hU
   have m2 : (u - 1) * (u - 1) * (y * y) = (u + 1) * (u + 1) := by rw [← m1]; clear hQ hd; grind
   rw [show (u - 1) * (u - 1) * ((u * u + c * u + 1) * ((c - 2) * u * W + y * y)) = (u - 1) * (u - 1) * ((c - 2) * u * ((u * u + c * u + 1) * W)) + (u * u + c * u + 1) * ((u - 1) * (u - 1) * (y * y)) by clear hQ hd m1 m2; grind, show (u - 1) * (u - 1) * ((u * u + c * u + 1) * (1 + d * ((c - 2) * u * W) * (y * y))) = (u - 1) * (u - 1) * (u * u + c * u + 1) + d * (c - 2) * (u * ((u * u + c * u + 1) * W)) * ((u - 1) * (u - 1) * (y * y)) by clear hQ hd m1 m2; grind, hQ, m2, hd]
   clear hQ hd m1 m2
   grind
  ·dsimp only
   generalize iv (u - 1) = V at *
   clear hw hQ hr hd h1
   have e1 : 1 - (u + 1) * V = -2 * V := by
    refine zcf hu ?_
    grind
   have e2 : 1 + (u + 1) * V = 2 * u * V := by
    refine zcf hu ?_
    grind
   rw [e1, e2]
   clear e1 e2 hU
   grind
end
section
theorem oq2 : IsP 2 := za9 (by decide +kernel)
theorem oq3 : IsP 3 := za9 (by decide +kernel)
theorem oq5 : IsP 5 := za9 (by decide +kernel)
theorem oq7 : IsP 7 := za9 (by decide +kernel)
theorem zB0 : IsP 11 := za9 (by decide +kernel)
theorem zDo : IsP 13 := za9 (by decide +kernel)
theorem zDp : IsP 17 := za9 (by decide +kernel)
theorem zEd : IsP 19 := za9 (by decide +kernel)
theorem zDG : IsP 23 := za9 (by decide +kernel)
theorem zDH : IsP 41 := za9 (by decide +kernel)
theorem zDI : IsP 43 := za9 (by decide +kernel)
theorem zEe : IsP 47 := za9 (by decide +kernel)
theorem zEf : IsP 67 := za9 (by decide +kernel)
theorem zDJ : IsP 73 := za9 (by decide +kernel)
theorem zEg : IsP 79 := za9 (by decide +kernel)
theorem zDq : IsP 113 := za9 (by decide +kernel)
theorem zDr : IsP 269 := za9 (by decide +kernel)
theorem zDs : IsP 307 := za9 (by decide +kernel)
theorem zB1 : IsL 1361 := zaZ 1361 3 [2, 2, 2, 2, 5, 17] (by decide +kernel) (all_cons oq2 (all_cons oq2 (all_cons oq2 (all_cons oq2 (all_cons oq5 (all_cons zDp zao))))))
theorem zB2 : IsL 1723 := zaZ 1723 3 [2, 3, 7, 41] (by decide +kernel) (all_cons oq2 (all_cons oq3 (all_cons oq7 (all_cons zDH zao))))
theorem zB3 : IsL 2551 := zaZ 2551 6 [2, 3, 5, 5, 17] (by decide +kernel) (all_cons oq2 (all_cons oq3 (all_cons oq5 (all_cons oq5 (all_cons zDp zao)))))
theorem zB4 : IsL 2851 := zaZ 2851 2 [2, 3, 5, 5, 19] (by decide +kernel) (all_cons oq2 (all_cons oq3 (all_cons oq5 (all_cons oq5 (all_cons zEd zao)))))
theorem zB5 : IsL 2939 := zaZ 2939 2 [2, 13, 113] (by decide +kernel) (all_cons oq2 (all_cons zDo (all_cons zDq zao)))
theorem zB6 : IsL 3797 := zaZ 3797 2 [2, 2, 13, 73] (by decide +kernel) (all_cons oq2 (all_cons oq2 (all_cons zDo (all_cons zDJ zao))))
theorem zB7 : IsL 5879 := zaZ 5879 11 [2, 2939] (by decide +kernel) (all_cons oq2 (all_cons zB5.1 zao))
theorem zzX : IsL 17231 := zaZ 17231 13 [2, 5, 1723] (by decide +kernel) (all_cons oq2 (all_cons oq5 (all_cons zB2.1 zao)))
theorem zzY : IsL 22111 := zaZ 22111 6 [2, 3, 5, 11, 67] (by decide +kernel) (all_cons oq2 (all_cons oq3 (all_cons oq5 (all_cons zB0 (all_cons zEf zao)))))
theorem zzZ : IsL 30703 := zaZ 30703 3 [2, 3, 7, 17, 43] (by decide +kernel) (all_cons oq2 (all_cons oq3 (all_cons oq7 (all_cons zDp (all_cons zDI zao)))))
theorem zz0 : IsL 34123 := zaZ 34123 2 [2, 3, 11, 11, 47] (by decide +kernel) (all_cons oq2 (all_cons oq3 (all_cons zB0 (all_cons zB0 (all_cons zEe zao)))))
theorem zz1 : IsL 41081 := zaZ 41081 3 [2, 2, 2, 5, 13, 79] (by decide +kernel) (all_cons oq2 (all_cons oq2 (all_cons oq2 (all_cons oq5 (all_cons zDo (all_cons zEg zao))))))
theorem zz2 : IsL 82163 := zaZ 82163 2 [2, 41081] (by decide +kernel) (all_cons oq2 (all_cons zz1.1 zao))
theorem zwF : IsL 132667 := zaZ 132667 5 [2, 3, 22111] (by decide +kernel) (all_cons oq2 (all_cons oq3 (all_cons zzY.1 zao)))
theorem zwG : IsL 137849 := zaZ 137849 3 [2, 2, 2, 17231] (by decide +kernel) (all_cons oq2 (all_cons oq2 (all_cons oq2 (all_cons zzX.1 zao))))
theorem zwH : IsL 409477 := zaZ 409477 2 [2, 2, 3, 34123] (by decide +kernel) (all_cons oq2 (all_cons oq2 (all_cons oq3 (all_cons zz0.1 zao))))
theorem zwI : IsL 531581 := zaZ 531581 2 [2, 2, 5, 7, 3797] (by decide +kernel) (all_cons oq2 (all_cons oq2 (all_cons oq5 (all_cons oq7 (all_cons zB6.1 zao)))))
theorem zt3 : IsL 1224481 := zaZ 1224481 13 [2, 2, 2, 2, 2, 3, 5, 2551] (by decide +kernel) (all_cons oq2 (all_cons oq2 (all_cons oq2 (all_cons oq2 (all_cons oq2 (all_cons oq3 (all_cons oq5 (all_cons zB3.1 zao))))))))
theorem zqT : IsL 14741173 := zaZ 14741173 2 [2, 2, 3, 3, 409477] (by decide +kernel) (all_cons oq2 (all_cons oq2 (all_cons oq3 (all_cons oq3 (all_cons zwH.1 zao)))))
theorem zqU : IsL 58964693 := zaZ 58964693 2 [2, 2, 14741173] (by decide +kernel) (all_cons oq2 (all_cons oq2 (all_cons zqT.1 zao)))
theorem zn8 : IsL 292386187 := zaZ 292386187 2 [2, 3, 3, 3, 3, 307, 5879] (by decide +kernel) (all_cons oq2 (all_cons oq3 (all_cons oq3 (all_cons oq3 (all_cons oq3 (all_cons zDs (all_cons zB7.1 zao)))))))
theorem ziO : IsL 213441916511 := zaZ 213441916511 13 [2, 5, 73, 292386187] (by decide +kernel) (all_cons oq2 (all_cons oq5 (all_cons zDJ (all_cons zn8.1 zao))))
theorem zfU : IsL 1257559732178653 := zaZ 1257559732178653 2 [2, 2, 3, 7, 23, 531581, 1224481] (by decide +kernel) (all_cons oq2 (all_cons oq2 (all_cons oq3 (all_cons oq7 (all_cons zDG (all_cons zwI.1 (all_cons zt3.1 zao)))))))
theorem zej : IsL 4434155615661930479 := zaZ 4434155615661930479 17 [2, 41, 43, 1257559732178653] (by decide +kernel) (all_cons oq2 (all_cons zDH (all_cons zDI (all_cons zfU.1 zao))))
theorem zdB : IsL 3044861653679985063343 := zaZ 3044861653679985063343 5 [2, 3, 11, 30703, 82163, 132667, 137849] (by decide +kernel) (all_cons oq2 (all_cons oq3 (all_cons zB0 (all_cons zzZ.1 (all_cons zz2.1 (all_cons zwF.1 (all_cons zwG.1 zao)))))))
theorem zcB : IsL 172054593956031949258510691 := zaZ 172054593956031949258510691 2 [2, 5, 1361, 2851, 4434155615661930479] (by decide +kernel) (all_cons oq2 (all_cons oq5 (all_cons zB1.1 (all_cons zB4.1 (all_cons zej.1 zao)))))
theorem zbY : IsL 198211423230930754013084525763697 := zaZ 198211423230930754013084525763697 5 [2, 2, 2, 2, 3, 23, 58964693, 3044861653679985063343] (by decide +kernel) (all_cons oq2 (all_cons oq2 (all_cons oq2 (all_cons oq2 (all_cons oq3 (all_cons zDG (all_cons zqU.1 (all_cons zdB.1 zao))))))))
theorem zbs : IsL 19757330305831588566944191468367130476339 := zaZ 19757330305831588566944191468367130476339 2 [2, 269, 213441916511, 172054593956031949258510691] (by decide +kernel) (all_cons oq2 (all_cons zDr (all_cons ziO.1 (all_cons zcB.1 zao))))
theorem zbm : IsL 276602624281642239937218680557139826668747 := zaZ 276602624281642239937218680557139826668747 2 [2, 7, 19757330305831588566944191468367130476339] (by decide +kernel) (all_cons oq2 (all_cons oq7 (all_cons zbs.1 zao)))
theorem zah : IsL 7237005577332262213973186563042994240857116359379907606001950938285454250989 := zaZ 7237005577332262213973186563042994240857116359379907606001950938285454250989 2 [2, 2, 3, 11, 198211423230930754013084525763697, 276602624281642239937218680557139826668747] (by decide +kernel) (all_cons oq2 (all_cons oq2 (all_cons oq3 (all_cons zB0 (all_cons zbY.1 (all_cons zbm.1 zao))))))
def zmI : Nat := 7237005577332262213973186563042994240857116359379907606001950938285454250989
def zB8 (i : Nat) : Nat := zmI / 256 ^ i % 256
theorem zwJ : zfh zB8 255 = zmI := by decide +kernel
theorem zDt : (zeH 9 zB8 255).1.z = 0 := by decide +kernel
section
variable {d e : K} {P : Ed}
theorem zwK (hc : Cv d e) (hP : On d P) (hy : P.y = 1) : P = zfg := by
 obtain ⟨x, y⟩ := P
 dsimp only at hy
 subst hy
 have := zzV hc.free hP (show (1 : K) * 1 = 1 by decide +kernel)
 subst this
 rfl
theorem zkj : 9 < pN := by unfold pN; decide +kernel
theorem zn9 : toK 9 ≠ 0 := fun h => by
 have h1 := congrArg Fin.val h
 rw [zfd, Nat.mod_eq_of_lt zkj] at h1
 exact absurd h1 (by decide)
theorem zz3 (hc : Cv d e) (hP : On d P) (hq : toK 9 * (1 - P.y) = e * (1 + P.y)) : zcG d P zmI = zfg := by
 have h := (zn6 hc hP zkj zn9 hq zB8 255).1
 rw [zwJ] at h
 obtain ⟨h1, h2⟩ := h
 rw [zDt, zfT] at h1 h2
 have hX : toK (zeH 9 zB8 255).1.x ≠ 0 := fun hx => h2 ⟨hx, rfl⟩
 have hon := zei hc.free hP zmI
 refine zwK hc hon ?_
 generalize (zcG d P zmI).y = Y at *
 generalize toK (zeH 9 zB8 255).1.x = Z at *
 have h3 : Z * (1 - Y) = 0 := by clear h2 hX hq; grind
 have h4 := (zct h3).resolve_left hX
 clear h1 h2 h3 hX hq hon
 grind
theorem zEh (hc : Cv d e) (hq : toK 9 * (1 - P.y) = e * (1 + P.y)) : P ≠ zfg := fun h => by
 subst h
 have he := ee hc
 have e0 : e ≠ 0 := fun z => by rw [z] at he; exact zgF (by rw [← he]; decide +kernel)
 have h1 : e * 2 = 0 := by
  have : zfg.y = 1 := rfl
  rw [this] at hq
  clear he e0
  grind
 exact zgG ((zct h1).resolve_left e0)
theorem mul_one (P : Ed) : zcG d P 1 = P := zik P
theorem zz4 (hc : Cv d e) (hP : On d P) : ∀ m n : Nat, zcG d P m = zfg → zcG d P n = zfg → zcG d P (Nat.gcd m n) = zfg := fun m => by
 induction m using Nat.strongRecOn with
 | ind m ih =>
  intro n hm hn
  by_cases h0 : m = 0
  ·subst h0; rw [Nat.gcd_zero_left]; exact hn
  ·rw [Nat.gcd_rec]
   refine ih (n % m) (Nat.mod_lt _ (Nat.pos_of_ne_zero h0)) m ?_ hm
   have h1 : zcG d P (m * (n / m) + n % m) = zfg := by rw [Nat.div_add_mod]; exact hn
   rw [zeI hc.free hc.nz hP, ← zhg hc.free hc.nz hP, hm, zn4, zik] at h1
   exact h1
theorem zz5 (hc : Cv d e) (hP : On d P) (hq : toK 9 * (1 - P.y) = e * (1 + P.y)) {n : Nat} (h : zcG d P n = zfg) : zmI ∣ n := by
 have h1 := zz4 hc hP zmI n (zz3 hc hP hq) h
 rcases zah.1.2 (Nat.gcd zmI n) (Nat.gcd_dvd_left ..) with h2 | h2
 ·rw [h2, mul_one] at h1
  exact absurd h1 (zEh hc hq)
 ·have h3 := Nat.gcd_dvd_right zmI n
  rw [h2] at h3
  exact h3
end
theorem zt4 (k : Nat → Nat) : ∀ n, zfh k n < 2 ^ n
 | 0 => by show 0 < 1; decide
 | n + 1 => by
  have h1 := zt4 k n
  have h2 := zgm k n
  rw [zfh, Nat.pow_succ]
  omega
theorem zp9 (k : Nat → Nat) (h : zfh k 1 = 1) : ∀ n, 0 < zfh k (n + 1)
 | 0 => by rw [h]; decide
 | n + 1 => by
  have h1 := zp9 k h n
  rw [zfh]
  omega
theorem zt5 (k : Nat → Nat) : zfh (zbf k) 1 = 1 := by
 show 2 * 0 + zeX (zbf k) 0 = 1
 unfold zeX
 rw [show (254 - 0) / 8 = 31 from rfl, show (254 - 0) % 8 = 6 from rfl]
 show _ + zbf k 31 / 64 % 2 = 1
 have : zbf k 31 = k 31 % 64 + 64 := by unfold zbf; rw [if_neg (by decide), if_pos rfl]
 omega
theorem zqV (k : Nat → Nat) : zn7 k = 8 * zfh (zbf k) 252 := by
 have h0 : zbf k 0 = k 0 / 8 * 8 := by unfold zbf; rw [if_pos rfl]
 have b : ∀ j, j < 3 → zeX (zbf k) (252 + j) = 0 := fun j hj => by
  unfold zeX
  rw [show (254 - (252 + j)) / 8 = 0 by omega, h0]
  rcases (by omega : j = 0 ∨ j = 1 ∨ j = 2) with h | h | h <;> subst h
  ·show k 0 / 8 * 8 / 4 % 2 = 0; omega
  ·show k 0 / 8 * 8 / 2 % 2 = 0; omega
  ·show k 0 / 8 * 8 / 1 % 2 = 0; omega
 have b0 := b 0 (by decide)
 have b1 := b 1 (by decide)
 have b2 := b 2 (by decide)
 show 2 * (2 * (2 * zfh (zbf k) 252 + zeX (zbf k) 252) + zeX (zbf k) 253) + zeX (zbf k) 254 = _
 rw [show zeX (zbf k) 252 = 0 from b0, show zeX (zbf k) 253 = 0 from b1, show zeX (zbf k) 254 = 0 from b2]
 omega
theorem zqa (k : Nat → Nat) : ¬ zmI ∣ zn7 k := fun h => by
 rw [zqV] at h
 have h1 := zt4 (zbf k) 252
 have h2 := zp9 (zbf k) (zt5 k) 251
 have h3 : (2 : Nat) ^ 252 < zmI := by unfold zmI; decide +kernel
 have h4 : (8 : Nat) < zmI := by unfold zmI; decide +kernel
 rcases zmp zah.1 h with h5 | h5
 ·have := Nat.le_of_dvd (by decide) h5
  exact absurd h4 (by unfold zmI; omega)
 ·have := Nat.le_of_dvd h2 h5
  exact absurd (jT (Nat.lt_trans h1 h3) this) (Nat.lt_irrefl _)
theorem zz6 : ¬ zmI ∣ 2 := fun h => absurd (Nat.le_of_dvd (by decide) h) (by unfold zmI; omega)
theorem zmJ (a b : Nat → Nat) : zdO a (zdO b 9) ≠ 0 := fun h0 => by
 obtain ⟨d, e, P, hc, hP, hq⟩ := zwE zn9
 have h1 := zwB hc hP zkj zn9 hq a b
 rw [h0, zfT] at h1
 have hon := zei hc.free hP (zn7 b * zn7 a)
 have h2 : zcG d (zcG d P (zn7 b * zn7 a)) 2 = zfg := by
  show zbJ d (zcG d (zcG d P (zn7 b * zn7 a)) 1) (zcG d P (zn7 b * zn7 a)) = zfg
  rw [mul_one]
  rcases zt1 hc hon h1.symm with h3 | h3 <;> rw [h3]
  ·exact zik _
  ·exact zmH
 rw [zhg hc.free hc.nz hP] at h2
 have hp := zah.1
 rcases zmp hp (zz5 hc hP hq h2) with h4 | h4
 ·rcases zmp hp h4 with h5 | h5
  ·exact zqa _ h5
  ·exact zqa _ h5
 ·exact zz6 h4
theorem zz7 (b : Nat → Nat) : zdO b 9 ≠ 0 := fun h0 => zmJ b b (by rw [h0, zmw])
end
section
open Go.ChangeShapes Go.WideShapes Go.ChangeAt Go.RowKit
section
variable {H : Type} {enc : TypeId × Value → H} {P : Program} {w : World} {base : Nat} {spare : Nat → Bool} {held : Bool} {t e : TypeId} {v : Value} {d : DataW H} {p : List MemPlace} {r : Reach}
theorem zmK {n : Nat} (ht : P.underlying t = some (.array n e)) (h : Value.okWide P w r base t v) : ∃ cs, v = .agg cs ∧ cs.size = P.cellsOf t := by
 simp only [Value.okWide, ht] at h
 obtain ⟨cs, h1, h2, _⟩ := h
 exact ⟨cs, h1, h2⟩
end
theorem zB9 {n : Int} (h : (Lit.int .u8 n).wf = true) : 0 ≤ n ∧ n < 256 := by
 simp [Lit.wf, IntKind.min, IntKind.max, IntKind.signed, IntKind.bits] at h
 omega
end
section
open Go.ChangeShapes Go.WideShapes Go.ChangeAt Go.RowKit
def zt6 {H : Type} (P : Program) (t : TypeId) (d : DataW H) : Prop := ∀ n ∈ d.weights P t, n ≤ reachBytes
theorem zqb {H : Type} {P : Program} {ts : List TypeId} {ds : List (DataW H)} (hz : (DataW.weightsEach P ts ds).all (· ≤ reachBytes) = true) {j : Nat} {t : TypeId} {d : DataW H} (ht : ts[j]? = some t) (hd : ds[j]? = some d) : zt6 P t d := fun n hn => by
 have := List.all_eq_true.1 hz n (DataW.weights_mem_each ht hd n hn)
 simpa using this
def Opn (P : Program) (t : TypeId) (φ : List Value → World → Prop) : Prop :=
 ∀ (H : Type) (enc : TypeId × Value → H) (w : World) (base : Nat) (spare : Nat → Bool) (held : Bool) (fuel : Nat) (x : DataW H × List MemPlace) (cs : List Value), DataW.trod enc P w base spare held fuel t cs = some x → zt6 P t x.1 → φ cs w
theorem Opn.imp {P : Program} {t : TypeId} {φ ψ : List Value → World → Prop} (o : Opn P t φ) (h : ∀ cs w, φ cs w → ψ cs w) : Opn P t ψ := fun H enc w base spare held fuel x cs h1 h2 => h cs w (o H enc w base spare held fuel x cs h1 h2)
theorem zek {H : Type} {P : Program} {e : TypeId} : ∀ {ds : List (DataW H)} {d : DataW H}, d ∈ ds → ∀ n ∈ d.weights P e, n ∈ DataW.weightsAll P e ds
 | d0 :: ds, d, hd, n, hn => by
  rw [DataW.weightsAll, List.mem_append]
  rcases List.mem_cons.1 hd with rfl | hd
  ·exact .inl hn
  ·exact .inr (zek hd n hn)
theorem zt7 {w w' : World} {p : Addr} {u : Value} (hk : ∀ k, k < w.heap.size → k ∉ ([] : List Nat) → w'.heap[k]? = w.heap[k]?) (h : w.cell? p = some u) : w'.cell? p = some u := by
 rw [← h]
 have := hk _ (World.block_lt_of_cell? _ _ h) (by simp)
 unfold World.cell?
 rw [this]
section
variable {P : Program} {t e : TypeId}
theorem zz8 {k : IntKind} (ht : P.underlying t = some (.int k)) : Opn P t fun cs w => ∃ z : Int, cs = [.int k z] ∧ (Lit.int k z).wf = true := fun H enc w base spare held fuel x cs h _ => by
 obtain ⟨n, h1, _, hw⟩ := DataW.trod_int ht h
 exact ⟨n, h1, hw⟩
theorem zz9 (ht : P.underlying t = some (.array 32 e)) (he : P.underlying e = some (.int .u8)) (hce : P.cellsOf e = 1) (hct : P.cellsOf t = 32) : Opn P t fun cs w => ∃ l : List Nat, l.length = 32 ∧ (∀ x ∈ l, x < 256) ∧ cs = cl [.key l] := fun H enc w base spare held fuel x cs h hl => by
 obtain ⟨xs, m, _, _, hcl, hxl, hall⟩ := DataW.trod_array ht h
 have key : ∀ i : Fin 32, ∃ z : Nat, cs[i.1]? = some (bv z) ∧ z < 256 := fun i => by
  have h1 := hall i.1 i.2
  rw [hce, Nat.mul_one, jP (by omega)] at h1
  obtain ⟨n, h2, _, hw⟩ := DataW.trod_int he h1
  have hb := zB9 hw
  refine ⟨n.toNat, ?_, by omega⟩
  have : ((cs.drop i.1).take 1)[0]? = some (.int .u8 n) := by rw [h2]; rfl
  rw [List.getElem?_take_of_lt (by omega), List.getElem?_drop] at this
  rw [Nat.add_zero] at this
  rw [this]
  unfold bv
  rw [Int.toNat_of_nonneg hb.1]
 obtain ⟨f, hf⟩ := Classical.axiomOfChoice key
 refine ⟨List.ofFn f, by simp, fun y hy => ?_, ?_⟩
 ·obtain ⟨i, rfl⟩ := List.mem_ofFn.1 hy
  exact (hf i).2
 ·show cs = zf2 (List.ofFn f) ++ []
  rw [List.append_nil]
  unfold zf2
  apply List.ext_getElem?
  intro i
  by_cases hi : i < 32
  ·rw [(hf ⟨i, hi⟩).1, List.getElem?_map, List.getElem?_range hi]
   show _ = some (bv ((List.ofFn f).getD i 0))
   rw [jR, List.getElem?_ofFn, dif_pos hi]
   rfl
  ·rw [List.getElem?_eq_none (by omega), List.getElem?_eq_none (by simp; omega)]
theorem zt8 {α : Type} (T : Ty α) (good : α → Prop) (ht : P.underlying t = some (.slice e)) (hc : P.cellsOf e = T.sz) (o : Opn P e fun cs w => cs.length = T.sz → ∃ v m, cs = cl (T.ch v m) ∧ St (T.nest v m) w [] ∧ good v) :
  Opn P t fun cs w => ∃ A c xs m, cs = [.slice A xs.length c] ∧ St (LiF T A c xs m) w [] ∧ ∀ x ∈ xs, good x := fun H enc w base spare held fuel x cs h hl => by
 rcases DataW.trod_slice ht h with ⟨h1, _⟩ | ⟨a, len, cap, elems, rest, n, _, h1, hx, hb, h2, hm, hlen, hel, _⟩
 ·exact ⟨none, 0, [], fun _ => T.dft, h1, zrr, fun x hx => by cases hx⟩
 ·have key : ∀ i : Fin len, ∃ vm : α × T.μ, (∀ j u, (cl (T.ch vm.1 vm.2))[j]? = some u → w.cell? ((a.add (i.1 * T.sz)).add j) = some u) ∧ St (T.nest vm.1 vm.2) w [] ∧ good vm.1 := fun i => by
   have h3 := hel i.1 i.2
   rw [hc, jP (by omega)] at h3
   obtain ⟨c, hcs, htr⟩ := Option.bind_eq_some_iff.1 h3
   obtain ⟨_, hcl, hcell⟩ := World.cells?_some hcs
   obtain ⟨v, m, e1, e2, e3⟩ := o H enc w base spare held n _ _ htr (fun k hk => hl k (by
    rw [hx]
    simp only [DataW.weights, ht, List.mem_cons, List.mem_append]
    exact .inr (.inl (zek (List.mem_map.2 ⟨_, List.getElem_mem _, rfl⟩) k hk)))) hcl
   refine ⟨(v, m), fun j u hu => ?_, e2, e3⟩
   have hu' : c[j]? = some u := by rw [e1]; exact hu
   have hj : j < T.sz := by rw [← hcl]; exact (List.getElem?_eq_some_iff.1 hu').1
   rw [← hu']
   exact hcell j hj
  obtain ⟨f, hf⟩ := Classical.axiomOfChoice key
  have hm' : cap ≤ 9223372036854775807 := hm
  refine ⟨some a, cap, List.ofFn fun i => (f i).1, fun i => if h : i < len then (f ⟨i, h⟩).2 else T.dft, by rw [List.length_ofFn]; exact h1, fun w' hk => ?_, fun y hy => ?_⟩
  ·refine ⟨by rw [List.length_ofFn]; exact h2, by rw [List.length_ofFn]; omega, fun h => (by cases h), fun ad hA i y hy => ?_⟩
   obtain rfl := Option.some.inj hA
   have hi : i < len := by
    have := (List.getElem?_eq_some_iff.1 hy).1
    rwa [List.length_ofFn] at this
   rw [List.getElem?_ofFn, dif_pos hi] at hy
   obtain rfl := Option.some.inj hy
   rw [dif_pos hi]
   obtain ⟨g1, g2, _⟩ := hf ⟨i, hi⟩
   exact ⟨fun j u hu => zt7 hk (g1 j u hu), g2 w' hk⟩
  ·obtain ⟨i, rfl⟩ := List.mem_ofFn.1 hy
   exact (hf i).2.2
theorem zt9 {φ : List Value → World → Prop} (o : Opn P t φ) {H : Type} {enc : TypeId × Value → H} {w : World} {base : Nat} {spare : Nat → Bool} {held : Bool} {v : Value} {d : DataW H} {p : List MemPlace} (h : DataW.Trod enc P w base spare held t v d p) (hl : zt6 P t d) : φ v.cells.toList w := by
 obtain ⟨fuel, hf⟩ := h
 exact o H enc w base spare held fuel _ _ hf hl
theorem zCa {cs : Array Value} {X : List Chunk} (e : (Value.agg cs).cells.toList = cl X) : cs = ca X := by
 have e' : cs.toList = cl X := e
 exact Array.ext' (by rw [e']; rfl)
theorem zwL {A A' : Option Addr} {n n' c c' : Nat} (e : (Value.slice A n c).cells.toList = [.slice A' n' c']) : A = A' ∧ n = n' ∧ c = c' := by
 have e' : [Value.slice A n c] = [.slice A' n' c'] := e
 injection e' with e'
 injection e' with h1 h2 h3
 exact ⟨h1, h2, h3⟩
end
end
section
open Go.ChangeShapes Go.WideShapes Go.ChangeAt Go.RowKit
theorem zDu : Opn Tryz.prog 23 fun cs w => ∃ l : List Nat, l.length = 32 ∧ (∀ x ∈ l, x < 256) ∧ cs = cl [.key l] := zz9 Tryz.underlying23 Tryz.underlying5 (by kernel_rfl) (by kernel_rfl)
theorem zwM : Opn Tryz.prog 24 fun cs w => ∃ A c xs m, cs = [.slice A xs.length c] ∧ St (LiF zaS A c xs m) w [] ∧ ∀ x ∈ xs, True :=
 zt8 zaS (fun _ => True) Tryz.underlying24 (by kernel_rfl) ((zz8 Tryz.underlying3).imp fun cs w ⟨z, e, _⟩ _ => ⟨z, (), e, fun _ _ => trivial, trivial⟩)
def zua : List Int := [1116352408, 1899447441, 3049323471, 3921009573, 961987163, 1508970993, 2453635748, 2870763221, 3624381080, 310598401, 607225278, 1426881987, 1925078388, 2162078206, 2614888103, 3248222580, 3835390401, 4022224774, 264347078, 604807628, 770255983, 1249150122, 1555081692, 1996064986, 2554220882, 2821834349, 2952996808, 3210313671, 3336571891, 3584528711, 113926993, 338241895, 666307205, 773529912, 1294757372, 1396182291, 1695183700, 1986661051, 2177026350, 2456956037, 2730485921, 2820302411, 3259730800, 3345764771, 3516065817, 3600352804, 4094571909, 275423344, 430227734, 506948616, 659060556, 883997877, 958139571, 1322822218, 1537002063, 1747873779, 1955562222, 2024104815, 2227730452, 2361852424, 2428436474, 2756734187, 3204031479, 3329325298]
def zDK (i : Nat) : Nat := (zua.getD i 0).toNat
theorem zqW : cl [.row 64 fun i => u32 (zDK i)] = zua.map fun z => Value.int .u32 z := by kernel_rfl
theorem zAa {LL : List (String × DataW Unit)} (hm : ("coterie/sha.adds", Rows.laid_coterie_sha_adds) ∈ LL) {W : World} (h : laidMet Tryz.prog LL W) : St (AtC ⟨2, 0, none⟩ [.row 64 fun i => u32 (zDK i)]) W [] := by
 obtain ⟨g, t, cs, fuel, p, hg, hty, hvar, hd⟩ := Lib.laidMet.reads h (n := "coterie/sha.adds") (d := Rows.laid_coterie_sha_adds) hm
 obtain rfl := Option.some.inj ((show Tryz.prog.globalNamed "coterie/sha.adds" = some 2 by kernel_rfl).symm.trans hg)
 obtain rfl := Option.some.inj ((show (Tryz.prog.globals[2 ]?).map (·.type) = some 199 by kernel_rfl).symm.trans hty)
 have hcs := Lib.cells_of_tab (zs := zua) (k := .u32) Tryz.underlying199 Tryz.underlying147 (by kernel_rfl) (by kernel_rfl) hd
 rw [← zqW] at hcs
 intro w' hk j u hu
 rw [← hcs] at hu
 have h1 := World.var?_cell hg hvar j
 have h2 : cs[j]? = some u := by rw [← Array.getElem?_toList]; exact hu
 rw [h2] at h1
 rw [zbS, Nat.zero_add, ← h1]
 exact World.cell?_of_block (hk _ (World.block_lt_of_cell? _ _ h1) (by simp))
def zEi : ByteArray := { data := #[98, 121, 116, 101, 115, 46, 66, 117, 102, 102, 101, 114, 58, 32, 116, 111, 111, 32, 108, 97, 114, 103, 101] }
noncomputable def zEj : Nat := (World.holding Tryz.prog default ⟨#[], #[], []⟩).heap.size
noncomputable def zCb (os : Os) : World :=
 let w0 := World.holding Tryz.prog os ⟨#[.cells #[.string zEi] 252 ], #[], []⟩
 { w0 with heap := ((w0.heap.modify 1 fun
   | .cells _ t frozen => .cells #[.iface 236 (.pointer (some ⟨zEj, 0, none⟩))] t frozen
   | o => o).modify 2 fun
   | .cells _ t frozen => .cells (zua.map fun z => Value.int .u32 z).toArray t frozen
   | o => o).modify 0 fun
   | .cells _ t frozen => .cells (zua.map fun z => Value.int .u32 z).toArray t frozen
   | o => o }
end
end Go.Proofs.YtcmmpiaogfnmoaaGreatDoor
