/- Walks by computing: values with places of their own, told by numbers. No program is in sight. Slices of slices; an element of an own row is taken out. No program is in sight. Words of 32 bits; rows inside own blocks; nil checks; an array's value by an index. No program is in sight. More steps: makes, copies; rows out of blocks, blocks as texts; what is given to a call. No program is in sight. Two rows of integers held against each other. Keys held against each other. No program is in sight. Walks by computing: what an operation gives. No program is in sight. Walks by computing: what is compute -/
import Derived.Test.YtcmmpiaogfnmoaaGreatDoorStateSecretsA
import Derived.Laws.MakeOwn
import Derived.Laws.CopyRow
import Derived.Laws.IdiomCopy
set_option linter.unusedSimpArgs false
set_option linter.unusedVariables false
set_option maxRecDepth 200000
set_option maxHeartbeats 6000000
namespace Go.Proofs.YtcmmpiaogfnmoaaGreatDoor
section
open Go.RowKit
inductive SP where
 | v (x : Value)
 | at_ (i off : Nat)
 | sl (i off n c : Nat)
 | hd (i n : Nat)
 | hp (i j sz off : Nat)
 | ap (i off j sz : Nat)
inductive SS where
 | p (x : SP)
 | fn (f : Fn) (fs cs : List SP)
inductive SC where
 | one (x : SS)
 | key (l : List Nat)
 | row (n : Nat) (f : Nat → Value)
inductive SA where
 | s (x : SS)
 | agg (cs : List SC)
inductive SV where
 | a (x : SA)
 | tup (xs : List SA)
structure Hn where
 b : Nat → Nat
 r : Nat → Option Addr × Nat
 q : Nat → Nat → List (Option Addr × Nat)
def SP.den (h : Hn) : SP → Value
 | .v x => x
 | .at_ i off => .pointer (some ⟨h.b i, off, none⟩)
 | .sl i off n c => .slice (some ⟨h.b i, off, none⟩) n c
 | .hd i n => .slice (h.r i).1 n (h.r i).2
 | .hp i j sz off => .pointer (some ((((h.r i).1.getD ⟨0, 0, none⟩).add (j * sz)).add off))
 | .ap i off j sz => .pointer (some ⟨h.b i, off + j * sz, none⟩)
def zhD (h : Hn) : List SP → List Value
 | [] => []
 | x :: xs => x.den h :: zhD h xs
def SS.den (h : Hn) : SS → Value
 | .p x => x.den h
 | .fn f fs cs => .func f (zhD h fs).toArray (zhD h cs).toArray
def SC.den (h : Hn) : SC → Chunk
 | .one x => .one (x.den h)
 | .key l => .key l
 | .row n f => .row n f
def zaC (h : Hn) : List SC → List Chunk
 | [] => []
 | x :: xs => x.den h :: zaC h xs
def SA.den (h : Hn) : SA → Value
 | .s x => x.den h
 | .agg cs => .agg (ca (zaC h cs))
def zkp (h : Hn) : List SA → List Value
 | [] => []
 | x :: xs => x.den h :: zkp h xs
def SV.den (h : Hn) : SV → Value
 | .a x => x.den h
 | .tup xs => .tuple (zkp h xs).toArray
def zcn (h : Hn) : List (Nat × SV) → List (Nat × Value)
 | [] => []
 | (d, x) :: l => (d, x.den h) :: zcn h l
inductive RB where
 | gone
 | blk (cs : List SC) (t : TypeId)
 | row (e sz n : Nat) (xs : (Nat → List (Option Addr × Nat)) → List Value)
abbrev MB := List (Nat × RB)
def zaY (i : Nat) : List Nat → Bool
 | [] => false
 | j :: s => bif Nat.beq i j then true else zaY i s
def RB.den (h : Hn) (i : Nat) : RB → List Res
 | .gone => []
 | .blk cs t => [.blk (h.b i) (ca (zaC h cs)) t]
 | .row e sz n xs => [.row (.slice (h.r i).1 n (h.r i).2) e sz n (xs (h.q i))]
def zaf (h : Hn) : List Nat → MB → List Res
 | _, [] => []
 | s, (i, .gone) :: m => bif zaY i s then zaf h s m else zaf h (i :: s) m
 | s, (i, .blk cs t) :: m => bif zaY i s then zaf h s m else .blk (h.b i) (ca (zaC h cs)) t :: zaf h (i :: s) m
 | s, (i, .row e sz n xs) :: m => bif zaY i s then zaf h s m else .row (.slice (h.r i).1 n (h.r i).2) e sz n (xs (h.q i)) :: zaf h (i :: s) m
def zdM (h : Hn) : Nat → List RB → List Res
 | _, [] => []
 | i, q :: rs => q.den h i ++ zdM h (i + 1) rs
def zhE : Nat → List RB → MB → MB
 | _, [], m => m
 | k, q :: rs, m => zhE (k + 1) rs ((k, q) :: m)
def zaB : MB → Nat → Option RB
 | [], _ => none
 | (j, q) :: m, i => bif Nat.beq j i then some q else zaB m i
inductive SF where
 | c (r : World → Prop)
 | h (i : Nat) (f : Option Addr × Nat → World → Prop)
 | sl (i n : Nat) (f : Option Addr × Nat → World → Prop)
 | b (i : Nat) (f : Nat → World → Prop)
 | q (i : Nat) (f : (Nat → List (Option Addr × Nat)) → World → Prop)
 | blk (i : Nat) (cs : List SC)
 | nm (i : Nat) (f : Nat → Option Addr × Nat → (Nat → List (Option Addr × Nat)) → World → Prop)
def SF.den (h : Hn) : SF → World → Prop
 | .c r => r
 | .h i f => f (h.r i)
 | .sl i n f => fun w => ((h.r i).1 = none → n = 0) ∧ f (h.r i) w
 | .b i f => f (h.b i)
 | .q i f => f (h.q i)
 | .nm i f => f (h.b i) (h.r i) (h.q i)
 | .blk i cs => AtC ⟨h.b i, 0, none⟩ (zaC h cs)
def zaX (h : Hn) : List SF → List (World → Prop)
 | [] => []
 | x :: xs => x.den h :: zaX h xs
def SP.wf (S : Nat → Bool) : SP → Bool
 | .v _ => true
 | .at_ i _ => S i
 | .sl i _ _ _ => S i
 | .hd i _ => S i
 | .hp i _ _ _ => S i
 | .ap i _ _ _ => S i
def wfP (S : Nat → Bool) : List SP → Bool
 | [] => true
 | x :: xs => bif x.wf S then wfP S xs else false
def SS.wf (S : Nat → Bool) : SS → Bool
 | .p x => x.wf S
 | .fn _ fs cs => bif wfP S fs then wfP S cs else false
def SC.wf (S : Nat → Bool) : SC → Bool
 | .one x => x.wf S
 | .key _ => true
 | .row _ _ => true
def wfC (S : Nat → Bool) : List SC → Bool
 | [] => true
 | x :: xs => bif x.wf S then wfC S xs else false
def SA.wf (S : Nat → Bool) : SA → Bool
 | .s x => x.wf S
 | .agg cs => wfC S cs
def wfT (S : Nat → Bool) : List SA → Bool
 | [] => true
 | x :: xs => bif x.wf S then wfT S xs else false
def SV.wf (S : Nat → Bool) : SV → Bool
 | .a x => x.wf S
 | .tup xs => wfT S xs
def wfE (S : Nat → Bool) : List (Nat × SV) → Bool
 | [] => true
 | (_, x) :: l => bif x.wf S then wfE S l else false
def RB.wf (S : Nat → Bool) : RB → Bool
 | .gone => true
 | .blk cs _ => wfC S cs
 | .row _ _ _ _ => true
def wfM (S : Nat → Bool) : MB → Bool
 | [] => true
 | (i, q) :: m => bif S i then (bif q.wf S then wfM S m else false) else false
def wfN (S : Nat → Bool) : Nat → List RB → Bool
 | _, [] => true
 | k, q :: rs => bif S k then (bif q.wf S then wfN S (k + 1) rs else false) else false
def SF.wf (S : Nat → Bool) : SF → Bool
 | .c _ => true
 | .h i _ => S i
 | .sl i _ _ => S i
 | .b i _ => S i
 | .q i _ => S i
 | .nm i _ => S i
 | .blk i cs => bif S i then wfC S cs else false
def wfR (S : Nat → Bool) : List SF → Bool
 | [] => true
 | x :: xs => bif x.wf S then wfR S xs else false
def AgS (S : Nat → Bool) (h h' : Hn) : Prop := ∀ i, S i = true → h'.b i = h.b i ∧ h'.r i = h.r i ∧ h'.q i = h.q i
section
variable {S : Nat → Bool} {h h' : Hn}
theorem zaa {b c : Bool} (hh : (bif b then c else false) = true) : b = true ∧ c = true := by cases b <;> simp_all
theorem SP.same (ha : AgS S h h') {x : SP} (hw : x.wf S = true) : x.den h' = x.den h := by
 cases x with
 | v x => rfl
 | at_ i off => simp only [SP.den, (ha i hw).1]
 | sl i off n c => simp only [SP.den, (ha i hw).1]
 | hd i n => simp only [SP.den, (ha i hw).2.1]
 | hp i j sz off => simp only [SP.den, (ha i hw).2.1]
 | ap i off j sz => simp only [SP.den, (ha i hw).1]
theorem ziq (ha : AgS S h h') : ∀ {xs : List SP}, wfP S xs = true → zhD h' xs = zhD h xs
 | [], _ => rfl
 | x :: xs, hw => by unfold zhD; rw [SP.same ha (zaa hw).1, ziq ha (zaa hw).2]
theorem SS.same (ha : AgS S h h') {x : SS} (hw : x.wf S = true) : x.den h' = x.den h := by
 cases x with
 | p x => exact SP.same ha hw
 | fn f fs cs => simp only [SS.den, ziq ha (zaa hw).1, ziq ha (zaa hw).2]
theorem SC.same (ha : AgS S h h') {x : SC} (hw : x.wf S = true) : x.den h' = x.den h := by
 cases x with
 | one x => simp only [SC.den, SS.same ha hw]
 | key l => rfl
 | row n f => rfl
theorem zdk (ha : AgS S h h') : ∀ {xs : List SC}, wfC S xs = true → zaC h' xs = zaC h xs
 | [], _ => rfl
 | x :: xs, hw => by unfold zaC; rw [SC.same ha (zaa hw).1, zdk ha (zaa hw).2]
theorem SA.same (ha : AgS S h h') {x : SA} (hw : x.wf S = true) : x.den h' = x.den h := by
 cases x with
 | s x => exact SS.same ha hw
 | agg cs => simp only [SA.den, zdk ha hw]
theorem zmY (ha : AgS S h h') : ∀ {xs : List SA}, wfT S xs = true → zkp h' xs = zkp h xs
 | [], _ => rfl
 | x :: xs, hw => by unfold zkp; rw [SA.same ha (zaa hw).1, zmY ha (zaa hw).2]
theorem SV.same (ha : AgS S h h') {x : SV} (hw : x.wf S = true) : x.den h' = x.den h := by
 cases x with
 | a x => exact SA.same ha hw
 | tup xs => simp only [SV.den, zmY ha hw]
theorem zmZ (ha : AgS S h h') : ∀ {l : List (Nat × SV)}, wfE S l = true → zcn h' l = zcn h l
 | [], _ => rfl
 | (d, x) :: l, hw => by unfold zcn; rw [SV.same ha (zaa hw).1, zmZ ha (zaa hw).2]
theorem RB.same (ha : AgS S h h') {i : Nat} (hi : S i = true) {q : RB} (hw : q.wf S = true) : q.den h' i = q.den h i := by
 cases q with
 | gone => rfl
 | blk cs t => simp only [RB.den, (ha i hi).1, zdk ha hw]
 | row e sz n xs => simp only [RB.den, (ha i hi).2.1, (ha i hi).2.2]
theorem zao (h : Hn) (s : List Nat) (i : Nat) (q : RB) (m : MB) : zaf h s ((i, q) :: m) = bif zaY i s then zaf h s m else q.den h i ++ zaf h (i :: s) m := by
 cases q <;> simp only [zaf, RB.den] <;> cases zaY i s <;> rfl
theorem zaL (ha : AgS S h h') : ∀ {m : MB} {s : List Nat}, wfM S m = true → zaf h' s m = zaf h s m
 | [], _, _ => rfl
 | (i, q) :: m, s, hw => by
  have h1 := zaa hw
  have h2 := zaa h1.2
  rw [zao, zao, RB.same ha h1.1 h2.1, zaL ha h2.2, zaL ha h2.2]
theorem zf9 (ha : AgS S h h') : ∀ {rs : List RB} {k : Nat}, wfN S k rs = true → zdM h' k rs = zdM h k rs
 | [], _, _ => rfl
 | q :: rs, k, hw => by
  have h1 := zaa hw
  have h2 := zaa h1.2
  rw [zdM, zdM, RB.same ha h1.1 h2.1, zf9 ha h2.2]
theorem za5 (ha : AgS S h h') : ∀ {R : List SF}, wfR S R = true → zaX h' R = zaX h R
 | [], _ => rfl
 | .c r :: R, hw => by unfold zaX; rw [za5 ha (zaa hw).2]; rfl
 | .h i f :: R, hw => by simp only [zaX, SF.den, (ha i (zaa hw).1).2.1, za5 ha (zaa hw).2]
 | .sl i n f :: R, hw => by simp only [zaX, SF.den, (ha i (zaa hw).1).2.1, za5 ha (zaa hw).2]
 | .b i f :: R, hw => by simp only [zaX, SF.den, (ha i (zaa hw).1).1, za5 ha (zaa hw).2]
 | .q i f :: R, hw => by simp only [zaX, SF.den, (ha i (zaa hw).1).2.2, za5 ha (zaa hw).2]
 | .blk i cs :: R, hw => by
  have h1 := zaa (zaa hw).1
  simp only [zaX, SF.den, (ha i h1.1).1, zdk ha h1.2, za5 ha (zaa hw).2]
 | .nm i f :: R, hw => by simp only [zaX, SF.den, (ha i (zaa hw).1).1, (ha i (zaa hw).1).2.1, (ha i (zaa hw).1).2.2, za5 ha (zaa hw).2]
end
theorem zaw {i : Nat} : ∀ {s : List Nat}, zaY i s = true ↔ i ∈ s
 | [] => by simp [zaY]
 | j :: s => by
  unfold zaY
  cases hb : Nat.beq i j with
  | true => have := Nat.eq_of_beq_eq_true hb; simp [this]
  | false =>
   have : i ≠ j := fun e => by rw [e, Nat.beq_refl] at hb; cases hb
   simp [this, zaw (s := s)]
theorem zsf {i : Nat} {s s' : List Nat} (hs : ∀ j, j ∈ s ↔ j ∈ s') : zaY i s = zaY i s' := by
 rw [Bool.eq_iff_iff, zaw, zaw]; exact hs i
theorem zcN (h : Hn) : ∀ (m : MB) (s s' : List Nat), (∀ j, j ∈ s ↔ j ∈ s') → zaf h s m = zaf h s' m
 | [], s, s', _ => rfl
 | (i, q) :: m, s, s', hs => by
  rw [zao, zao, zsf hs, zcN h m s s' hs, zcN h m (i :: s) (i :: s') fun j => by simp [hs j]]
theorem zcg (h : Hn) : ∀ (m : MB) (s : List Nat) (k : Nat), (∀ p ∈ m, p.1 ≠ k) → zaf h (k :: s) m = zaf h s m
 | [], s, k, _ => rfl
 | (i, q) :: m, s, k, hk => by
  have hik : i ≠ k := hk _ (List.mem_cons_self ..)
  have e1 : zaY i (k :: s) = zaY i s := by rw [Bool.eq_iff_iff, zaw, zaw]; simp [hik]
  rw [zao, zao, e1, zcg h m s k fun p hp => hk p (List.mem_cons_of_mem _ hp), zcN h m (i :: k :: s) (k :: i :: s) (fun j => by simp only [List.mem_cons]; exact or_left_comm), zcg h m (i :: s) k fun p hp => hk p (List.mem_cons_of_mem _ hp)]
theorem zaN (h : Hn) : ∀ (m : MB) (s : List Nat) (i : Nat) (q : RB), zaB m i = some q → i ∉ s → (zaf h s m).Perm (q.den h i ++ zaf h (i :: s) m)
 | [], s, i, q, e, _ => by cases e
 | (j, p) :: m, s, i, q, e, hi => by
  unfold zaB at e
  rw [zao, zao]
  cases hb : Nat.beq j i with
  | true =>
   rw [hb] at e
   obtain rfl : p = q := Option.some.inj e
   obtain rfl : j = i := Nat.eq_of_beq_eq_true hb
   have h1 : zaY j s = false := by cases hq : zaY j s with | false => rfl | true => exact absurd (zaw.1 hq) hi
   have h2 : zaY j (j :: s) = true := zaw.2 (List.mem_cons_self ..)
   rw [h1, h2]
   exact List.Perm.refl _
  | false =>
   rw [hb] at e
   simp only [cond_false] at e
   have hji : j ≠ i := fun ee => by rw [ee, Nat.beq_refl] at hb; cases hb
   have e1 : zaY j (i :: s) = zaY j s := by rw [Bool.eq_iff_iff, zaw, zaw]; simp [hji]
   rw [e1]
   cases hq : zaY j s with
   | true => exact zaN h m s i q e hi
   | false =>
    have := zaN h m (j :: s) i q e (by simp [hi, Ne.symm hji])
    rw [zcN h m (i :: j :: s) (j :: i :: s) (fun k => by simp only [List.mem_cons]; exact or_left_comm)] at this
    simp only [cond_false]
    refine (List.Perm.append_left _ this).trans ?_
    rw [← List.append_assoc, ← List.append_assoc]
    exact List.Perm.append_right _ List.perm_append_comm
theorem zfo {S : Nat → Bool} : ∀ {m : MB}, wfM S m = true → ∀ p ∈ m, S p.1 = true
 | [], _, p, hp => by cases hp
 | q :: m, hw, p, hp => by
  rcases List.mem_cons.1 hp with rfl | hp
  ·exact (zaa hw).1
  ·exact zfo (zaa (zaa hw).2).2 p hp
theorem zir (h : Hn) : ∀ (rs : List RB) (k : Nat) (m : MB), (∀ p ∈ m, p.1 < k) → (zaf h [] (zhE k rs m)).Perm (zaf h [] m ++ zdM h k rs)
 | [], k, m, _ => by rw [zhE, zdM, List.append_nil]
 | q :: rs, k, m, hk => by
  rw [zhE, zdM]
  refine (zir h rs (k + 1) ((k, q) :: m) fun p hp => ?_).trans ?_
  ·rcases List.mem_cons.1 hp with rfl | hp
   ·exact Nat.lt_succ_self _
   ·exact Nat.lt_succ_of_lt (hk p hp)
  ·rw [zao, show zaY k [] = false from rfl, cond_false, zcg h m [] k fun p hp => Nat.ne_of_lt (hk p hp), ← List.append_assoc]
   exact List.Perm.append_right _ List.perm_append_comm
theorem zkq (h : Hn) : ∀ (R R' : List SF), zaX h (R ++ R') = zaX h R ++ zaX h R'
 | [], R' => rfl
 | r :: R, R' => by rw [List.cons_append, zaX, zaX, zkq h R R', List.cons_append]
def zbM : List (Nat × SV) → Nat → Option SV
 | [], _ => none
 | (d, v) :: l, i => bif Nat.beq d i then some v else zbM l i
def zeu (x : Value) : SV := .a (.s (.p (.v x)))
def evS (l : List (Nat × SV)) : Operand → Option SV
 | .tmp t => zbM l t
 | .const v => some (.a (.s (.p (.v v))))
 | .global g => some (.a (.s (.p (.v (.pointer (some ⟨g, 0, none⟩))))))
 | .func f => some (.a (.s (.p (.v (.func (.func f) #[] #[])))))
def zxu (l : List (Nat × SV)) : List Operand → Option (List SV)
 | [] => some []
 | x :: xs => match evS l x, zxu l xs with
  | some v, some vs => some (v :: vs)
  | _, _ => none
def zmN (h : Hn) : List SV → List Value
 | [] => []
 | x :: xs => x.den h :: zmN h xs
theorem za1 (h : Hn) : ∀ (l : List (Nat × SV)) (i : Nat) (x : SV), zbM l i = some x → zfm (zcn h l) i = some (x.den h)
 | [], i, x, hx => by cases hx
 | (d, v) :: l, i, x, hx => by
  unfold zbM at hx
  unfold zcn zfm
  cases hb : Nat.beq d i with
  | true => rw [hb] at hx; rw [← Option.some.inj hx]; rfl
  | false => rw [hb] at hx; exact za1 h l i x hx
theorem zag {h : Hn} {l : List (Nat × SV)} {x : Operand} {v : SV} (hx : evS l x = some v) : ev (zcn h l) x = some (v.den h) := by
 cases x with
 | tmp t => exact za1 h l t v hx
 | const u => rw [← Option.some.inj hx]; rfl
 | global g => rw [← Option.some.inj hx]; rfl
 | func f => rw [← Option.some.inj hx]; rfl
theorem zoR {h : Hn} {l : List (Nat × SV)} : ∀ {xs : List Operand} {vs : List SV}, zxu l xs = some vs → evs (zcn h l) xs = some (zmN h vs)
 | [], vs, hx => by rw [← Option.some.inj hx]; rfl
 | x :: xs, vs, hx => by
  unfold zxu at hx
  cases h1 : evS l x with
  | none => rw [h1] at hx; cases hx
  | some v =>
   cases h2 : zxu l xs with
   | none => rw [h1, h2] at hx; cases hx
   | some us =>
    rw [h1, h2] at hx
    rw [← Option.some.inj hx]
    unfold evs
    rw [zag h1, zoR h2]
    rfl
def SC.len : SC → Nat
 | .one _ => 1
 | .key _ => 32
 | .row n _ => n
def zfh : List SC → Nat
 | [] => 0
 | c :: cs => c.len + zfh cs
theorem SC.len_den (h : Hn) (c : SC) : (c.den h).len = c.len := by cases c <;> rfl
theorem zbg (h : Hn) : ∀ (cs : List SC), zdv (zaC h cs) = zfh cs
 | [] => rfl
 | c :: cs => by unfold zaC zdv zfh; rw [SC.len_den, zbg h cs]
def zkr : List SC → Nat → Option (List SC)
 | _, 0 => some []
 | [], _ + 1 => none
 | .one x :: cs, n + 1 => match zkr cs n with | some r => some (.one x :: r) | none => none
 | .key k :: cs, n + 1 => bif Nat.ble 31 n then (match zkr cs (n - 31) with | some r => some (.key k :: r) | none => none) else none
 | .row m f :: cs, n + 1 => bif Nat.ble m (n + 1) then (match zkr cs (n + 1 - m) with | some r => some (.row m f :: r) | none => none) else none
def zgU : List SC → Nat → Option (List SC)
 | cs, 0 => some cs
 | [], _ + 1 => none
 | .one _ :: cs, n + 1 => zgU cs n
 | .key _ :: cs, n + 1 => bif Nat.ble 31 n then zgU cs (n - 31) else none
 | .row m _ :: cs, n + 1 => bif Nat.ble m (n + 1) then zgU cs (n + 1 - m) else none
def zsg (cs : List SC) (off n : Nat) : Option (List SC) := match zgU cs off with | some r => zkr r n | none => none
def zFy : List SC → List SC → Option (List SC)
 | [], r => some r
 | c :: a, r => match zFy a r with | some b => some (c :: b) | none => none
theorem ztC : ∀ (a b : List SC), zFy a b = some (a ++ b)
 | [], b => rfl
 | c :: a, b => by rw [zFy, ztC a b]; rfl
def zta : List SC → Nat → Nat → List SC → Option (List SC)
 | cs, 0, n, new => match zgU cs n with | some r => zFy new r | none => none
 | [], _ + 1, _, _ => none
 | .one x :: cs, off + 1, n, new => match zta cs off n new with | some r => some (.one x :: r) | none => none
 | .key k :: cs, off + 1, n, new => bif Nat.ble 31 off then (match zta cs (off - 31) n new with | some r => some (.key k :: r) | none => none) else none
 | .row m f :: cs, off + 1, n, new => bif Nat.ble m (off + 1) then (match zta cs (off + 1 - m) n new with | some r => some (.row m f :: r) | none => none) else none
def zfi : List SC → Nat → Bool
 | [], n => Nat.beq n 0
 | .one _ :: cs, n => match n with | 0 => false | j + 1 => zfi cs j
 | .key _ :: cs, n => bif Nat.ble 32 n then zfi cs (n - 32) else false
 | .row m _ :: cs, n => bif Nat.ble m n then zfi cs (n - m) else false
theorem zcJ : ∀ {cs : List SC} {n : Nat}, zfi cs n = true → zfh cs = n
 | [], n, h => (Nat.eq_of_beq_eq_true h).symm
 | .one x :: cs, 0, h => by cases h
 | .one x :: cs, n + 1, h => by
  have := zcJ (cs := cs) (n := n) h
  unfold zfh SC.len
  simp only [this]; omega
 | .key k :: cs, n, h => by
  unfold zfi at h
  have h1 := zaa h
  have := zcJ h1.2
  have := Nat.le_of_ble_eq_true h1.1
  show 32 + zfh cs = n
  omega
 | .row m f :: cs, n, h => by
  unfold zfi at h
  have h1 := zaa h
  have := zcJ h1.2
  have := Nat.le_of_ble_eq_true h1.1
  show m + zfh cs = n
  omega
theorem zhQ (h : Hn) : ∀ (a b : List SC), zaC h (a ++ b) = zaC h a ++ zaC h b
 | [], b => rfl
 | c :: a, b => by rw [List.cons_append, zaC, zaC, zhQ h a b, List.cons_append]
theorem zeV {o : Option (List SC)} {c : SC} {r : List SC} (h : (match o with | some r => some (c :: r) | none => none) = some r) : ∃ d, o = some d ∧ c :: d = r := by
 cases o with
 | none => cases h
 | some d => exact ⟨d, rfl, Option.some.inj h⟩
theorem zeW {b : Bool} {o : Option (List SC)} {r : List SC} (h : (bif b then o else none) = some r) : b = true ∧ o = some r := by
 cases b
 ·cases h
 ·exact ⟨rfl, h⟩
theorem zks {c : Chunk} {cs r : List Chunk} {n : Nat} (hn : c.len ≤ n + 1) (h : zf5 cs (n + 1 - c.len) = some r) : zf5 (c :: cs) (n + 1) = some (c :: r) := by
 rw [zf5, Nat.ble_eq_true_of_le hn, h]; rfl
theorem zkt {c : Chunk} {cs r : List Chunk} {n : Nat} (hn : c.len ≤ n + 1) (h : zfg cs (n + 1 - c.len) = some r) : zfg (c :: cs) (n + 1) = some r := by
 rw [zfg, Nat.ble_eq_true_of_le hn, h]; rfl
theorem zoS {c : Chunk} {cs r new : List Chunk} {n : Nat} (hn : c.len ≤ n + 1) (h : zjy cs (n + 1 - c.len) new = some r) : zjy (c :: cs) (n + 1) new = some (c :: r) := by
 rw [zjy, Nat.ble_eq_true_of_le hn, h]; rfl
theorem zga (h : Hn) : ∀ (cs : List SC) (n : Nat) (r : List SC), zkr cs n = some r → zf5 (zaC h cs) n = some (zaC h r)
 | cs, 0, r, hr => by rw [zkr] at hr; rw [← Option.some.inj hr, zf5]; rfl
 | [], n + 1, r, hr => by cases hr
 | .one x :: cs, n + 1, r, hr => by
  rw [zkr] at hr
  obtain ⟨d, h1, rfl⟩ := zeV hr
  exact zks (c := .one (x.den h)) (by show 1 ≤ n + 1; omega) (zga h cs n d h1)
 | .key k :: cs, n + 1, r, hr => by
  rw [zkr] at hr
  obtain ⟨h0, hr⟩ := zeW hr
  have h0 := Nat.le_of_ble_eq_true h0
  obtain ⟨d, h1, rfl⟩ := zeV hr
  exact zks (c := .key k) (by show 32 ≤ n + 1; omega) (by show zf5 _ (n + 1 - 32) = _; rw [show n + 1 - 32 = n - 31 by omega]; exact zga h cs _ d h1)
 | .row m f :: cs, n + 1, r, hr => by
  rw [zkr] at hr
  obtain ⟨h0, hr⟩ := zeW hr
  obtain ⟨d, h1, rfl⟩ := zeV hr
  exact zks (c := .row m f) (Nat.le_of_ble_eq_true h0) (zga h cs _ d h1)
theorem zdm (h : Hn) : ∀ (cs : List SC) (n : Nat) (r : List SC), zgU cs n = some r → zfg (zaC h cs) n = some (zaC h r)
 | cs, 0, r, hr => by rw [zgU] at hr; rw [← Option.some.inj hr, zfg]
 | [], n + 1, r, hr => by cases hr
 | .one x :: cs, n + 1, r, hr => by
  rw [zgU] at hr
  exact zkt (c := .one (x.den h)) (by show 1 ≤ n + 1; omega) (zdm h cs n r hr)
 | .key k :: cs, n + 1, r, hr => by
  rw [zgU] at hr
  obtain ⟨h0, hr⟩ := zeW hr
  have h0 := Nat.le_of_ble_eq_true h0
  exact zkt (c := .key k) (by show 32 ≤ n + 1; omega) (by show zfg _ (n + 1 - 32) = _; rw [show n + 1 - 32 = n - 31 by omega]; exact zdm h cs _ r hr)
 | .row m f :: cs, n + 1, r, hr => by
  rw [zgU] at hr
  obtain ⟨h0, hr⟩ := zeW hr
  exact zkt (c := .row m f) (Nat.le_of_ble_eq_true h0) (zdm h cs _ r hr)
theorem zgb (h : Hn) {cs r : List SC} {off n : Nat} (hr : zsg cs off n = some r) : zhC (zaC h cs) off n = some (zaC h r) := by
 unfold zsg at hr
 unfold zhC
 cases hq : zgU cs off with
 | none => rw [hq] at hr; cases hr
 | some d => rw [hq] at hr; rw [zdm h cs off d hq]; exact zga h d n r hr
theorem zeX (h : Hn) : ∀ (cs : List SC) (off n : Nat) (new r : List SC), zfh new = n → zta cs off n new = some r → zjy (zaC h cs) off (zaC h new) = some (zaC h r)
 | cs, 0, n, new, r, hn, hr => by
  rw [zta] at hr
  rw [zjy, zbg, hn]
  cases hq : zgU cs n with
  | none => rw [hq] at hr; cases hr
  | some d =>
   rw [hq] at hr
   simp only [ztC] at hr
   rw [zdm h cs _ d hq]
   show zFx _ _ = _
   rw [ztk, ← Option.some.inj hr, zhQ]
 | [], off + 1, n, new, r, hn, hr => by cases hr
 | .one x :: cs, off + 1, n, new, r, hn, hr => by
  rw [zta] at hr
  obtain ⟨d, h1, rfl⟩ := zeV hr
  exact zoS (c := .one (x.den h)) (by show 1 ≤ off + 1; omega) (zeX h cs off n new d hn h1)
 | .key k :: cs, off + 1, n, new, r, hn, hr => by
  rw [zta] at hr
  obtain ⟨h0, hr⟩ := zeW hr
  have h0 := Nat.le_of_ble_eq_true h0
  obtain ⟨d, h1, rfl⟩ := zeV hr
  exact zoS (c := .key k) (by show 32 ≤ off + 1; omega) (by show zjy _ (off + 1 - 32) _ = _; rw [show off + 1 - 32 = off - 31 by omega]; exact zeX h cs _ n new d hn h1)
 | .row m f :: cs, off + 1, n, new, r, hn, hr => by
  rw [zta] at hr
  obtain ⟨h0, hr⟩ := zeW hr
  obtain ⟨d, h1, rfl⟩ := zeV hr
  exact zoS (c := .row m f) (Nat.le_of_ble_eq_true h0) (zeX h cs _ n new d hn h1)
structure Sp (X : List Nat) (w : World) (L : List Res) (R : List (World → Prop)) : Prop where
 xlt : ∀ k ∈ X, k < w.heap.size
 holds : ∀ q ∈ L, q.holds w
 apart : (zac L).Nodup
 xap : ∀ k ∈ zac L, k ∉ X
 facts : ∀ r ∈ R, St r w (X ++ zac L)
section
variable {X : List Nat} {w w' : World} {L L' L1 : List Res} {R R' R1 : List (World → Prop)} {q q' : Res} {r : World → Prop}
theorem Sp.lt (h : Sp X w L R) : ∀ k ∈ zac L, k < w.heap.size := fun k hk => by
 obtain ⟨q, hq, hk⟩ := zbL.1 hk
 exact zf7 (h.holds q hq) k hk
theorem Sp.xk (h : Sp X w L R) : ∀ k ∈ X ++ zac L, k < w.heap.size := fun k hk => by
 rcases List.mem_append.1 hk with h1 | h1
 ·exact h.xlt k h1
 ·exact h.lt k h1
theorem Sp.fact (h : Sp X w L R) (i : Nat) (hi : R[i]? = some r) : St r w (X ++ zac L) := h.facts r (List.mem_of_getElem? hi)
theorem Sp.sep (h : Sp X w L R) : Sep X (zac L) w w L R := ⟨Frm.refl _ _, h.xlt, h.holds, h.apart, fun k hk => .inl hk, h.facts⟩
theorem Sp.of_sep {G : List Nat} {w0 : World} (h : Sep X G w0 w L R) (hG : ∀ k ∈ zac L, k ∉ X) : Sp X w L R := ⟨fun k hk => jT (h.xlt k hk) h.frm.size, h.holds, h.apart, hG, h.facts⟩
theorem Sp.call (h : Sp X w L R) (h1 : Sep (X ++ zac L) [] w w' L1 R1) : Sp X w' (L ++ L1) (R1 ++ R) := by
 have h2 := h.sep.call h1
 have h3 : Sep X (zac L) w w' (L ++ L1) (R1 ++ R) := h2.perm List.perm_append_comm
 refine Sp.of_sep h3 fun k hk => ?_
 rw [zaj] at hk
 rcases List.mem_append.1 hk with h4 | h4
 ·exact h.xap k h4
 ·rcases h1.mine k h4 with h5 | h5
  ·cases h5
  ·intro hx
   have := h.xlt k hx
   omega
theorem Sp.grow (h : Sp X w L R) (hb : Frm [] w w') : Sp X w' L R := Sp.of_sep (h.sep.grow hb) h.xap
theorem Sp.drew (h : Sp X w L R) : Sp X w.drew L R := Sp.of_sep h.sep.drew h.xap
theorem Sp.popL (h : Sp X w (q :: L) R) : Sp X w L R := Sp.of_sep h.sep.popL fun k hk => h.xap k (List.mem_append_right _ hk)
theorem Sp.refacts (h : Sp X w L R) (hf : ∀ r ∈ R', St r w (X ++ zac L)) : Sp X w L R' := ⟨h.xlt, h.holds, h.apart, h.xap, hf⟩
theorem Sp.sub (h : Sp X w L R) (hf : ∀ r ∈ R', r ∈ R) : Sp X w L R' := h.refacts fun r hr => h.facts r (hf r hr)
theorem Sp.perm (h : Sp X w L R) (hp : L.Perm L') : Sp X w L' R := Sp.of_sep (h.sep.perm hp) fun k hk => h.xap k ((zar hp).mem_iff.2 hk)
theorem Sp.turnAt (h : Sp X w L R) (i : Nat) (hi : L[i]? = some q) (hb : Frm q.keys w w') (hq : q'.holds w') (hk : ∀ k ∈ q'.keys, k ∈ q.keys ∨ w.heap.size ≤ k) (hnd : q'.keys.Nodup) (hL : L.set i q' = L') : Sp X w' L' R ∧ ∀ k ∈ zac L', k ∈ zac L ∨ w.heap.size ≤ k := by
 have h1 := h.sep.turnAt i hi hb hq hk hnd hL
 refine ⟨Sp.of_sep h1 fun k hk' => ?_, fun k hk' => h1.mine k hk'⟩
 rcases h1.mine k hk' with h2 | h2
 ·exact h.xap k h2
 ·intro hx
  have := h.xlt k hx
  omega
theorem Sp.know (h : Sp X w L R) (hr : St r w (X ++ zac L)) : Sp X w L (r :: R) := h.refacts fun r' hr' => by
 rcases List.mem_cons.1 hr' with rfl | hr'
 ·exact hr
 ·exact h.facts r' hr'
theorem Sp.freeze (h : Sp X w (q :: L) R) : Sp X w L ((fun w => q.holds w) :: R) := by
 refine h.popL.know fun w' hk => zbv (h.holds q (List.mem_cons_self ..)) fun k hq => hk k (zf7 (h.holds q (List.mem_cons_self ..)) k hq) fun hm => ?_
 rcases List.mem_append.1 hm with h1 | h1
 ·exact h.xap k (List.mem_append_left _ hq) h1
 ·exact (List.nodup_append.1 h.apart).2.2 k hq k h1 rfl
theorem Sp.at_ (h : Sp X w L R) (i : Nat) (q : Res) (hq : L[i]? = some q) : Sp X w (q :: L.eraseIdx i) R := by
 have h1 := h.sep.at_ i q hq
 refine Sp.of_sep h1 fun k hk => ?_
 rcases h1.mine k hk with h2 | h2
 ·exact h.xap k h2
 ·intro hx; have := h.xlt k hx; omega
end
end
section
open Go.RowKit
section
variable {P : Program} {o : Oper} {a : Act} {w ws : World} {Q : Exit → Act → World → Prop} {N d : Nat} {l : List (Nat × Value)} {v : Value} {S : Nat → Prop} {K : Act → World → Prop}
 {X G : List Nat} {w0 : World} {L L' : List Res} {R : List (World → Prop)}
theorem zdn {j : Int} {b y : Nat} {code : BoundsCode} (hj : j = (b : Int)) (hb : b ≤ y) : (Instr.sliceBound (.int .i64 j) y code).run P w = .ok b w := by
 subst hj
 unfold Instr.sliceBound
 simp [asIntOf, hb]
def zis (A : Option Addr) (sz lo hi mx : Nat) : Value := .slice (if mx = lo then A else A.map (·.add (lo * sz))) (hi - lo) (mx - lo)
theorem zAN {t e sz : Nat} {A : Option Addr} {n c lo hi mx : Nat} {vl vh vm : Option Value} (ht : P.underlying t = some (.slice e)) (hs : (P.info? e).map (·.size) = some sz) (hb : (Instr.sliceBounds true n c vl vh vm).run P w = .ok (lo, hi, mx) w) :
  (Instr.sliceAt t (.slice A n c) vl vh vm).run P w = .ok (zis A sz lo hi mx) w := by
 unfold Instr.sliceAt
 rw [Sem.run_bind, run_underlying ht]
 simp only [Result.andThen_ok]
 unfold Instr.slice
 rw [Sem.run_bind, run_underlying ht]
 simp only [Result.andThen_ok, Sem.run_bind, hb, zbd hs]
 rfl
theorem zqg {t sz : Nat} {A : Option Addr} {n c lo hi mx : Nat} {x : Operand} {ol oh om : Option Operand} (ho : o.op = .slice t x ol oh om) (ht : elK P t = some sz) (hx : ev l x = some (.slice A n c))
  (hb : ∀ a N w, Env a N l → (Instr.sliceBounds true n c (ol.map a.eval) (oh.map a.eval) (om.map a.eval)).run P w = .ok (lo, hi, mx) w) : PK P S ws l o (zis A sz lo hi mx) := fun w' _ a N E => by
 obtain ⟨e, h1, h2⟩ := zp4 ht
 unfold execOp
 rw [ho]
 simp only [E.ev hx, Sem.run_bind, zAN h1 h2 (hb a N w' E), Result.andThen_ok, Sem.run_pure]
theorem zit {t sz : Nat} {A : Option Addr} {n c hi : Nat} {x xh : Operand} {j : Int} (ho : o.op = .slice t x none (some xh) none) (ht : elK P t = some sz) (hx : ev l x = some (.slice A n c)) (hh : ev l xh = some (.int .i64 j)) (hj : j = (hi : Int)) (hc : hi ≤ c) : PK P S ws l o (zis A sz 0 hi c) :=
 zqg ho ht hx fun a N w E => by
  unfold Instr.sliceBounds
  simp [E.ev hh, zdn hj hc, Sem.run_bind]
theorem ziu {t sz : Nat} {A : Option Addr} {n c lo : Nat} {x xl : Operand} {j : Int} (ho : o.op = .slice t x (some xl) none none) (ht : elK P t = some sz) (hx : ev l x = some (.slice A n c)) (hl : ev l xl = some (.int .i64 j)) (hj : j = (lo : Int)) (hc : lo ≤ n) : PK P S ws l o (zis A sz lo n c) :=
 zqg ho ht hx fun a N w E => by
  unfold Instr.sliceBounds
  simp [E.ev hl, zdn hj hc, Sem.run_bind]
theorem ztD {t sz : Nat} {A : Option Addr} {n c lo hi : Nat} {x xl xh : Operand} {j k : Int} (ho : o.op = .slice t x (some xl) (some xh) none) (ht : elK P t = some sz) (hx : ev l x = some (.slice A n c)) (hl : ev l xl = some (.int .i64 j)) (hh : ev l xh = some (.int .i64 k)) (hj : j = (lo : Int)) (hk : k = (hi : Int)) (hlh : lo ≤ hi) (hc : hi ≤ c) : PK P S ws l o (zis A sz lo hi c) :=
 zqg ho ht hx fun a N w E => by
  unfold Instr.sliceBounds
  simp [E.ev hl, E.ev hh, zdn hj hlh, zdn hk hc, Sem.run_bind]
theorem sub_zero (A : Option Addr) (sz hi c : Nat) : zis A sz 0 hi c = .slice A hi c := by
 unfold zis
 have : (A.map fun x => x.add (0 * sz)) = A := by cases A <;> simp [zax]
 rw [this]
 simp
end
end
section
open Go.RowKit
def zb1 (x y : Nat) : Nat := (x + y) % 4294967296
def zcy (x y : Nat) : Nat := (x % 4294967296) ^^^ (y % 4294967296)
def zeq (x y : Nat) : Nat := (x % 4294967296) &&& (y % 4294967296)
def orW (x y : Nat) : Nat := (x % 4294967296) ||| (y % 4294967296)
def ztb (x k : Nat) : Nat := (x * 2 ^ (min k 32)) % 4294967296
def zsh (x k : Nat) : Nat := x / 2 ^ (min k 32)
abbrev u32 (x : Nat) : Value := .int .u32 ((x : Nat) : Int)
theorem zfE (z : Nat) : IntKind.u32.wrap (z : Int) = ((z % 4294967296 : Nat) : Int) := by
 have e : IntKind.u32.wrap (z : Int) = (z : Int) % 4294967296 := by simp [IntKind.wrap, IntKind.bits, IntKind.signed]
 rw [e]; omega
theorem zDR (z : Nat) : IntKind.u8.wrap (z : Int) = ((z % 256 : Nat) : Int) := by
 have e : IntKind.u8.wrap (z : Int) = (z : Int) % 256 := by simp [IntKind.wrap, IntKind.bits, IntKind.signed]
 rw [e]; omega
theorem zoT (z : Nat) : IntKind.u64.wrap (z : Int) = ((z % 18446744073709551616 : Nat) : Int) := by
 have e : IntKind.u64.wrap (z : Int) = (z : Int) % 18446744073709551616 := by simp [IntKind.wrap, IntKind.bits, IntKind.signed]
 rw [e]; omega
theorem zDw (x : Nat) : (BitVec.ofInt 32 (x : Int)).toNat = x % 4294967296 := by
 rw [BitVec.toNat_ofInt]; omega
theorem bv8 (x : Nat) : (BitVec.ofInt 8 (x : Int)).toNat = x % 256 := by
 rw [BitVec.toNat_ofInt]; omega
theorem zDS (m n : Nat) : IntKind.u32.wrap (((BitVec.ofInt 32 (m : Int) ^^^ BitVec.ofInt 32 (n : Int)).toNat : Nat) : Int) = ((zcy m n : Nat) : Int) := by
 have h : (m % 4294967296) ^^^ (n % 4294967296) < 2 ^ 32 := Nat.xor_lt_two_pow (by omega) (by omega)
 rw [zfE, BitVec.toNat_xor, zDw, zDw, Nat.mod_eq_of_lt h]
 rfl
theorem zFT (m n : Nat) : IntKind.u32.wrap (((BitVec.ofInt 32 (m : Int) &&& BitVec.ofInt 32 (n : Int)).toNat : Nat) : Int) = ((zeq m n : Nat) : Int) := by
 have h : (m % 4294967296) &&& (n % 4294967296) < 2 ^ 32 := Nat.and_lt_two_pow _ (by omega)
 rw [zfE, BitVec.toNat_and, zDw, zDw, Nat.mod_eq_of_lt h]
 rfl
theorem zG2 (m n : Nat) : IntKind.u32.wrap (((BitVec.ofInt 32 (m : Int) ||| BitVec.ofInt 32 (n : Int)).toNat : Nat) : Int) = ((orW m n : Nat) : Int) := by
 have h : (m % 4294967296) ||| (n % 4294967296) < 2 ^ 32 := Nat.or_lt_two_pow (by omega) (by omega)
 rw [zfE, BitVec.toNat_or, zDw, zDw, Nat.mod_eq_of_lt h]
 rfl
theorem zG3 (m n : Nat) : IntKind.u8.wrap (((BitVec.ofInt 8 (m : Int) ^^^ BitVec.ofInt 8 (n : Int)).toNat : Nat) : Int) = (((m % 256) ^^^ (n % 256) : Nat) : Int) := by
 have h : (m % 256) ^^^ (n % 256) < 2 ^ 8 := Nat.xor_lt_two_pow (by omega) (by omega)
 rw [zDR, BitVec.toNat_xor, bv8, bv8, Nat.mod_eq_of_lt h]
theorem zAO (x n : Nat) : ((x : Int)).fdiv ((2 : Int) ^ n) = ((x / 2 ^ n : Nat) : Int) := by
 rw [Int.fdiv_eq_ediv_of_nonneg _ (Int.le_of_lt (Int.pow_pos (by decide)))]
 norm_cast
section
variable {P : Program} {o : Oper} {ws : World} {l : List (Nat × Value)} {S : Nat → Prop} {t u : TypeId} {x y : Operand} {m n : Nat}
theorem zeY {ad : Addr} (ho : o.op = .nilCheck x) (hx : ev l x = some (.pointer (some ad))) : PK P S ws l o (.pointer (some ad)) := fun w' _ a N E => by
 unfold execOp; rw [ho]; simp only [E.ev hx]; rfl
def arK (P : Program) (t : TypeId) : Option (Nat × Nat) := match P.underlying t with | some (.array n e) => (P.info? e).map fun i => (n, i.size) | _ => none
theorem zm0 {n sz : Nat} (h : arK P t = some (n, sz)) : ∃ e, P.underlying t = some (.array n e) ∧ (P.info? e).map (·.size) = some sz := by
 unfold arK at h
 split at h
 ·rename_i n' e he
  rw [Option.map_eq_some_iff] at h
  obtain ⟨i, hi, h⟩ := h
  injection h with h1 h2
  subst h1
  exact ⟨e, he, by rw [hi]; exact congrArg some h2⟩
 ·cases h
theorem zzN {sz N i : Nat} {ad : Addr} {j : Int} {k : IntKind} (ho : o.op = .indexAddr t x y) (ht : arK P t = some (N, sz)) (hx : ev l x = some (.pointer (some ad))) (hy : ev l y = some (.int k j)) (hj : j = (i : Int)) (hi : i < N) : PK P S ws l o (.pointer (some (ad.add (i * sz)))) := fun w' _ a _ E => by
 obtain ⟨e, h1, h2⟩ := zm0 ht
 subst hj
 have h3 : (0 : Int) ≤ (i : Int) ∧ (i : Int) < (N : Int) := by omega
 unfold execOp
 rw [ho]
 simp only [E.ev hx, E.ev hy, Instr.indexAt, asIntOf, Sem.run_bind, Sem.run_pure, Result.andThen_ok, run_underlying h1, Instr.sureAddr, zbd h2, h3, and_self, if_true, Int.toNat_natCast]
def zAP (P : Program) (t : TypeId) : Option Nat := match P.underlying t with | some (.array n e) => (match tyK P e with | some (1, false) => some n | _ => none) | _ => none
theorem zAQ {n : Nat} (h : zAP P t = some n) : ∃ e, P.underlying t = some (.array n e) ∧ tyK P e = some (1, false) := by
 unfold zAP at h
 split at h
 ·rename_i n' e he
  split at h
  ·rename_i h2
   injection h with h
   subst h
   exact ⟨e, he, h2⟩
  ·cases h
 ·cases h
theorem zqh {N i : Nat} {f : Nat → Value} {j : Int} {k : IntKind} (ho : o.op = .index t x y) (ht : zAP P t = some N) (hx : ev l x = some (.agg (ca [.row N f]))) (hy : ev l y = some (.int k j)) (hj : j = (i : Int)) (hi : i < N) : PK P S ws l o (f i) := fun w' _ a _ E => by
 obtain ⟨e, h1', h2⟩ := zAQ ht
 subst hj
 have h3 : (0 : Int) ≤ (i : Int) ∧ (i : Int) < (N : Int) := by omega
 obtain ⟨d, h4, h5, h6⟩ := zmV h2
 have hc : (ca [.row N f])[i]? = some (f i) := by simp [ca, cl, Chunk.cells, hi]
 have hagg : (isAgg e).run P w' = .ok false w' := by
  unfold isAgg
  simp only [Sem.run_bind, run_underlying h4, Result.andThen_ok]
  cases d <;> first | rfl | (simp at h5; done)
 have hpart : (part e (ca [.row N f]) (i * 1)).run P w' = .ok (f i) w' := by
  unfold part
  simp only [Sem.run_bind, hagg, Result.andThen_ok, Nat.mul_one, hc]
  rfl
 unfold execOp
 rw [ho]
 simp only [E.ev hx, E.ev hy, Instr.index, asIntOf, Sem.run_bind, Sem.run_pure, Result.andThen_ok, run_underlying h1', zbd h6, h3, and_self, if_true, Int.toNat_natCast, hpart]
theorem zoU {N sz : Nat} {ad : Addr} (ho : o.op = .slice t x none none none) (ht : arK P t = some (N, sz)) (hx : ev l x = some (.pointer (some ad))) : PK P S ws l o (.slice (some ad) N N) := fun w' _ a _ E => by
 obtain ⟨e, h1, h2⟩ := zm0 ht
 unfold execOp
 rw [ho]
 simp only [E.ev hx, Instr.sliceAt, Instr.sliceBounds, Instr.sureAddr, Option.map_none, Sem.run_bind, Sem.run_pure, Result.andThen_ok, run_underlying h1, zbd h2, Nat.zero_mul, zax, ite_self, Nat.sub_zero]
theorem zxv {N sz lo : Nat} {ad : Addr} {j : Int} (ho : o.op = .slice t x (some y) none none) (ht : arK P t = some (N, sz)) (hx : ev l x = some (.pointer (some ad))) (hy : ev l y = some (.int .i64 j)) (hj : j = (lo : Int)) (hlo : lo < N) : PK P S ws l o (.slice (some (ad.add (lo * sz))) (N - lo) (N - lo)) := fun w' _ a _ E => by
 obtain ⟨e, h1, h2⟩ := zm0 ht
 unfold execOp
 rw [ho]
 simp only [E.ev hx, E.ev hy, Instr.sliceAt, Instr.sliceBounds, Instr.sureAddr, Option.map_none, Option.map_some, Sem.run_bind, Sem.run_pure, Result.andThen_ok, run_underlying h1, zbd h2, zdn hj (show lo ≤ N by omega), if_neg (show ¬ N = lo by omega)]
end
section
variable {P : Program} {o : Oper} {a : Act} {w ws : World} {Q : Exit → Act → World → Prop} {N d : Nat} {l : List (Nat × Value)} {v : Value} {S : Nat → Prop} {K : Act → World → Prop}
 {X G : List Nat} {w0 : World} {L L' : List Res} {R : List (World → Prop)}
end
end
section
open Go.RowKit
theorem zxw (n : Nat) : madeCells #[Value.int .u8 0] n = ca [.row n fun _ => bv 0] := by
 apply Array.ext_getElem?
 intro i
 by_cases hi : i < n
 ·simp [madeCells, hi, Nat.mod_one, ca, cl, Chunk.cells, bv]
 ·rw [Array.getElem?_eq_none (by rw [size_madeCells]; omega), Array.getElem?_eq_none (by rw [zcU]; simp [zdv, Chunk.len]; omega)]
section
variable {P : Program} {o : Oper} {a : Act} {w ws : World} {Q : Exit → Act → World → Prop} {N d : Nat} {l : List (Nat × Value)} {v : Value} {S : Nat → Prop} {K : Act → World → Prop}
 {X G : List Nat} {w0 w1 : World} {L L' L1 L2 : List Res} {R R1 : List (World → Prop)} {q q1 q2 : Res}
theorem zqi {t e : TypeId} {x y : Operand} {n c : Nat} {i j : Int} (E : Env a N l) (H : Sep X G w0 w L R) (ho : o.op = .makeSlice t x y) (hT : ByteT P t e) (hx : ev l x = some (.int .i64 i)) (hy : ev l y = some (.int .i64 j)) (hi : i = (n : Int)) (hj : j = (c : Int)) (hnc : n ≤ c) (hc : c ≤ 140737488355328)
  (h : ∀ b w', Sep X G w0 w' (.blk b (ca [.row c fun _ => bv 0]) e :: L) R → Frm [] w w' → K (a.put o.dst (.slice (some ⟨b, 0, none⟩) n c)) w') : o.wp P a w K Q := by
 subst hi hj
 have hinfo := hT.info
 obtain ⟨ti, hti, hz⟩ := Option.map_eq_some_iff.1 hinfo
 simp only [Prod.mk.injEq] at hz
 obtain ⟨hz1, hz2, hz3⟩ := hz
 have hr := run_make (P := P) w t e ti _ hT.sl hti hz1 .i64 .i64 n c (by omega) (by omega) (by rw [hz3]; omega) (by omega)
 simp only [Int.toNat_natCast, hz2, Nat.mul_one] at hr
 have e1 : madeCells (Value.int .u8 0).cells c = ca [.row c fun _ => bv 0] := zxw c
 rw [e1] at hr
 have hf : Frm [] w (w.alloc (.cells (ca [.row c fun _ => bv 0]) e)) := Frm.of_below ((Below.refl _ _).alloc (jV _) _)
 unfold Oper.wp execOp
 simp only [ho, E.ev hx, E.ev hy, Sem.run_bind, hr, Result.andThen_ok, Sem.run_pure]
 exact h w.heap.size _ (H.own hf (heap_alloc_new w _) (by simp [Res.keys]) (by simp [Res.keys])) hf
theorem zqj {dT sT b t off dn dc n c m : Nat} {cs cs' : List Chunk} {news : List Value} {A : Option Addr} {x y : Operand} {pa : Addr} (i : Nat) (E : Env a N l) (H : Sep X G w0 w L R) (ho : o.op = .call { callee := .builtin .copy, args := #[x, y], argTypes := #[dT, sT] })
  (hx : ev l x = some (.slice (some pa) dn dc)) (hpa : pa = ⟨b, off, none⟩) (hy : ev l y = some (.slice A n c)) (hT : elK P dT = some 1) (hi : L[i]? = some (.blk b (ca cs) t)) (hm : m = min n dn) (hnew : news.length = m) (hnil : A = none → n = 0)
  (hsrc : ∀ ad, A = some ad → ∀ j u, news[j]? = some u → w.cell? (ad.add j) = some u) (h1 : ∀ u ∈ news, u.oneCell' = true) (hcl : cl cs' = (cl cs).take off ++ news ++ (cl cs).drop (off + m)) (hfit : off + m ≤ zdv cs)
  (hL : L.set i (.blk b (ca cs') t) = L') (h : ∀ w', Sep X G w0 w' L' R → Frm [b] w w' → K (a.put o.dst (.int .i64 m)) w') : o.wp P a w K Q := by
 subst hpa
 obtain ⟨e, he, hs⟩ := zp4 hT
 have hb : w.heap[b]? = some (.cells (ca cs) t (0, 0)) := H.holds _ (List.mem_of_getElem? hi)
 have fin : ∀ w', (Builtin.copy_ #[dT, sT] o.type #[.slice (some ⟨b, off, none⟩) dn dc, .slice A n c]).run P w = .ok (goInt m) w' → w'.heap[b]? = some (.cells (ca cs') t (0, 0)) → Frm [b] w w' → o.wp P a w K Q := fun w' hr hw hf => by
  unfold Oper.wp execOp
  simp only [ho, resolve, invoke, builtin, Sem.run_bind, Sem.run_pure, Result.andThen_ok, List.map_toArray, List.map_cons, List.map_nil, E.ev hx, E.ev hy, hr]
  exact h w' (H.turnAt (q' := .blk b (ca cs') t) i hi hf hw (by simp [Res.keys]) (by simp [Res.keys]) hL) hf
 by_cases h0 : m = 0
 ·subst h0
  obtain rfl : news = [] := List.eq_nil_of_length_eq_zero hnew
  have hce : ca cs' = ca cs := by unfold ca; rw [hcl]; simp
  refine fin w ?_ (by rw [hce]; exact hb) (Frm.refl _ _)
  exact run_copy_none (P := P) w dT sT o.type e _ A dn dc n c he hs hm.symm
 ·cases A with
  | none => have := hnil rfl; omega
  | some ad =>
   have hr := run_copy_row P w dT sT o.type e b off dn dc ad n c (ca cs) t news he hs hb (by rw [hnew, hm]) (hsrc ad rfl) (by rw [zcU, hnew]; exact hfit) h1
   rw [hnew] at hr
   have e1 : ((ca cs).toList.take off ++ news ++ (ca cs).toList.drop (off + m)).toArray = ca cs' := by unfold ca; rw [hcl]
   rw [e1] at hr
   exact fin _ hr (zaF hb) (zcf b _ w)
theorem zgc {A : Option Addr} {c : Nat} {k : List Nat} {m : Nat} (h : TxF A c k w) : ∀ ad, A = some ad → ∀ j u, ((k.take m).map bv)[j]? = some u → w.cell? (ad.add j) = some u := fun ad hA j u hu => by
 rw [List.getElem?_map, Option.map_eq_some_iff] at hu
 obtain ⟨x, hx, rfl⟩ := hu
 exact h.at_ ad hA j x (by
  have := (List.getElem?_eq_some_iff.1 hx).1
  rw [List.length_take] at this
  rwa [List.getElem?_take_of_lt (by omega)] at hx)
theorem zxx {k m : List Nat} (h : k.length + m.length ≤ 32) : zgQ (k ++ m) = (zgQ k).take k.length ++ m.map bv ++ (zgQ k).drop (k.length + m.length) := by
 have hl : (zgQ k).length = 32 := by simp [zgQ]
 have at_ : ∀ (z : List Nat) (i : Nat), i < 32 → (zgQ z)[i]? = some (bv (z.getD i 0)) := fun z i hi => by simp [zgQ, hi]
 apply List.ext_getElem?
 intro i
 by_cases hi : i < 32
 ·rw [at_ _ i hi]
  rcases Nat.lt_or_ge i k.length with h1 | h1
  ·rw [List.append_assoc, List.getElem?_append_left (by rw [List.length_take, hl]; omega), List.getElem?_take_of_lt h1, at_ _ i hi]
   simp [jR, List.getElem?_append_left h1]
  ·rcases Nat.lt_or_ge i (k.length + m.length) with h2 | h2
   ·rw [List.getElem?_append_left (by rw [jQ, List.length_take, hl, List.length_map]; omega), List.getElem?_append_right (by rw [List.length_take, hl]; omega), List.length_take, hl, Nat.min_eq_left (by omega), List.getElem?_map, jP (by omega)]
    simp [jR, List.getElem?_append_right h1, jP (show i - k.length < m.length by omega)]
   ·rw [List.getElem?_append_right (by rw [jQ, List.length_take, hl, List.length_map]; omega), List.getElem?_drop]
    have e1 : ((zgQ k).take k.length ++ m.map bv).length = k.length + m.length := by rw [jQ, List.length_take, hl, List.length_map]; omega
    rw [e1, show k.length + m.length + (i - (k.length + m.length)) = i by omega, at_ _ i hi]
    simp [jR, List.getElem?_append_right h1, List.getElem?_eq_none h1, List.getElem?_eq_none (show m.length ≤ i - k.length by omega)]
 ·rw [List.getElem?_eq_none (by simp [zgQ]; omega), List.getElem?_eq_none (by simp only [jQ, List.length_take, List.length_drop, hl, List.length_map]; omega)]
theorem Sep.rowOf {b e n c : Nat} {f : Nat → Value} (H : Sep X G w0 w (.blk b (ca [.row c f]) e :: L) R) (hn : n ≤ c) (hc : c ≤ 140737488355328) : Sep X G w0 w (.row (.slice (some ⟨b, 0, none⟩) n c) e 1 n ((List.range n).map f) :: L) R :=
 H.turn (Frm.refl _ _) ⟨by simp, .inr ⟨b, c, _, rfl, Nat.zero_le _, H.holds _ (List.mem_cons_self ..), hn, by unfold maxLen; omega, by rw [zcU]; simp [zdv, Chunk.len], by
  simp only [ca, cl, Chunk.cells, List.append_nil, Nat.mul_one]
  rw [← List.map_take, List.take_range, Nat.min_eq_left hn]⟩⟩ (fun k hk => .inl (by simpa [Res.keys, Value.ownBlock] using hk)) (by simp [Res.keys, Value.ownBlock])
theorem zfp {ad : Addr} {cs : List Chunk} {k : List Nat} {c : Nat} {Y : List Nat} (h : St (AtC ad cs) w Y) (hl : cl cs = k.map bv) (hc : k.length ≤ c) (hn : k.length ≤ 140737488355328) (hb : ∀ x ∈ k, x < 256) : St (TxF (some ad) c k) w Y := fun w' hk => ⟨hc, hn, hb, fun h => (by cases h), fun ad' e i x hx => by
 obtain rfl := Option.some.inj e
 refine h w' hk i (bv x) ?_
 rw [hl, List.getElem?_map, hx]
 rfl⟩
def zdI (k : List Nat) : List Nat := (List.range 32).map fun i => k.getD i 0
theorem zqk (k : List Nat) : (zdI k).length = 32 := by simp [zdI]
theorem zm1 (k : List Nat) : cl [.key k] = (zdI k).map bv := by simp [cl, Chunk.cells, zgQ, zdI, Function.comp_def]
theorem zgd {k : List Nat} (h : k.length = 32) : zdI k = k := by
 apply List.ext_getElem?
 intro i
 by_cases hi : i < 32
 ·simp [zdI, hi, jR, jP (show i < k.length by omega)]
 ·rw [List.getElem?_eq_none (by rw [zqk]; omega), List.getElem?_eq_none (by omega)]
theorem Sep.giveA (H : Sep X G w0 w (L1 ++ L) R) : Sep (X ++ zac L) (zac L1) w w L1 R :=
 ⟨Frm.refl _ _, fun k hk => by
  rcases List.mem_append.1 hk with h | h
  ·exact jT (H.xlt k h) H.frm.size
  ·exact H.lt k (by rw [zaj]; exact List.mem_append_right _ h), fun r hr => H.holds _ (List.mem_append_left _ hr), by
   have := H.apart
   rw [zaj] at this
   exact (List.nodup_append.1 this).1, fun k hk => .inl hk, fun r hr => (H.facts r hr).mono fun k hk => by
   rw [zaj]
   simp only [List.mem_append] at hk ⊢
   rcases hk with (h | h) | h
   ·exact .inl h
   ·exact .inr (.inr h)
   ·exact .inr (.inl h)⟩
theorem Sep.callA (H : Sep X G w0 w (L1 ++ L) R) (H1 : Sep (X ++ zac L) (zac L1) w w1 L2 R1) : Sep X G w0 w1 (L2 ++ L) (R1 ++ R) := by
 have hap : (zac L1 ++ zac L).Nodup := by rw [← zaj]; exact H.apart
 have hap := List.nodup_append.1 hap
 have hs := H.frm.size
 have hm : ∀ k ∈ zac L1, k ∈ zac (L1 ++ L) := fun k hk => by rw [zaj]; exact List.mem_append_left _ hk
 have hm2 : ∀ k ∈ zac L, k ∈ zac (L1 ++ L) := fun k hk => by rw [zaj]; exact List.mem_append_right _ hk
 have keep : ∀ k ∈ zac L, w1.heap[k]? = w.heap[k]? := fun k hk => H1.frm.block k (H.lt k (hm2 k hk)) fun hm => hap.2.2 k hm k hk rfl
 refine ⟨H.frm.trans H1.frm fun k hk => H.mine k (hm k hk), H.xlt, fun r hr => ?_, ?_, fun k hk => ?_, fun r hr => ?_⟩
 ·rcases List.mem_append.1 hr with h | h
  ·exact H1.holds r h
  ·exact zbv (H.holds r (List.mem_append_right _ h)) fun k hk => keep k (zbL.2 ⟨r, h, hk⟩)
 ·rw [zaj]
  refine List.nodup_append.2 ⟨H1.apart, hap.2.1, fun a ha b hb e => ?_⟩
  subst e
  rcases H1.mine a ha with h | h
  ·exact hap.2.2 a h a hb rfl
  ·have := H.lt a (hm2 a hb)
   omega
 ·rw [zaj] at hk
  rcases List.mem_append.1 hk with h | h
  ·rcases H1.mine k h with h2 | h2
   ·exact H.mine k (hm k h2)
   ·exact .inr (jU hs h2)
  ·exact H.mine k (hm2 k h)
 ·rw [zaj]
  rcases List.mem_append.1 hr with h | h
  ·refine (H1.facts r h).mono fun k hk => ?_
   simp only [List.mem_append] at hk ⊢
   rcases hk with h3 | h3 | h3
   ·exact .inl (.inl h3)
   ·exact .inr h3
   ·exact .inl (.inr h3)
  ·refine (H.facts r h).step H1.frm.size (fun k hk hn => H1.frm.block k hk fun hmm => hn (List.mem_append_right _ (hm k hmm))) fun k hk => ?_
   simp only [List.mem_append] at hk
   rcases hk with h3 | h3 | h3
   ·exact .inl (List.mem_append_left _ h3)
   ·rcases H1.mine k h3 with h4 | h4
    ·exact .inl (List.mem_append_right _ (hm k h4))
    ·exact .inr h4
   ·exact .inl (List.mem_append_right _ (hm2 k h3))
theorem Sep.freezeX (h : Sep X G w0 w (q :: L) R) (hG : ∀ k ∈ q.keys, k ∉ X) : Sep X G w0 w L ((fun w => q.holds w) :: R) := by
 refine h.popL.know fun w' hk => zbv (h.holds q (List.mem_cons_self ..)) fun k hq => hk k (zf7 (h.holds q (List.mem_cons_self ..)) k hq) fun hm => ?_
 rcases List.mem_append.1 hm with h1 | h1
 ·exact hG k hq h1
 ·exact (List.nodup_append.1 h.apart).2.2 k hq k h1 rfl
theorem Sep.rowTx {e c : Nat} {A : Option Addr} {k : List Nat} (H : Sep X G w0 w (.row (.slice A k.length c) e 1 k.length (k.map bv) :: L) R) (hX : ∀ i ∈ (Res.row (.slice A k.length c) e 1 k.length (k.map bv)).keys, i ∉ X) (hl : k.length ≤ 140737488355328) (hb : ∀ x ∈ k, x < 256) : Sep X G w0 w L (TxF A c k :: R) := by
 have hf := H.freezeX hX
 obtain ⟨A', c', h1, h2⟩ := zAG (e := e) (v := .slice A k.length c) (hf.facts _ (List.mem_cons_self ..)) hl hb
 injection h1 with h1 _ h3
 subst h1 h3
 exact hf.pop.know h2
theorem Sep.new_x (H : Sep X [] w0 w (q :: L) R) : ∀ k ∈ q.keys, k ∉ X := fun k hk hm => by
 have := H.xlt k hm
 rcases H.mine k (List.mem_append_left _ hk) with h2 | h2
 ·cases h2
 ·omega
theorem zoV {e : TypeId} {k : List Nat} {w' : World} (hX : ∀ k ∈ X, k < w0.heap.size) (h : Own w' w0.heap.size e v k) (hb : Below w0.heap.size w0 w') : ∃ A c, v = .slice A k.length c ∧ Sep X [] w0 w' [.row (.slice A k.length c) e 1 k.length (k.map bv)] [] := by
 have hq : w'.ownsRow 0 e 1 v k.length (k.map bv) := h.mono (Nat.zero_le _)
 obtain ⟨A, c, hv, _⟩ := h.txt
 subst hv
 refine ⟨A, c, rfl, (Sep.start hX (R := []) fun _ h => by cases h).own (Frm.of_below hb) hq (fun i hi => ?_) ?_⟩
 ·simp only [Res.keys, Option.mem_toList] at hi
  exact (h.lt i hi).1
 ·cases hq : (Value.slice A k.length c).ownBlock <;> simp [Res.keys, hq]
end
end
section
open Go.RowKit
def ztE (P : Program) (t : TypeId) (k : IntKind) (n : Nat) : Prop := ∃ e, P.underlying t = some (.array n e) ∧ P.underlying e = some (.int k) ∧ (P.info? e).map (·.size) = some 1 ∧ P.eqGuardType P.depth t = false
section
variable {P : Program} {ops : Array Oper} {rest : List Oper} {o : Oper} {a : Act} {w : World} {Q : Exit → Act → World → Prop}
theorem zm2 {e : TypeId} {k : IntKind} {n : Nat} {f : Nat → Int} {i : Nat} (he : P.underlying e = some (.int k)) (hi : i < n) : (part e (arr k n f) i).run P w = .ok (.int k (f i)) w := by
 unfold part isAgg
 simp only [Sem.run_bind, run_underlying he, Result.andThen_ok, Sem.run_pure]
 simp only [Bool.false_eq_true, if_false, zia _ _ _ _ hi]
 rfl
def zev (f g : Nat → Int) : Nat → Nat → Bool
 | 0, _ => true
 | m + 1, s => decide (f s = g s) && zev f g m (s + 1)
theorem zgV (f g : Nat → Int) : ∀ m s, zev f g m s = true ↔ ∀ i, i < m → f (s + i) = g (s + i)
 | 0, s => by simp [zev]
 | m + 1, s => by
  simp only [zev, Bool.and_eq_true, jS, zgV f g m (s + 1)]
  constructor
  ·rintro ⟨h0, h⟩ i hi
   cases i with
   | zero => simpa using h0
   | succ i => have := h i (by omega); rwa [show s + 1 + i = s + (i + 1) by omega] at this
  ·intro h
   exact ⟨by simpa using h 0 (by omega), fun i hi => by have := h (i + 1) (by omega); rwa [show s + (i + 1) = s + 1 + i by omega] at this⟩
theorem zew {d t e : TypeId} {k : IntKind} {n : Nat} {f g : Nat → Int} (ht : P.underlying t = some (.array n e)) (he : P.underlying e = some (.int k)) (hs : (P.info? e).map (·.size) = some 1) :
  (Op.equalIn (d + 2) t (.agg (arr k n f)) (.agg (arr k n g))).run P w = .ok (zev f g n 0) w := by
 have hsz : (sizeOf e).run P w = .ok 1 w := by
  cases hq : P.info? e with
  | none => simp [hq] at hs
  | some i =>
   have : i.size = 1 := by simpa [hq] using hs
   simp [sizeOf, typeInfo, hq, this]
 obtain ⟨D, hD⟩ : ∃ D, D = d + 1 := ⟨_, rfl⟩
 rw [show d + 2 = D + 1 from by rw [hD]]
 simp only [Op.equalIn, Sem.run_bind, run_underlying ht, Result.andThen_ok, hsz]
 rw [Std.Legacy.Range.forIn_eq_forIn_range']
 simp only [Std.Legacy.Range.size, Nat.sub_zero, Nat.add_sub_cancel, Nat.div_one]
 have key : ∀ m s, s + m ≤ n → ((forIn (List.range' s m) (none, ()) fun i (_ : Option Bool × Unit) => do
   let x ← part e (arr k n f) (i * 1)
   let y ← part e (arr k n g) (i * 1)
   let r ← Op.equalIn D e x y
   if (!r) = true then pure (ForInStep.done (some false, ())) else pure (ForInStep.yield (none, ())) : Sem (Option Bool × Unit))).run P w = .ok (if zev f g m s then none else some false, ()) w := by
  intro m
  induction m with
  | zero => intro s _; simp [zev]
  | succ m ih =>
   intro s hs
   rw [List.range'_succ, List.forIn_cons]
   simp only [Sem.run_bind, Nat.mul_one, zm2 he (show s < n by omega), Result.andThen_ok, hD, run_equalIn_int w d e k k _ _ he]
   by_cases hfg : f s = g s
   ·simp [hfg, zev]
    have := ih (s + 1) (by omega)
    rw [hD] at this
    simpa using this
   ·simp [hfg, zev]
 rw [key n 0 (by omega)]
 cases h : zev f g n 0 <;> simp
theorem zm3 {op : BinOp} {t u : TypeId} {x y : Operand} {k : IntKind} {n : Nat} {f g : Nat → Int} (ho : o.op = .binOp .eql t x y u) (hT : ztE P t k n) (hx : a.eval x = .agg (arr k n f)) (hy : a.eval y = .agg (arr k n g)) :
  (execOp a.eval o).run P w = .ok (.value (.bool (zev f g n 0))) w := by
 obtain ⟨e, h1, h2, h3, h4⟩ := hT
 unfold execOp
 simp only [ho, hx, hy, Sem.run_bind, run_eqGuard_agg w _ t x y _ _ h4, Result.andThen_ok, run_eql_struct, zew (d := 9998) h1 h2 h3, Sem.run_pure]
theorem zm4 {op : BinOp} {t u : TypeId} {x y : Operand} {k : IntKind} {n : Nat} {f g : Nat → Int} (ho : o.op = .binOp .neq t x y u) (hT : ztE P t k n) (hx : a.eval x = .agg (arr k n f)) (hy : a.eval y = .agg (arr k n g)) :
  (execOp a.eval o).run P w = .ok (.value (.bool (!zev f g n 0))) w := by
 obtain ⟨e, h1, h2, h3, h4⟩ := hT
 unfold execOp
 simp only [ho, hx, hy, Sem.run_bind, run_eqGuard_agg w _ t x y _ _ h4, Result.andThen_ok, run_neq_struct, zew (d := 9998) h1 h2 h3, Sem.run_pure]
end
end
section
open Go.RowKit
theorem zku (k : List Nat) (j : Nat) (hj : j < 32) : (zdI k)[j]? = some (k.getD j 0) := by
 unfold zdI
 rw [List.getElem?_map, List.getElem?_range hj]
 rfl
theorem zoX {k m : List Nat} : zdI k = zdI m ↔ ∀ i, i < 32 → k.getD i 0 = m.getD i 0 := by
 constructor
 ·intro h i hi
  have h1 := zku k i hi
  rw [h, zku m i hi] at h1
  exact (Option.some.inj h1).symm
 ·intro h
  unfold zdI
  exact List.map_congr_left fun i hi => h i (List.mem_range.1 hi)
theorem zDT (n : Nat) (f : Nat → Nat) : arr .u8 n (fun i => ((f i : Nat) : Int)) = ca [.row n fun i => bv (f i)] := by simp [arr, zhx, ca, cl, Chunk.cells, bv]
theorem zb2 {x : List Nat} (hx : ∀ z ∈ x, z < 256) (i : Nat) : x.getD i 0 < 256 := by
 rw [jR]
 cases h : x[i]? with
 | none => simp
 | some z => exact hx z (List.mem_of_getElem? h)
theorem zdg (k : List Nat) : ca [.key k] = arr .u8 32 fun i => ((k.getD i 0 : Nat) : Int) := by
 rw [zDT]
 simp only [ca]
 congr 1
section
variable {P : Program} {o : Oper} {a : Act} {w ws : World} {Q : Exit → Act → World → Prop} {N d : Nat} {l : List (Nat × Value)} {v : Value} {S : Nat → Prop} {K : Act → World → Prop} {x y : Operand}
 {X G : List Nat} {w0 : World} {L L' : List Res} {R : List (World → Prop)}
theorem zDU {t u : TypeId} {k m : List Nat} (ho : o.op = .binOp .eql t x y u) (hT : ztE P t .u8 32) (hx : ev l x = some (.agg (ca [.key k]))) (hy : ev l y = some (.agg (ca [.key m]))) : PK P S ws l o (.bool (decide (zdI k = zdI m))) := fun w' _ a N E => by
 have h := zm3 (w := w') (op := .eql) ho hT ((E.ev hx).trans (by rw [zdg])) ((E.ev hy).trans (by rw [zdg]))
 rw [h]
 congr 3
 rw [Bool.eq_iff_iff, decide_eq_true_iff, zoX, zgV]
 constructor
 ·intro hs i hi; have := hs i hi; rw [Nat.zero_add] at this; omega
 ·intro hs i hi; rw [Nat.zero_add, hs i hi]
theorem zDV {t u : TypeId} {k m : List Nat} (ho : o.op = .binOp .neq t x y u) (hT : ztE P t .u8 32) (hx : ev l x = some (.agg (ca [.key k]))) (hy : ev l y = some (.agg (ca [.key m]))) : PK P S ws l o (.bool (!decide (zdI k = zdI m))) := fun w' _ a N E => by
 have h := zm4 (w := w') (op := .neq) ho hT ((E.ev hx).trans (by rw [zdg])) ((E.ev hy).trans (by rw [zdg]))
 rw [h]
 congr 4
 rw [Bool.eq_iff_iff, decide_eq_true_iff, zoX, zgV]
 constructor
 ·intro hs i hi; have := hs i hi; rw [Nat.zero_add] at this; omega
 ·intro hs i hi; rw [Nat.zero_add, hs i hi]
theorem zAR {t n' sz n c : Nat} {A : Option Addr} (ho : o.op = .sliceToArrayPointer t x) (ht : arK P t = some (n', sz)) (hx : ev l x = some (.slice A n c)) (hn : n' ≤ n) : PK P S ws l o (.pointer A) := fun w' _ a _ E => by
 obtain ⟨e, h1, h2⟩ := zm0 ht
 unfold execOp
 rw [ho]
 simp only [E.ev hx, Instr.arrayAt, Sem.run_bind, run_underlying h1, Result.andThen_ok]
 rw [if_neg (by omega)]
 rfl
end
section
variable {P : Program} {o : Oper} {ws : World} {l : List (Nat × Value)} {S : Nat → Prop}
theorem zge {ty : TypeId} {parts : Array (Nat × Operand)} {z r : List Chunk} {n sz : Nat} (cs : List Chunk) (ho : o.op = .build ty parts) (ht : arK P ty = some (n, sz)) (hz : zdT P ty = some (ca z)) (hp : zmX (fun i => some (i * sz, sz)) l parts.toList z r) (hr : ca r = ca cs) : PK P S ws l o (.agg (ca cs)) := fun w' _ a N E => by
 obtain ⟨i, zv, h1, h2, h3⟩ := zdy hz
 obtain ⟨e, h4, h5⟩ := zm0 ht
 obtain ⟨ie, h6, h7⟩ := Option.map_eq_some_iff.1 h5
 have hb : P.built ty (parts.toList.map fun (i, x) => (i, a.eval x)) = some (ca cs) := by
  unfold Program.built
  simp only [h1, h4, h2, h6, h3, h7]
  rw [← hr]
  exact zdU E _ _ _ hp
 unfold execOp
 rw [ho]
 simp only [Sem.run_bind]
 rw [run_build w' ty (parts.map fun (i, x) => (i, a.eval x)) _ (by rw [Array.toList_map]; exact hb)]
 rfl
theorem zgf {ty : TypeId} {parts : Array (Nat × Operand)} {z r : List Chunk} {n : Nat} (cs : List Chunk) (ho : o.op = .build ty parts) (ht : arK P ty = some (n, 1)) (hz : zdT P ty = some (ca z)) (hp : zmX (fun i => some (i * 1, 1)) l parts.toList z r) (hr : ca r = ca cs) : PK P S ws l o (.agg (ca cs)) := zge cs ho ht hz hp hr
end
end
section
open Go.RowKit
inductive TK where
 | int (k : IntKind)
 | st (fs : List (Nat × Nat))
 | arr (n sz : Nat)
 | key
 | sl (e sz : Nat)
 | oth
structure TE where
 sz : Nat
 ag : Bool
 z : List SC
 k : TK
def FZ (P : Program) (t : TypeId) : Nat → List (Nat × Nat) → Prop
 | _, [] => True
 | i, x :: xs => zhn P t i = some x ∧ FZ P t (i + 1) xs
def OkK (P : Program) (t : TypeId) : TK → Prop
 | .int k => zDO P t = some k
 | .st fs => zkm P t = true ∧ FZ P t 0 fs
 | .arr n sz => arK P t = some (n, sz) ∧ (sz = 1 → zAP P t = some n)
 | .key => ztE P t .u8 32 ∧ arK P t = some (32, 1) ∧ zAP P t = some 32
 | .sl e sz => P.underlying t = some (.slice e) ∧ zda P e = some sz
 | .oth => True
def OkT (P : Program) (t : TypeId) (e : TE) : Prop := tyK P t = some (e.sz, e.ag) ∧ (∀ h, zdT P t = some (ca (zaC h e.z))) ∧ OkK P t e.k
abbrev Tab := List (Nat × TE)
def zbz (P : Program) : Tab → Prop
 | [] => True
 | (t, e) :: T => OkT P t e ∧ zbz P T
def zkv : Tab → Nat → Option TE
 | [], _ => none
 | (t, e) :: T, i => bif Nat.beq t i then some e else zkv T i
section
variable {P : Program} {T : Tab} {t i : Nat} {e : TE} {x : Nat × Nat} {xs : List (Nat × Nat)}
theorem Tc (h1 : tyK P t = some (e.sz, e.ag)) (h2 : (∀ h, zdT P t = some (ca (zaC h e.z)))) (h3 : OkK P t e.k) (h : zbz P T) : zbz P ((t, e) :: T) := ⟨⟨h1, h2, h3⟩, h⟩
theorem FZc (h1 : zhn P t i = some x) (h : FZ P t (i + 1) xs) : FZ P t i (x :: xs) := ⟨h1, h⟩
theorem zfj {k : IntKind} (h : zDO P t = some k) : OkK P t (.int k) := h
theorem zdN {fs : List (Nat × Nat)} (h : zkm P t = true) (h2 : FZ P t 0 fs) : OkK P t (.st fs) := ⟨h, h2⟩
theorem zgg {n : Nat} (h : arK P t = some (n, 1)) (h2 : zAP P t = some n) : OkK P t (.arr n 1) := ⟨h, fun _ => h2⟩
theorem zFU {n sz : Nat} (h : arK P t = some (n, sz)) (h1 : sz ≠ 1) : OkK P t (.arr n sz) := ⟨h, fun e => absurd e h1⟩
theorem zDW {e : Nat} (h1 : P.underlying t = some (.array 32 e)) (h2 : P.underlying e = some (.int .u8)) (h3 : (P.info? e).map (·.size) = some 1) (h4 : P.eqGuardType P.depth t = false) (h : arK P t = some (32, 1)) (h5 : zAP P t = some 32) : OkK P t .key := ⟨⟨e, h1, h2, h3, h4⟩, h, h5⟩
theorem zw7 {e sz : Nat} (h : P.underlying t = some (.slice e)) (h2 : zda P e = some sz) : OkK P t (.sl e sz) := ⟨h, h2⟩
end
theorem zbz.get {P : Program} : ∀ {T : Tab} {t : Nat} {e : TE}, zbz P T → zkv T t = some e → OkT P t e
 | [], _, _, _, h => by cases h
 | (t', e') :: T, t, e, hT, h => by
  unfold zkv at h
  cases hb : Nat.beq t' t with
  | true =>
   rw [hb] at h
   have := Nat.eq_of_beq_eq_true hb
   subst this
   rw [← Option.some.inj h]
   exact hT.1
  | false => rw [hb] at h; exact zbz.get hT.2 h
theorem FZ.get {P : Program} {t : TypeId} : ∀ {fs : List (Nat × Nat)} {k i : Nat} {x : Nat × Nat}, FZ P t k fs → fs[i]? = some x → zhn P t (k + i) = some x
 | [], k, i, x, _, h => by simp at h
 | y :: fs, k, 0, x, hf, h => by rw [jD] at h; rw [← Option.some.inj h]; exact hf.1
 | y :: fs, k, i + 1, x, hf, h => by
  rw [jE] at h
  have := FZ.get hf.2 h
  rwa [show k + 1 + i = k + (i + 1) by omega] at this
theorem zkw {P : Program} {t n : Nat} {b : Bool} (h : tyK P t = some (n, b)) : zda P t = some n := by
 obtain ⟨_, _, _, h3⟩ := zmV h
 exact h3
theorem ztF {P : Program} {t f off sz : Nat} (h : zhn P t f = some (off, sz)) (h0 : sz ≠ 0) : zp3 P t f = some off := by
 unfold zhn at h
 cases hu : P.underlying t with
 | none => rw [hu] at h; cases h
 | some d =>
  rw [hu] at h
  cases d with
  | struct fs =>
   simp only at h
   cases hf : fs[f]? with
   | none => rw [hf] at h; cases h
   | some fd =>
    rw [hf] at h
    obtain ⟨i, hi, he⟩ := Option.map_eq_some_iff.1 h
    injection he with h1 h2
    unfold zp3
    simp only [hu, hf, hi]
    rw [if_neg (by omega), h1]
  | _ => cases h
def szT (T : Tab) (t : Nat) : Option (Nat × Bool) := match zkv T t with | some ⟨sz, ag, _, _⟩ => some (sz, ag) | none => none
def kT (T : Tab) (t : Nat) : TK := match zkv T t with | some ⟨_, _, _, k⟩ => k | none => .oth
theorem zfq {P : Program} {T : Tab} (hT : zbz P T) {t : Nat} {x : Nat × Bool} (h : szT T t = some x) : tyK P t = some x := by
 unfold szT at h
 cases hq : zkv T t with
 | none => rw [hq] at h; cases h
 | some e => rw [hq] at h; rw [← Option.some.inj h]; exact (hT.get hq).1
theorem zjA {P : Program} {T : Tab} (hT : zbz P T) (t : Nat) : OkK P t (kT T t) := by
 unfold kT
 cases hq : zkv T t with
 | none => trivial
 | some e => exact (hT.get hq).2.2
def zT (T : Tab) (t : Nat) : Option (List SC) := match zkv T t with | some ⟨_, _, z, _⟩ => some z | none => none
theorem zsi {P : Program} {T : Tab} (hT : zbz P T) {t : Nat} {z : List SC} (h : zT T t = some z) (hn : Hn) : zdT P t = some (ca (zaC hn z)) := by
 unfold zT at h
 cases hq : zkv T t with
 | none => rw [hq] at h; cases h
 | some e => rw [hq] at h; rw [← Option.some.inj h]; exact (hT.get hq).2.1 hn
def zaD (k : IntKind) (z : Int) : SV := .a (.s (.p (.v (.int k z))))
def zbD (b : Bool) : SV := .a (.s (.p (.v (.bool b))))
def ztG (ad : Addr) : SV := .a (.s (.p (.v (.pointer (some ad)))))
def atS (i off : Nat) : SV := .a (.s (.p (.at_ i off)))
def hpS (i j sz off : Nat) : SV := .a (.s (.p (.hp i j sz off)))
def apS (i off j sz : Nat) : SV := .a (.s (.p (.ap i off j sz)))
def slS (i off n c : Nat) : SV := .a (.s (.p (.sl i off n c)))
def asBool : Option SV → Option Bool
 | some (.a (.s (.p (.v (.bool b))))) => some b
 | _ => none
def zjB : Option SV → Option (IntKind × Int)
 | some (.a (.s (.p (.v (.int k z))))) => some (k, z)
 | _ => none
inductive Pl where
 | own (i off : Nat)
 | ptr (ad : Addr)
 | hp (i j sz off : Nat)
def Pl.sv : Pl → SV
 | .own i off => atS i off
 | .ptr ad => ztG ad
 | .hp i j sz off => hpS i j sz off
def zoY : Option SV → Option Pl
 | some (.a (.s (.p (.at_ i off)))) => some (.own i off)
 | some (.a (.s (.p (.v (.pointer (some ad)))))) => some (.ptr ad)
 | some (.a (.s (.p (.hp i j sz off)))) => some (.hp i j sz off)
 | _ => none
inductive Sl where
 | own (i off n c : Nat)
 | sl (A : Option Addr) (n c : Nat)
 | hd (i n : Nat)
def zFz : Option SV → Option Sl
 | some (.a (.s (.p (.sl i off n c)))) => some (.own i off n c)
 | some (.a (.s (.p (.v (.slice A n c))))) => some (.sl A n c)
 | some (.a (.s (.p (.hd i n)))) => some (.hd i n)
 | _ => none
def Sl.sv : Sl → SV
 | .own i off n c => slS i off n c
 | .sl A n c => .a (.s (.p (.v (.slice A n c))))
 | .hd i n => .a (.s (.p (.hd i n)))
def Sl.len : Sl → Nat
 | .own _ _ n _ => n
 | .sl _ n _ => n
 | .hd _ n => n
def zxy : Option SV → Option (List Nat)
 | some (.a (.agg [.key k])) => some k
 | _ => none
def ikB (a b : IntKind) : Bool := decide (a = b)
def zDX : List SA → Nat → Option SA
 | [], _ => none
 | v :: _, 0 => some v
 | _ :: vs, i + 1 => zDX vs i
def zAS : Option SV → Option (List SA)
 | some (.tup xs) => some xs
 | _ => none
def asP : Option SV → Option SP
 | some (.a (.s (.p x))) => some x
 | _ => none
def zDx (l : List (Nat × SV)) : List Operand → Option (List SP)
 | [] => some []
 | x :: xs => match asP (evS l x) with
  | some v => match zDx l xs with
   | some vs => some (v :: vs)
   | none => none
  | none => none
def okS : SS → Bool
 | .p (.v x) => x.oneCell'
 | _ => true
def zgh : Option SV → Option (List SC)
 | some (.a (.s x)) => bif okS x then some [.one x] else none
 | some (.a (.agg cs)) => some cs
 | _ => none
section
variable {h : Hn} {s : Option SV} {l : List (Nat × SV)}
theorem zex {b : Bool} (e : asBool s = some b) : s = some (zbD b) := by
 unfold asBool at e; split at e
 ·rw [← Option.some.inj e]; rfl
 ·cases e
theorem zco {k : IntKind} {z : Int} (e : zjB s = some (k, z)) : s = some (zaD k z) := by
 unfold zjB at e; split at e
 ·injection e with e; injection e with e1 e2; rw [← e1, ← e2]; rfl
 ·cases e
theorem zbx {p : Pl} (e : zoY s = some p) : s = some p.sv := by
 unfold zoY at e; split at e
 ·rw [← Option.some.inj e]; rfl
 ·rw [← Option.some.inj e]; rfl
 ·rw [← Option.some.inj e]; rfl
 ·cases e
theorem zkx {p : Sl} (e : zFz s = some p) : s = some p.sv := by
 unfold zFz at e; split at e
 ·rw [← Option.some.inj e]; rfl
 ·rw [← Option.some.inj e]; rfl
 ·rw [← Option.some.inj e]; rfl
 ·cases e
theorem zqm {k : List Nat} (e : zxy s = some k) : s = some (.a (.agg [.key k])) := by
 unfold zxy at e; split at e
 ·rw [← Option.some.inj e]
 ·cases e
theorem zxz {xs : List SA} (e : zAS s = some xs) : s = some (.tup xs) := by
 unfold zAS at e; split at e
 ·rw [← Option.some.inj e]
 ·cases e
theorem zDY {x : SP} (e : asP s = some x) : s = some (.a (.s (.p x))) := by
 unfold asP at e; split at e
 ·rw [← Option.some.inj e]
 ·cases e
theorem ztH (h : Hn) : ∀ (xs : List SA) (i : Nat) (x : SA), zDX xs i = some x → zw2 (zkp h xs) i = some (x.den h)
 | [], i, x, e => by cases e
 | y :: xs, 0, x, e => by rw [zDX] at e; rw [zkp, zw2, Option.some.inj e]
 | y :: xs, i + 1, x, e => by rw [zDX] at e; rw [zkp, zw2]; exact ztH h xs i x e
theorem zoZ : ∀ {xs : List Operand} {vs : List SP}, zDx l xs = some vs → evs (zcn h l) xs = some (zhD h vs)
 | [], vs, e => by rw [← Option.some.inj e]; rfl
 | x :: xs, vs, e => by
  unfold zDx at e
  cases h1 : asP (evS l x) with
  | none => rw [h1] at e; cases e
  | some v =>
   cases h2 : zDx l xs with
   | none => rw [h1, h2] at e; cases e
   | some us =>
    rw [h1, h2] at e
    rw [← Option.some.inj e]
    unfold evs
    rw [zag (zDY h1), zoZ h2]
    rfl
theorem zo0 {x : SS} (e : okS x = true) : (x.den h).oneCell' = true := by
 cases x with
 | p x => cases x with
  | v x => exact e
  | _ => rfl
 | fn f fs cs => rfl
theorem zm5 {v : Value} (e : v.oneCell' = true) : v.cells = #[v] := by cases v <;> first | rfl | cases e
theorem zey {x : SV} {cs : List SC} (e : zgh (some x) = some cs) : (x.den h).cells = ca (zaC h cs) := by
 unfold zgh at e; split at e
 ·rename_i y hy
  injection hy with hy
  subst hy
  cases hb : okS y with
  | false => rw [hb] at e; cases e
  | true =>
   rw [hb] at e
   rw [← Option.some.inj e]
   show (y.den h).cells = _
   rw [zm5 (zo0 hb)]
   rfl
 ·rename_i c hc
  injection hc with hc
  subst hc
  rw [← Option.some.inj e]
  rfl
 ·cases e
end
def zm6 (l : List (Nat × SV)) (fs : Nat → Option (Nat × Nat)) : List (Nat × Operand) → List SC → Option (List SC)
 | [], z => some z
 | (i, x) :: ps, z => match fs i with
  | some (q1, q2) => match zgh (evS l x) with
   | some cs => bif zfi cs q2 then (match zta z q1 q2 cs with
    | some z' => zm6 l fs ps z'
    | none => none) else none
   | none => none
  | none => none
theorem zgi {h : Hn} {l : List (Nat × SV)} {fs place : Nat → Option (Nat × Nat)} (hp : ∀ i x, fs i = some x → place i = some x) : ∀ {ps : List (Nat × Operand)} {z r : List SC}, zm6 l fs ps z = some r → zmX place (zcn h l) ps (zaC h z) (zaC h r)
 | [], z, r, e => by rw [zm6] at e; rw [Option.some.inj e]; rfl
 | (i, x) :: ps, z, r, e => by
  unfold zm6 at e
  split at e
  ·rename_i q1 q2 hq
   split at e
   ·rename_i cs hcs
    cases hb : zfi cs q2 with
    | false => rw [hb] at e; cases e
    | true =>
     rw [hb] at e
     simp only [cond_true] at e
     split at e
     ·rename_i z' hz
      cases hv : evS l x with
      | none => simp only [hv] at hcs; cases hcs
      | some v =>
       simp only [hv] at hcs
       refine ⟨v.den h, zaC h cs, q1, zaC h z', zag hv, zey hcs, ?_, zeX h z q1 q2 cs z' (zcJ hb) hz, zgi hp e⟩
       rw [zbg, zcJ hb]
       exact hp _ _ hq
     ·cases e
   ·cases e
  ·cases e
def zw8 : Nat → List SC → List SC
 | 0, _ => []
 | n + 1, z => z ++ zw8 n z
theorem ztI (h : Hn) (z : List SC) : ∀ (n j : Nat), j < n * zfh z → (cl (zaC h (zw8 n z)))[j]? = (cl (zaC h z))[j % zfh z]?
 | 0, j, hj => by omega
 | n + 1, j, hj => by
  have hl : (cl (zaC h z)).length = zfh z := by rw [za8, zbg]
  rw [zw8, zhQ, ztj]
  by_cases hlt : j < zfh z
  ·rw [List.getElem?_append_left (by omega), Nat.mod_eq_of_lt hlt]
  ·rw [Nat.succ_mul] at hj
   have e : j % zfh z = (j - zfh z) % zfh z := Nat.mod_eq_sub_mod (by omega)
   rw [List.getElem?_append_right (by omega), hl, ztI h z n (j - zfh z) (by omega), e]
theorem zqn : ∀ (n : Nat) (z : List SC), zfh (zw8 n z) = n * zfh z
 | 0, z => by simp [zw8, zfh]
 | n + 1, z => by
  have : ∀ (a b : List SC), zfh (a ++ b) = zfh a + zfh b := fun a b => by
   have h : Hn := ⟨fun _ => 0, fun _ => (none, 0), fun _ _ => []⟩
   rw [← zbg h, ← zbg h, ← zbg h, zhQ, zxj]
  rw [zw8, this, zqn n z, Nat.succ_mul]; omega
theorem zxA {P : Program} {e n sz : Nat} {z : List SC} {h : Hn} (hz : zdT P e = some (ca (zaC h z))) (hs : zfh z = sz) : ((zdT P e).map fun c => (Array.range (n * sz)).map (c[· % c.size]!)) = some (ca (zaC h (zw8 n z))) := by
 rw [hz, Option.map_some]
 congr 1
 have hsz : (ca (zaC h z)).size = sz := by rw [zcU, zbg, hs]
 apply Array.ext_getElem?
 intro j
 rw [hsz]
 by_cases hj : j < n * sz
 ·have h1 := ztI h z n j (by rw [hs]; exact hj)
  have hmod : j % sz < sz := Nat.mod_lt _ (Nat.pos_of_ne_zero fun h0 => by rw [h0] at hj; omega)
  have h2 : (ca (zaC h (zw8 n z)))[j]? = (cl (zaC h (zw8 n z)))[j]? := by simp [ca]
  rw [h2, h1, hs]
  have h3 : j % sz < (cl (zaC h z)).length := by rw [za8, zbg, hs]; exact hmod
  simp [hj, ca, h3]
 ·rw [Array.getElem?_eq_none (by simp; omega), Array.getElem?_eq_none (by rw [zcU, zbg, zqn, hs]; omega)]
def zfF (P : Program) (N k : Nat) (l : List (Nat × SV)) (m : MB) (R : List SF) (o : Oper) (sv : SV) (rs : List RB) (Rs : List SF) : Prop :=
 ∀ (Q : Exit → Act → World → Prop) (h : Hn) (X : List Nat) (a : Act) (w : World), Env a N (zcn h l) → Sp X w (zaf h [] m) (zaX h R) → ∀ Kk : Act → World → Prop,
  (∀ h1 w', (∀ i, i < k ∨ k + rs.length ≤ i → h1.b i = h.b i ∧ h1.r i = h.r i ∧ h1.q i = h.q i) → Frm [] w w' → Sep (X ++ zac (zaf h [] m)) [] w w' (zdM h1 k rs) (zaX h1 Rs) → Kk (a.put o.dst (sv.den h1)) w') → o.wp P a w Kk Q
def zfk (P : Program) (N : Nat) (l : List (Nat × SV)) (m : MB) (R : List SF) (o : Oper) (sv : SV) : Prop :=
 ∀ (h : Hn) (X : List Nat) (a : Act) (w : World), Env a N (zcn h l) → Sp X w (zaf h [] m) (zaX h R) → (execOp a.eval o).run P w = .ok (.value (sv.den h)) w
section
variable {P : Program} {T : Tab} {N k : Nat} {l : List (Nat × SV)} {m : MB} {R Rs : List SF} {o : Oper} {sv : SV} {rs : List RB}
theorem Sep.none_ {X : List Nat} {w : World} (hX : ∀ k ∈ X, k < w.heap.size) : Sep X [] w w [] [] := Sep.start hX (fun _ h => by cases h)
theorem zdW (hp : zfk P N l m R o sv) : zfF P N k l m R o sv [] [] := fun Q h X a w E H Kk hK => by
 unfold Oper.wp
 rw [hp h X a w E H]
 exact hK h w (fun _ _ => ⟨rfl, rfl, rfl⟩) (Frm.refl _ _) (Sep.none_ H.xk)
theorem ztJ (hp : ∀ (h : Hn) (w : World), PK P zfB w (zcn h l) o (sv.den h)) : zfk P N l m R o sv := fun h X a w E _ => hp h w w (CanB.Keep.refl _ _) a N E
theorem zxB {cs : List SC} {t : Nat} (sv : SV) (hr : ∀ (h : Hn) (a : Act) (w : World), Env a N (zcn h l) → ∀ h1 : Hn, h1.b k = w.heap.size → AgS (fun i => decide (i ≠ k)) h h1 → (execOp a.eval o).run P w = .ok (.value (sv.den h1)) (w.alloc (.cells (ca (zaC h1 cs)) t))) :
  zfF P N k l m R o sv [.blk cs t] [] := fun Q h X a w E H Kk hK => by
 let h1 : Hn := ⟨fun i => if i = k then w.heap.size else h.b i, h.r, h.q⟩
 have hb : h1.b k = w.heap.size := if_pos rfl
 unfold Oper.wp
 rw [hr h a w E h1 hb (fun i hi => ⟨if_neg (of_decide_eq_true hi), rfl, rfl⟩)]
 have hf : Frm [] w (w.alloc (.cells (ca (zaC h1 cs)) t)) := Frm.of_below ((Below.refl _ _).alloc (jV _) _)
 refine hK h1 _ (fun i hi => ⟨if_neg (by simp at hi; omega), rfl, rfl⟩) hf ?_
 have := (Sep.none_ H.xk).own hf (q := .blk (h1.b k) (ca (zaC h1 cs)) t) (by rw [hb]; exact heap_alloc_new w _) (by rw [hb]; simp [Res.keys]) (by simp [Res.keys])
 exact this
theorem zm7 {a : Act} {w : World} {ty : TypeId} {z : List Chunk} (ho : o.op = .alloc ty) (hz : zdT P ty = some (ca z)) : (execOp a.eval o).run P w = .ok (.value (.pointer (some ⟨w.heap.size, 0, none⟩))) (w.alloc (.cells (ca z) ty)) := by
 obtain ⟨i, zv, h1, h2, h3⟩ := zdy hz
 unfold execOp
 simp [ho, Instr.alloc, zeroValue, typeInfo, h1, h2, newVar, newRow, newObj, h3, Sem.run_bind]
 rfl
theorem zAT {a : Act} {w : World} {ty : TypeId} {x : Operand} {v : Value} {z : List Chunk} (ho : o.op = .box ty x) (hx : a.eval x = v) (hz : v.cells = ca z) : (execOp a.eval o).run P w = .ok (.value (.pointer (some ⟨w.heap.size, 0, none⟩))) (w.alloc (.cells (ca z) ty)) := by
 unfold execOp
 simp [ho, Instr.box, newVar, newRow, newObj, hx, hz, Sem.run_bind]
 rfl
theorem zsj {a : Act} {w : World} {t e len sz : Nat} {parts : Array (Nat × Operand)} {z r : List Chunk} {lv : List (Nat × Value)} (E : Env a N lv) (ho : o.op = .buildSlice t len parts) (hu : P.underlying t = some (.slice e)) (hs : zda P e = some sz) (h0 : 0 < len * sz ∧ len * sz ≤ 2 ^ 24)
  (hz : ((zdT P e).map fun c => (Array.range (len * sz)).map (c[· % c.size]!)) = some (ca z)) (hp : zmX (fun i => some (i * sz, sz)) lv parts.toList z r) : (execOp a.eval o).run P w = .ok (.value (.slice (some ⟨w.heap.size, 0, none⟩) len len)) (w.alloc (.cells (ca r) e)) := by
 rw [Option.map_eq_some_iff] at hz
 obtain ⟨c, hz1, hz2⟩ := hz
 obtain ⟨i, zv, h1, h2, h3⟩ := zdy hz1
 have hsz : i.size = sz := by
  unfold zda at hs
  rw [h1] at hs
  simpa using hs
 unfold execOp
 simp only [ho, Sem.run_bind]
 rw [run_buildSlice w t e len (parts.map fun (i, x) => (i, a.eval x)) (ca r) i zv hu h1 h2 (by rw [hsz]; omega) (by rw [hsz]; omega) (by
  rw [hsz, h3, hz2, Array.toList_map]
  exact zdU E _ _ _ hp)]
 rfl
theorem ztK {h h1 : Hn} {k : Nat} {S : Nat → Bool} (ha : AgS (fun i => decide (i ≠ k)) h h1) (hS : S k = false) : AgS S h h1 := fun i hi => ha i (decide_eq_true fun e => by rw [e, hS] at hi; cases hi)
end
def zbN (n : Nat) (K : Nat → Prop) : Prop := match (n + 1) * 1 with | 0 => False | j + 1 => K j
theorem zbc {n : Nat} {K : Nat → Prop} (h : zbN n K) : K n := by
 unfold zbN at h
 rw [Nat.mul_one] at h
 exact h
def zw9 (b : Bool) (K : SV → List RB → Prop) : Prop := cond b (K (zbD true) []) (K (zbD false) [])
theorem zd7 {b : Bool} {K : SV → List RB → Prop} (h : zw9 b K) : K (zbD b) [] := by cases b <;> exact h
def ztL : List SF → Nat → Option Nat
 | [], _ => none
 | .sl j n _ :: R, i => bif Nat.beq j i then some n else ztL R i
 | _ :: R, i => ztL R i
def ztM : List SF → Nat → Option (List SC)
 | [], _ => none
 | .blk j cs :: R, i => bif Nat.beq j i then some cs else ztM R i
 | _ :: R, i => ztM R i
def zgj (R : List SF) (m : MB) (i : Nat) : Option (List SC) := match zaB m i with
 | some (.blk cs _) => some cs
 | _ => ztM R i
def zFV (R : List SF) (m : MB) (i : Nat) : Option Nat := match ztL R i with
 | some n => some n
 | none => match zaB m i with | some (.row _ _ n _) => some n | _ => none
def tqA (T : Tab) (k : Nat) (l : List (Nat × SV)) (m : MB) (R : List SF) (o : Oper) (K : SV → List RB → Prop) (C : Prop) : Prop :=
 match o.op with
 | .move x => match evS l x with | some v => K v [] | none => C
 | .assign x => match evS l x with | some v => K v [] | none => C
 | .pick c x y => match asBool (evS l c), evS l x, evS l y with
  | some b, some u, some v => cond b (K u []) (K v [])
  | _, _, _ => C
 | .extract x i => match zAS (evS l x) with
  | some xs => match zDX xs i with | some s => K (.a s) [] | none => C
  | none => C
 | .makeFunc f fs cs => match zDx l fs.toList, zDx l cs.toList with
  | some a, some b => K (.a (.s (.fn f a b))) []
  | _, _ => C
 | .binOp op t x y u => match zjB (evS l x), zjB (evS l y) with
  | some (k1, a), some (k2, b) => bif ikB k1 k2 then (match op with
   | .eql => zw9 (a == b) K
   | .neq => zw9 (a != b) K
   | .lss => zw9 (decide (a < b)) K
   | .leq => zw9 (decide (a ≤ b)) K
   | .gtr => zw9 (decide (a > b)) K
   | .geq => zw9 (decide (a ≥ b)) K
   | .add => ∃ z, k1.wrap (a + b) = z ∧ K (zaD k1 z) []
   | .sub => ∃ z, k1.wrap (a - b) = z ∧ K (zaD k1 z) []
   | .mul => ∃ z, k1.wrap (a * b) = z ∧ K (zaD k1 z) []
   | _ => C) else C
  | _, _ => match kT T t, zxy (evS l x), zxy (evS l y) with
   | .key, some x, some j => match op with
    | .eql => zw9 (decide (zdI x = zdI j)) K
    | .neq => zw9 (!decide (zdI x = zdI j)) K
    | _ => C
   | _, _, _ => C
 | .unOp .not t x => match asBool (evS l x) with | some b => zw9 (!b) K | none => C
 | .convert s t x => match zjB (evS l x), szT T s, kT T t with
  | some (_, a), some _, .int kk => ∃ z, kk.wrap a = z ∧ K (zaD kk z) []
  | _, _, _ => C
 | .nilCheck x => match zoY (evS l x) with | some (.own i off) => K (atS i off) [] | some (.ptr ad) => K (ztG ad) [] | some (.hp i j sz off) => K (hpS i j sz off) [] | none => C
 | .load ty x => match zoY (evS l x), szT T ty with
  | some (.own i off), some (n, ag) => match zgj R m i with
   | some cs => match zsg cs off n with
    | some r => match ag, r with
     | true, r => K (.a (.agg r)) []
     | false, [.one v] => bif Nat.beq n 1 then K (.a (.s v)) [] else C
     | _, _ => C
    | none => C
   | none => C
  | _, _ => C
 | .fieldAddr s x f => match kT T s, zoY (evS l x) with
  | .st fs, some p => match fs[f]? with
   | some (q1, q2) => bif Nat.beq q2 0 then C else match p with | .own i off => zbN (off + q1) fun n => K (atS i n) [] | .ptr ad => K (ztG (ad.add q1)) [] | .hp i j sz off => zbN (off + q1) fun n => K (hpS i j sz n) []
   | none => C
  | _, _ => C
 | .indexAddr t x y => match zjB (evS l y), kT T t with
  | some (.i64, z), .sl _ sz => match zFz (evS l x) with
   | some (.own i off n _) => ∃ j : Nat, (z = (j : Int) ∧ j < n) ∧ ((zbN (off + j * sz) fun n => K (atS i n) []) ∨ K (apS i off j sz) [])
   | some (.sl A n _) => ∃ (j : Nat) (ad : Addr), (A = some ad ∧ z = (j : Int) ∧ j < n) ∧ K (ztG (ad.add (j * sz))) []
   | some (.hd i n) => match zFV R m i with
    | some n' => ∃ j : Nat, (z = (j : Int) ∧ j < n ∧ j < n') ∧ K (hpS i j sz 0) []
    | none => C
   | _ => C
  | some (_, z), .arr n sz => match zoY (evS l x) with
   | some (.own i off) => ∃ j : Nat, (z = (j : Int) ∧ j < n) ∧ ((zbN (off + j * sz) fun n => K (atS i n) []) ∨ K (apS i off j sz) [])
   | some (.ptr ad) => ∃ j : Nat, (z = (j : Int) ∧ j < n) ∧ K (ztG (ad.add (j * sz))) []
   | _ => C
  | some (_, z), .key => match zoY (evS l x) with
   | some (.own i off) => ∃ j : Nat, (z = (j : Int) ∧ j < 32) ∧ ((zbN (off + j * 1) fun n => K (atS i n) []) ∨ K (apS i off j 1) [])
   | some (.ptr ad) => ∃ j : Nat, (z = (j : Int) ∧ j < 32) ∧ K (ztG (ad.add (j * 1))) []
   | _ => C
  | _, _ => C
 | .slice t x none none none => match kT T t, zoY (evS l x) with
  | .arr n _, some (.own i off) => K (slS i off n n) []
  | .key, some (.own i off) => K (slS i off 32 32) []
  | .arr n _, some (.ptr ad) => K (.a (.s (.p (.v (.slice (some ad) n n))))) []
  | .key, some (.ptr ad) => K (.a (.s (.p (.v (.slice (some ad) 32 32))))) []
  | _, _ => C
 | .build ty parts => match zT T ty, kT T ty with
  | some z, .st fs => match zm6 l (fun i => fs[i]?) parts.toList z with | some r => K (.a (.agg r)) [] | none => C
  | some z, .arr n sz => match zm6 l (fun i => some (i * sz, sz)) parts.toList z with | some r => K (.a (.agg r)) [] | none => C
  | some z, .key => match parts.toList with | [] => K (.a (.agg z)) [] | _ => C
  | _, _ => C
 | .alloc ty => match zT T ty with | some z => K (atS k 0) [.blk z ty] | none => C
 | .box ty x => match zgh (evS l x) with | some cs => bif wfC (fun i => Nat.ble (i + 1) k) cs then K (atS k 0) [.blk cs ty] else C | none => C
 | .buildSlice t len parts => match kT T t with
  | .sl e sz => bif Nat.ble 1 (len * sz) && Nat.ble (len * sz) 16777216 then (match zT T e with
   | some z => bif zfi z sz then (match zm6 l (fun i => some (i * sz, sz)) parts.toList (zw8 len z) with
    | some r => bif wfC (fun i => Nat.ble (i + 1) k) r then K (slS k 0 len len) [.blk r e] else C
    | none => C) else C
   | none => C) else C
  | _ => C
 | .call c => match c.callee, c.args.toList, c.argTypes.toList with
  | .builtin .len, [x], [t] => match kT T t, zFz (evS l x) with
   | .sl _ _, some s => K (zaD .i64 (s.len : Int)) []
   | _, _ => C
  | _, _, _ => C
 | _ => C
def zo1 : List SC → Nat → Option Value
 | [], _ => none
 | .one x :: cs, n => match n with | 0 => (match x with | .p (.v u) => some u | _ => none) | j + 1 => zo1 cs j
 | .key k :: cs, n => bif Nat.ble 32 n then zo1 cs (n - 32) else some (bv (k.getD n 0))
 | .row m f :: cs, n => bif Nat.ble m n then zo1 cs (n - m) else some (f n)
def zFA (cs : List SC) (off : Nat) : Option (Nat × (Nat → Value)) := match zgU cs off with
 | some (.row n f :: _) => some (n, f)
 | some (.key k :: _) => some (32, fun i => bv (k.getD i 0))
 | _ => none
def zgW (v : Value) : SV := .a (.s (.p (.v v)))
def ztN : Nat → Nat → (Nat → Value) → List SC
 | 0, _, _ => []
 | n + 1, j, f => .one (.p (.v (f j))) :: ztN n (j + 1) f
def zAU (f : Nat → Value) : Nat → Nat → List SC → Prop
 | 0, _, [] => True
 | n + 1, j, .one (.p (.v x)) :: cs => f j = x ∧ zAU f n (j + 1) cs
 | _, _, _ => False
def tqB (T : Tab) (l : List (Nat × SV)) (m : MB) (R : List SF) (o : Oper) (K : SV → List RB → Prop) (C : Prop) : Prop :=
 match o.op with
 | .binOp op t x y u => match zjB (evS l x), zjB (evS l y) with
  | some (k1, a), some (k2, b) => match op with
   | .shl => 0 ≤ b ∧ ∃ z, k1.wrap (a * 2 ^ (min b.toNat k1.bits)) = z ∧ K (zaD k1 z) []
   | .shr => 0 ≤ b ∧ ∃ z, a.fdiv (2 ^ (min b.toNat k1.bits)) = z ∧ K (zaD k1 z) []
   | .and => bif ikB k1 k2 then ∃ z, k1.wrap (BitVec.ofInt k1.bits a &&& BitVec.ofInt k1.bits b).toNat = z ∧ K (zaD k1 z) [] else C
   | .or => bif ikB k1 k2 then ∃ z, k1.wrap (BitVec.ofInt k1.bits a ||| BitVec.ofInt k1.bits b).toNat = z ∧ K (zaD k1 z) [] else C
   | .xor => bif ikB k1 k2 then ∃ z, k1.wrap (BitVec.ofInt k1.bits a ^^^ BitVec.ofInt k1.bits b).toNat = z ∧ K (zaD k1 z) [] else C
   | .quo => bif ikB k1 k2 then b ≠ 0 ∧ ∃ z, k1.wrap (a.tdiv b) = z ∧ K (zaD k1 z) [] else C
   | .rem => bif ikB k1 k2 then b ≠ 0 ∧ ∃ z, a.tmod b = z ∧ K (zaD k1 z) [] else C
   | _ => C
  | _, _ => C
 | .unOp .neg t x => match zjB (evS l x) with
  | some (k1, a) => ∃ z, k1.wrap (0 - a) = z ∧ K (zaD k1 z) []
  | none => C
 | .load ty x => match szT T ty with
  | some (1, false) => match evS l x with
   | some (.a (.s (.p (.at_ i off)))) => match zgj R m i with
    | some cs => match zo1 cs off with | some v => K (zgW v) [] | none => C
    | none => C
   | some (.a (.s (.p (.ap i off j s)))) => match zgj R m i with
    | some cs => match zFA cs off with | some (n, f) => bif Nat.beq s 1 then (j < n ∧ K (zgW (f j)) []) else C | none => C
    | none => C
   | _ => C
  | _ => C
 | .index t x y => match kT T t, evS l x, zjB (evS l y) with
  | .arr n 1, some (.a (.agg [.row n' f])), some (_, z) => bif Nat.beq n n' then ∃ j : Nat, (z = (j : Int) ∧ j < n) ∧ K (zgW (f j)) [] else C
  | .key, some (.a (.agg [.key b])), some (_, z) => ∃ j : Nat, (z = (j : Int) ∧ j < 32) ∧ K (zgW (bv (b.getD j 0))) []
  | _, _, _ => C
 | .build ty parts => match kT T ty, zT T ty with
  | .arr n 1, some [.row n' f0] => bif Nat.beq n n' then (match zm6 l (fun i => some (i * 1, 1)) parts.toList (ztN n' 0 f0) with
   | some r => ∃ f : Nat → Value, zAU f n 0 r ∧ K (.a (.agg [.row n f])) []
   | none => C) else C
  | _, _ => C
 | _ => C
def tq (T : Tab) (k : Nat) (l : List (Nat × SV)) (m : MB) (R : List SF) (o : Oper) (K : SV → List RB → Prop) (C : Prop) : Prop := tqA T k l m R o K (tqB T l m R o K C)
end
section
open Go.RowKit
section
variable {P : Program} {T : Tab} {N k : Nat} {l : List (Nat × SV)} {m : MB} {R : List SF} {o : Oper} {K : SV → List RB → Prop} {C : Prop}
def zsk (P : Program) (N k : Nat) (l : List (Nat × SV)) (m : MB) (R : List SF) (o : Oper) (K : SV → List RB → Prop) (C : Prop) : Prop := (∃ sv rs, zfF P N k l m R o sv rs [] ∧ K sv rs) ∨ C
theorem zaO {sv : SV} (hp : ∀ (h : Hn) (w : World), PK P zfB w (zcn h l) o (sv.den h)) (hk : K sv []) : zsk P N k l m R o K C := .inl ⟨sv, [], zdW (ztJ hp), hk⟩
theorem zez {sv : SV} (hp : zfk P N l m R o sv) (hk : K sv []) : zsk P N k l m R o K C := .inl ⟨sv, [], zdW hp, hk⟩
theorem zcp {X : List Nat} {w : World} {Rr : List (World → Prop)} {h : Hn} (H : Sp X w (zaf h [] m) Rr) {i : Nat} {cs : List SC} {t : Nat} (e : zaB m i = some (.blk cs t)) : w.heap[h.b i]? = some (.cells (ca (zaC h cs)) t (0, 0)) :=
 H.holds _ ((zaN h m [] i _ e (by simp)).mem_iff.2 (List.mem_cons_self ..))
theorem zDZ {t e : Nat} (h : P.underlying t = some (.slice e)) : zw3 P t = true := by unfold zw3; rw [h]
theorem zFW {t e sz : Nat} (h : P.underlying t = some (.slice e)) (hs : zda P e = some sz) : elK P t = some sz := by unfold elK; rw [h]; exact hs
theorem ziv (b off k : Nat) : (⟨b, off, none⟩ : Addr).add k = ⟨b, off + k, none⟩ := by rw [zbU]
theorem Sl.ev {h : Hn} (s : Sl) : ∃ A c, s.sv.den h = .slice A s.len c := by cases s <;> exact ⟨_, _, rfl⟩
theorem zdA {i n : Nat} : ∀ {R : List SF}, ztL R i = some n → ∃ f, SF.sl i n f ∈ R
 | [], e => by cases e
 | .sl j n' f :: R, e => by
  unfold ztL at e
  cases hb : Nat.beq j i with
  | true =>
   rw [hb] at e
   obtain rfl := Nat.eq_of_beq_eq_true hb
   obtain rfl : n' = n := Option.some.inj e
   exact ⟨f, List.mem_cons_self ..⟩
  | false =>
   rw [hb] at e
   obtain ⟨f', h⟩ := zdA (R := R) e
   exact ⟨f', List.mem_cons_of_mem _ h⟩
 | .c _ :: R, e => by
  obtain ⟨f', h⟩ := zdA (R := R) e
  exact ⟨f', List.mem_cons_of_mem _ h⟩
 | .b _ _ :: R, e => by
  obtain ⟨f', h⟩ := zdA (R := R) e
  exact ⟨f', List.mem_cons_of_mem _ h⟩
 | .h _ _ :: R, e => by
  obtain ⟨f', h⟩ := zdA (R := R) e
  exact ⟨f', List.mem_cons_of_mem _ h⟩
 | .q _ _ :: R, e => by
  obtain ⟨f', h⟩ := zdA (R := R) e
  exact ⟨f', List.mem_cons_of_mem _ h⟩
 | .nm _ _ :: R, e => by
  obtain ⟨f', h⟩ := zdA (R := R) e
  exact ⟨f', List.mem_cons_of_mem _ h⟩
 | .blk _ _ :: R, e => by
  obtain ⟨f', h⟩ := zdA (R := R) e
  exact ⟨f', List.mem_cons_of_mem _ h⟩
theorem zaQ {h : Hn} {r : World → Prop} : ∀ {R : List SF}, r ∈ zaX h R ↔ ∃ q ∈ R, r = q.den h
 | [] => by simp [zaX]
 | q :: R => by simp [zaX, zaQ (R := R)]
theorem zdB {i : Nat} {cs : List SC} : ∀ {R : List SF}, ztM R i = some cs → SF.blk i cs ∈ R
 | [], e => by cases e
 | .blk j cs' :: R, e => by
  unfold ztM at e
  cases hb : Nat.beq j i with
  | true =>
   rw [hb] at e
   obtain rfl := Nat.eq_of_beq_eq_true hb
   obtain rfl : cs' = cs := Option.some.inj e
   exact List.mem_cons_self ..
  | false =>
   rw [hb] at e
   exact List.mem_cons_of_mem _ (zdB (R := R) e)
 | .c _ :: R, e => List.mem_cons_of_mem _ (zdB (R := R) e)
 | .b _ _ :: R, e => List.mem_cons_of_mem _ (zdB (R := R) e)
 | .h _ _ :: R, e => List.mem_cons_of_mem _ (zdB (R := R) e)
 | .q _ _ :: R, e => List.mem_cons_of_mem _ (zdB (R := R) e)
 | .nm _ _ :: R, e => List.mem_cons_of_mem _ (zdB (R := R) e)
 | .sl _ _ _ :: R, e => List.mem_cons_of_mem _ (zdB (R := R) e)
theorem zky {X : List Nat} {w : World} {h : Hn} {i : Nat} {cs : List SC} (H : Sp X w (zaf h [] m) (zaX h R)) (e : zgj R m i = some cs) : AtC ⟨h.b i, 0, none⟩ (zaC h cs) w := by
 unfold zgj at e
 split at e
 ·rename_i cs' t hm
  rw [← Option.some.inj e]
  exact zeh (zcp H hm)
 ·exact (H.facts _ (zaQ.2 ⟨_, zdB e, rfl⟩)).now
theorem zm8 {ty i off n : Nat} {ag : Bool} {cs r : List SC} {x : Operand} {sv : SV} (ho : o.op = .load ty x) (hx : evS l x = some (atS i off)) (ht : tyK P ty = some (n, ag)) (hm : zgj R m i = some cs) (hp : zsg cs off n = some r) (hv : (ag = true ∧ sv = .a (.agg r)) ∨ (∃ v, ag = false ∧ n = 1 ∧ r = [.one v] ∧ sv = .a (.s v))) : zfk P N l m R o sv := fun h X a w E H => by
 have h1 := zfC (zky H hm) (zgb h hp)
 have h2 : AtC ⟨h.b i, off, none⟩ (zaC h r) w := by rw [zhO]; exact h1
 rcases hv with ⟨rfl, rfl⟩ | ⟨v, rfl, rfl, rfl, rfl⟩
 ·exact zbw E ho (zag hx) ht (zd6 (zgb h hp)).2.1 h2
 ·exact za0 E ho (zag hx) ht h2
theorem zAV {X : List Nat} {w : World} {h : Hn} {i n : Nat} (H : Sp X w (zaf h [] m) (zaX h R)) (e : zFV R m i = some n) : (h.r i).1 = none → n = 0 := by
 unfold zFV at e
 split at e
 ·rename_i n' hn'
  obtain rfl := Option.some.inj e
  obtain ⟨f, hf⟩ := zdA hn'
  exact (show ((h.r i).1 = none → n' = 0) ∧ f (h.r i) w from (H.facts _ (zaQ.2 ⟨_, hf, rfl⟩)).now).1
 ·split at e
  ·rename_i e' sz n' xs hm
   obtain rfl := Option.some.inj e
   intro hA
   have hh : w.ownsRow 0 e' sz (.slice (h.r i).1 n' (h.r i).2) n' (xs (h.q i)) := H.holds _ ((zaN h m [] i _ hm (by simp)).mem_iff.2 (List.mem_cons_self ..))
   rcases hh.2 with ⟨_, e2⟩ | ⟨g, cap, cur, e1, _⟩
   ·exact e2
   ·rw [hA] at e1; injection e1 with e1; cases e1
  ·cases e
theorem zAW {x : Operand} (ho : o.op = .move x) (h : match evS l x with | some v => K v [] | none => C) : zsk P N k l m R o K C := by
 cases hx : evS l x with
 | none => simp only [hx] at h; exact .inr h
 | some v => simp only [hx] at h; exact zaO (fun hn w => zkk ho (zag hx)) h
theorem ztO {x : Operand} (ho : o.op = .assign x) (h : match evS l x with | some v => K v [] | none => C) : zsk P N k l m R o K C := by
 cases hx : evS l x with
 | none => simp only [hx] at h; exact .inr h
 | some v => simp only [hx] at h; exact zaO (fun hn w => zmU ho (zag hx)) h
theorem zei {op : BinOp} {t u : TypeId} {x y : Operand} {ik : IntKind} {p q : Int} {sv : SV} {v : Value} (ho : o.op = .binOp op t x y u) (hx : evS l x = some (zaD ik p)) (hy : evS l y = some (zaD ik q)) (hr : zet op ik p q = some v) (hv : ∀ h, sv.den h = v) (hk : K sv []) : zsk P N k l m R o K C :=
 zaO (fun h w => by rw [hv]; exact zp2 ho (zag hx) (zag hy) hr) hk
theorem zAX {ty : TypeId} {x : Operand} (hT : zbz P T) (ho : o.op = .load ty x) (h : match zoY (evS l x), szT T ty with
  | some (.own i off), some (n, ag) => match zgj R m i with
   | some cs => match zsg cs off n with
    | some r => match ag, r with
     | true, r => K (.a (.agg r)) []
     | false, [.one v] => bif Nat.beq n 1 then K (.a (.s v)) [] else C
     | _, _ => C
    | none => C
   | none => C
  | _, _ => C) : zsk P N k l m R o K C := by
 split at h
 ·rename_i i off n1 n2 hx hn
  have hx' := zbx hx
  have hn' := zfq hT hn
  split at h
  ·rename_i cs hm
   split at h
   ·rename_i r hp
    split at h
    ·exact zez (zm8 ho hx' hn' hm hp (.inl ⟨rfl, rfl⟩)) h
    ·rename_i v
     cases hb : Nat.beq n1 1 with
     | false => simp only [hb, cond_false] at h; exact .inr h
     | true =>
      simp only [hb, cond_true] at h
      have hb := Nat.eq_of_beq_eq_true hb
      exact zez (zm8 ho hx' hn' hm hp (.inr ⟨v, rfl, hb, rfl, rfl⟩)) h
    ·exact .inr h
   ·exact .inr h
  ·exact .inr h
 ·exact .inr h
theorem zxC {s : TypeId} {x : Operand} {f : Nat} (hT : zbz P T) (ho : o.op = .fieldAddr s x f) (h : match kT T s, zoY (evS l x) with
  | .st fs, some p => match fs[f]? with
   | some (q1, q2) => bif Nat.beq q2 0 then C else match p with | .own i off => zbN (off + q1) fun n => K (atS i n) [] | .ptr ad => K (ztG (ad.add q1)) [] | .hp i j sz off => zbN (off + q1) fun n => K (hpS i j sz n) []
   | none => C
  | _, _ => C) : zsk P N k l m R o K C := by
 split at h
 ·rename_i fs p hk hx
  have hx' := zbx hx
  have hok := zjA hT s
  rw [hk] at hok
  split at h
  ·rename_i q1 q2 hq
   cases hb : Nat.beq q2 0 with
   | true => simp only [hb, cond_true] at h; exact .inr h
   | false =>
    simp only [hb, cond_false] at h
    have h0 : q2 ≠ 0 := fun e => by rw [e] at hb; cases hb
    have hz : zhn P s (0 + f) = some (q1, q2) := FZ.get hok.2 hq
    rw [Nat.zero_add] at hz
    have hf := ztF (f := f) (off := q1) (sz := q2) hz h0
    cases p with
    | own i off =>
     exact zaO (sv := atS i (off + q1)) (fun hn w => by
      have := zbm (S := zfB) (ws := w) ho (zag (h := hn) hx') hf
      rw [ziv] at this
      exact this) (zbc h)
    | ptr ad => exact zaO (sv := ztG (ad.add q1)) (fun hn w => zbm ho (zag hx') hf) h
    | hp i j sz off =>
     have h := zbc h
     exact zaO (sv := hpS i j sz (off + q1)) (fun hn w => by
      have := zbm (S := zfB) (ws := w) ho (zag (h := hn) hx') hf
      rw [Addr.add_add] at this
      exact this) h
  ·exact .inr h
 ·exact .inr h
theorem zhR {t n sz : Nat} {x y : Operand} {z : Int} {ik : IntKind} {p : Pl} (ho : o.op = .indexAddr t x y) (ht : arK P t = some (n, sz)) (hx : evS l x = some p.sv) (hy : evS l y = some (zaD ik z))
  (h : match p with | .own i off => ∃ j : Nat, (z = (j : Int) ∧ j < n) ∧ (zbN (off + j * sz) (fun n => K (atS i n) []) ∨ K (apS i off j sz) []) | .ptr ad => ∃ j : Nat, (z = (j : Int) ∧ j < n) ∧ K (ztG (ad.add (j * sz))) [] | .hp _ _ _ _ => C) : zsk P N k l m R o K C := by
 cases p with
 | own i off =>
  obtain ⟨j, ⟨h1, h2⟩, h3⟩ := h
  have key : ∀ (hn : Hn) (w : World), PK P zfB w (zcn hn l) o (.pointer (some ⟨hn.b i, off + j * sz, none⟩)) := fun hn w => by
   have := zzN (S := zfB) (ws := w) ho ht (zag (h := hn) hx) (zag hy) h1 h2
   rw [ziv] at this
   exact this
  rcases h3 with h3 | h3
  ·exact zaO (sv := atS i (off + j * sz)) key (zbc h3)
  ·exact zaO (sv := apS i off j sz) key h3
 | ptr ad =>
  obtain ⟨j, ⟨h1, h2⟩, h3⟩ := h
  exact zaO (fun hn w => zzN ho ht (zag (h := hn) hx) (zag hy) h1 h2) h3
 | hp i j sz off => exact .inr h
theorem zhS {t n sz : Nat} {x : Operand} {p : Pl} (ho : o.op = .slice t x none none none) (ht : arK P t = some (n, sz)) (hx : evS l x = some p.sv) (h : match p with | .own i off => K (slS i off n n) [] | .ptr ad => K (.a (.s (.p (.v (.slice (some ad) n n))))) [] | .hp _ _ _ _ => C) : zsk P N k l m R o K C := by
 cases p with
 | own i off => exact zaO (fun hn w => zoU ho ht (zag (h := hn) hx)) h
 | ptr ad => exact zaO (fun hn w => zoU ho ht (zag (h := hn) hx)) h
 | hp i j sz off => exact .inr h
theorem zkz {cs : List SC} {t : Nat} {sv : SV} (hk : K sv [.blk cs t]) (hr : ∀ (h : Hn) (a : Act) (w : World), Env a N (zcn h l) → ∀ h1 : Hn, h1.b k = w.heap.size → AgS (fun i => decide (i ≠ k)) h h1 → (execOp a.eval o).run P w = .ok (.value (sv.den h1)) (w.alloc (.cells (ca (zaC h1 cs)) t))) : zsk P N k l m R o K C :=
 .inl ⟨sv, _, zxB sv hr, hk⟩
theorem zqo (k : Nat) : Nat.blt k k = false := by
 cases h : Nat.blt k k with
 | false => rfl
 | true => have := Nat.le_of_ble_eq_true h; omega
theorem ztP (hT : zbz P T) (h : tqA T k l m R o K C) : zsk P N k l m R o K C := by
 unfold tqA at h
 split at h
 ·rename_i x ho; exact zAW ho h
 ·rename_i x ho; exact ztO ho h
 ·rename_i c x y ho
  split at h
  ·rename_i b u v hc hx hy
   have hc' := zex hc
   cases b with
   | true => exact zaO (fun hn w => ztm ho (zag hc') (zag hx)) h
   | false => exact zaO (fun hn w => ztm ho (zag hc') (zag hy)) h
  ·exact .inr h
 ·rename_i x i ho
  split at h
  ·rename_i xs hx
   split at h
   ·rename_i s hs
    exact zaO (sv := .a s) (fun hn w => zjJ ho (zag (zxz hx)) (ztH hn xs i s hs)) h
   ·exact .inr h
  ·exact .inr h
 ·rename_i f fs cs ho
  split at h
  ·rename_i a b ha hb
   exact zaO (fun hn w => zoN ho (zoZ ha) (zoZ hb)) h
  ·exact .inr h
 ·rename_i op t x y u ho
  split at h
  ·rename_i k1 a k2 b hx hy
   have hx' := zco hx
   have hy' := zco hy
   cases hb : ikB k1 k2 with
   | false => simp only [hb, cond_false] at h; exact .inr h
   | true =>
    simp only [hb, cond_true] at h
    rw [← of_decide_eq_true hb] at hy'
    split at h
    ·exact zei ho hx' hy' rfl (fun _ => rfl) (zd7 h)
    ·exact zei ho hx' hy' rfl (fun _ => rfl) (zd7 h)
    ·exact zei ho hx' hy' rfl (fun _ => rfl) (zd7 h)
    ·exact zei ho hx' hy' rfl (fun _ => rfl) (zd7 h)
    ·exact zei ho hx' hy' rfl (fun _ => rfl) (zd7 h)
    ·exact zei ho hx' hy' rfl (fun _ => rfl) (zd7 h)
    ·obtain ⟨z, hz, h⟩ := h; exact zei ho hx' hy' (by rw [zet, hz]) (fun _ => rfl) h
    ·obtain ⟨z, hz, h⟩ := h; exact zei ho hx' hy' (by rw [zet, hz]) (fun _ => rfl) h
    ·obtain ⟨z, hz, h⟩ := h; exact zei ho hx' hy' (by rw [zet, hz]) (fun _ => rfl) h
    ·exact .inr h
  ·split at h
   ·rename_i x' j hk hx hy
    have hok := zjA hT t
    rw [hk] at hok
    have hx' := zqm hx
    have hy' := zqm hy
    split at h
    ·exact zaO (fun hn w => zDU ho hok.1 (zag hx') (zag hy')) (zd7 h)
    ·exact zaO (fun hn w => zDV ho hok.1 (zag hx') (zag hy')) (zd7 h)
    ·exact .inr h
   ·exact .inr h
 ·rename_i t x ho
  split at h
  ·rename_i b hx
   exact zaO (fun hn w => ztn ho (zag (zex hx))) (zd7 h)
  ·exact .inr h
 ·rename_i s t x ho
  split at h
  ·rename_i k1 a n kk hx hs hk
   have hx' := zco hx
   have hs' := zfq hT hs
   have hok := zjA hT t
   rw [hk] at hok
   obtain ⟨z, hz, h⟩ := h
   exact zaO (fun hn w => by
    have := zto (S := zfB) (ws := w) ho (zag (h := hn) hx') (by obtain ⟨d, hd, _⟩ := zmV hs'; rw [hd]; rfl) hok
    rw [hz] at this
    exact this) h
  ·exact .inr h
 ·rename_i x ho
  split at h
  ·rename_i i off hx
   exact zaO (fun hn w => by
    have hv := zag (h := hn) (zbx hx)
    intro w' _ a N E
    unfold execOp
    simp only [ho, Sem.run_bind, E.ev hv]
    rfl) h
  ·rename_i ad hx
   exact zaO (fun hn w => by
    have hv := zag (h := hn) (zbx hx)
    intro w' _ a N E
    unfold execOp
    simp only [ho, Sem.run_bind, E.ev hv]
    rfl) h
  ·rename_i i j sz off hx
   exact zaO (fun hn w => by
    have hv := zag (h := hn) (zbx hx)
    intro w' _ a N E
    unfold execOp
    simp only [ho, Sem.run_bind, E.ev hv]
    rfl) h
  ·exact .inr h
 ·rename_i ty x ho; exact zAX hT ho h
 ·rename_i s x f ho; exact zxC hT ho h
 ·rename_i t x y ho
  have hok := zjA hT t
  split at h
  ·rename_i z sz e hy hk
   rw [hk] at hok
   have hy' := zco hy
   have hel := zFW hok.1 hok.2
   split at h
   ·rename_i i off n c hx
    obtain ⟨j, ⟨h1, h2⟩, h3⟩ := h
    have key : ∀ (hn : Hn) (w : World), PK P zfB w (zcn hn l) o (.pointer (some ⟨hn.b i, off + j * _, none⟩)) := fun hn w => by
     have := zxm (S := zfB) (ws := w) ho hel (zag (h := hn) (zkx hx)) (zag hy') h1 h2
     rw [ziv] at this
     exact this
    rcases h3 with h3 | h3
    ·exact zaO (sv := atS i (off + j * _)) key (zbc h3)
    ·exact zaO (sv := apS i off j _) key h3
   ·rename_i A n c hx
    obtain ⟨j, ad, ⟨rfl, h1, h2⟩, h3⟩ := h
    exact zaO (fun hn w => zxm ho hel (zag (h := hn) (zkx hx)) (zag hy') h1 h2) h3
   ·rename_i i n hx
    split at h
    ·rename_i n' hn'
     obtain ⟨j, ⟨h1, h2, h4⟩, h3⟩ := h
     refine zez (sv := hpS i j _ 0) (fun hn X a w E H => ?_) h3
     have hA := zAV H hn'
     have hs := zag (h := hn) (zkx hx)
     cases hq : (hn.r i).1 with
     | none => have := hA hq; omega
     | some ad =>
      have hs' : ev (zcn hn l) x = some (.slice (some ad) n (hn.r i).2) := by rw [hs, ← hq]; rfl
      have := zxm (P := P) (S := zfB) (ws := w) ho hel hs' (zag (h := hn) hy') h1 h2 w (CanB.Keep.refl _ _) a N E
      rw [this]
      show _ = Result.ok (Next.value (.pointer (some ((((hn.r i).1.getD ⟨0, 0, none⟩).add (j * _)).add 0)))) w
      rw [hq, zax]
      rfl
    ·exact .inr h
   ·exact .inr h
  ·rename_i kk z n sz hy hk
   rw [hk] at hok
   have hy' := zco hy
   split at h
   ·rename_i i off hx; exact zhR (p := .own i off) ho hok.1 (zbx hx) hy' h
   ·rename_i ad hx; exact zhR (p := .ptr ad) ho hok.1 (zbx hx) hy' h
   ·exact .inr h
  ·rename_i kk z hy hk
   rw [hk] at hok
   have hy' := zco hy
   split at h
   ·rename_i i off hx; exact zhR (p := .own i off) ho hok.2.1 (zbx hx) hy' h
   ·rename_i ad hx; exact zhR (p := .ptr ad) ho hok.2.1 (zbx hx) hy' h
   ·exact .inr h
  ·exact .inr h
 ·rename_i t x ho
  have hok := zjA hT t
  split at h
  ·rename_i n sz i off hk hx
   rw [hk] at hok
   exact zhS (p := .own i off) ho hok.1 (zbx hx) h
  ·rename_i i off hk hx
   rw [hk] at hok
   exact zhS (p := .own i off) ho hok.2.1 (zbx hx) h
  ·rename_i n sz ad hk hx
   rw [hk] at hok
   exact zhS (p := .ptr ad) ho hok.1 (zbx hx) h
  ·rename_i ad hk hx
   rw [hk] at hok
   exact zhS (p := .ptr ad) ho hok.2.1 (zbx hx) h
  ·exact .inr h
 ·rename_i ty parts ho
  have hok := zjA hT ty
  split at h
  ·rename_i z fs hz hk
   rw [hk] at hok
   split at h
   ·rename_i r hr
    exact zaO (fun hn w => zxo ho hok.1 (zsi hT hz hn) (zgi (fun i x hi => by have := FZ.get hok.2 hi; rwa [Nat.zero_add] at this) hr)) h
   ·exact .inr h
  ·rename_i z n sz hz hk
   rw [hk] at hok
   split at h
   ·rename_i r hr
    exact zaO (fun hn w => zge (zaC hn r) ho hok.1 (zsi hT hz hn) (zgi (fun i x hi => hi) hr) rfl) h
   ·exact .inr h
  ·rename_i z hz hk
   rw [hk] at hok
   split at h
   ·rename_i hp
    exact zaO (fun hn w => zge (zaC hn z) ho hok.2.1 (zsi hT hz hn) (by rw [hp]; rfl) rfl) h
   ·exact .inr h
  ·exact .inr h
 ·rename_i ty ho
  split at h
  ·rename_i z hz
   exact zkz h fun hn a w E h1 hb ha => by
    have := zm7 (P := P) (a := a) (w := w) ho (zsi hT hz h1)
    rw [this]
    show Result.ok (Next.value (.pointer (some ⟨w.heap.size, 0, none⟩))) _ = Result.ok (Next.value (.pointer (some ⟨h1.b k, 0, none⟩))) _
    rw [hb]
  ·exact .inr h
 ·rename_i ty x ho
  split at h
  ·rename_i cs hcs
   cases hw : wfC (fun i => Nat.ble (i + 1) k) cs with
   | false => simp only [hw, cond_false] at h; exact .inr h
   | true =>
    simp only [hw, cond_true] at h
    cases hx : evS l x with
    | none => rw [hx] at hcs; cases hcs
    | some v =>
     rw [hx] at hcs
     exact zkz h fun hn a w E h1 hb ha => by
      have e1 : zaC h1 cs = zaC hn cs := zdk (ztK (S := fun i => Nat.ble (i + 1) k) ha (zqo _)) hw
      rw [e1, zAT ho (E.ev (zag hx)) (zey hcs)]
      show Result.ok (Next.value (.pointer (some ⟨w.heap.size, 0, none⟩))) _ = Result.ok (Next.value (.pointer (some ⟨h1.b k, 0, none⟩))) _
      rw [hb]
  ·exact .inr h
 ·rename_i t len parts ho
  have hok := zjA hT t
  split at h
  ·rename_i e sz hk
   rw [hk] at hok
   cases hle : (Nat.ble 1 (len * sz) && Nat.ble (len * sz) 16777216) with
   | false => simp only [hle, cond_false] at h; exact .inr h
   | true =>
    simp only [hle, cond_true] at h
    rw [Bool.and_eq_true] at hle
    have hl1 := Nat.le_of_ble_eq_true hle.1
    have hl2 := Nat.le_of_ble_eq_true hle.2
    split at h
    ·rename_i z hz
     cases hls : zfi z sz with
     | false => simp only [hls, cond_false] at h; exact .inr h
     | true =>
      simp only [hls, cond_true] at h
      split at h
      ·rename_i r hr
       cases hw : wfC (fun i => Nat.ble (i + 1) k) r with
       | false => simp only [hw, cond_false] at h; exact .inr h
       | true =>
        simp only [hw, cond_true] at h
        exact zkz h fun hn a w E h1 hb ha => by
         have e1 : zaC h1 r = zaC hn r := zdk (ztK (S := fun i => Nat.ble (i + 1) k) ha (zqo _)) hw
         rw [e1, zsj E ho hok.1 hok.2 (by omega) (zxA (zsi hT hz hn) (zcJ hls)) (zgi (fun i x hi => hi) hr)]
         show Result.ok (Next.value (.slice (some ⟨w.heap.size, 0, none⟩) len len)) _ = Result.ok (Next.value (.slice (some ⟨h1.b k, 0, none⟩) len len)) _
         rw [hb]
      ·exact .inr h
    ·exact .inr h
  ·exact .inr h
 ·rename_i c ho
  split at h
  ·rename_i x t hc hargs htys
   have hok := zjA hT t
   split at h
   ·rename_i e sz s hk hx
    rw [hk] at hok
    have hop : o.op = .call { callee := .builtin .len, args := #[x], argTypes := #[t] } := by
     rw [ho]
     obtain ⟨c1, c2, c3⟩ := c
     simp only at hc hargs htys
     subst hc
     rw [show c2 = #[x] from Array.toList_inj.1 hargs, show c3 = #[t] from Array.toList_inj.1 htys]
    exact zaO (fun hn w => by
     obtain ⟨A, cc, hs⟩ := Sl.ev (h := hn) s
     exact zzL hop ((zag (zkx hx)).trans (by rw [hs])) (zDZ hok.1)) h
   ·exact .inr h
  ·exact .inr h
 ·exact .inr h
theorem zhT (h : Hn) : ∀ {cs : List SC} {n : Nat} {v : Value}, zo1 cs n = some v → (cl (zaC h cs))[n]? = some v
 | [], _, _, e => by cases e
 | .one x :: cs, 0, v, e => by
  cases x with
  | p x => cases x with
   | v u => rw [← Option.some.inj e]; rfl
   | _ => cases e
  | fn _ _ _ => cases e
 | .one x :: cs, n + 1, v, e => by
  have := zhT h (cs := cs) (n := n) e
  simpa [zaC, cl, SC.den, Chunk.cells] using this
 | .key k :: cs, n, v, e => by
  rw [zo1] at e
  cases hb : Nat.ble 32 n with
  | true =>
   rw [hb] at e
   have hle := Nat.le_of_ble_eq_true hb
   have := zhT h (cs := cs) (n := n - 32) e
   simp only [zaC, cl, SC.den, Chunk.cells]
   rw [List.getElem?_append_right (by simp [zgQ]; omega)]
   simpa [zgQ] using this
  | false =>
   rw [hb] at e
   have hlt : n < 32 := Nat.lt_of_not_le fun hle => by rw [Nat.ble_eq_true_of_le hle] at hb; cases hb
   simp only [zaC, cl, SC.den, Chunk.cells]
   rw [List.getElem?_append_left (by simp [zgQ]; omega), ← Option.some.inj e]
   simp [zgQ, hlt]
 | .row m f :: cs, n, v, e => by
  rw [zo1] at e
  cases hb : Nat.ble m n with
  | true =>
   rw [hb] at e
   have hle := Nat.le_of_ble_eq_true hb
   have := zhT h (cs := cs) (n := n - m) e
   simp only [zaC, cl, SC.den, Chunk.cells]
   rw [List.getElem?_append_right (by simp; omega)]
   simpa using this
  | false =>
   rw [hb] at e
   have hlt : n < m := Nat.lt_of_not_le fun hle => by rw [Nat.ble_eq_true_of_le hle] at hb; cases hb
   simp only [zaC, cl, SC.den, Chunk.cells]
   rw [List.getElem?_append_left (by simp; omega), ← Option.some.inj e]
   simp [hlt]
theorem ztQ (h : Hn) {cs : List SC} {off n j : Nat} {f : Nat → Value} (e : zFA cs off = some (n, f)) (hj : j < n) : (cl (zaC h cs))[off + j]? = some (f j) := by
 unfold zFA at e
 split at e
 ·rename_i m g r hd
  injection e with e
  injection e with e1 e2
  subst e1 e2
  have h1 := (zf6 _ _ _ (zdm h _ _ _ hd)).1
  have h2 := congrArg (fun l => l[j]?) h1
  simp only [List.getElem?_drop] at h2
  rw [← h2]
  simp only [zaC, cl, SC.den, Chunk.cells]
  rw [List.getElem?_append_left (by simpa using hj)]
  simp [hj]
 ·rename_i k r hd
  injection e with e
  injection e with e1 e2
  subst e1 e2
  have h1 := (zf6 _ _ _ (zdm h _ _ _ hd)).1
  have h2 := congrArg (fun l => l[j]?) h1
  simp only [List.getElem?_drop] at h2
  rw [← h2]
  simp only [zaC, cl, SC.den, Chunk.cells]
  rw [List.getElem?_append_left (by simpa [zgQ] using hj)]
  simp [zgQ, hj]
 ·cases e
theorem zAY {X : List Nat} {w : World} {h : Hn} {i : Nat} {cs : List SC} {v : Value} {c : Nat} (H : Sp X w (zaf h [] m) (zaX h R)) (hm : zgj R m i = some cs) (hc : (cl (zaC h cs))[c]? = some v) : AtC ⟨h.b i, c, none⟩ [.one v] w := fun t u hu => by
 have h1 := zky H hm c v hc
 rw [ziv] at h1 ⊢
 cases t with
 | zero =>
  have : u = v := by simpa [cl, Chunk.cells] using hu.symm
  rw [this]
  simpa using h1
 | succ t => simp [cl, Chunk.cells] at hu
theorem zqp (h : Hn) (f : Nat → Value) : ∀ (n j : Nat), cl (zaC h (ztN n j f)) = (List.range n).map fun i => f (j + i)
 | 0, j => rfl
 | n + 1, j => by
  rw [ztN, zaC, cl, zqp h f n (j + 1), List.range_succ_eq_map, List.map_cons, List.map_map]
  simp only [SC.den, SS.den, SP.den, Chunk.cells, List.singleton_append, Nat.add_zero, List.cons.injEq, true_and]
  exact List.map_congr_left fun i _ => by simp only [Function.comp]; congr 1; omega
theorem zqq (h : Hn) {f : Nat → Value} : ∀ {n j : Nat} {cs : List SC}, zAU f n j cs → cl (zaC h cs) = (List.range n).map fun i => f (j + i)
 | 0, _, [], _ => rfl
 | 0, _, _ :: _, e => e.elim
 | n + 1, j, [], e => e.elim
 | n + 1, j, .one x :: cs, e => by
  cases x with
  | p x => cases x with
   | v u =>
    rw [zaC, cl, zqq h e.2, List.range_succ_eq_map, List.map_cons, List.map_map]
    simp only [SC.den, SS.den, SP.den, Chunk.cells, List.singleton_append, Nat.add_zero, List.cons.injEq]
    exact ⟨e.1.symm, List.map_congr_left fun i _ => by simp only [Function.comp]; congr 1; omega⟩
   | _ => exact e.elim
  | fn _ _ _ => exact e.elim
 | n + 1, j, .key _ :: cs, e => e.elim
 | n + 1, j, .row _ _ :: cs, e => e.elim
theorem zjM {n : Nat} {f : Nat → Value} {cs : List Chunk} (h : cl cs = (List.range n).map fun i => f (0 + i)) : ca cs = ca [.row n f] := by
 unfold ca
 rw [h]
 simp [cl, Chunk.cells]
theorem ztR (hT : zbz P T) (h : tqB T l m R o K C) : zsk P N k l m R o K C := by
 unfold tqB at h
 split at h
 ·rename_i op t x y u ho
  split at h
  ·rename_i k1 a k2 b hx hy
   have hx' := zco hx
   have hy' := zco hy
   have hk : ∀ {A : Prop}, (bif ikB k1 k2 then A else C) → (k1 = k2 ∧ A) ∨ C := fun {A} h => by
    cases hb : ikB k1 k2 with
    | false => rw [hb] at h; exact .inr h
    | true => rw [hb] at h; exact .inl ⟨of_decide_eq_true hb, h⟩
   split at h
   ·obtain ⟨h0, z, hz, h⟩ := h; exact zaO (sv := zaD k1 z) (fun hn w => by
     have := zDL (P := P) (S := zfB) (ws := w) ho (zag (h := hn) hx') (zag hy') h0
     rw [hz] at this
     exact this) h
   ·obtain ⟨h0, z, hz, h⟩ := h; exact zaO (sv := zaD k1 z) (fun hn w => by
     have := zDM (P := P) (S := zfB) (ws := w) ho (zag (h := hn) hx') (zag hy') h0
     rw [hz] at this
     exact this) h
   ·rcases hk h with ⟨rfl, z, hz, h⟩ | h
    ·exact zei ho hx' hy' (by rw [zet, hz]) (fun _ => rfl) h
    ·exact .inr h
   ·rcases hk h with ⟨rfl, z, hz, h⟩ | h
    ·exact zei ho hx' hy' (by rw [zet, hz]) (fun _ => rfl) h
    ·exact .inr h
   ·rcases hk h with ⟨rfl, z, hz, h⟩ | h
    ·exact zei ho hx' hy' (by rw [zet, hz]) (fun _ => rfl) h
    ·exact .inr h
   ·rcases hk h with ⟨rfl, h0, z, hz, h⟩ | h
    ·exact zaO (sv := zaD k1 z) (fun hn w => by
      have := zDK (P := P) (S := zfB) (ws := w) ho (zag (h := hn) hx') (zag hy') h0
      rw [hz] at this
      exact this) h
    ·exact .inr h
   ·rcases hk h with ⟨rfl, h0, z, hz, h⟩ | h
    ·exact zaO (sv := zaD k1 z) (fun hn w => by
      have := zDJ (P := P) (S := zfB) (ws := w) ho (zag (h := hn) hx') (zag hy') h0
      rw [hz] at this
      exact this) h
    ·exact .inr h
   ·exact .inr h
  ·exact .inr h
 ·rename_i t x ho
  split at h
  ·rename_i k1 a hx
   obtain ⟨z, hz, h⟩ := h
   exact zaO (sv := zaD k1 z) (fun hn w => by
     have := zDN (P := P) (S := zfB) (ws := w) ho (zag (h := hn) (zco hx))
     rw [hz] at this
     exact this) h
  ·exact .inr h
 ·rename_i ty x ho
  split at h
  ·rename_i hs
   have hty := zfq hT hs
   split at h
   ·rename_i i off hx
    split at h
    ·rename_i cs hm
     split at h
     ·rename_i v hc
      exact zez (sv := zgW v) (fun hn X a w E H => za0 E ho (zag (h := hn) hx) hty (zAY H hm (zhT hn hc))) h
     ·exact .inr h
    ·exact .inr h
   ·rename_i i off j s hx
    split at h
    ·rename_i cs hm
     split at h
     ·rename_i n f hr
      cases hb : Nat.beq s 1 with
      | false => simp only [hb, cond_false] at h; exact .inr h
      | true =>
       simp only [hb, cond_true] at h
       obtain rfl := Nat.eq_of_beq_eq_true hb
       exact zez (sv := zgW (f j)) (fun hn X a w E H => za0 E ho (zag (h := hn) hx) hty (zAY H hm (by rw [Nat.mul_one]; exact ztQ hn hr h.1))) h.2
     ·exact .inr h
    ·exact .inr h
   ·exact .inr h
  ·exact .inr h
 ·rename_i t x y ho
  have hok := zjA hT t
  split at h
  ·rename_i n n' f kk z hk hx hy
   rw [hk] at hok
   have hy' := zco hy
   cases hb : Nat.beq n n' with
   | false => simp only [hb, cond_false] at h; exact .inr h
   | true =>
    simp only [hb, cond_true] at h
    obtain rfl := Nat.eq_of_beq_eq_true hb
    obtain ⟨j, ⟨h1, h2⟩, h⟩ := h
    exact zaO (sv := zgW (f j)) (fun hn w => zqh ho (hok.2 rfl) ((zag (h := hn) hx).trans rfl) (zag hy') h1 h2) h
  ·rename_i b kk z hk hx hy
   rw [hk] at hok
   have hy' := zco hy
   obtain ⟨j, ⟨h1, h2⟩, h⟩ := h
   refine zaO (sv := zgW (bv (b.getD j 0))) (fun hn w => zqh (f := fun i => bv (b.getD i 0)) ho hok.2.2 ((zag (h := hn) hx).trans ?_) (zag hy') h1 h2) h
   show some (Value.agg (ca [.key b])) = _
   rw [zjM (n := 32) (f := fun i => bv (b.getD i 0)) (cs := [.key b]) (by simp [cl, Chunk.cells, zgQ])]
  ·exact .inr h
 ·rename_i ty parts ho
  have hok := zjA hT ty
  split at h
  ·rename_i n n' f0 hk hz
   rw [hk] at hok
   cases hb : Nat.beq n n' with
   | false => simp only [hb, cond_false] at h; exact .inr h
   | true =>
    simp only [hb, cond_true] at h
    obtain rfl := Nat.eq_of_beq_eq_true hb
    split at h
    ·rename_i r hr
     obtain ⟨f, h1, h⟩ := h
     refine zaO (sv := .a (.agg [.row n f])) (fun hn w => zge (z := zaC hn (ztN n 0 f0)) [.row n f] ho hok.1 ?_ (zgi (fun i x hi => hi) hr) (zjM (zqq hn h1))) h
     rw [zsi hT hz hn, zjM (zqp hn f0 n 0)]
     rfl
    ·exact .inr h
  ·exact .inr h
 ·exact .inr h
theorem zqr (hT : zbz P T) (h : tq T k l m R o K C) : zsk P N k l m R o K C := by
 rcases ztP (N := N) hT h with h | h
 ·exact .inl h
 ·exact ztR hT h
end
end
section
open Go.RowKit
section
variable {P : Program} {Q : Exit → Act → World → Prop} {l : List Oper} {n : Nat} {a : Act}
def zkA (n len : Nat) : Array Bool := (List.replicate n true ++ List.replicate (len - n) false).toArray
theorem zfr {id : Nat} {w : World} (Tl : Act → World → Prop) (n : Nat) (ps : List (List Nat)) (Inv : Array Bool → Act → World → Prop) (hm : P.follows .mixedOrders = true) (hn : n < l.length) (hp : ps.length = n) (hps : zif l 0 ps = true) (hwt : ∀ listed : Array Bool, HeadInv .any l.toArray n listed → ∀ i, i < n → listed.getD i true = false → ∀ t, n ≤ t → t ∉ Region.ready .any l.toArray listed)
  (htl : ∀ a w, Tl a w → wpAny P .any l.toArray Q (l.toArray.size - n) (zkA n l.length) a w)
  (h0 : Inv (Array.replicate l.length false) a w.drew)
  (hstep : ∀ (listed : Array Bool) (a' : Act) (w' : World) (j : Nat) (oj : Oper) (js : List Nat), j < n → l[j]? = some oj → ps[j]? = some js → listed.size = l.length → listed.getD j true = false → (∀ k ∈ js, k < j ∧ listed.getD k true = true) → Inv listed a' w' →
   (if Region.wanted oj (yielded l.toArray a'.tmps) then oj.wp P a' w' (fun a2 w2 => Inv (listed.setIfInBounds j true) a2 w2) Q else Inv (listed.setIfInBounds j true) (a'.put oj.dst undef) w'))
  (hend : ∀ (listed : Array Bool) (a' : Act) (w' : World), (∀ i, i < n → listed.getD i true = true) → Inv listed a' w' → Tl a' w') : (Code.region id l.toArray true).wp P Q a w := by
 have hn' : n < l.toArray.size := by simpa using hn
 have inv0 : HeadInv .any l.toArray n (Array.replicate l.toArray.size false) :=
  ⟨by simp, fun j oj _ hl => (by rw [getD_replicate_false] at hl; cases hl), fun t _ ht => getD_in (by simpa using ht) (getD_replicate_false _ _)⟩
 have main : ∀ (f : Nat) (listed : Array Bool) (a' : Act) (w' : World), HeadInv .any l.toArray n listed → zgS n listed = f → Inv listed a' w' →
   wpAnyC P .any l.toArray Q (fun _ => True) n (fun listed' a' w' => listed' = zkA n l.length ∧ Tl a' w') f listed a' w' := by
  intro f
  induction f with
  | zero =>
   intro listed a' w' inv hr hI
   refine ⟨?_, hend listed a' w' (zdi n listed hr) hI⟩
   have e : listed = (List.replicate n true ++ List.replicate (l.length - n) false).toArray := by
    apply Array.ext_getElem?
    intro i
    have hsz := inv.size
    simp only [List.size_toArray] at hsz
    by_cases hi : i < n
    ·have h1 := zdi n listed hr i hi
     have h2 : i < listed.size := by omega
     simp [h2] at h1
     simp [List.getElem?_append, hi, h2, h1]
    ·by_cases hi2 : i < l.length
     ·have h1 := inv.tail i (by omega) (by simpa using hi2)
      have h2 : i < listed.size := by omega
      simp [h2] at h1
      simp only [jL, List.getElem?_append, List.length_replicate, hi, if_false, List.getElem?_replicate]
      rw [if_pos (by omega), Array.getElem?_eq_getElem h2, h1]
     ·rw [Array.getElem?_eq_none (by omega)]
      simp only [jL, List.getElem?_append, List.length_replicate, hi, if_false, List.getElem?_replicate]
      rw [if_neg (by omega)]
   exact e
  | succ f ih =>
   intro listed a' w' inv hr hI
   obtain ⟨i, hi, hil, hmin⟩ := zkh n listed hr
   refine ⟨?_, fun j hj => ?_⟩
   ·intro h0
    obtain ⟨o, ho, he, _⟩ := zcE l ps 0 hps i ps[i] (by simp)
    have : i ∈ Region.ready .any l.toArray listed := mem_ready.2 ⟨hil, o, by simpa using ho, fun e hee hbe => by
     have h1 := he e hee hbe
     have h2 := hmin e.on (by omega)
     have h3 : e.on < listed.size := by rw [inv.size]; simp; omega
     simp [h3] at h2 ⊢
     exact h2⟩
    rw [h0] at this
    cases this
   ·have hjn : j < n := by
     rcases Nat.lt_or_ge j n with h | h
     ·exact h
     ·exact absurd hj (hwt listed inv i hi hil j h)
    refine ⟨hjn, ?_⟩
    obtain ⟨hjl, oj, hoj, hall⟩ := mem_ready.1 hj
    have hoj' : l[j]? = some oj := by simpa using hoj
    have hjp : j < ps.length := by omega
    obtain ⟨oj', hoj2, hlt, hpj⟩ := zcE l ps 0 hps j ps[j] (by simp [hjp])
    obtain rfl : oj' = oj := by
     rw [Nat.zero_add, hoj'] at hoj2
     exact (Option.some.inj hoj2).symm
    have hsz : listed.size = l.length := by have := inv.size; simpa using this
    have hst := hstep listed a' w' j oj' ps[j] hjn hoj' (by simp [hjp]) hsz hjl (fun k hk => by
     obtain ⟨e, hee, hbe, hek⟩ := hpj k hk
     have h1 := hall e hee hbe
     have h2 := hlt e hee hbe
     rw [hek] at h1 h2
     refine ⟨by omega, ?_⟩
     have h3 : k < listed.size := by omega
     simp [h3] at h1 ⊢
     exact h1) hI
    have go : ∀ (a2 : Act) (w2 : World), Inv (listed.setIfInBounds j true) a2 w2 →
      wpAnyC P .any l.toArray Q (fun _ => True) n (fun listed' a' w' => listed' = zkA n l.length ∧ Tl a' w') f (listed.setIfInBounds j true) a2 w2 := fun a2 w2 h2 => by
     refine ih _ _ _ (inv.set hj hjn) ?_ h2
     have := zkg n listed j hjn hjl
     omega
    unfold wpOp
    simp only [hoj]
    split
    ·rename_i hw
     rw [if_pos hw] at hst
     exact .inl (Oper.wp_mono (fun a2 w2 h => ⟨trivial, go a2 w2 h⟩) hst)
    ·rename_i hw
     rw [if_neg hw] at hst
     exact ⟨trivial, go _ _ hst⟩
 have H := main n (Array.replicate l.toArray.size false) a w.drew inv0 (by
  unfold zgS
  rw [List.filter_eq_self.2 (fun i hi => ?_)]
  ·simp
  ·have := List.mem_range.1 hi
   have : i < l.length := by omega
   simp [this]) (by simpa using h0)
 refine wp_region_any hm ?_
 have := wpAny_of_anyC (g := l.toArray.size - n) (fun listed a' w' hL => by
  obtain ⟨rfl, hL⟩ := hL
  exact htl a' w' hL) _ _ _ _ H
 rw [show n + (l.toArray.size - n) = l.toArray.size by omega] at this
 exact this
theorem zkB {id : Nat} {w : World} (n : Nat) (ps : List (List Nat)) (Inv : Array Bool → Act → World → Prop) (hm : P.follows .mixedOrders = true) (hB : zig l n ps = true)
  (h0 : Inv (Array.replicate l.length false) a w.drew)
  (hstep : ∀ (listed : Array Bool) (a' : Act) (w' : World) (j : Nat) (oj : Oper) (js : List Nat), j < n → l[j]? = some oj → ps[j]? = some js → listed.size = l.length → listed.getD j true = false → (∀ k ∈ js, k < j ∧ listed.getD k true = true) → Inv listed a' w' →
   (if Region.wanted oj (yielded l.toArray a'.tmps) then oj.wp P a' w' (fun a2 w2 => Inv (listed.setIfInBounds j true) a2 w2) Q else Inv (listed.setIfInBounds j true) (a'.put oj.dst undef) w'))
  (hend : ∀ (listed : Array Bool) (a' : Act) (w' : World), (∀ i, i < n → listed.getD i true = true) → Inv listed a' w' → wpList P l.toArray Q (l.drop n) a' w') : (Code.region id l.toArray true).wp P Q a w := by
 simp only [zig, Bool.and_eq_true, jS] at hB
 obtain ⟨⟨⟨⟨⟨⟨⟨hsel, hn⟩, hp⟩, hs⟩, hc⟩, hd⟩, hps⟩, hseq⟩ := hB
 refine zfr (fun a' w' => wpList P l.toArray Q (l.drop n) a' w') n ps Inv hm hn hp hps (fun listed inv i hi hil t ht => tail_waits hs hc (by simpa using hn) inv _ i rfl hi hil t ht) (fun a' w' hL => ?_) h0 hstep hend
 have hdl : (l.drop n).length = l.toArray.size - n := by simp
 have := wpAny_of_seq (md := .any) (Q' := Q) (l.drop n) n (zkA n l.length) a' w' (fun j => by simp [List.getElem?_drop]) (by rw [hdl]; simpa [zkA] using hseq) hL
 rwa [hdl] at this
def zAZ (ops : Array Oper) (n t : Nat) : Bool := (List.range n).all fun i => ((List.range n).any fun j => decide (i < j) && Region.waitsFor .any ops j i) || Region.waitsFor .any ops t i
def zqs (l : List Oper) (n : Nat) (ps : List (List Nat)) : Bool :=
 Region.noSelect l.toArray && decide (n + 2 = l.length) && decide (ps.length = n) && zAZ l.toArray n n && zAZ l.toArray n (n + 1) && zhA (l.take n) && zif l 0 ps &&
  decide (Region.ready .any l.toArray (zkA n l.length) = [n, n + 1]) && decide (Region.ready .any l.toArray ((zkA n l.length).setIfInBounds n true) = [n + 1]) && decide (Region.ready .any l.toArray ((zkA n l.length).setIfInBounds (n + 1) true) = [n]) && decide (Region.ready .any l.toArray (((zkA n l.length).setIfInBounds n true).setIfInBounds (n + 1) true) = [])
theorem ziw {t0 : Nat} {listed : Array Bool} (hs : zAZ l.toArray n t0 = true) (hn : n ≤ l.length) (inv : HeadInv .any l.toArray n listed) : ∀ (d i : Nat), n - i = d → i < n → listed.getD i true = false → t0 ∉ Region.ready .any l.toArray listed := by
 intro d
 induction d using Nat.strongRecOn with
 | _ d ih =>
  intro i hd hi hun hr
  obtain ⟨_, ot, hot, hall⟩ := mem_ready.1 hr
  have h1 := List.all_eq_true.1 hs i (List.mem_range.2 hi)
  rw [Bool.or_eq_true] at h1
  rcases h1 with h1 | h1
  ·obtain ⟨j, hj, hj2⟩ := List.any_eq_true.1 h1
   simp only [Bool.and_eq_true, jS] at hj2
   obtain ⟨oj, hoj, e, he, hb, hon⟩ := Region.waitsFor_spec hj2.2
   have hjn := List.mem_range.1 hj
   cases hl : listed.getD j false with
   | true =>
    have h2 := inv.closed j oj hoj hl e he hb
    rw [hon, getD_both hun] at h2
    cases h2
   | false =>
    have hjs : j < listed.size := by rw [inv.size]; simp; omega
    exact ih (n - j) (by omega) j rfl hjn (getD_in hjs hl) hr
  ·obtain ⟨oj, hoj, e, he, hb, hon⟩ := Region.waitsFor_spec h1
   have : oj = ot := Option.some.inj (hoj.symm.trans hot)
   subst this
   have h2 := hall e he hb
   rw [hon, getD_both hun] at h2
   cases h2
theorem zjC {id : Nat} {w : World} (n : Nat) (ps : List (List Nat)) (Inv : Array Bool → Act → World → Prop) (hm : P.follows .mixedOrders = true) (hB : zqs l n ps = true)
  (h0 : Inv (Array.replicate l.length false) a w.drew)
  (hstep : ∀ (listed : Array Bool) (a' : Act) (w' : World) (j : Nat) (oj : Oper) (js : List Nat), j < n → l[j]? = some oj → ps[j]? = some js → listed.size = l.length → listed.getD j true = false → (∀ k ∈ js, k < j ∧ listed.getD k true = true) → Inv listed a' w' →
   (if Region.wanted oj (yielded l.toArray a'.tmps) then oj.wp P a' w' (fun a2 w2 => Inv (listed.setIfInBounds j true) a2 w2) Q else Inv (listed.setIfInBounds j true) (a'.put oj.dst undef) w'))
  (hend : ∀ (listed : Array Bool) (a' : Act) (w' : World), (∀ i, i < n → listed.getD i true = true) → Inv listed a' w' → ∃ x y, l.drop n = [x, y] ∧ wpList P l.toArray Q [x, y] a' w' ∧ wpList P l.toArray Q [y, x] a' w') : (Code.region id l.toArray true).wp P Q a w := by
 simp only [zqs, Bool.and_eq_true, jS] at hB
 obtain ⟨⟨⟨⟨⟨⟨⟨⟨⟨⟨hsel, hn⟩, hp⟩, hs1⟩, hs2⟩, hd⟩, hps⟩, r0⟩, r1⟩, r2⟩, r3⟩ := hB
 refine zfr (fun a' w' => ∃ x y, l.drop n = [x, y] ∧ wpList P l.toArray Q [x, y] a' w' ∧ wpList P l.toArray Q [y, x] a' w') n ps Inv hm (by omega) hp hps (fun listed inv i hi hil t ht hr => ?_) (fun a' w' hL => ?_) h0 hstep hend
 ·obtain ⟨_, ot, hot, _⟩ := mem_ready.1 hr
  have htl : t < l.length := by have := (Array.getElem?_eq_some_iff.1 hot).1; simpa using this
  by_cases h : t = n
  ·subst h; exact ziw hs1 (by omega) inv _ i rfl hi hil hr
  ·obtain rfl : t = n + 1 := by omega
   exact ziw hs2 (by omega) inv _ i rfl hi hil hr
 ·obtain ⟨x, y, hxy, hL1, hL2⟩ := hL
  have hx : l.toArray[n]? = some x := by
    have : (l.drop n)[0]? = some x := by rw [hxy]; rfl
    rw [List.getElem?_drop] at this
    simpa using this
  have hy : l.toArray[n + 1]? = some y := by
    have : (l.drop n)[1]? = some y := by rw [hxy]; rfl
    rw [List.getElem?_drop] at this
    simpa using this
  have sz : l.toArray.size - n = 2 := by simp; omega
  rw [sz]
  have one : ∀ (listed : Array Bool) (i : Nat) (o : Oper) (a' : Act) (w' : World), l.toArray[i]? = some o → Region.ready .any l.toArray listed = [i] → Region.ready .any l.toArray (listed.setIfInBounds i true) = [] → wpList P l.toArray Q [o] a' w' → wpAny P .any l.toArray Q 1 listed a' w' := fun listed i o a' w' ho hr hr2 hw => by
   refine ⟨fun h1 => (by rw [hr] at h1; cases h1), fun i' hi' => ?_⟩
   rw [hr] at hi'
   obtain rfl : i' = i := by simpa using hi'
   have hw' : wpOp P l.toArray Q i' (wpList P l.toArray Q []) a' w' := by unfold wpOp; simp only [ho]; exact hw
   exact wpOp_mono (fun a2 w2 h' => ⟨hr2, h'⟩) hw'
  refine ⟨fun h1 => (by rw [r0] at h1; cases h1), fun i hi => ?_⟩
  rw [r0] at hi
  rcases List.mem_cons.1 hi with rfl | hi
  ·have hw' : wpOp P l.toArray Q i (wpList P l.toArray Q [y]) a' w' := by unfold wpOp; simp only [hx]; exact hL1
   exact wpOp_mono (fun a2 w2 h' => one _ _ y a2 w2 hy r1 r3 h') hw'
  ·obtain rfl : i = n + 1 := by simpa using hi
   have hw' : wpOp P l.toArray Q (n + 1) (wpList P l.toArray Q [x]) a' w' := by unfold wpOp; simp only [hy]; exact hL2
   exact wpOp_mono (fun a2 w2 h' => one _ _ x a2 w2 hx r2 (by rw [Array.setIfInBounds_comm _ _ (by omega)]; exact r3) h') hw'
def frB (two : Bool) (l : List Oper) (n : Nat) (ps : List (List Nat)) : Bool := bif two then zqs l n ps else zig l n ps
def ztS (two : Bool) (os : List Oper) (f : List Oper → Prop) : Prop := match two, os with
 | false, os => f os
 | true, [x, y] => f [x, y] ∧ f [y, x]
 | true, _ => False
theorem zsm {two : Bool} {os : List Oper} {f g : List Oper → Prop} (h : ∀ os, f os → g os) (hf : ztS two os f) : ztS two os g := by
 unfold ztS at *
 split at hf
 ·exact h _ hf
 ·exact ⟨h _ hf.1, h _ hf.2⟩
 ·exact hf.elim
theorem zD0 {two : Bool} {ps : List (List Nat)} (h : frB two l n ps = true) : n < l.length ∧ ps.length = n ∧ zhA (l.take n) = true := by
 cases two with
 | false =>
  simp only [frB, cond_false, zig, Bool.and_eq_true, jS] at h
  obtain ⟨⟨⟨⟨⟨⟨⟨_, h1⟩, h2⟩, _⟩, _⟩, h3⟩, _⟩, _⟩ := h
  exact ⟨h1, h2, h3⟩
 | true =>
  simp only [frB, cond_true, zqs, Bool.and_eq_true, jS] at h
  obtain ⟨⟨⟨⟨⟨⟨⟨⟨⟨⟨_, h1⟩, h2⟩, _⟩, _⟩, h3⟩, _⟩, _⟩, _⟩, _⟩, _⟩ := h
  exact ⟨by omega, h2, h3⟩
theorem zjD {id : Nat} {w : World} (two : Bool) (n : Nat) (ps : List (List Nat)) (Inv : Array Bool → Act → World → Prop) (hm : P.follows .mixedOrders = true) (hB : frB two l n ps = true)
  (h0 : Inv (Array.replicate l.length false) a w.drew)
  (hstep : ∀ (listed : Array Bool) (a' : Act) (w' : World) (j : Nat) (oj : Oper) (js : List Nat), j < n → l[j]? = some oj → ps[j]? = some js → listed.size = l.length → listed.getD j true = false → (∀ k ∈ js, k < j ∧ listed.getD k true = true) → Inv listed a' w' →
   (if Region.wanted oj (yielded l.toArray a'.tmps) then oj.wp P a' w' (fun a2 w2 => Inv (listed.setIfInBounds j true) a2 w2) Q else Inv (listed.setIfInBounds j true) (a'.put oj.dst undef) w'))
  (hend : ∀ (listed : Array Bool) (a' : Act) (w' : World), (∀ i, i < n → listed.getD i true = true) → Inv listed a' w' → ztS two (l.drop n) fun os => wpList P l.toArray Q os a' w') : (Code.region id l.toArray true).wp P Q a w := by
 cases two with
 | false => exact zkB n ps Inv hm hB h0 hstep hend
 | true =>
  refine zjC n ps Inv hm hB h0 hstep fun listed a' w' hl hI => ?_
  have := hend listed a' w' hl hI
  generalize l.drop n = os at this
  match os, this with
  | [x, y], h => exact ⟨x, y, rfl, h.1, h.2⟩
  | [], h => exact h.elim
  | [_], h => exact h.elim
  | _ :: _ :: _ :: _, h => exact h.elim
end
end
section
open Go.RowKit
abbrev LE := List (Nat × SV)
abbrev KS := Nat → LE → MB → List SF → Prop
def gdS (ops : Array Oper) (l : LE) (o : Oper) : Option Bool :=
 match o.guard with
 | none => some true
 | some (j, want) => match (ops[j]?).bind (·.dst) with
  | some d => match asBool (zbM l d) with
   | some b => some (match want with | true => b | false => !b)
   | none => none
  | none => none
def lt_ (k : Nat) (i : Nat) : Bool := Nat.ble (i + 1) k
def zcK (P : Program) (N k : Nat) (l : LE) (m : MB) (R : List SF) (o : Oper) (sv : SV) (m' : MB) (R' : List SF) : Prop :=
 ∀ (Q : Exit → Act → World → Prop) (h : Hn) (X : List Nat) (a : Act) (w : World), Env a N (zcn h l) → Sp X w (zaf h [] m) (zaX h R) → ∀ Kk : Act → World → Prop,
  (∀ h1 w', AgS (lt_ k) h h1 → Frm (zac (zaf h [] m)) w w' → Sp X w' (zaf h1 [] m') (zaX h1 R') → (∀ j ∈ zac (zaf h1 [] m'), j ∈ zac (zaf h [] m) ∨ w.heap.size ≤ j) → Kk (a.put o.dst (sv.den h1)) w') → o.wp P a w Kk Q
def AgB (S : Nat → Bool) (h h' : Hn) : Prop := ∀ i, S i = true → h'.b i = h.b i ∧ h'.r i = h.r i
theorem AgS.b {S : Nat → Bool} {h h' : Hn} (ha : AgS S h h') : AgB S h h' := fun i hi => ⟨(ha i hi).1, (ha i hi).2.1⟩
def zA0 (P : Program) (N k : Nat) (l : LE) (m : MB) (R : List SF) (o : Oper) (sv : SV) (m' : MB) (R' : List SF) : Prop :=
 ∀ (Q : Exit → Act → World → Prop) (h : Hn) (X : List Nat) (a : Act) (w : World), Env a N (zcn h l) → Sp X w (zaf h [] m) (zaX h R) → ∀ Kk : Act → World → Prop,
  (∀ h1 w', AgB (lt_ k) h h1 → Frm (zac (zaf h [] m)) w w' → Sp X w' (zaf h1 [] m') (zaX h1 R') → (∀ j ∈ zac (zaf h1 [] m'), j ∈ zac (zaf h [] m) ∨ w.heap.size ≤ j) → Kk (a.put o.dst (sv.den h1)) w') → o.wp P a w Kk Q
theorem zcK.q {P : Program} {N k : Nat} {l : LE} {m : MB} {R : List SF} {o : Oper} {sv : SV} {m' : MB} {R' : List SF} (hs : zcK P N k l m R o sv m' R') : zA0 P N k l m R o sv m' R' := fun Q h X a w E H Kk hK => hs Q h X a w E H Kk fun h1 w' ha => hK h1 w' ha.b
section
variable {S : Nat → Bool} {h h' : Hn}
theorem SP.sameB (ha : AgB S h h') {x : SP} (hw : x.wf S = true) : x.den h' = x.den h := by
 cases x with
 | v x => rfl
 | at_ i off => simp only [SP.den, (ha i hw).1]
 | sl i off n c => simp only [SP.den, (ha i hw).1]
 | hd i n => simp only [SP.den, (ha i hw).2]
 | hp i j sz off => simp only [SP.den, (ha i hw).2]
 | ap i off j sz => simp only [SP.den, (ha i hw).1]
theorem zgX (ha : AgB S h h') : ∀ {xs : List SP}, wfP S xs = true → zhD h' xs = zhD h xs
 | [], _ => rfl
 | x :: xs, hw => by unfold zhD; rw [SP.sameB ha (zaa hw).1, zgX ha (zaa hw).2]
theorem SS.sameB (ha : AgB S h h') {x : SS} (hw : x.wf S = true) : x.den h' = x.den h := by
 cases x with
 | p x => exact SP.sameB ha hw
 | fn f fs cs => simp only [SS.den, zgX ha (zaa hw).1, zgX ha (zaa hw).2]
theorem SC.sameB (ha : AgB S h h') {x : SC} (hw : x.wf S = true) : x.den h' = x.den h := by
 cases x with
 | one x => simp only [SC.den, SS.sameB ha hw]
 | key l => rfl
 | row n f => rfl
theorem zjN (ha : AgB S h h') : ∀ {xs : List SC}, wfC S xs = true → zaC h' xs = zaC h xs
 | [], _ => rfl
 | x :: xs, hw => by unfold zaC; rw [SC.sameB ha (zaa hw).1, zjN ha (zaa hw).2]
theorem SA.sameB (ha : AgB S h h') {x : SA} (hw : x.wf S = true) : x.den h' = x.den h := by
 cases x with
 | s x => exact SS.sameB ha hw
 | agg cs => simp only [SA.den, zjN ha hw]
theorem zjO (ha : AgB S h h') : ∀ {xs : List SA}, wfT S xs = true → zkp h' xs = zkp h xs
 | [], _ => rfl
 | x :: xs, hw => by unfold zkp; rw [SA.sameB ha (zaa hw).1, zjO ha (zaa hw).2]
theorem SV.sameB (ha : AgB S h h') {x : SV} (hw : x.wf S = true) : x.den h' = x.den h := by
 cases x with
 | a x => exact SA.sameB ha hw
 | tup xs => simp only [SV.den, zjO ha hw]
theorem zjP (ha : AgB S h h') : ∀ {l : List (Nat × SV)}, wfE S l = true → zcn h' l = zcn h l
 | [], _ => rfl
 | (d, x) :: l, hw => by unfold zcn; rw [SV.sameB ha (zaa hw).1, zjP ha (zaa hw).2]
end
def zA1 : List SC → Prop → Prop
 | [], A => A
 | .one x :: cs, A => bif okS x then zA1 cs A else False
 | .key _ :: cs, A => zA1 cs A
 | .row n f :: cs, A => (∀ i, i < n → (f i).oneCell' = true) ∧ zA1 cs A
def zjQ (N : Nat) (dst : Option Nat) (sv : SV) (l : LE) (K : LE → Prop) : Prop := match dst with | some d => bif Nat.ble (d + 1) N then K ((d, sv) :: l) else False | none => K l
def okN (k k' : Nat) (sv : SV) (m' : MB) (R' : List SF) : Bool := bif Nat.ble k k' then (bif sv.wf (lt_ k') then (bif wfM (lt_ k') m' then wfR (lt_ k') R' else false) else false) else false
def zek (P : Program) (N : Nat) (o : Oper) (k : Nat) (l : LE) (m : MB) (R : List SF) (K : KS) : Prop :=
 ∃ (sv : SV) (k' : Nat) (m' : MB) (R' : List SF), zA0 P N k l m R o sv m' R' ∧ (bif okN k k' sv m' R' then zjQ N o.dst sv l (fun l' => K k' l' m' R') else False)
def vOp (P : Program) (T : Tab) (N : Nat) (o : Oper) (k : Nat) (l : LE) (m : MB) (R : List SF) (K : KS) : Prop :=
 match o.op with
 | .store ty x y => match zoY (evS l x), zgh (evS l y), szT T ty with
  | some (.own i off), some new, some (n, _) => match zaB m i with
   | some (.blk cs t) => bif zfi new n then (match zta cs off n new with
    | some cs' => bif lt_ k i then (bif wfC (lt_ k) cs' then zA1 new (zjQ N o.dst (zeu undef) l fun l' => K k l' ((i, .blk cs' t) :: m) R) else zek P N o k l m R K) else zek P N o k l m R K
    | none => zek P N o k l m R K) else zek P N o k l m R K
   | _ => zek P N o k l m R K
  | _, _, _ => zek P N o k l m R K
 | _ => tq T k l m R o (fun sv rs => match rs with
   | [] => bif sv.wf (lt_ k) then zjQ N o.dst sv l (fun l' => K k l' m R) else False
   | [q] => zbN (k + 1) fun k' => bif sv.wf (lt_ k') then (bif q.wf (lt_ k') then zjQ N o.dst sv l (fun l' => K k' l' ((k, q) :: m) R) else False) else False
   | _ => False) (zek P N o k l m R K)
def ztc (P : Program) (T : Tab) (N : Nat) (ops : Array Oper) : List Oper → Nat → LE → MB → List SF → KS → Prop
 | [], k, l, m, R, K => K k l m R
 | o :: os, k, l, m, R, K => match gdS ops l o with
  | some b => cond b (vOp P T N o k l m R fun k l m R => ztc P T N ops os k l m R K) (zjQ N o.dst (zeu undef) l fun l => ztc P T N ops os k l m R K)
  | none => False
structure VSt (N : Nat) (X G : List Nat) (w0 : World) (k : Nat) (l : LE) (m : MB) (R : List SF) (h : Hn) (a : Act) (w : World) : Prop where
 env : Env a N (zcn h l)
 sp : Sp X w (zaf h [] m) (zaX h R)
 frm : Frm G w0 w
 mine : ∀ j ∈ zac (zaf h [] m), j ∈ G ∨ w0.heap.size ≤ j
 wl : wfE (lt_ k) l = true
 wm : wfM (lt_ k) m = true
 wr : wfR (lt_ k) R = true
section
variable {S S' : Nat → Bool}
theorem zau {b c : Bool} (h1 : b = true) (h2 : c = true) : (bif b then c else false) = true := by rw [h1, h2]; rfl
theorem SP.wmono (hS : ∀ i, S i = true → S' i = true) {x : SP} (h : x.wf S = true) : x.wf S' = true := by cases x <;> first | rfl | exact hS _ h
theorem zkC (hS : ∀ i, S i = true → S' i = true) : ∀ {xs : List SP}, wfP S xs = true → wfP S' xs = true
 | [], _ => rfl
 | x :: xs, h => zau (SP.wmono hS (zaa h).1) (zkC hS (zaa h).2)
theorem SS.wmono (hS : ∀ i, S i = true → S' i = true) {x : SS} (h : x.wf S = true) : x.wf S' = true := by
 cases x with
 | p x => exact SP.wmono hS h
 | fn f fs cs => exact zau (zkC hS (zaa h).1) (zkC hS (zaa h).2)
theorem zd8 (hS : ∀ i, S i = true → S' i = true) : ∀ {xs : List SC}, wfC S xs = true → wfC S' xs = true
 | [], _ => rfl
 | .one x :: xs, h => zau (SS.wmono hS (zaa h).1) (zd8 hS (zaa h).2)
 | .key _ :: xs, h => zau rfl (zd8 hS (zaa h).2)
 | .row _ _ :: xs, h => zau rfl (zd8 hS (zaa h).2)
theorem SA.wmono (hS : ∀ i, S i = true → S' i = true) {x : SA} (h : x.wf S = true) : x.wf S' = true := by
 cases x with
 | s x => exact SS.wmono hS h
 | agg cs => exact zd8 hS h
theorem zqt (hS : ∀ i, S i = true → S' i = true) : ∀ {xs : List SA}, wfT S xs = true → wfT S' xs = true
 | [], _ => rfl
 | x :: xs, h => zau (SA.wmono hS (zaa h).1) (zqt hS (zaa h).2)
theorem SV.wmono (hS : ∀ i, S i = true → S' i = true) {x : SV} (h : x.wf S = true) : x.wf S' = true := by
 cases x with
 | a x => exact SA.wmono hS h
 | tup xs => exact zqt hS h
theorem zqu (hS : ∀ i, S i = true → S' i = true) : ∀ {l : LE}, wfE S l = true → wfE S' l = true
 | [], _ => rfl
 | p :: l, h => zau (SV.wmono hS (zaa h).1) (zqu hS (zaa h).2)
theorem RB.wmono (hS : ∀ i, S i = true → S' i = true) {x : RB} (h : x.wf S = true) : x.wf S' = true := by
 cases x with
 | gone => rfl
 | blk cs t => exact zd8 hS h
 | row e sz n xs => rfl
theorem zdb (hS : ∀ i, S i = true → S' i = true) : ∀ {m : MB}, wfM S m = true → wfM S' m = true
 | [], _ => rfl
 | p :: m, h => zau (hS _ (zaa h).1) (zau (RB.wmono hS (zaa (zaa h).2).1) (zdb hS (zaa (zaa h).2).2))
theorem zb9 (hS : ∀ i, S i = true → S' i = true) : ∀ {R : List SF}, wfR S R = true → wfR S' R = true
 | [], _ => rfl
 | .c _ :: R, h => zau rfl (zb9 hS (zaa h).2)
 | .h i _ :: R, h => zau (hS i (zaa h).1) (zb9 hS (zaa h).2)
 | .sl i _ _ :: R, h => zau (hS i (zaa h).1) (zb9 hS (zaa h).2)
 | .b i _ :: R, h => zau (hS i (zaa h).1) (zb9 hS (zaa h).2)
 | .q i _ :: R, h => zau (hS i (zaa h).1) (zb9 hS (zaa h).2)
 | .nm i _ :: R, h => zau (hS i (zaa h).1) (zb9 hS (zaa h).2)
 | .blk i cs :: R, h => zau (zau (hS i (zaa (zaa h).1).1) (zd8 hS (zaa (zaa h).1).2)) (zb9 hS (zaa h).2)
theorem zdo {k k' : Nat} (h : k ≤ k') : ∀ i, lt_ k i = true → lt_ k' i = true := fun i hi => by
 have : i + 1 ≤ k := Nat.le_of_ble_eq_true hi
 exact Nat.ble_eq_true_of_le (by omega)
end
theorem zgY {h : Hn} : ∀ {cs : List SC} {A : Prop}, zA1 cs A → zp8 (zaC h cs) ∧ A
 | [], A, hA => ⟨trivial, hA⟩
 | .one x :: cs, A, hA => by
  unfold zA1 at hA
  cases hb : okS x with
  | false => rw [hb] at hA; exact hA.elim
  | true =>
   rw [hb] at hA
   have := zgY (h := h) hA
   exact ⟨⟨zo0 hb, this.1⟩, this.2⟩
 | .key k :: cs, A, hA => zgY (cs := cs) hA
 | .row n f :: cs, A, hA => ⟨⟨hA.1, (zgY hA.2).1⟩, (zgY (h := h) hA.2).2⟩
section
variable {P : Program} {T : Tab} {N k : Nat} {X G : List Nat} {w0 w : World} {l : LE} {m : MB} {R : List SF} {h : Hn} {a : Act} {o : Oper} {Q : Exit → Act → World → Prop} {K : KS}
theorem zm9 {ops : Array Oper} {b : Bool} (e : gdS ops l o = some b) : gd ops (zcn h l) o = some b := by
 unfold gdS at e
 unfold gd
 split at e
 ·rename_i hg; rw [hg]; exact e
 ·rename_i j want hg
  rw [hg]
  dsimp only
  split at e
  ·rename_i d hd
   rw [hd]
   dsimp only
   split at e
   ·rename_i c hc
    have := za1 h l d _ (zex hc)
    rw [this]
    rw [← e]
    show some (c == want) = _
    cases want <;> cases c <;> rfl
   ·cases e
  ·cases e
theorem VSt.put {sv : SV} {dst : Option Nat} {J : LE → Prop} (H : VSt N X G w0 k l m R h a w) (hw : sv.wf (lt_ k) = true) (hp : zjQ N dst sv l J) : ∃ l', J l' ∧ VSt N X G w0 k l' m R h (a.put dst (sv.den h)) w := by
 unfold zjQ at hp
 split at hp
 ·rename_i d
  cases hb : Nat.ble (d + 1) N with
  | false => rw [hb] at hp; exact hp.elim
  | true =>
   rw [hb] at hp
   exact ⟨_, hp, ⟨H.env.put hb, H.sp, H.frm, H.mine, zau hw H.wl, H.wm, H.wr⟩⟩
 ·exact ⟨l, hp, H⟩
theorem zxD {w' : World} (H : VSt N X G w0 k l m R h a w) (F : Frm (zac (zaf h [] m)) w w') : Frm G w0 w' := H.frm.trans F fun k hk => by
 rcases H.mine k hk with h1 | h1
 ·exact .inl h1
 ·exact .inr h1
theorem zbE {k i : Nat} (h : lt_ k i = true) : i < k := Nat.le_of_ble_eq_true h
theorem zaE {sv : SV} {rs : List RB} {Rs : List SF} (ht : zfF P N k l m R o sv rs Rs) (wm : wfM (lt_ k) m = true) (wr : wfR (lt_ k) R = true) : zcK P N k l m R o sv (zhE k rs m) (Rs ++ R) := fun Q h X a w E H Kk hK =>
 ht Q h X a w E H Kk fun h1 w' ha F S => by
  have hag : AgS (lt_ k) h h1 := fun i hi => ha i (.inl (zbE hi))
  have e1 : zaf h1 [] m = zaf h [] m := zaL hag wm
  have e2 : zaX h1 R = zaX h R := za5 hag wr
  have hp := zir h1 rs k m fun p hp => zbE (zfo wm p hp)
  rw [e1] at hp
  refine hK h1 w' hag ⟨F.os, F.tape, F.output, F.size, fun k hk _ => F.block k hk (by simp)⟩ ?_ fun j hk => ?_
  ·rw [zkq, e2]
   exact (H.call S).perm hp.symm
  ·have hk := (zar hp).mem_iff.1 hk
   rw [zaj] at hk
   rcases List.mem_append.1 hk with h2 | h2
   ·exact .inl h2
   ·rcases S.mine j h2 with h3 | h3
    ·cases h3
    ·exact .inr h3
theorem zeZ {sv : SV} {k' : Nat} {m' : MB} {R' : List SF} (hs : zA0 P N k l m R o sv m' R') (H : VSt N X G w0 k l m R h a w) (hok : okN k k' sv m' R' = true) {J : LE → Prop} (hp : zjQ N o.dst sv l J) {Kk : Act → World → Prop} (hK : ∀ l' h' a' w', J l' → VSt N X G w0 k' l' m' R' h' a' w' → Kk a' w') : o.wp P a w Kk Q := by
 have h1 := zaa hok
 have h2 := zaa h1.2
 have h3 := zaa h2.2
 have hle : k ≤ k' := Nat.le_of_ble_eq_true h1.1
 refine hs Q h X a w H.env H.sp Kk fun hn w' ha F S hm => ?_
 have H' : VSt N X G w0 k' l m' R' hn a w' := ⟨by rw [zjP ha H.wl]; exact H.env, S, zxD H F, fun k hk => by
  rcases hm k hk with h4 | h4
  ·exact H.mine k h4
  ·exact .inr (jU H.frm.size h4), zqu (zdo hle) H.wl, h3.1, h3.2⟩
 obtain ⟨l', h5, h6⟩ := H'.put h2.1 hp
 exact hK l' hn _ w' h5 h6
theorem zcF (hc : zek P N o k l m R K) (H : VSt N X G w0 k l m R h a w) {Kk : Act → World → Prop} (hK : ∀ k' l' m' R' h' a' w', K k' l' m' R' → VSt N X G w0 k' l' m' R' h' a' w' → Kk a' w') : o.wp P a w Kk Q := by
 obtain ⟨sv, k', m', R', hs, hb⟩ := hc
 cases hok : okN k k' sv m' R' with
 | false => rw [hok] at hb; exact hb.elim
 | true =>
  rw [hok] at hb
  simp only [cond_true] at hb
  exact zeZ hs H hok hb fun l' h' a' w' hk HV => hK k' l' m' R' h' a' w' hk HV
theorem Sp.numAt {Rr : List (World → Prop)} (H : Sp X w (zaf h [] m) Rr) {i : Nat} {q : RB} (e : zaB m i = some q) : Sp X w (q.den h i ++ zaf h [i] m) Rr := H.perm (zaN h m [] i q e (by simp))
theorem zsn {ty t i off : Nat} {x y : Operand} {cs cs' new : List SC} {n : Nat × Bool} (hT : zbz P T) (ho : o.op = .store ty x y) (hx : zoY (evS l x) = some (.own i off)) (hy : zgh (evS l y) = some new) (hn : szT T ty = some n) (hm : zaB m i = some (.blk cs t)) (hl : zfh new = n.1) (hp : zta cs off n.1 new = some cs') (h1 : ∀ h, zp8 (zaC h new)) : zcK P N k l m R o (zeu undef) ((i, .blk cs' t) :: m) R := fun Q h X a w E H Kk hK => by
 have hb := zcp H hm
 have H1 : Sp X w (.blk (h.b i) (ca (zaC h cs)) t :: zaf h [i] m) (zaX h R) := H.numAt hm
 cases hv : evS l y with
 | none => rw [hv] at hy; cases hy
 | some v =>
  rw [hv] at hy
  have hr := zbI ho (E.ev (zag (zbx hx))) (E.ev (zag hv)) (zcV (P := P) (ty := ty) hb (zey hy) (h1 h) (zeX h cs off n.1 new cs' hl hp) (by rw [zbg, hl]; exact zkw (zfq hT hn)))
  unfold Oper.wp
  rw [hr]
  have hf := zcf (h.b i) (ca (zaC h cs')) w
  have ht := H1.turnAt (q' := .blk (h.b i) (ca (zaC h cs')) t) 0 rfl hf (zaF hb) (by simp [Res.keys]) (by simp [Res.keys]) rfl
  have hkm : ∀ j, j ∈ zac (.blk (h.b i) (ca (zaC h cs)) t :: zaf h [i] m) ↔ j ∈ zac (zaf h [] m) := fun j => (zar (zaN h m [] i _ hm (by simp))).mem_iff.symm
  refine hK h _ (fun _ _ => ⟨rfl, rfl, rfl⟩) ⟨hf.os, hf.tape, hf.output, hf.size, fun k hk hn => hf.block k hk fun hm' => hn ?_⟩ ht.1 fun j hj => ?_
  ·exact (hkm k).1 (List.mem_append_left _ hm')
  ·rcases ht.2 j hj with h2 | h2
   ·exact .inl ((hkm j).1 h2)
   ·exact .inr h2
theorem zna (hT : zbz P T) (hv : vOp P T N o k l m R K) (H : VSt N X G w0 k l m R h a w) {Kk : Act → World → Prop} (hK : ∀ k' l' m' R' h' a' w', K k' l' m' R' → VSt N X G w0 k' l' m' R' h' a' w' → Kk a' w') : o.wp P a w Kk Q := by
 have tqc : tq T k l m R o (fun sv rs => match rs with
   | [] => bif sv.wf (lt_ k) then zjQ N o.dst sv l (fun l' => K k l' m R) else False
   | [q] => zbN (k + 1) fun k' => bif sv.wf (lt_ k') then (bif q.wf (lt_ k') then zjQ N o.dst sv l (fun l' => K k' l' ((k, q) :: m) R) else False) else False
   | _ => False) (zek P N o k l m R K) → o.wp P a w Kk Q := fun hq => by
  rcases zqr (P := P) (N := N) (R := R) hT hq with ⟨sv, rs, ht, hk⟩ | hc
  ·split at hk
   ·cases h1 : sv.wf (lt_ k) with
    | false => rw [h1] at hk; exact hk.elim
    | true =>
     rw [h1] at hk
     simp only [cond_true] at hk
     exact zeZ (zaE ht H.wm H.wr).q H (zau (Nat.ble_eq_true_of_le (jV _)) (zau h1 (zau H.wm H.wr))) hk fun l' h' a' w' hk' HV => hK k l' _ _ h' a' w' hk' HV
   ·rename_i q
    have hk := zbc hk
    cases h1 : sv.wf (lt_ (k + 1)) with
    | false => rw [h1] at hk; exact hk.elim
    | true =>
     cases h2 : q.wf (lt_ (k + 1)) with
     | false => rw [h1, h2] at hk; exact hk.elim
     | true =>
      rw [h1, h2] at hk
      simp only [cond_true] at hk
      have hmo := zdo (show k ≤ k + 1 by omega)
      exact zeZ (k' := k + 1) (zaE ht H.wm H.wr).q H (zau (Nat.ble_eq_true_of_le (by omega)) (zau h1 (zau (zau (Nat.ble_eq_true_of_le (jV _)) (zau h2 (zdb hmo H.wm))) (zb9 hmo H.wr)))) hk fun l' h' a' w' hk' HV => hK _ l' _ _ h' a' w' hk' HV
   ·exact hk.elim
  ·exact zcF hc H hK
 unfold vOp at hv
 split at hv
 ·rename_i ty x y ho
  split at hv
  ·rename_i i off new n ag hx hy hn
   split at hv
   ·rename_i cs t hm
    cases hl : zfi new n with
    | false => rw [hl] at hv; exact zcF hv H hK
    | true =>
     rw [hl] at hv
     simp only [cond_true] at hv
     split at hv
     ·rename_i cs' hp
      cases hi : lt_ k i with
      | false => rw [hi] at hv; exact zcF hv H hK
      | true =>
       cases hw : wfC (lt_ k) cs' with
       | false => rw [hi, hw] at hv; exact zcF hv H hK
       | true =>
        rw [hi, hw] at hv
        have hone := fun h => zgY (h := h) hv
        exact zeZ (zsn hT ho hx hy hn hm (zcJ hl) hp (fun h => (hone h).1)).q H (zau (Nat.ble_eq_true_of_le (jV _)) (zau rfl (zau (zau hi (zau hw H.wm)) H.wr))) (hone h).2 fun l' h' a' w' hk' HV => hK k l' _ _ h' a' w' hk' HV
     ·exact zcF hv H hK
   ·exact zcF hv H hK
  ·exact zcF hv H hK
 ·exact tqc hv
theorem ze0 (hT : zbz P T) {ops : Array Oper} : ∀ {os : List Oper} {k : Nat} {l : LE} {m : MB} {R : List SF} {h : Hn} {a : Act} {w : World}, ztc P T N ops os k l m R K → VSt N X G w0 k l m R h a w → (∀ k' l' m' R' h' a' w', K k' l' m' R' → VSt N X G w0 k' l' m' R' h' a' w' → Q .normal a' w') → wpList P ops Q os a w
 | [], k, l, m, R, h, a, w, hv, H, hK => hK k l m R h a w hv H
 | o :: os, k, l, m, R, h, a, w, hv, H, hK => by
  unfold ztc at hv
  split at hv
  ·rename_i b hg
   have hw := zdj H.env (zm9 (h := h) hg)
   cases b with
   | true =>
    simp only [cond_true] at hv
    refine wpList_step fun Kk hKk => ?_
    rw [if_pos hw]
    exact zna hT hv H fun k' l' m' R' h' a' w' hk HV => hKk _ _ (ze0 hT hk HV hK)
   | false =>
    simp only [cond_false] at hv
    unfold wpList
    rw [if_neg (by rw [hw]; decide)]
    obtain ⟨l', h1, h2⟩ := H.put (sv := zeu undef) rfl hv
    exact ze0 hT h1 h2 hK
  ·exact hv.elim
end
end
end Go.Proofs.YtcmmpiaogfnmoaaGreatDoor
