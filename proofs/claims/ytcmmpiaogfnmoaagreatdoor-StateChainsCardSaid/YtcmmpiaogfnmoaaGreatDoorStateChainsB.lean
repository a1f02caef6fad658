/- Walks by computing: values with places of their own, told by numbers. No program is in sight. Slices of slices; an element of an own row is taken out. No program is in sight. Words of 32 bits; rows inside own blocks; nil checks; an array's value by an index. No program is in sight. More steps: makes, copies; rows out of blocks, blocks as texts; what is given to a call. No program is in sight. Two rows of integers held against each other. Keys held against each other. No program is in sight. Walks by computing: what an operation gives. No program is in sight. Walks by computing: what is compute -/
import Derived.Test.YtcmmpiaogfnmoaaGreatDoorStateChainsA
import Derived.Laws.MakeOwn
import Derived.Laws.CopyRow
import Derived.Laws.IdiomCopy
set_option linter.unusedSimpArgs false
set_option linter.unusedVariables false
set_option maxRecDepth 200000
set_option maxHeartbeats 6000000
namespace Go.Proofs.YtcmmpiaogfnmoaaGreatDoor
section
open Go.RowKit
inductive SP where
 | v (x : Value)
 | at_ (i off : Nat)
 | sl (i off n c : Nat)
 | hd (i n : Nat)
 | hp (i j sz off : Nat)
 | ap (i off j sz : Nat)
inductive SS where
 | p (x : SP)
 | fn (f : Fn) (fs cs : List SP)
inductive SC where
 | one (x : SS)
 | key (l : List Nat)
 | row (n : Nat) (f : Nat → Value)
inductive SA where
 | s (x : SS)
 | agg (cs : List SC)
inductive SV where
 | a (x : SA)
 | tup (xs : List SA)
structure Hn where
 b : Nat → Nat
 r : Nat → Option Addr × Nat
 q : Nat → Nat → List (Option Addr × Nat)
def SP.den (h : Hn) : SP → Value
 | .v x => x
 | .at_ i off => .pointer (some ⟨h.b i, off, none⟩)
 | .sl i off n c => .slice (some ⟨h.b i, off, none⟩) n c
 | .hd i n => .slice (h.r i).1 n (h.r i).2
 | .hp i j sz off => .pointer (some ((((h.r i).1.getD ⟨0, 0, none⟩).add (j * sz)).add off))
 | .ap i off j sz => .pointer (some ⟨h.b i, off + j * sz, none⟩)
def ziw (h : Hn) : List SP → List Value
 | [] => []
 | x :: xs => x.den h :: ziw h xs
def SS.den (h : Hn) : SS → Value
 | .p x => x.den h
 | .fn f fs cs => .func f (ziw h fs).toArray (ziw h cs).toArray
def SC.den (h : Hn) : SC → Chunk
 | .one x => .one (x.den h)
 | .key l => .key l
 | .row n f => .row n f
def zay (h : Hn) : List SC → List Chunk
 | [] => []
 | x :: xs => x.den h :: zay h xs
def SA.den (h : Hn) : SA → Value
 | .s x => x.den h
 | .agg cs => .agg (ca (zay h cs))
def zmW (h : Hn) : List SA → List Value
 | [] => []
 | x :: xs => x.den h :: zmW h xs
def SV.den (h : Hn) : SV → Value
 | .a x => x.den h
 | .tup xs => .tuple (zmW h xs).toArray
def zcu (h : Hn) : List (Nat × SV) → List (Nat × Value)
 | [] => []
 | (d, x) :: l => (d, x.den h) :: zcu h l
inductive RB where
 | gone
 | blk (cs : List SC) (t : TypeId)
 | row (e sz n : Nat) (xs : (Nat → List (Option Addr × Nat)) → List Value)
abbrev MB := List (Nat × RB)
def zaM (i : Nat) : List Nat → Bool
 | [] => false
 | j :: s => bif Nat.beq i j then true else zaM i s
def RB.den (h : Hn) (i : Nat) : RB → List Res
 | .gone => []
 | .blk cs t => [.blk (h.b i) (ca (zay h cs)) t]
 | .row e sz n xs => [.row (.slice (h.r i).1 n (h.r i).2) e sz n (xs (h.q i))]
def zad (h : Hn) : List Nat → MB → List Res
 | _, [] => []
 | s, (i, .gone) :: m => bif zaM i s then zad h s m else zad h (i :: s) m
 | s, (i, .blk cs t) :: m => bif zaM i s then zad h s m else .blk (h.b i) (ca (zay h cs)) t :: zad h (i :: s) m
 | s, (i, .row e sz n xs) :: m => bif zaM i s then zad h s m else .row (.slice (h.r i).1 n (h.r i).2) e sz n (xs (h.q i)) :: zad h (i :: s) m
def zdk (h : Hn) : Nat → List RB → List Res
 | _, [] => []
 | i, q :: rs => q.den h i ++ zdk h (i + 1) rs
def zgO : Nat → List RB → MB → MB
 | _, [], m => m
 | k, q :: rs, m => zgO (k + 1) rs ((k, q) :: m)
def zaB : MB → Nat → Option RB
 | [], _ => none
 | (j, q) :: m, i => bif Nat.beq j i then some q else zaB m i
inductive SF where
 | c (r : World → Prop)
 | h (i : Nat) (f : Option Addr × Nat → World → Prop)
 | sl (i n : Nat) (f : Option Addr × Nat → World → Prop)
 | b (i : Nat) (f : Nat → World → Prop)
 | q (i : Nat) (f : (Nat → List (Option Addr × Nat)) → World → Prop)
 | blk (i : Nat) (cs : List SC)
 | nm (i : Nat) (f : Nat → Option Addr × Nat → (Nat → List (Option Addr × Nat)) → World → Prop)
def SF.den (h : Hn) : SF → World → Prop
 | .c r => r
 | .h i f => f (h.r i)
 | .sl i n f => fun w => ((h.r i).1 = none → n = 0) ∧ f (h.r i) w
 | .b i f => f (h.b i)
 | .q i f => f (h.q i)
 | .nm i f => f (h.b i) (h.r i) (h.q i)
 | .blk i cs => AtC ⟨h.b i, 0, none⟩ (zay h cs)
def zaN (h : Hn) : List SF → List (World → Prop)
 | [] => []
 | x :: xs => x.den h :: zaN h xs
def SP.wf (S : Nat → Bool) : SP → Bool
 | .v _ => true
 | .at_ i _ => S i
 | .sl i _ _ _ => S i
 | .hd i _ => S i
 | .hp i _ _ _ => S i
 | .ap i _ _ _ => S i
def wfP (S : Nat → Bool) : List SP → Bool
 | [] => true
 | x :: xs => bif x.wf S then wfP S xs else false
def SS.wf (S : Nat → Bool) : SS → Bool
 | .p x => x.wf S
 | .fn _ fs cs => bif wfP S fs then wfP S cs else false
def SC.wf (S : Nat → Bool) : SC → Bool
 | .one x => x.wf S
 | .key _ => true
 | .row _ _ => true
def wfC (S : Nat → Bool) : List SC → Bool
 | [] => true
 | x :: xs => bif x.wf S then wfC S xs else false
def SA.wf (S : Nat → Bool) : SA → Bool
 | .s x => x.wf S
 | .agg cs => wfC S cs
def wfT (S : Nat → Bool) : List SA → Bool
 | [] => true
 | x :: xs => bif x.wf S then wfT S xs else false
def SV.wf (S : Nat → Bool) : SV → Bool
 | .a x => x.wf S
 | .tup xs => wfT S xs
def wfE (S : Nat → Bool) : List (Nat × SV) → Bool
 | [] => true
 | (_, x) :: l => bif x.wf S then wfE S l else false
def RB.wf (S : Nat → Bool) : RB → Bool
 | .gone => true
 | .blk cs _ => wfC S cs
 | .row _ _ _ _ => true
def wfM (S : Nat → Bool) : MB → Bool
 | [] => true
 | (i, q) :: m => bif S i then (bif q.wf S then wfM S m else false) else false
def wfN (S : Nat → Bool) : Nat → List RB → Bool
 | _, [] => true
 | k, q :: rs => bif S k then (bif q.wf S then wfN S (k + 1) rs else false) else false
def SF.wf (S : Nat → Bool) : SF → Bool
 | .c _ => true
 | .h i _ => S i
 | .sl i _ _ => S i
 | .b i _ => S i
 | .q i _ => S i
 | .nm i _ => S i
 | .blk i cs => bif S i then wfC S cs else false
def wfR (S : Nat → Bool) : List SF → Bool
 | [] => true
 | x :: xs => bif x.wf S then wfR S xs else false
def AgS (S : Nat → Bool) (h h' : Hn) : Prop := ∀ i, S i = true → h'.b i = h.b i ∧ h'.r i = h.r i ∧ h'.q i = h.q i
section
variable {S : Nat → Bool} {h h' : Hn}
theorem zaa {b c : Bool} (hh : (bif b then c else false) = true) : b = true ∧ c = true := by cases b <;> simp_all
theorem SP.same (ha : AgS S h h') {x : SP} (hw : x.wf S = true) : x.den h' = x.den h := by
 cases x with
 | v x => rfl
 | at_ i off => simp only [SP.den, (ha i hw).1]
 | sl i off n c => simp only [SP.den, (ha i hw).1]
 | hd i n => simp only [SP.den, (ha i hw).2.1]
 | hp i j sz off => simp only [SP.den, (ha i hw).2.1]
 | ap i off j sz => simp only [SP.den, (ha i hw).1]
theorem zhx (ha : AgS S h h') : ∀ {xs : List SP}, wfP S xs = true → ziw h' xs = ziw h xs
 | [], _ => rfl
 | x :: xs, hw => by unfold ziw; rw [SP.same ha (zaa hw).1, zhx ha (zaa hw).2]
theorem SS.same (ha : AgS S h h') {x : SS} (hw : x.wf S = true) : x.den h' = x.den h := by
 cases x with
 | p x => exact SP.same ha hw
 | fn f fs cs => simp only [SS.den, zhx ha (zaa hw).1, zhx ha (zaa hw).2]
theorem SC.same (ha : AgS S h h') {x : SC} (hw : x.wf S = true) : x.den h' = x.den h := by
 cases x with
 | one x => simp only [SC.den, SS.same ha hw]
 | key l => rfl
 | row n f => rfl
theorem zcU (ha : AgS S h h') : ∀ {xs : List SC}, wfC S xs = true → zay h' xs = zay h xs
 | [], _ => rfl
 | x :: xs, hw => by unfold zay; rw [SC.same ha (zaa hw).1, zcU ha (zaa hw).2]
theorem SA.same (ha : AgS S h h') {x : SA} (hw : x.wf S = true) : x.den h' = x.den h := by
 cases x with
 | s x => exact SS.same ha hw
 | agg cs => simp only [SA.den, zcU ha hw]
theorem zky (ha : AgS S h h') : ∀ {xs : List SA}, wfT S xs = true → zmW h' xs = zmW h xs
 | [], _ => rfl
 | x :: xs, hw => by unfold zmW; rw [SA.same ha (zaa hw).1, zky ha (zaa hw).2]
theorem SV.same (ha : AgS S h h') {x : SV} (hw : x.wf S = true) : x.den h' = x.den h := by
 cases x with
 | a x => exact SA.same ha hw
 | tup xs => simp only [SV.den, zky ha hw]
theorem zhy (ha : AgS S h h') : ∀ {l : List (Nat × SV)}, wfE S l = true → zcu h' l = zcu h l
 | [], _ => rfl
 | (d, x) :: l, hw => by unfold zcu; rw [SV.same ha (zaa hw).1, zhy ha (zaa hw).2]
theorem RB.same (ha : AgS S h h') {i : Nat} (hi : S i = true) {q : RB} (hw : q.wf S = true) : q.den h' i = q.den h i := by
 cases q with
 | gone => rfl
 | blk cs t => simp only [RB.den, (ha i hi).1, zcU ha hw]
 | row e sz n xs => simp only [RB.den, (ha i hi).2.1, (ha i hi).2.2]
theorem zan (h : Hn) (s : List Nat) (i : Nat) (q : RB) (m : MB) : zad h s ((i, q) :: m) = bif zaM i s then zad h s m else q.den h i ++ zad h (i :: s) m := by
 cases q <;> simp only [zad, RB.den] <;> cases zaM i s <;> rfl
theorem zaK (ha : AgS S h h') : ∀ {m : MB} {s : List Nat}, wfM S m = true → zad h' s m = zad h s m
 | [], _, _ => rfl
 | (i, q) :: m, s, hw => by
  have h1 := zaa hw
  have h2 := zaa h1.2
  rw [zan, zan, RB.same ha h1.1 h2.1, zaK ha h2.2, zaK ha h2.2]
theorem zfr (ha : AgS S h h') : ∀ {rs : List RB} {k : Nat}, wfN S k rs = true → zdk h' k rs = zdk h k rs
 | [], _, _ => rfl
 | q :: rs, k, hw => by
  have h1 := zaa hw
  have h2 := zaa h1.2
  rw [zdk, zdk, RB.same ha h1.1 h2.1, zfr ha h2.2]
theorem zaX (ha : AgS S h h') : ∀ {R : List SF}, wfR S R = true → zaN h' R = zaN h R
 | [], _ => rfl
 | .c r :: R, hw => by unfold zaN; rw [zaX ha (zaa hw).2]; rfl
 | .h i f :: R, hw => by simp only [zaN, SF.den, (ha i (zaa hw).1).2.1, zaX ha (zaa hw).2]
 | .sl i n f :: R, hw => by simp only [zaN, SF.den, (ha i (zaa hw).1).2.1, zaX ha (zaa hw).2]
 | .b i f :: R, hw => by simp only [zaN, SF.den, (ha i (zaa hw).1).1, zaX ha (zaa hw).2]
 | .q i f :: R, hw => by simp only [zaN, SF.den, (ha i (zaa hw).1).2.2, zaX ha (zaa hw).2]
 | .blk i cs :: R, hw => by
  have h1 := zaa (zaa hw).1
  simp only [zaN, SF.den, (ha i h1.1).1, zcU ha h1.2, zaX ha (zaa hw).2]
 | .nm i f :: R, hw => by simp only [zaN, SF.den, (ha i (zaa hw).1).1, (ha i (zaa hw).1).2.1, (ha i (zaa hw).1).2.2, zaX ha (zaa hw).2]
end
theorem zaq {i : Nat} : ∀ {s : List Nat}, zaM i s = true ↔ i ∈ s
 | [] => by simp [zaM]
 | j :: s => by
  unfold zaM
  cases hb : Nat.beq i j with
  | true => have := Nat.eq_of_beq_eq_true hb; simp [this]
  | false =>
   have : i ≠ j := fun e => by rw [e, Nat.beq_refl] at hb; cases hb
   simp [this, zaq (s := s)]
theorem zqk {i : Nat} {s s' : List Nat} (hs : ∀ j, j ∈ s ↔ j ∈ s') : zaM i s = zaM i s' := by
 rw [Bool.eq_iff_iff, zaq, zaq]; exact hs i
theorem zcs (h : Hn) : ∀ (m : MB) (s s' : List Nat), (∀ j, j ∈ s ↔ j ∈ s') → zad h s m = zad h s' m
 | [], s, s', _ => rfl
 | (i, q) :: m, s, s', hs => by
  rw [zan, zan, zqk hs, zcs h m s s' hs, zcs h m (i :: s) (i :: s') fun j => by simp [hs j]]
theorem zcO (h : Hn) : ∀ (m : MB) (s : List Nat) (k : Nat), (∀ p ∈ m, p.1 ≠ k) → zad h (k :: s) m = zad h s m
 | [], s, k, _ => rfl
 | (i, q) :: m, s, k, hk => by
  have hik : i ≠ k := hk _ (List.mem_cons_self ..)
  have e1 : zaM i (k :: s) = zaM i s := by rw [Bool.eq_iff_iff, zaq, zaq]; simp [hik]
  rw [zan, zan, e1, zcO h m s k fun p hp => hk p (List.mem_cons_of_mem _ hp), zcs h m (i :: k :: s) (k :: i :: s) (fun j => by simp only [List.mem_cons]; exact or_left_comm), zcO h m (i :: s) k fun p hp => hk p (List.mem_cons_of_mem _ hp)]
theorem zaG (h : Hn) : ∀ (m : MB) (s : List Nat) (i : Nat) (q : RB), zaB m i = some q → i ∉ s → (zad h s m).Perm (q.den h i ++ zad h (i :: s) m)
 | [], s, i, q, e, _ => by cases e
 | (j, p) :: m, s, i, q, e, hi => by
  unfold zaB at e
  rw [zan, zan]
  cases hb : Nat.beq j i with
  | true =>
   rw [hb] at e
   obtain rfl : p = q := Option.some.inj e
   obtain rfl : j = i := Nat.eq_of_beq_eq_true hb
   have h1 : zaM j s = false := by cases hq : zaM j s with | false => rfl | true => exact absurd (zaq.1 hq) hi
   have h2 : zaM j (j :: s) = true := zaq.2 (List.mem_cons_self ..)
   rw [h1, h2]
   exact List.Perm.refl _
  | false =>
   rw [hb] at e
   simp only [cond_false] at e
   have hji : j ≠ i := fun ee => by rw [ee, Nat.beq_refl] at hb; cases hb
   have e1 : zaM j (i :: s) = zaM j s := by rw [Bool.eq_iff_iff, zaq, zaq]; simp [hji]
   rw [e1]
   cases hq : zaM j s with
   | true => exact zaG h m s i q e hi
   | false =>
    have := zaG h m (j :: s) i q e (by simp [hi, Ne.symm hji])
    rw [zcs h m (i :: j :: s) (j :: i :: s) (fun k => by simp only [List.mem_cons]; exact or_left_comm)] at this
    simp only [cond_false]
    refine (List.Perm.append_left _ this).trans ?_
    rw [← List.append_assoc, ← List.append_assoc]
    exact List.Perm.append_right _ List.perm_append_comm
theorem zgw {S : Nat → Bool} : ∀ {m : MB}, wfM S m = true → ∀ p ∈ m, S p.1 = true
 | [], _, p, hp => by cases hp
 | q :: m, hw, p, hp => by
  rcases List.mem_cons.1 hp with rfl | hp
  ·exact (zaa hw).1
  ·exact zgw (zaa (zaa hw).2).2 p hp
theorem zhz (h : Hn) : ∀ (rs : List RB) (k : Nat) (m : MB), (∀ p ∈ m, p.1 < k) → (zad h [] (zgO k rs m)).Perm (zad h [] m ++ zdk h k rs)
 | [], k, m, _ => by rw [zgO, zdk, List.append_nil]
 | q :: rs, k, m, hk => by
  rw [zgO, zdk]
  refine (zhz h rs (k + 1) ((k, q) :: m) fun p hp => ?_).trans ?_
  ·rcases List.mem_cons.1 hp with rfl | hp
   ·exact Nat.lt_succ_self _
   ·exact Nat.lt_succ_of_lt (hk p hp)
  ·rw [zan, show zaM k [] = false from rfl, cond_false, zcO h m [] k fun p hp => Nat.ne_of_lt (hk p hp), ← List.append_assoc]
   exact List.Perm.append_right _ List.perm_append_comm
theorem zjn (h : Hn) : ∀ (R R' : List SF), zaN h (R ++ R') = zaN h R ++ zaN h R'
 | [], R' => rfl
 | r :: R, R' => by rw [List.cons_append, zaN, zaN, zjn h R R', List.cons_append]
def zbD : List (Nat × SV) → Nat → Option SV
 | [], _ => none
 | (d, v) :: l, i => bif Nat.beq d i then some v else zbD l i
def zdZ (x : Value) : SV := .a (.s (.p (.v x)))
def evS (l : List (Nat × SV)) : Operand → Option SV
 | .tmp t => zbD l t
 | .const v => some (.a (.s (.p (.v v))))
 | .global g => some (.a (.s (.p (.v (.pointer (some ⟨g, 0, none⟩))))))
 | .func f => some (.a (.s (.p (.v (.func (.func f) #[] #[])))))
def zu1 (l : List (Nat × SV)) : List Operand → Option (List SV)
 | [] => some []
 | x :: xs => match evS l x, zu1 l xs with
  | some v, some vs => some (v :: vs)
  | _, _ => none
def zko (h : Hn) : List SV → List Value
 | [] => []
 | x :: xs => x.den h :: zko h xs
theorem zaP (h : Hn) : ∀ (l : List (Nat × SV)) (i : Nat) (x : SV), zbD l i = some x → zeP (zcu h l) i = some (x.den h)
 | [], i, x, hx => by cases hx
 | (d, v) :: l, i, x, hx => by
  unfold zbD at hx
  unfold zcu zeP
  cases hb : Nat.beq d i with
  | true => rw [hb] at hx; rw [← Option.some.inj hx]; rfl
  | false => rw [hb] at hx; exact zaP h l i x hx
theorem zaf {h : Hn} {l : List (Nat × SV)} {x : Operand} {v : SV} (hx : evS l x = some v) : ev (zcu h l) x = some (v.den h) := by
 cases x with
 | tmp t => exact zaP h l t v hx
 | const u => rw [← Option.some.inj hx]; rfl
 | global g => rw [← Option.some.inj hx]; rfl
 | func f => rw [← Option.some.inj hx]; rfl
theorem znd {h : Hn} {l : List (Nat × SV)} : ∀ {xs : List Operand} {vs : List SV}, zu1 l xs = some vs → evs (zcu h l) xs = some (zko h vs)
 | [], vs, hx => by rw [← Option.some.inj hx]; rfl
 | x :: xs, vs, hx => by
  unfold zu1 at hx
  cases h1 : evS l x with
  | none => rw [h1] at hx; cases hx
  | some v =>
   cases h2 : zu1 l xs with
   | none => rw [h1, h2] at hx; cases hx
   | some us =>
    rw [h1, h2] at hx
    rw [← Option.some.inj hx]
    unfold evs
    rw [zaf h1, znd h2]
    rfl
def SC.len : SC → Nat
 | .one _ => 1
 | .key _ => 32
 | .row n _ => n
def zeL : List SC → Nat
 | [] => 0
 | c :: cs => c.len + zeL cs
theorem SC.len_den (h : Hn) (c : SC) : (c.den h).len = c.len := by cases c <;> rfl
theorem za6 (h : Hn) : ∀ (cs : List SC), zc3 (zay h cs) = zeL cs
 | [] => rfl
 | c :: cs => by unfold zay zc3 zeL; rw [SC.len_den, za6 h cs]
def zjo : List SC → Nat → Option (List SC)
 | _, 0 => some []
 | [], _ + 1 => none
 | .one x :: cs, n + 1 => match zjo cs n with | some r => some (.one x :: r) | none => none
 | .key k :: cs, n + 1 => bif Nat.ble 31 n then (match zjo cs (n - 31) with | some r => some (.key k :: r) | none => none) else none
 | .row m f :: cs, n + 1 => bif Nat.ble m (n + 1) then (match zjo cs (n + 1 - m) with | some r => some (.row m f :: r) | none => none) else none
def zf4 : List SC → Nat → Option (List SC)
 | cs, 0 => some cs
 | [], _ + 1 => none
 | .one _ :: cs, n + 1 => zf4 cs n
 | .key _ :: cs, n + 1 => bif Nat.ble 31 n then zf4 cs (n - 31) else none
 | .row m _ :: cs, n + 1 => bif Nat.ble m (n + 1) then zf4 cs (n + 1 - m) else none
def zqm (cs : List SC) (off n : Nat) : Option (List SC) := match zf4 cs off with | some r => zjo r n | none => none
def zCn : List SC → List SC → Option (List SC)
 | [], r => some r
 | c :: a, r => match zCn a r with | some b => some (c :: b) | none => none
theorem zrB : ∀ (a b : List SC), zCn a b = some (a ++ b)
 | [], b => rfl
 | c :: a, b => by rw [zCn, zrB a b]; rfl
def zq5 : List SC → Nat → Nat → List SC → Option (List SC)
 | cs, 0, n, new => match zf4 cs n with | some r => zCn new r | none => none
 | [], _ + 1, _, _ => none
 | .one x :: cs, off + 1, n, new => match zq5 cs off n new with | some r => some (.one x :: r) | none => none
 | .key k :: cs, off + 1, n, new => bif Nat.ble 31 off then (match zq5 cs (off - 31) n new with | some r => some (.key k :: r) | none => none) else none
 | .row m f :: cs, off + 1, n, new => bif Nat.ble m (off + 1) then (match zq5 cs (off + 1 - m) n new with | some r => some (.row m f :: r) | none => none) else none
def zeM : List SC → Nat → Bool
 | [], n => Nat.beq n 0
 | .one _ :: cs, n => match n with | 0 => false | j + 1 => zeM cs j
 | .key _ :: cs, n => bif Nat.ble 32 n then zeM cs (n - 32) else false
 | .row m _ :: cs, n => bif Nat.ble m n then zeM cs (n - m) else false
theorem zcq : ∀ {cs : List SC} {n : Nat}, zeM cs n = true → zeL cs = n
 | [], n, h => (Nat.eq_of_beq_eq_true h).symm
 | .one x :: cs, 0, h => by cases h
 | .one x :: cs, n + 1, h => by
  have := zcq (cs := cs) (n := n) h
  unfold zeL SC.len
  simp only [this]; omega
 | .key k :: cs, n, h => by
  unfold zeM at h
  have h1 := zaa h
  have := zcq h1.2
  have := Nat.le_of_ble_eq_true h1.1
  show 32 + zeL cs = n
  omega
 | .row m f :: cs, n, h => by
  unfold zeM at h
  have h1 := zaa h
  have := zcq h1.2
  have := Nat.le_of_ble_eq_true h1.1
  show m + zeL cs = n
  omega
theorem zgZ (h : Hn) : ∀ (a b : List SC), zay h (a ++ b) = zay h a ++ zay h b
 | [], b => rfl
 | c :: a, b => by rw [List.cons_append, zay, zay, zgZ h a b, List.cons_append]
theorem zet {o : Option (List SC)} {c : SC} {r : List SC} (h : (match o with | some r => some (c :: r) | none => none) = some r) : ∃ d, o = some d ∧ c :: d = r := by
 cases o with
 | none => cases h
 | some d => exact ⟨d, rfl, Option.some.inj h⟩
theorem zeu {b : Bool} {o : Option (List SC)} {r : List SC} (h : (bif b then o else none) = some r) : b = true ∧ o = some r := by
 cases b
 ·cases h
 ·exact ⟨rfl, h⟩
theorem zjp {c : Chunk} {cs r : List Chunk} {n : Nat} (hn : c.len ≤ n + 1) (h : zfn cs (n + 1 - c.len) = some r) : zfn (c :: cs) (n + 1) = some (c :: r) := by
 rw [zfn, Nat.ble_eq_true_of_le hn, h]; rfl
theorem zjq {c : Chunk} {cs r : List Chunk} {n : Nat} (hn : c.len ≤ n + 1) (h : zeK cs (n + 1 - c.len) = some r) : zeK (c :: cs) (n + 1) = some r := by
 rw [zeK, Nat.ble_eq_true_of_le hn, h]; rfl
theorem zne {c : Chunk} {cs r new : List Chunk} {n : Nat} (hn : c.len ≤ n + 1) (h : ziD cs (n + 1 - c.len) new = some r) : ziD (c :: cs) (n + 1) new = some (c :: r) := by
 rw [ziD, Nat.ble_eq_true_of_le hn, h]; rfl
theorem zfs (h : Hn) : ∀ (cs : List SC) (n : Nat) (r : List SC), zjo cs n = some r → zfn (zay h cs) n = some (zay h r)
 | cs, 0, r, hr => by rw [zjo] at hr; rw [← Option.some.inj hr, zfn]; rfl
 | [], n + 1, r, hr => by cases hr
 | .one x :: cs, n + 1, r, hr => by
  rw [zjo] at hr
  obtain ⟨d, h1, rfl⟩ := zet hr
  exact zjp (c := .one (x.den h)) (by show 1 ≤ n + 1; omega) (zfs h cs n d h1)
 | .key k :: cs, n + 1, r, hr => by
  rw [zjo] at hr
  obtain ⟨h0, hr⟩ := zeu hr
  have h0 := Nat.le_of_ble_eq_true h0
  obtain ⟨d, h1, rfl⟩ := zet hr
  exact zjp (c := .key k) (by show 32 ≤ n + 1; omega) (by show zfn _ (n + 1 - 32) = _; rw [show n + 1 - 32 = n - 31 by omega]; exact zfs h cs _ d h1)
 | .row m f :: cs, n + 1, r, hr => by
  rw [zjo] at hr
  obtain ⟨h0, hr⟩ := zeu hr
  obtain ⟨d, h1, rfl⟩ := zet hr
  exact zjp (c := .row m f) (Nat.le_of_ble_eq_true h0) (zfs h cs _ d h1)
theorem zcV (h : Hn) : ∀ (cs : List SC) (n : Nat) (r : List SC), zf4 cs n = some r → zeK (zay h cs) n = some (zay h r)
 | cs, 0, r, hr => by rw [zf4] at hr; rw [← Option.some.inj hr, zeK]
 | [], n + 1, r, hr => by cases hr
 | .one x :: cs, n + 1, r, hr => by
  rw [zf4] at hr
  exact zjq (c := .one (x.den h)) (by show 1 ≤ n + 1; omega) (zcV h cs n r hr)
 | .key k :: cs, n + 1, r, hr => by
  rw [zf4] at hr
  obtain ⟨h0, hr⟩ := zeu hr
  have h0 := Nat.le_of_ble_eq_true h0
  exact zjq (c := .key k) (by show 32 ≤ n + 1; omega) (by show zeK _ (n + 1 - 32) = _; rw [show n + 1 - 32 = n - 31 by omega]; exact zcV h cs _ r hr)
 | .row m f :: cs, n + 1, r, hr => by
  rw [zf4] at hr
  obtain ⟨h0, hr⟩ := zeu hr
  exact zjq (c := .row m f) (Nat.le_of_ble_eq_true h0) (zcV h cs _ r hr)
theorem zft (h : Hn) {cs r : List SC} {off n : Nat} (hr : zqm cs off n = some r) : zgN (zay h cs) off n = some (zay h r) := by
 unfold zqm at hr
 unfold zgN
 cases hq : zf4 cs off with
 | none => rw [hq] at hr; cases hr
 | some d => rw [hq] at hr; rw [zcV h cs off d hq]; exact zfs h d n r hr
theorem zev (h : Hn) : ∀ (cs : List SC) (off n : Nat) (new r : List SC), zeL new = n → zq5 cs off n new = some r → ziD (zay h cs) off (zay h new) = some (zay h r)
 | cs, 0, n, new, r, hn, hr => by
  rw [zq5] at hr
  rw [ziD, za6, hn]
  cases hq : zf4 cs n with
  | none => rw [hq] at hr; cases hr
  | some d =>
   rw [hq] at hr
   simp only [zrB] at hr
   rw [zcV h cs _ d hq]
   show zCm _ _ = _
   rw [zri, ← Option.some.inj hr, zgZ]
 | [], off + 1, n, new, r, hn, hr => by cases hr
 | .one x :: cs, off + 1, n, new, r, hn, hr => by
  rw [zq5] at hr
  obtain ⟨d, h1, rfl⟩ := zet hr
  exact zne (c := .one (x.den h)) (by show 1 ≤ off + 1; omega) (zev h cs off n new d hn h1)
 | .key k :: cs, off + 1, n, new, r, hn, hr => by
  rw [zq5] at hr
  obtain ⟨h0, hr⟩ := zeu hr
  have h0 := Nat.le_of_ble_eq_true h0
  obtain ⟨d, h1, rfl⟩ := zet hr
  exact zne (c := .key k) (by show 32 ≤ off + 1; omega) (by show ziD _ (off + 1 - 32) _ = _; rw [show off + 1 - 32 = off - 31 by omega]; exact zev h cs _ n new d hn h1)
 | .row m f :: cs, off + 1, n, new, r, hn, hr => by
  rw [zq5] at hr
  obtain ⟨h0, hr⟩ := zeu hr
  obtain ⟨d, h1, rfl⟩ := zet hr
  exact zne (c := .row m f) (Nat.le_of_ble_eq_true h0) (zev h cs _ n new d hn h1)
structure Sp (X : List Nat) (w : World) (L : List Res) (R : List (World → Prop)) : Prop where
 xlt : ∀ k ∈ X, k < w.heap.size
 holds : ∀ q ∈ L, q.holds w
 apart : (zab L).Nodup
 xap : ∀ k ∈ zab L, k ∉ X
 facts : ∀ r ∈ R, St r w (X ++ zab L)
section
variable {X : List Nat} {w w' : World} {L L' L1 : List Res} {R R' R1 : List (World → Prop)} {q q' : Res} {r : World → Prop}
theorem Sp.lt (h : Sp X w L R) : ∀ k ∈ zab L, k < w.heap.size := fun k hk => by
 obtain ⟨q, hq, hk⟩ := zbC.1 hk
 exact zfp (h.holds q hq) k hk
theorem Sp.xk (h : Sp X w L R) : ∀ k ∈ X ++ zab L, k < w.heap.size := fun k hk => by
 rcases List.mem_append.1 hk with h1 | h1
 ·exact h.xlt k h1
 ·exact h.lt k h1
theorem Sp.fact (h : Sp X w L R) (i : Nat) (hi : R[i]? = some r) : St r w (X ++ zab L) := h.facts r (List.mem_of_getElem? hi)
theorem Sp.sep (h : Sp X w L R) : Sep X (zab L) w w L R := ⟨Frm.refl _ _, h.xlt, h.holds, h.apart, fun k hk => .inl hk, h.facts⟩
theorem Sp.of_sep {G : List Nat} {w0 : World} (h : Sep X G w0 w L R) (hG : ∀ k ∈ zab L, k ∉ X) : Sp X w L R := ⟨fun k hk => jT (h.xlt k hk) h.frm.size, h.holds, h.apart, hG, h.facts⟩
theorem Sp.call (h : Sp X w L R) (h1 : Sep (X ++ zab L) [] w w' L1 R1) : Sp X w' (L ++ L1) (R1 ++ R) := by
 have h2 := h.sep.call h1
 have h3 : Sep X (zab L) w w' (L ++ L1) (R1 ++ R) := h2.perm List.perm_append_comm
 refine Sp.of_sep h3 fun k hk => ?_
 rw [zag] at hk
 rcases List.mem_append.1 hk with h4 | h4
 ·exact h.xap k h4
 ·rcases h1.mine k h4 with h5 | h5
  ·cases h5
  ·intro hx
   have := h.xlt k hx
   omega
theorem Sp.grow (h : Sp X w L R) (hb : Frm [] w w') : Sp X w' L R := Sp.of_sep (h.sep.grow hb) h.xap
theorem Sp.drew (h : Sp X w L R) : Sp X w.drew L R := Sp.of_sep h.sep.drew h.xap
theorem Sp.popL (h : Sp X w (q :: L) R) : Sp X w L R := Sp.of_sep h.sep.popL fun k hk => h.xap k (List.mem_append_right _ hk)
theorem Sp.refacts (h : Sp X w L R) (hf : ∀ r ∈ R', St r w (X ++ zab L)) : Sp X w L R' := ⟨h.xlt, h.holds, h.apart, h.xap, hf⟩
theorem Sp.sub (h : Sp X w L R) (hf : ∀ r ∈ R', r ∈ R) : Sp X w L R' := h.refacts fun r hr => h.facts r (hf r hr)
theorem Sp.perm (h : Sp X w L R) (hp : L.Perm L') : Sp X w L' R := Sp.of_sep (h.sep.perm hp) fun k hk => h.xap k ((zar hp).mem_iff.2 hk)
theorem Sp.turnAt (h : Sp X w L R) (i : Nat) (hi : L[i]? = some q) (hb : Frm q.keys w w') (hq : q'.holds w') (hk : ∀ k ∈ q'.keys, k ∈ q.keys ∨ w.heap.size ≤ k) (hnd : q'.keys.Nodup) (hL : L.set i q' = L') : Sp X w' L' R ∧ ∀ k ∈ zab L', k ∈ zab L ∨ w.heap.size ≤ k := by
 have h1 := h.sep.turnAt i hi hb hq hk hnd hL
 refine ⟨Sp.of_sep h1 fun k hk' => ?_, fun k hk' => h1.mine k hk'⟩
 rcases h1.mine k hk' with h2 | h2
 ·exact h.xap k h2
 ·intro hx
  have := h.xlt k hx
  omega
theorem Sp.know (h : Sp X w L R) (hr : St r w (X ++ zab L)) : Sp X w L (r :: R) := h.refacts fun r' hr' => by
 rcases List.mem_cons.1 hr' with rfl | hr'
 ·exact hr
 ·exact h.facts r' hr'
theorem Sp.freeze (h : Sp X w (q :: L) R) : Sp X w L ((fun w => q.holds w) :: R) := by
 refine h.popL.know fun w' hk => zbo (h.holds q (List.mem_cons_self ..)) fun k hq => hk k (zfp (h.holds q (List.mem_cons_self ..)) k hq) fun hm => ?_
 rcases List.mem_append.1 hm with h1 | h1
 ·exact h.xap k (List.mem_append_left _ hq) h1
 ·exact (List.nodup_append.1 h.apart).2.2 k hq k h1 rfl
theorem Sp.at_ (h : Sp X w L R) (i : Nat) (q : Res) (hq : L[i]? = some q) : Sp X w (q :: L.eraseIdx i) R := by
 have h1 := h.sep.at_ i q hq
 refine Sp.of_sep h1 fun k hk => ?_
 rcases h1.mine k hk with h2 | h2
 ·exact h.xap k h2
 ·intro hx; have := h.xlt k hx; omega
end
end
section
open Go.RowKit
section
variable {P : Program} {o : Oper} {a : Act} {w ws : World} {Q : Exit → Act → World → Prop} {N d : Nat} {l : List (Nat × Value)} {v : Value} {S : Nat → Prop} {K : Act → World → Prop}
 {X G : List Nat} {w0 : World} {L L' : List Res} {R : List (World → Prop)}
theorem zd0 {j : Int} {b y : Nat} {code : BoundsCode} (hj : j = (b : Int)) (hb : b ≤ y) : (Instr.sliceBound (.int .i64 j) y code).run P w = .ok b w := by
 subst hj
 unfold Instr.sliceBound
 simp [asIntOf, hb]
def ziF (A : Option Addr) (sz lo hi mx : Nat) : Value := .slice (if mx = lo then A else A.map (·.add (lo * sz))) (hi - lo) (mx - lo)
theorem zxU {t e sz : Nat} {A : Option Addr} {n c lo hi mx : Nat} {vl vh vm : Option Value} (ht : P.underlying t = some (.slice e)) (hs : (P.info? e).map (·.size) = some sz) (hb : (Instr.sliceBounds true n c vl vh vm).run P w = .ok (lo, hi, mx) w) :
  (Instr.sliceAt t (.slice A n c) vl vh vm).run P w = .ok (ziF A sz lo hi mx) w := by
 unfold Instr.sliceAt
 rw [Sem.run_bind, run_underlying ht]
 simp only [Result.andThen_ok]
 unfold Instr.slice
 rw [Sem.run_bind, run_underlying ht]
 simp only [Result.andThen_ok, Sem.run_bind, hb, za1 hs]
 rfl
theorem zrC {t sz : Nat} {A : Option Addr} {n c lo hi mx : Nat} {x : Operand} {ol oh om : Option Operand} (ho : o.op = .slice t x ol oh om) (ht : elK P t = some sz) (hx : ev l x = some (.slice A n c))
  (hb : ∀ a N w, Env a N l → (Instr.sliceBounds true n c (ol.map a.eval) (oh.map a.eval) (om.map a.eval)).run P w = .ok (lo, hi, mx) w) : PK P S ws l o (ziF A sz lo hi mx) := fun w' _ a N E => by
 obtain ⟨e, h1, h2⟩ := zom ht
 unfold execOp
 rw [ho]
 simp only [E.ev hx, Sem.run_bind, zxU h1 h2 (hb a N w' E), Result.andThen_ok, Sem.run_pure]
theorem zkz {t sz : Nat} {A : Option Addr} {n c hi : Nat} {x xh : Operand} {j : Int} (ho : o.op = .slice t x none (some xh) none) (ht : elK P t = some sz) (hx : ev l x = some (.slice A n c)) (hh : ev l xh = some (.int .i64 j)) (hj : j = (hi : Int)) (hc : hi ≤ c) : PK P S ws l o (ziF A sz 0 hi c) :=
 zrC ho ht hx fun a N w E => by
  unfold Instr.sliceBounds
  simp [E.ev hh, zd0 hj hc, Sem.run_bind]
theorem zhA {t sz : Nat} {A : Option Addr} {n c lo : Nat} {x xl : Operand} {j : Int} (ho : o.op = .slice t x (some xl) none none) (ht : elK P t = some sz) (hx : ev l x = some (.slice A n c)) (hl : ev l xl = some (.int .i64 j)) (hj : j = (lo : Int)) (hc : lo ≤ n) : PK P S ws l o (ziF A sz lo n c) :=
 zrC ho ht hx fun a N w E => by
  unfold Instr.sliceBounds
  simp [E.ev hl, zd0 hj hc, Sem.run_bind]
theorem sub_zero (A : Option Addr) (sz hi c : Nat) : ziF A sz 0 hi c = .slice A hi c := by
 unfold ziF
 have : (A.map fun x => x.add (0 * sz)) = A := by cases A <;> simp [zau]
 rw [this]
 simp
end
end
section
open Go.RowKit
def zgx (x y : Nat) : Nat := (x + y) % 4294967296
def zq6 (x y : Nat) : Nat := (x % 4294967296) ^^^ (y % 4294967296)
def zu2 (x y : Nat) : Nat := (x % 4294967296) &&& (y % 4294967296)
def orW (x y : Nat) : Nat := (x % 4294967296) ||| (y % 4294967296)
def zAr (x k : Nat) : Nat := (x * 2 ^ (min k 32)) % 4294967296
def zxV (x k : Nat) : Nat := x / 2 ^ (min k 32)
abbrev u32 (x : Nat) : Value := .int .u32 ((x : Nat) : Int)
theorem zf5 (z : Nat) : IntKind.u32.wrap (z : Int) = ((z % 4294967296 : Nat) : Int) := by
 have e : IntKind.u32.wrap (z : Int) = (z : Int) % 4294967296 := by simp [IntKind.wrap, IntKind.bits, IntKind.signed]
 rw [e]; omega
theorem zAP (z : Nat) : IntKind.u8.wrap (z : Int) = ((z % 256 : Nat) : Int) := by
 have e : IntKind.u8.wrap (z : Int) = (z : Int) % 256 := by simp [IntKind.wrap, IntKind.bits, IntKind.signed]
 rw [e]; omega
theorem znf (z : Nat) : IntKind.u64.wrap (z : Int) = ((z % 18446744073709551616 : Nat) : Int) := by
 have e : IntKind.u64.wrap (z : Int) = (z : Int) % 18446744073709551616 := by simp [IntKind.wrap, IntKind.bits, IntKind.signed]
 rw [e]; omega
theorem zAs (x : Nat) : (BitVec.ofInt 32 (x : Int)).toNat = x % 4294967296 := by
 rw [BitVec.toNat_ofInt]; omega
theorem bv8 (x : Nat) : (BitVec.ofInt 8 (x : Int)).toNat = x % 256 := by
 rw [BitVec.toNat_ofInt]; omega
theorem zCI (m n : Nat) : IntKind.u32.wrap (((BitVec.ofInt 32 (m : Int) ^^^ BitVec.ofInt 32 (n : Int)).toNat : Nat) : Int) = ((zq6 m n : Nat) : Int) := by
 have h : (m % 4294967296) ^^^ (n % 4294967296) < 2 ^ 32 := Nat.xor_lt_two_pow (by omega) (by omega)
 rw [zf5, BitVec.toNat_xor, zAs, zAs, Nat.mod_eq_of_lt h]
 rfl
theorem zCJ (m n : Nat) : IntKind.u32.wrap (((BitVec.ofInt 32 (m : Int) &&& BitVec.ofInt 32 (n : Int)).toNat : Nat) : Int) = ((zu2 m n : Nat) : Int) := by
 have h : (m % 4294967296) &&& (n % 4294967296) < 2 ^ 32 := Nat.and_lt_two_pow _ (by omega)
 rw [zf5, BitVec.toNat_and, zAs, zAs, Nat.mod_eq_of_lt h]
 rfl
theorem zDO (m n : Nat) : IntKind.u32.wrap (((BitVec.ofInt 32 (m : Int) ||| BitVec.ofInt 32 (n : Int)).toNat : Nat) : Int) = ((orW m n : Nat) : Int) := by
 have h : (m % 4294967296) ||| (n % 4294967296) < 2 ^ 32 := Nat.or_lt_two_pow (by omega) (by omega)
 rw [zf5, BitVec.toNat_or, zAs, zAs, Nat.mod_eq_of_lt h]
 rfl
theorem zDP (m n : Nat) : IntKind.u8.wrap (((BitVec.ofInt 8 (m : Int) ^^^ BitVec.ofInt 8 (n : Int)).toNat : Nat) : Int) = (((m % 256) ^^^ (n % 256) : Nat) : Int) := by
 have h : (m % 256) ^^^ (n % 256) < 2 ^ 8 := Nat.xor_lt_two_pow (by omega) (by omega)
 rw [zAP, BitVec.toNat_xor, bv8, bv8, Nat.mod_eq_of_lt h]
theorem zxX (x n : Nat) : ((x : Int)).fdiv ((2 : Int) ^ n) = ((x / 2 ^ n : Nat) : Int) := by
 rw [Int.fdiv_eq_ediv_of_nonneg _ (Int.le_of_lt (Int.pow_pos (by decide)))]
 norm_cast
section
variable {P : Program} {o : Oper} {ws : World} {l : List (Nat × Value)} {S : Nat → Prop} {t u : TypeId} {x y : Operand} {m n : Nat}
theorem zew {ad : Addr} (ho : o.op = .nilCheck x) (hx : ev l x = some (.pointer (some ad))) : PK P S ws l o (.pointer (some ad)) := fun w' _ a N E => by
 unfold execOp; rw [ho]; simp only [E.ev hx]; rfl
def arK (P : Program) (t : TypeId) : Option (Nat × Nat) := match P.underlying t with | some (.array n e) => (P.info? e).map fun i => (n, i.size) | _ => none
theorem zkA {n sz : Nat} (h : arK P t = some (n, sz)) : ∃ e, P.underlying t = some (.array n e) ∧ (P.info? e).map (·.size) = some sz := by
 unfold arK at h
 split at h
 ·rename_i n' e he
  rw [Option.map_eq_some_iff] at h
  obtain ⟨i, hi, h⟩ := h
  injection h with h1 h2
  subst h1
  exact ⟨e, he, by rw [hi]; exact congrArg some h2⟩
 ·cases h
theorem zw1 {sz N i : Nat} {ad : Addr} {j : Int} {k : IntKind} (ho : o.op = .indexAddr t x y) (ht : arK P t = some (N, sz)) (hx : ev l x = some (.pointer (some ad))) (hy : ev l y = some (.int k j)) (hj : j = (i : Int)) (hi : i < N) : PK P S ws l o (.pointer (some (ad.add (i * sz)))) := fun w' _ a _ E => by
 obtain ⟨e, h1, h2⟩ := zkA ht
 subst hj
 have h3 : (0 : Int) ≤ (i : Int) ∧ (i : Int) < (N : Int) := by omega
 unfold execOp
 rw [ho]
 simp only [E.ev hx, E.ev hy, Instr.indexAt, asIntOf, Sem.run_bind, Sem.run_pure, Result.andThen_ok, run_underlying h1, Instr.sureAddr, za1 h2, h3, and_self, if_true, Int.toNat_natCast]
def zxY (P : Program) (t : TypeId) : Option Nat := match P.underlying t with | some (.array n e) => (match tyK P e with | some (1, false) => some n | _ => none) | _ => none
theorem zxZ {n : Nat} (h : zxY P t = some n) : ∃ e, P.underlying t = some (.array n e) ∧ tyK P e = some (1, false) := by
 unfold zxY at h
 split at h
 ·rename_i n' e he
  split at h
  ·rename_i h2
   injection h with h
   subst h
   exact ⟨e, he, h2⟩
  ·cases h
 ·cases h
theorem zoy {N i : Nat} {f : Nat → Value} {j : Int} {k : IntKind} (ho : o.op = .index t x y) (ht : zxY P t = some N) (hx : ev l x = some (.agg (ca [.row N f]))) (hy : ev l y = some (.int k j)) (hj : j = (i : Int)) (hi : i < N) : PK P S ws l o (f i) := fun w' _ a _ E => by
 obtain ⟨e, h1', h2⟩ := zxZ ht
 subst hj
 have h3 : (0 : Int) ≤ (i : Int) ∧ (i : Int) < (N : Int) := by omega
 obtain ⟨d, h4, h5, h6⟩ := zkw h2
 have hc : (ca [.row N f])[i]? = some (f i) := by simp [ca, cl, Chunk.cells, hi]
 have hagg : (isAgg e).run P w' = .ok false w' := by
  unfold isAgg
  simp only [Sem.run_bind, run_underlying h4, Result.andThen_ok]
  cases d <;> first | rfl | (simp at h5; done)
 have hpart : (part e (ca [.row N f]) (i * 1)).run P w' = .ok (f i) w' := by
  unfold part
  simp only [Sem.run_bind, hagg, Result.andThen_ok, Nat.mul_one, hc]
  rfl
 unfold execOp
 rw [ho]
 simp only [E.ev hx, E.ev hy, Instr.index, asIntOf, Sem.run_bind, Sem.run_pure, Result.andThen_ok, run_underlying h1', za1 h6, h3, and_self, if_true, Int.toNat_natCast, hpart]
theorem zng {N sz : Nat} {ad : Addr} (ho : o.op = .slice t x none none none) (ht : arK P t = some (N, sz)) (hx : ev l x = some (.pointer (some ad))) : PK P S ws l o (.slice (some ad) N N) := fun w' _ a _ E => by
 obtain ⟨e, h1, h2⟩ := zkA ht
 unfold execOp
 rw [ho]
 simp only [E.ev hx, Instr.sliceAt, Instr.sliceBounds, Instr.sureAddr, Option.map_none, Sem.run_bind, Sem.run_pure, Result.andThen_ok, run_underlying h1, za1 h2, Nat.zero_mul, zau, ite_self, Nat.sub_zero]
theorem zu3 {N sz lo : Nat} {ad : Addr} {j : Int} (ho : o.op = .slice t x (some y) none none) (ht : arK P t = some (N, sz)) (hx : ev l x = some (.pointer (some ad))) (hy : ev l y = some (.int .i64 j)) (hj : j = (lo : Int)) (hlo : lo < N) : PK P S ws l o (.slice (some (ad.add (lo * sz))) (N - lo) (N - lo)) := fun w' _ a _ E => by
 obtain ⟨e, h1, h2⟩ := zkA ht
 unfold execOp
 rw [ho]
 simp only [E.ev hx, E.ev hy, Instr.sliceAt, Instr.sliceBounds, Instr.sureAddr, Option.map_none, Option.map_some, Sem.run_bind, Sem.run_pure, Result.andThen_ok, run_underlying h1, za1 h2, zd0 hj (show lo ≤ N by omega), if_neg (show ¬ N = lo by omega)]
end
section
variable {P : Program} {o : Oper} {a : Act} {w ws : World} {Q : Exit → Act → World → Prop} {N d : Nat} {l : List (Nat × Value)} {v : Value} {S : Nat → Prop} {K : Act → World → Prop}
 {X G : List Nat} {w0 : World} {L L' : List Res} {R : List (World → Prop)}
end
end
section
open Go.RowKit
theorem zu4 (n : Nat) : madeCells #[Value.int .u8 0] n = ca [.row n fun _ => bv 0] := by
 apply Array.ext_getElem?
 intro i
 by_cases hi : i < n
 ·simp [madeCells, hi, Nat.mod_one, ca, cl, Chunk.cells, bv]
 ·rw [Array.getElem?_eq_none (by rw [size_madeCells]; omega), Array.getElem?_eq_none (by rw [zcx]; simp [zc3, Chunk.len]; omega)]
section
variable {P : Program} {o : Oper} {a : Act} {w ws : World} {Q : Exit → Act → World → Prop} {N d : Nat} {l : List (Nat × Value)} {v : Value} {S : Nat → Prop} {K : Act → World → Prop}
 {X G : List Nat} {w0 w1 : World} {L L' L1 L2 : List Res} {R R1 : List (World → Prop)} {q q1 q2 : Res}
theorem zoz {t e : TypeId} {x y : Operand} {n c : Nat} {i j : Int} (E : Env a N l) (H : Sep X G w0 w L R) (ho : o.op = .makeSlice t x y) (hT : ByteT P t e) (hx : ev l x = some (.int .i64 i)) (hy : ev l y = some (.int .i64 j)) (hi : i = (n : Int)) (hj : j = (c : Int)) (hnc : n ≤ c) (hc : c ≤ 140737488355328)
  (h : ∀ b w', Sep X G w0 w' (.blk b (ca [.row c fun _ => bv 0]) e :: L) R → Frm [] w w' → K (a.put o.dst (.slice (some ⟨b, 0, none⟩) n c)) w') : o.wp P a w K Q := by
 subst hi hj
 have hinfo := hT.info
 obtain ⟨ti, hti, hz⟩ := Option.map_eq_some_iff.1 hinfo
 simp only [Prod.mk.injEq] at hz
 obtain ⟨hz1, hz2, hz3⟩ := hz
 have hr := run_make (P := P) w t e ti _ hT.sl hti hz1 .i64 .i64 n c (by omega) (by omega) (by rw [hz3]; omega) (by omega)
 simp only [Int.toNat_natCast, hz2, Nat.mul_one] at hr
 have e1 : madeCells (Value.int .u8 0).cells c = ca [.row c fun _ => bv 0] := zu4 c
 rw [e1] at hr
 have hf : Frm [] w (w.alloc (.cells (ca [.row c fun _ => bv 0]) e)) := Frm.of_below ((Below.refl _ _).alloc (jV _) _)
 unfold Oper.wp execOp
 simp only [ho, E.ev hx, E.ev hy, Sem.run_bind, hr, Result.andThen_ok, Sem.run_pure]
 exact h w.heap.size _ (H.own hf (heap_alloc_new w _) (by simp [Res.keys]) (by simp [Res.keys])) hf
theorem zoA {dT sT b t off dn dc n c m : Nat} {cs cs' : List Chunk} {news : List Value} {A : Option Addr} {x y : Operand} {pa : Addr} (i : Nat) (E : Env a N l) (H : Sep X G w0 w L R) (ho : o.op = .call { callee := .builtin .copy, args := #[x, y], argTypes := #[dT, sT] })
  (hx : ev l x = some (.slice (some pa) dn dc)) (hpa : pa = ⟨b, off, none⟩) (hy : ev l y = some (.slice A n c)) (hT : elK P dT = some 1) (hi : L[i]? = some (.blk b (ca cs) t)) (hm : m = min n dn) (hnew : news.length = m) (hnil : A = none → n = 0)
  (hsrc : ∀ ad, A = some ad → ∀ j u, news[j]? = some u → w.cell? (ad.add j) = some u) (h1 : ∀ u ∈ news, u.oneCell' = true) (hcl : cl cs' = (cl cs).take off ++ news ++ (cl cs).drop (off + m)) (hfit : off + m ≤ zc3 cs)
  (hL : L.set i (.blk b (ca cs') t) = L') (h : ∀ w', Sep X G w0 w' L' R → Frm [b] w w' → K (a.put o.dst (.int .i64 m)) w') : o.wp P a w K Q := by
 subst hpa
 obtain ⟨e, he, hs⟩ := zom hT
 have hb : w.heap[b]? = some (.cells (ca cs) t (0, 0)) := H.holds _ (List.mem_of_getElem? hi)
 have fin : ∀ w', (Builtin.copy_ #[dT, sT] o.type #[.slice (some ⟨b, off, none⟩) dn dc, .slice A n c]).run P w = .ok (goInt m) w' → w'.heap[b]? = some (.cells (ca cs') t (0, 0)) → Frm [b] w w' → o.wp P a w K Q := fun w' hr hw hf => by
  unfold Oper.wp execOp
  simp only [ho, resolve, invoke, builtin, Sem.run_bind, Sem.run_pure, Result.andThen_ok, List.map_toArray, List.map_cons, List.map_nil, E.ev hx, E.ev hy, hr]
  exact h w' (H.turnAt (q' := .blk b (ca cs') t) i hi hf hw (by simp [Res.keys]) (by simp [Res.keys]) hL) hf
 by_cases h0 : m = 0
 ·subst h0
  obtain rfl : news = [] := List.eq_nil_of_length_eq_zero hnew
  have hce : ca cs' = ca cs := by unfold ca; rw [hcl]; simp
  refine fin w ?_ (by rw [hce]; exact hb) (Frm.refl _ _)
  exact run_copy_none (P := P) w dT sT o.type e _ A dn dc n c he hs hm.symm
 ·cases A with
  | none => have := hnil rfl; omega
  | some ad =>
   have hr := run_copy_row P w dT sT o.type e b off dn dc ad n c (ca cs) t news he hs hb (by rw [hnew, hm]) (hsrc ad rfl) (by rw [zcx, hnew]; exact hfit) h1
   rw [hnew] at hr
   have e1 : ((ca cs).toList.take off ++ news ++ (ca cs).toList.drop (off + m)).toArray = ca cs' := by unfold ca; rw [hcl]
   rw [e1] at hr
   exact fin _ hr (zaz hb) (zbZ b _ w)
theorem zhB {A : Option Addr} {c : Nat} {k : List Nat} {m : Nat} (h : TxF A c k w) : ∀ ad, A = some ad → ∀ j u, ((k.take m).map bv)[j]? = some u → w.cell? (ad.add j) = some u := fun ad hA j u hu => by
 rw [List.getElem?_map, Option.map_eq_some_iff] at hu
 obtain ⟨x, hx, rfl⟩ := hu
 exact h.at_ ad hA j x (by
  have := (List.getElem?_eq_some_iff.1 hx).1
  rw [List.length_take] at this
  rwa [List.getElem?_take_of_lt (by omega)] at hx)
theorem zu5 {k m : List Nat} (h : k.length + m.length ≤ 32) : zf2 (k ++ m) = (zf2 k).take k.length ++ m.map bv ++ (zf2 k).drop (k.length + m.length) := by
 have hl : (zf2 k).length = 32 := by simp [zf2]
 have at_ : ∀ (z : List Nat) (i : Nat), i < 32 → (zf2 z)[i]? = some (bv (z.getD i 0)) := fun z i hi => by simp [zf2, hi]
 apply List.ext_getElem?
 intro i
 by_cases hi : i < 32
 ·rw [at_ _ i hi]
  rcases Nat.lt_or_ge i k.length with h1 | h1
  ·rw [List.append_assoc, List.getElem?_append_left (by rw [List.length_take, hl]; omega), List.getElem?_take_of_lt h1, at_ _ i hi]
   simp [jR, List.getElem?_append_left h1]
  ·rcases Nat.lt_or_ge i (k.length + m.length) with h2 | h2
   ·rw [List.getElem?_append_left (by rw [jQ, List.length_take, hl, List.length_map]; omega), List.getElem?_append_right (by rw [List.length_take, hl]; omega), List.length_take, hl, Nat.min_eq_left (by omega), List.getElem?_map, jP (by omega)]
    simp [jR, List.getElem?_append_right h1, jP (show i - k.length < m.length by omega)]
   ·rw [List.getElem?_append_right (by rw [jQ, List.length_take, hl, List.length_map]; omega), List.getElem?_drop]
    have e1 : ((zf2 k).take k.length ++ m.map bv).length = k.length + m.length := by rw [jQ, List.length_take, hl, List.length_map]; omega
    rw [e1, show k.length + m.length + (i - (k.length + m.length)) = i by omega, at_ _ i hi]
    simp [jR, List.getElem?_append_right h1, List.getElem?_eq_none h1, List.getElem?_eq_none (show m.length ≤ i - k.length by omega)]
 ·rw [List.getElem?_eq_none (by simp [zf2]; omega), List.getElem?_eq_none (by simp only [jQ, List.length_take, List.length_drop, hl, List.length_map]; omega)]
theorem Sep.rowOf {b e n c : Nat} {f : Nat → Value} (H : Sep X G w0 w (.blk b (ca [.row c f]) e :: L) R) (hn : n ≤ c) (hc : c ≤ 140737488355328) : Sep X G w0 w (.row (.slice (some ⟨b, 0, none⟩) n c) e 1 n ((List.range n).map f) :: L) R :=
 H.turn (Frm.refl _ _) ⟨by simp, .inr ⟨b, c, _, rfl, Nat.zero_le _, H.holds _ (List.mem_cons_self ..), hn, by unfold maxLen; omega, by rw [zcx]; simp [zc3, Chunk.len], by
  simp only [ca, cl, Chunk.cells, List.append_nil, Nat.mul_one]
  rw [← List.map_take, List.take_range, Nat.min_eq_left hn]⟩⟩ (fun k hk => .inl (by simpa [Res.keys, Value.ownBlock] using hk)) (by simp [Res.keys, Value.ownBlock])
theorem zhC {ad : Addr} {cs : List Chunk} {k : List Nat} {c : Nat} {Y : List Nat} (h : St (AtC ad cs) w Y) (hl : cl cs = k.map bv) (hc : k.length ≤ c) (hn : k.length ≤ 140737488355328) (hb : ∀ x ∈ k, x < 256) : St (TxF (some ad) c k) w Y := fun w' hk => ⟨hc, hn, hb, fun h => (by cases h), fun ad' e i x hx => by
 obtain rfl := Option.some.inj e
 refine h w' hk i (bv x) ?_
 rw [hl, List.getElem?_map, hx]
 rfl⟩
def zc4 (k : List Nat) : List Nat := (List.range 32).map fun i => k.getD i 0
theorem zoB (k : List Nat) : (zc4 k).length = 32 := by simp [zc4]
theorem zoC (k : List Nat) : cl [.key k] = (zc4 k).map bv := by simp [cl, Chunk.cells, zf2, zc4, Function.comp_def]
theorem zhD {k : List Nat} (h : k.length = 32) : zc4 k = k := by
 apply List.ext_getElem?
 intro i
 by_cases hi : i < 32
 ·simp [zc4, hi, jR, jP (show i < k.length by omega)]
 ·rw [List.getElem?_eq_none (by rw [zoB]; omega), List.getElem?_eq_none (by omega)]
theorem Sep.giveA (H : Sep X G w0 w (L1 ++ L) R) : Sep (X ++ zab L) (zab L1) w w L1 R :=
 ⟨Frm.refl _ _, fun k hk => by
  rcases List.mem_append.1 hk with h | h
  ·exact jT (H.xlt k h) H.frm.size
  ·exact H.lt k (by rw [zag]; exact List.mem_append_right _ h), fun r hr => H.holds _ (List.mem_append_left _ hr), by
   have := H.apart
   rw [zag] at this
   exact (List.nodup_append.1 this).1, fun k hk => .inl hk, fun r hr => (H.facts r hr).mono fun k hk => by
   rw [zag]
   simp only [List.mem_append] at hk ⊢
   rcases hk with (h | h) | h
   ·exact .inl h
   ·exact .inr (.inr h)
   ·exact .inr (.inl h)⟩
theorem Sep.callA (H : Sep X G w0 w (L1 ++ L) R) (H1 : Sep (X ++ zab L) (zab L1) w w1 L2 R1) : Sep X G w0 w1 (L2 ++ L) (R1 ++ R) := by
 have hap : (zab L1 ++ zab L).Nodup := by rw [← zag]; exact H.apart
 have hap := List.nodup_append.1 hap
 have hs := H.frm.size
 have hm : ∀ k ∈ zab L1, k ∈ zab (L1 ++ L) := fun k hk => by rw [zag]; exact List.mem_append_left _ hk
 have hm2 : ∀ k ∈ zab L, k ∈ zab (L1 ++ L) := fun k hk => by rw [zag]; exact List.mem_append_right _ hk
 have keep : ∀ k ∈ zab L, w1.heap[k]? = w.heap[k]? := fun k hk => H1.frm.block k (H.lt k (hm2 k hk)) fun hm => hap.2.2 k hm k hk rfl
 refine ⟨H.frm.trans H1.frm fun k hk => H.mine k (hm k hk), H.xlt, fun r hr => ?_, ?_, fun k hk => ?_, fun r hr => ?_⟩
 ·rcases List.mem_append.1 hr with h | h
  ·exact H1.holds r h
  ·exact zbo (H.holds r (List.mem_append_right _ h)) fun k hk => keep k (zbC.2 ⟨r, h, hk⟩)
 ·rw [zag]
  refine List.nodup_append.2 ⟨H1.apart, hap.2.1, fun a ha b hb e => ?_⟩
  subst e
  rcases H1.mine a ha with h | h
  ·exact hap.2.2 a h a hb rfl
  ·have := H.lt a (hm2 a hb)
   omega
 ·rw [zag] at hk
  rcases List.mem_append.1 hk with h | h
  ·rcases H1.mine k h with h2 | h2
   ·exact H.mine k (hm k h2)
   ·exact .inr (jU hs h2)
  ·exact H.mine k (hm2 k h)
 ·rw [zag]
  rcases List.mem_append.1 hr with h | h
  ·refine (H1.facts r h).mono fun k hk => ?_
   simp only [List.mem_append] at hk ⊢
   rcases hk with h3 | h3 | h3
   ·exact .inl (.inl h3)
   ·exact .inr h3
   ·exact .inl (.inr h3)
  ·refine (H.facts r h).step H1.frm.size (fun k hk hn => H1.frm.block k hk fun hmm => hn (List.mem_append_right _ (hm k hmm))) fun k hk => ?_
   simp only [List.mem_append] at hk
   rcases hk with h3 | h3 | h3
   ·exact .inl (List.mem_append_left _ h3)
   ·rcases H1.mine k h3 with h4 | h4
    ·exact .inl (List.mem_append_right _ (hm k h4))
    ·exact .inr h4
   ·exact .inl (List.mem_append_right _ (hm2 k h3))
theorem Sep.freezeX (h : Sep X G w0 w (q :: L) R) (hG : ∀ k ∈ q.keys, k ∉ X) : Sep X G w0 w L ((fun w => q.holds w) :: R) := by
 refine h.popL.know fun w' hk => zbo (h.holds q (List.mem_cons_self ..)) fun k hq => hk k (zfp (h.holds q (List.mem_cons_self ..)) k hq) fun hm => ?_
 rcases List.mem_append.1 hm with h1 | h1
 ·exact hG k hq h1
 ·exact (List.nodup_append.1 h.apart).2.2 k hq k h1 rfl
theorem Sep.rowTx {e c : Nat} {A : Option Addr} {k : List Nat} (H : Sep X G w0 w (.row (.slice A k.length c) e 1 k.length (k.map bv) :: L) R) (hX : ∀ i ∈ (Res.row (.slice A k.length c) e 1 k.length (k.map bv)).keys, i ∉ X) (hl : k.length ≤ 140737488355328) (hb : ∀ x ∈ k, x < 256) : Sep X G w0 w L (TxF A c k :: R) := by
 have hf := H.freezeX hX
 obtain ⟨A', c', h1, h2⟩ := zxO (e := e) (v := .slice A k.length c) (hf.facts _ (List.mem_cons_self ..)) hl hb
 injection h1 with h1 _ h3
 subst h1 h3
 exact hf.pop.know h2
theorem Sep.new_x (H : Sep X [] w0 w (q :: L) R) : ∀ k ∈ q.keys, k ∉ X := fun k hk hm => by
 have := H.xlt k hm
 rcases H.mine k (List.mem_append_left _ hk) with h2 | h2
 ·cases h2
 ·omega
theorem znh {e : TypeId} {k : List Nat} {w' : World} (hX : ∀ k ∈ X, k < w0.heap.size) (h : Own w' w0.heap.size e v k) (hb : Below w0.heap.size w0 w') : ∃ A c, v = .slice A k.length c ∧ Sep X [] w0 w' [.row (.slice A k.length c) e 1 k.length (k.map bv)] [] := by
 have hq : w'.ownsRow 0 e 1 v k.length (k.map bv) := h.mono (Nat.zero_le _)
 obtain ⟨A, c, hv, _⟩ := h.txt
 subst hv
 refine ⟨A, c, rfl, (Sep.start hX (R := []) fun _ h => by cases h).own (Frm.of_below hb) hq (fun i hi => ?_) ?_⟩
 ·simp only [Res.keys, Option.mem_toList] at hi
  exact (h.lt i hi).1
 ·cases hq : (Value.slice A k.length c).ownBlock <;> simp [Res.keys, hq]
end
end
section
open Go.RowKit
def zrD (P : Program) (t : TypeId) (k : IntKind) (n : Nat) : Prop := ∃ e, P.underlying t = some (.array n e) ∧ P.underlying e = some (.int k) ∧ (P.info? e).map (·.size) = some 1 ∧ P.eqGuardType P.depth t = false
section
variable {P : Program} {ops : Array Oper} {rest : List Oper} {o : Oper} {a : Act} {w : World} {Q : Exit → Act → World → Prop}
theorem zkB {e : TypeId} {k : IntKind} {n : Nat} {f : Nat → Int} {i : Nat} (he : P.underlying e = some (.int k)) (hi : i < n) : (part e (arr k n f) i).run P w = .ok (.int k (f i)) w := by
 unfold part isAgg
 simp only [Sem.run_bind, run_underlying he, Result.andThen_ok, Sem.run_pure]
 simp only [Bool.false_eq_true, if_false, zhj _ _ _ _ hi]
 rfl
def zd1 (f g : Nat → Int) : Nat → Nat → Bool
 | 0, _ => true
 | m + 1, s => decide (f s = g s) && zd1 f g m (s + 1)
theorem zf6 (f g : Nat → Int) : ∀ m s, zd1 f g m s = true ↔ ∀ i, i < m → f (s + i) = g (s + i)
 | 0, s => by simp [zd1]
 | m + 1, s => by
  simp only [zd1, Bool.and_eq_true, jS, zf6 f g m (s + 1)]
  constructor
  ·rintro ⟨h0, h⟩ i hi
   cases i with
   | zero => simpa using h0
   | succ i => have := h i (by omega); rwa [show s + 1 + i = s + (i + 1) by omega] at this
  ·intro h
   exact ⟨by simpa using h 0 (by omega), fun i hi => by have := h (i + 1) (by omega); rwa [show s + (i + 1) = s + 1 + i by omega] at this⟩
theorem zd2 {d t e : TypeId} {k : IntKind} {n : Nat} {f g : Nat → Int} (ht : P.underlying t = some (.array n e)) (he : P.underlying e = some (.int k)) (hs : (P.info? e).map (·.size) = some 1) :
  (Op.equalIn (d + 2) t (.agg (arr k n f)) (.agg (arr k n g))).run P w = .ok (zd1 f g n 0) w := by
 have hsz : (sizeOf e).run P w = .ok 1 w := by
  cases hq : P.info? e with
  | none => simp [hq] at hs
  | some i =>
   have : i.size = 1 := by simpa [hq] using hs
   simp [sizeOf, typeInfo, hq, this]
 obtain ⟨D, hD⟩ : ∃ D, D = d + 1 := ⟨_, rfl⟩
 rw [show d + 2 = D + 1 from by rw [hD]]
 simp only [Op.equalIn, Sem.run_bind, run_underlying ht, Result.andThen_ok, hsz]
 rw [Std.Legacy.Range.forIn_eq_forIn_range']
 simp only [Std.Legacy.Range.size, Nat.sub_zero, Nat.add_sub_cancel, Nat.div_one]
 have key : ∀ m s, s + m ≤ n → ((forIn (List.range' s m) (none, ()) fun i (_ : Option Bool × Unit) => do
   let x ← part e (arr k n f) (i * 1)
   let y ← part e (arr k n g) (i * 1)
   let r ← Op.equalIn D e x y
   if (!r) = true then pure (ForInStep.done (some false, ())) else pure (ForInStep.yield (none, ())) : Sem (Option Bool × Unit))).run P w = .ok (if zd1 f g m s then none else some false, ()) w := by
  intro m
  induction m with
  | zero => intro s _; simp [zd1]
  | succ m ih =>
   intro s hs
   rw [List.range'_succ, List.forIn_cons]
   simp only [Sem.run_bind, Nat.mul_one, zkB he (show s < n by omega), Result.andThen_ok, hD, run_equalIn_int w d e k k _ _ he]
   by_cases hfg : f s = g s
   ·simp [hfg, zd1]
    have := ih (s + 1) (by omega)
    rw [hD] at this
    simpa using this
   ·simp [hfg, zd1]
 rw [key n 0 (by omega)]
 cases h : zd1 f g n 0 <;> simp
theorem zkC {op : BinOp} {t u : TypeId} {x y : Operand} {k : IntKind} {n : Nat} {f g : Nat → Int} (ho : o.op = .binOp .eql t x y u) (hT : zrD P t k n) (hx : a.eval x = .agg (arr k n f)) (hy : a.eval y = .agg (arr k n g)) :
  (execOp a.eval o).run P w = .ok (.value (.bool (zd1 f g n 0))) w := by
 obtain ⟨e, h1, h2, h3, h4⟩ := hT
 unfold execOp
 simp only [ho, hx, hy, Sem.run_bind, run_eqGuard_agg w _ t x y _ _ h4, Result.andThen_ok, run_eql_struct, zd2 (d := 9998) h1 h2 h3, Sem.run_pure]
theorem zkD {op : BinOp} {t u : TypeId} {x y : Operand} {k : IntKind} {n : Nat} {f g : Nat → Int} (ho : o.op = .binOp .neq t x y u) (hT : zrD P t k n) (hx : a.eval x = .agg (arr k n f)) (hy : a.eval y = .agg (arr k n g)) :
  (execOp a.eval o).run P w = .ok (.value (.bool (!zd1 f g n 0))) w := by
 obtain ⟨e, h1, h2, h3, h4⟩ := hT
 unfold execOp
 simp only [ho, hx, hy, Sem.run_bind, run_eqGuard_agg w _ t x y _ _ h4, Result.andThen_ok, run_neq_struct, zd2 (d := 9998) h1 h2 h3, Sem.run_pure]
end
end
section
open Go.RowKit
theorem zjr (k : List Nat) (j : Nat) (hj : j < 32) : (zc4 k)[j]? = some (k.getD j 0) := by
 unfold zc4
 rw [List.getElem?_map, List.getElem?_range hj]
 rfl
theorem zni {k m : List Nat} : zc4 k = zc4 m ↔ ∀ i, i < 32 → k.getD i 0 = m.getD i 0 := by
 constructor
 ·intro h i hi
  have h1 := zjr k i hi
  rw [h, zjr m i hi] at h1
  exact (Option.some.inj h1).symm
 ·intro h
  unfold zc4
  exact List.map_congr_left fun i hi => h i (List.mem_range.1 hi)
theorem zAQ (n : Nat) (f : Nat → Nat) : arr .u8 n (fun i => ((f i : Nat) : Int)) = ca [.row n fun i => bv (f i)] := by simp [arr, zgI, ca, cl, Chunk.cells, bv]
theorem zcW {x : List Nat} (hx : ∀ z ∈ x, z < 256) (i : Nat) : x.getD i 0 < 256 := by
 rw [jR]
 cases h : x[i]? with
 | none => simp
 | some z => exact hx z (List.mem_of_getElem? h)
theorem zcP (k : List Nat) : ca [.key k] = arr .u8 32 fun i => ((k.getD i 0 : Nat) : Int) := by
 rw [zAQ]
 simp only [ca]
 congr 1
section
variable {P : Program} {o : Oper} {a : Act} {w ws : World} {Q : Exit → Act → World → Prop} {N d : Nat} {l : List (Nat × Value)} {v : Value} {S : Nat → Prop} {K : Act → World → Prop} {x y : Operand}
 {X G : List Nat} {w0 : World} {L L' : List Res} {R : List (World → Prop)}
theorem zAR {t u : TypeId} {k m : List Nat} (ho : o.op = .binOp .eql t x y u) (hT : zrD P t .u8 32) (hx : ev l x = some (.agg (ca [.key k]))) (hy : ev l y = some (.agg (ca [.key m]))) : PK P S ws l o (.bool (decide (zc4 k = zc4 m))) := fun w' _ a N E => by
 have h := zkC (w := w') (op := .eql) ho hT ((E.ev hx).trans (by rw [zcP])) ((E.ev hy).trans (by rw [zcP]))
 rw [h]
 congr 3
 rw [Bool.eq_iff_iff, decide_eq_true_iff, zni, zf6]
 constructor
 ·intro hs i hi; have := hs i hi; rw [Nat.zero_add] at this; omega
 ·intro hs i hi; rw [Nat.zero_add, hs i hi]
theorem zAS {t u : TypeId} {k m : List Nat} (ho : o.op = .binOp .neq t x y u) (hT : zrD P t .u8 32) (hx : ev l x = some (.agg (ca [.key k]))) (hy : ev l y = some (.agg (ca [.key m]))) : PK P S ws l o (.bool (!decide (zc4 k = zc4 m))) := fun w' _ a N E => by
 have h := zkD (w := w') (op := .neq) ho hT ((E.ev hx).trans (by rw [zcP])) ((E.ev hy).trans (by rw [zcP]))
 rw [h]
 congr 4
 rw [Bool.eq_iff_iff, decide_eq_true_iff, zni, zf6]
 constructor
 ·intro hs i hi; have := hs i hi; rw [Nat.zero_add] at this; omega
 ·intro hs i hi; rw [Nat.zero_add, hs i hi]
theorem zx0 {t n' sz n c : Nat} {A : Option Addr} (ho : o.op = .sliceToArrayPointer t x) (ht : arK P t = some (n', sz)) (hx : ev l x = some (.slice A n c)) (hn : n' ≤ n) : PK P S ws l o (.pointer A) := fun w' _ a _ E => by
 obtain ⟨e, h1, h2⟩ := zkA ht
 unfold execOp
 rw [ho]
 simp only [E.ev hx, Instr.arrayAt, Sem.run_bind, run_underlying h1, Result.andThen_ok]
 rw [if_neg (by omega)]
 rfl
end
section
variable {P : Program} {o : Oper} {ws : World} {l : List (Nat × Value)} {S : Nat → Prop}
theorem zfu {ty : TypeId} {parts : Array (Nat × Operand)} {z r : List Chunk} {n sz : Nat} (cs : List Chunk) (ho : o.op = .build ty parts) (ht : arK P ty = some (n, sz)) (hz : zdr P ty = some (ca z)) (hp : zkx (fun i => some (i * sz, sz)) l parts.toList z r) (hr : ca r = ca cs) : PK P S ws l o (.agg (ca cs)) := fun w' _ a N E => by
 obtain ⟨i, zv, h1, h2, h3⟩ := zc8 hz
 obtain ⟨e, h4, h5⟩ := zkA ht
 obtain ⟨ie, h6, h7⟩ := Option.map_eq_some_iff.1 h5
 have hb : P.built ty (parts.toList.map fun (i, x) => (i, a.eval x)) = some (ca cs) := by
  unfold Program.built
  simp only [h1, h4, h2, h6, h3, h7]
  rw [← hr]
  exact zds E _ _ _ hp
 unfold execOp
 rw [ho]
 simp only [Sem.run_bind]
 rw [run_build w' ty (parts.map fun (i, x) => (i, a.eval x)) _ (by rw [Array.toList_map]; exact hb)]
 rfl
theorem zhE {ty : TypeId} {parts : Array (Nat × Operand)} {z r : List Chunk} {n : Nat} (cs : List Chunk) (ho : o.op = .build ty parts) (ht : arK P ty = some (n, 1)) (hz : zdr P ty = some (ca z)) (hp : zkx (fun i => some (i * 1, 1)) l parts.toList z r) (hr : ca r = ca cs) : PK P S ws l o (.agg (ca cs)) := zfu cs ho ht hz hp hr
end
end
section
open Go.RowKit
inductive TK where
 | int (k : IntKind)
 | st (fs : List (Nat × Nat))
 | arr (n sz : Nat)
 | key
 | sl (e sz : Nat)
 | oth
structure TE where
 sz : Nat
 ag : Bool
 z : List SC
 k : TK
def FZ (P : Program) (t : TypeId) : Nat → List (Nat × Nat) → Prop
 | _, [] => True
 | i, x :: xs => zgv P t i = some x ∧ FZ P t (i + 1) xs
def OkK (P : Program) (t : TypeId) : TK → Prop
 | .int k => zAM P t = some k
 | .st fs => zjk P t = true ∧ FZ P t 0 fs
 | .arr n sz => arK P t = some (n, sz) ∧ (sz = 1 → zxY P t = some n)
 | .key => zrD P t .u8 32 ∧ arK P t = some (32, 1) ∧ zxY P t = some 32
 | .sl e sz => P.underlying t = some (.slice e) ∧ zcJ P e = some sz
 | .oth => True
def OkT (P : Program) (t : TypeId) (e : TE) : Prop := tyK P t = some (e.sz, e.ag) ∧ (∀ h, zdr P t = some (ca (zay h e.z))) ∧ OkK P t e.k
abbrev Tab := List (Nat × TE)
def zbt (P : Program) : Tab → Prop
 | [] => True
 | (t, e) :: T => OkT P t e ∧ zbt P T
def zjs : Tab → Nat → Option TE
 | [], _ => none
 | (t, e) :: T, i => bif Nat.beq t i then some e else zjs T i
section
variable {P : Program} {T : Tab} {t i : Nat} {e : TE} {x : Nat × Nat} {xs : List (Nat × Nat)}
theorem Tc (h1 : tyK P t = some (e.sz, e.ag)) (h2 : (∀ h, zdr P t = some (ca (zay h e.z)))) (h3 : OkK P t e.k) (h : zbt P T) : zbt P ((t, e) :: T) := ⟨⟨h1, h2, h3⟩, h⟩
theorem FZc (h1 : zgv P t i = some x) (h : FZ P t (i + 1) xs) : FZ P t i (x :: xs) := ⟨h1, h⟩
theorem zeN {k : IntKind} (h : zAM P t = some k) : OkK P t (.int k) := h
theorem zdm {fs : List (Nat × Nat)} (h : zjk P t = true) (h2 : FZ P t 0 fs) : OkK P t (.st fs) := ⟨h, h2⟩
theorem zfv {n : Nat} (h : arK P t = some (n, 1)) (h2 : zxY P t = some n) : OkK P t (.arr n 1) := ⟨h, fun _ => h2⟩
theorem zCK {n sz : Nat} (h : arK P t = some (n, sz)) (h1 : sz ≠ 1) : OkK P t (.arr n sz) := ⟨h, fun e => absurd e h1⟩
theorem zAT {e : Nat} (h1 : P.underlying t = some (.array 32 e)) (h2 : P.underlying e = some (.int .u8)) (h3 : (P.info? e).map (·.size) = some 1) (h4 : P.eqGuardType P.depth t = false) (h : arK P t = some (32, 1)) (h5 : zxY P t = some 32) : OkK P t .key := ⟨⟨e, h1, h2, h3, h4⟩, h, h5⟩
theorem zuE {e sz : Nat} (h : P.underlying t = some (.slice e)) (h2 : zcJ P e = some sz) : OkK P t (.sl e sz) := ⟨h, h2⟩
end
theorem zbt.get {P : Program} : ∀ {T : Tab} {t : Nat} {e : TE}, zbt P T → zjs T t = some e → OkT P t e
 | [], _, _, _, h => by cases h
 | (t', e') :: T, t, e, hT, h => by
  unfold zjs at h
  cases hb : Nat.beq t' t with
  | true =>
   rw [hb] at h
   have := Nat.eq_of_beq_eq_true hb
   subst this
   rw [← Option.some.inj h]
   exact hT.1
  | false => rw [hb] at h; exact zbt.get hT.2 h
theorem FZ.get {P : Program} {t : TypeId} : ∀ {fs : List (Nat × Nat)} {k i : Nat} {x : Nat × Nat}, FZ P t k fs → fs[i]? = some x → zgv P t (k + i) = some x
 | [], k, i, x, _, h => by simp at h
 | y :: fs, k, 0, x, hf, h => by rw [jD] at h; rw [← Option.some.inj h]; exact hf.1
 | y :: fs, k, i + 1, x, hf, h => by
  rw [jE] at h
  have := FZ.get hf.2 h
  rwa [show k + 1 + i = k + (i + 1) by omega] at this
theorem zjt {P : Program} {t n : Nat} {b : Bool} (h : tyK P t = some (n, b)) : zcJ P t = some n := by
 obtain ⟨_, _, _, h3⟩ := zkw h
 exact h3
theorem zrE {P : Program} {t f off sz : Nat} (h : zgv P t f = some (off, sz)) (h0 : sz ≠ 0) : zok P t f = some off := by
 unfold zgv at h
 cases hu : P.underlying t with
 | none => rw [hu] at h; cases h
 | some d =>
  rw [hu] at h
  cases d with
  | struct fs =>
   simp only at h
   cases hf : fs[f]? with
   | none => rw [hf] at h; cases h
   | some fd =>
    rw [hf] at h
    obtain ⟨i, hi, he⟩ := Option.map_eq_some_iff.1 h
    injection he with h1 h2
    unfold zok
    simp only [hu, hf, hi]
    rw [if_neg (by omega), h1]
  | _ => cases h
def szT (T : Tab) (t : Nat) : Option (Nat × Bool) := match zjs T t with | some ⟨sz, ag, _, _⟩ => some (sz, ag) | none => none
def kT (T : Tab) (t : Nat) : TK := match zjs T t with | some ⟨_, _, _, k⟩ => k | none => .oth
theorem zeR {P : Program} {T : Tab} (hT : zbt P T) {t : Nat} {x : Nat × Bool} (h : szT T t = some x) : tyK P t = some x := by
 unfold szT at h
 cases hq : zjs T t with
 | none => rw [hq] at h; cases h
 | some e => rw [hq] at h; rw [← Option.some.inj h]; exact (hT.get hq).1
theorem ziG {P : Program} {T : Tab} (hT : zbt P T) (t : Nat) : OkK P t (kT T t) := by
 unfold kT
 cases hq : zjs T t with
 | none => trivial
 | some e => exact (hT.get hq).2.2
def zT (T : Tab) (t : Nat) : Option (List SC) := match zjs T t with | some ⟨_, _, z, _⟩ => some z | none => none
theorem zqn {P : Program} {T : Tab} (hT : zbt P T) {t : Nat} {z : List SC} (h : zT T t = some z) (hn : Hn) : zdr P t = some (ca (zay hn z)) := by
 unfold zT at h
 cases hq : zjs T t with
 | none => rw [hq] at h; cases h
 | some e => rw [hq] at h; rw [← Option.some.inj h]; exact (hT.get hq).2.1 hn
def zaH (k : IntKind) (z : Int) : SV := .a (.s (.p (.v (.int k z))))
def zbu (b : Bool) : SV := .a (.s (.p (.v (.bool b))))
def zuF (ad : Addr) : SV := .a (.s (.p (.v (.pointer (some ad)))))
def atS (i off : Nat) : SV := .a (.s (.p (.at_ i off)))
def hpS (i j sz off : Nat) : SV := .a (.s (.p (.hp i j sz off)))
def apS (i off j sz : Nat) : SV := .a (.s (.p (.ap i off j sz)))
def slS (i off n c : Nat) : SV := .a (.s (.p (.sl i off n c)))
def asBool : Option SV → Option Bool
 | some (.a (.s (.p (.v (.bool b))))) => some b
 | _ => none
def ziH : Option SV → Option (IntKind × Int)
 | some (.a (.s (.p (.v (.int k z))))) => some (k, z)
 | _ => none
inductive Pl where
 | own (i off : Nat)
 | ptr (ad : Addr)
 | hp (i j sz off : Nat)
def Pl.sv : Pl → SV
 | .own i off => atS i off
 | .ptr ad => zuF ad
 | .hp i j sz off => hpS i j sz off
def znj : Option SV → Option Pl
 | some (.a (.s (.p (.at_ i off)))) => some (.own i off)
 | some (.a (.s (.p (.v (.pointer (some ad)))))) => some (.ptr ad)
 | some (.a (.s (.p (.hp i j sz off)))) => some (.hp i j sz off)
 | _ => none
inductive Sl where
 | own (i off n c : Nat)
 | sl (A : Option Addr) (n c : Nat)
 | hd (i n : Nat)
def zCo : Option SV → Option Sl
 | some (.a (.s (.p (.sl i off n c)))) => some (.own i off n c)
 | some (.a (.s (.p (.v (.slice A n c))))) => some (.sl A n c)
 | some (.a (.s (.p (.hd i n)))) => some (.hd i n)
 | _ => none
def Sl.sv : Sl → SV
 | .own i off n c => slS i off n c
 | .sl A n c => .a (.s (.p (.v (.slice A n c))))
 | .hd i n => .a (.s (.p (.hd i n)))
def Sl.len : Sl → Nat
 | .own _ _ n _ => n
 | .sl _ n _ => n
 | .hd _ n => n
def zu6 : Option SV → Option (List Nat)
 | some (.a (.agg [.key k])) => some k
 | _ => none
def ikB (a b : IntKind) : Bool := decide (a = b)
def zAU : List SA → Nat → Option SA
 | [], _ => none
 | v :: _, 0 => some v
 | _ :: vs, i + 1 => zAU vs i
def zx1 : Option SV → Option (List SA)
 | some (.tup xs) => some xs
 | _ => none
def asP : Option SV → Option SP
 | some (.a (.s (.p x))) => some x
 | _ => none
def zAt (l : List (Nat × SV)) : List Operand → Option (List SP)
 | [] => some []
 | x :: xs => match asP (evS l x) with
  | some v => match zAt l xs with
   | some vs => some (v :: vs)
   | none => none
  | none => none
def okS : SS → Bool
 | .p (.v x) => x.oneCell'
 | _ => true
def zfw : Option SV → Option (List SC)
 | some (.a (.s x)) => bif okS x then some [.one x] else none
 | some (.a (.agg cs)) => some cs
 | _ => none
section
variable {h : Hn} {s : Option SV} {l : List (Nat × SV)}
theorem zd3 {b : Bool} (e : asBool s = some b) : s = some (zbu b) := by
 unfold asBool at e; split at e
 ·rw [← Option.some.inj e]; rfl
 ·cases e
theorem zb4 {k : IntKind} {z : Int} (e : ziH s = some (k, z)) : s = some (zaH k z) := by
 unfold ziH at e; split at e
 ·injection e with e; injection e with e1 e2; rw [← e1, ← e2]; rfl
 ·cases e
theorem zbq {p : Pl} (e : znj s = some p) : s = some p.sv := by
 unfold znj at e; split at e
 ·rw [← Option.some.inj e]; rfl
 ·rw [← Option.some.inj e]; rfl
 ·rw [← Option.some.inj e]; rfl
 ·cases e
theorem zju {p : Sl} (e : zCo s = some p) : s = some p.sv := by
 unfold zCo at e; split at e
 ·rw [← Option.some.inj e]; rfl
 ·rw [← Option.some.inj e]; rfl
 ·rw [← Option.some.inj e]; rfl
 ·cases e
theorem zoD {k : List Nat} (e : zu6 s = some k) : s = some (.a (.agg [.key k])) := by
 unfold zu6 at e; split at e
 ·rw [← Option.some.inj e]
 ·cases e
theorem zu7 {xs : List SA} (e : zx1 s = some xs) : s = some (.tup xs) := by
 unfold zx1 at e; split at e
 ·rw [← Option.some.inj e]
 ·cases e
theorem zAV {x : SP} (e : asP s = some x) : s = some (.a (.s (.p x))) := by
 unfold asP at e; split at e
 ·rw [← Option.some.inj e]
 ·cases e
theorem zrF (h : Hn) : ∀ (xs : List SA) (i : Nat) (x : SA), zAU xs i = some x → zuB (zmW h xs) i = some (x.den h)
 | [], i, x, e => by cases e
 | y :: xs, 0, x, e => by rw [zAU] at e; rw [zmW, zuB, Option.some.inj e]
 | y :: xs, i + 1, x, e => by rw [zAU] at e; rw [zmW, zuB]; exact zrF h xs i x e
theorem znk : ∀ {xs : List Operand} {vs : List SP}, zAt l xs = some vs → evs (zcu h l) xs = some (ziw h vs)
 | [], vs, e => by rw [← Option.some.inj e]; rfl
 | x :: xs, vs, e => by
  unfold zAt at e
  cases h1 : asP (evS l x) with
  | none => rw [h1] at e; cases e
  | some v =>
   cases h2 : zAt l xs with
   | none => rw [h1, h2] at e; cases e
   | some us =>
    rw [h1, h2] at e
    rw [← Option.some.inj e]
    unfold evs
    rw [zaf (zAV h1), znk h2]
    rfl
theorem znm {x : SS} (e : okS x = true) : (x.den h).oneCell' = true := by
 cases x with
 | p x => cases x with
  | v x => exact e
  | _ => rfl
 | fn f fs cs => rfl
theorem zkE {v : Value} (e : v.oneCell' = true) : v.cells = #[v] := by cases v <;> first | rfl | cases e
theorem zd4 {x : SV} {cs : List SC} (e : zfw (some x) = some cs) : (x.den h).cells = ca (zay h cs) := by
 unfold zfw at e; split at e
 ·rename_i y hy
  injection hy with hy
  subst hy
  cases hb : okS y with
  | false => rw [hb] at e; cases e
  | true =>
   rw [hb] at e
   rw [← Option.some.inj e]
   show (y.den h).cells = _
   rw [zkE (znm hb)]
   rfl
 ·rename_i c hc
  injection hc with hc
  subst hc
  rw [← Option.some.inj e]
  rfl
 ·cases e
end
def zkF (l : List (Nat × SV)) (fs : Nat → Option (Nat × Nat)) : List (Nat × Operand) → List SC → Option (List SC)
 | [], z => some z
 | (i, x) :: ps, z => match fs i with
  | some (q1, q2) => match zfw (evS l x) with
   | some cs => bif zeM cs q2 then (match zq5 z q1 q2 cs with
    | some z' => zkF l fs ps z'
    | none => none) else none
   | none => none
  | none => none
theorem zfx {h : Hn} {l : List (Nat × SV)} {fs place : Nat → Option (Nat × Nat)} (hp : ∀ i x, fs i = some x → place i = some x) : ∀ {ps : List (Nat × Operand)} {z r : List SC}, zkF l fs ps z = some r → zkx place (zcu h l) ps (zay h z) (zay h r)
 | [], z, r, e => by rw [zkF] at e; rw [Option.some.inj e]; rfl
 | (i, x) :: ps, z, r, e => by
  unfold zkF at e
  split at e
  ·rename_i q1 q2 hq
   split at e
   ·rename_i cs hcs
    cases hb : zeM cs q2 with
    | false => rw [hb] at e; cases e
    | true =>
     rw [hb] at e
     simp only [cond_true] at e
     split at e
     ·rename_i z' hz
      cases hv : evS l x with
      | none => simp only [hv] at hcs; cases hcs
      | some v =>
       simp only [hv] at hcs
       refine ⟨v.den h, zay h cs, q1, zay h z', zaf hv, zd4 hcs, ?_, zev h z q1 q2 cs z' (zcq hb) hz, zfx hp e⟩
       rw [za6, zcq hb]
       exact hp _ _ hq
     ·cases e
   ·cases e
  ·cases e
def zuG : Nat → List SC → List SC
 | 0, _ => []
 | n + 1, z => z ++ zuG n z
theorem zrH (h : Hn) (z : List SC) : ∀ (n j : Nat), j < n * zeL z → (cl (zay h (zuG n z)))[j]? = (cl (zay h z))[j % zeL z]?
 | 0, j, hj => by omega
 | n + 1, j, hj => by
  have hl : (cl (zay h z)).length = zeL z := by rw [zaV, za6]
  rw [zuG, zgZ, zrh]
  by_cases hlt : j < zeL z
  ·rw [List.getElem?_append_left (by omega), Nat.mod_eq_of_lt hlt]
  ·rw [Nat.succ_mul] at hj
   have e : j % zeL z = (j - zeL z) % zeL z := Nat.mod_eq_sub_mod (by omega)
   rw [List.getElem?_append_right (by omega), hl, zrH h z n (j - zeL z) (by omega), e]
theorem zoE : ∀ (n : Nat) (z : List SC), zeL (zuG n z) = n * zeL z
 | 0, z => by simp [zuG, zeL]
 | n + 1, z => by
  have : ∀ (a b : List SC), zeL (a ++ b) = zeL a + zeL b := fun a b => by
   have h : Hn := ⟨fun _ => 0, fun _ => (none, 0), fun _ _ => []⟩
   rw [← za6 h, ← za6 h, ← za6 h, zgZ, zuR]
  rw [zuG, this, zoE n z, Nat.succ_mul]; omega
theorem zu8 {P : Program} {e n sz : Nat} {z : List SC} {h : Hn} (hz : zdr P e = some (ca (zay h z))) (hs : zeL z = sz) : ((zdr P e).map fun c => (Array.range (n * sz)).map (c[· % c.size]!)) = some (ca (zay h (zuG n z))) := by
 rw [hz, Option.map_some]
 congr 1
 have hsz : (ca (zay h z)).size = sz := by rw [zcx, za6, hs]
 apply Array.ext_getElem?
 intro j
 rw [hsz]
 by_cases hj : j < n * sz
 ·have h1 := zrH h z n j (by rw [hs]; exact hj)
  have hmod : j % sz < sz := Nat.mod_lt _ (Nat.pos_of_ne_zero fun h0 => by rw [h0] at hj; omega)
  have h2 : (ca (zay h (zuG n z)))[j]? = (cl (zay h (zuG n z)))[j]? := by simp [ca]
  rw [h2, h1, hs]
  have h3 : j % sz < (cl (zay h z)).length := by rw [zaV, za6, hs]; exact hmod
  simp [hj, ca, h3]
 ·rw [Array.getElem?_eq_none (by simp; omega), Array.getElem?_eq_none (by rw [zcx, za6, zoE, hs]; omega)]
def ze3 (P : Program) (N k : Nat) (l : List (Nat × SV)) (m : MB) (R : List SF) (o : Oper) (sv : SV) (rs : List RB) (Rs : List SF) : Prop :=
 ∀ (Q : Exit → Act → World → Prop) (h : Hn) (X : List Nat) (a : Act) (w : World), Env a N (zcu h l) → Sp X w (zad h [] m) (zaN h R) → ∀ Kk : Act → World → Prop,
  (∀ h1 w', (∀ i, i < k ∨ k + rs.length ≤ i → h1.b i = h.b i ∧ h1.r i = h.r i ∧ h1.q i = h.q i) → Frm [] w w' → Sep (X ++ zab (zad h [] m)) [] w w' (zdk h1 k rs) (zaN h1 Rs) → Kk (a.put o.dst (sv.den h1)) w') → o.wp P a w Kk Q
def zfy (P : Program) (N : Nat) (l : List (Nat × SV)) (m : MB) (R : List SF) (o : Oper) (sv : SV) : Prop :=
 ∀ (h : Hn) (X : List Nat) (a : Act) (w : World), Env a N (zcu h l) → Sp X w (zad h [] m) (zaN h R) → (execOp a.eval o).run P w = .ok (.value (sv.den h)) w
section
variable {P : Program} {T : Tab} {N k : Nat} {l : List (Nat × SV)} {m : MB} {R Rs : List SF} {o : Oper} {sv : SV} {rs : List RB}
theorem Sep.none_ {X : List Nat} {w : World} (hX : ∀ k ∈ X, k < w.heap.size) : Sep X [] w w [] [] := Sep.start hX (fun _ h => by cases h)
theorem zdu (hp : zfy P N l m R o sv) : ze3 P N k l m R o sv [] [] := fun Q h X a w E H Kk hK => by
 unfold Oper.wp
 rw [hp h X a w E H]
 exact hK h w (fun _ _ => ⟨rfl, rfl, rfl⟩) (Frm.refl _ _) (Sep.none_ H.xk)
theorem zrI (hp : ∀ (h : Hn) (w : World), PK P ze0 w (zcu h l) o (sv.den h)) : zfy P N l m R o sv := fun h X a w E _ => hp h w w (CanB.Keep.refl _ _) a N E
theorem zu9 {cs : List SC} {t : Nat} (sv : SV) (hr : ∀ (h : Hn) (a : Act) (w : World), Env a N (zcu h l) → ∀ h1 : Hn, h1.b k = w.heap.size → AgS (fun i => decide (i ≠ k)) h h1 → (execOp a.eval o).run P w = .ok (.value (sv.den h1)) (w.alloc (.cells (ca (zay h1 cs)) t))) :
  ze3 P N k l m R o sv [.blk cs t] [] := fun Q h X a w E H Kk hK => by
 let h1 : Hn := ⟨fun i => if i = k then w.heap.size else h.b i, h.r, h.q⟩
 have hb : h1.b k = w.heap.size := if_pos rfl
 unfold Oper.wp
 rw [hr h a w E h1 hb (fun i hi => ⟨if_neg (of_decide_eq_true hi), rfl, rfl⟩)]
 have hf : Frm [] w (w.alloc (.cells (ca (zay h1 cs)) t)) := Frm.of_below ((Below.refl _ _).alloc (jV _) _)
 refine hK h1 _ (fun i hi => ⟨if_neg (by simp at hi; omega), rfl, rfl⟩) hf ?_
 have := (Sep.none_ H.xk).own hf (q := .blk (h1.b k) (ca (zay h1 cs)) t) (by rw [hb]; exact heap_alloc_new w _) (by rw [hb]; simp [Res.keys]) (by simp [Res.keys])
 exact this
theorem zkG {a : Act} {w : World} {ty : TypeId} {z : List Chunk} (ho : o.op = .alloc ty) (hz : zdr P ty = some (ca z)) : (execOp a.eval o).run P w = .ok (.value (.pointer (some ⟨w.heap.size, 0, none⟩))) (w.alloc (.cells (ca z) ty)) := by
 obtain ⟨i, zv, h1, h2, h3⟩ := zc8 hz
 unfold execOp
 simp [ho, Instr.alloc, zeroValue, typeInfo, h1, h2, newVar, newRow, newObj, h3, Sem.run_bind]
 rfl
theorem zx2 {a : Act} {w : World} {ty : TypeId} {x : Operand} {v : Value} {z : List Chunk} (ho : o.op = .box ty x) (hx : a.eval x = v) (hz : v.cells = ca z) : (execOp a.eval o).run P w = .ok (.value (.pointer (some ⟨w.heap.size, 0, none⟩))) (w.alloc (.cells (ca z) ty)) := by
 unfold execOp
 simp [ho, Instr.box, newVar, newRow, newObj, hx, hz, Sem.run_bind]
 rfl
theorem zqo {a : Act} {w : World} {t e len sz : Nat} {parts : Array (Nat × Operand)} {z r : List Chunk} {lv : List (Nat × Value)} (E : Env a N lv) (ho : o.op = .buildSlice t len parts) (hu : P.underlying t = some (.slice e)) (hs : zcJ P e = some sz) (h0 : 0 < len * sz ∧ len * sz ≤ 2 ^ 24)
  (hz : ((zdr P e).map fun c => (Array.range (len * sz)).map (c[· % c.size]!)) = some (ca z)) (hp : zkx (fun i => some (i * sz, sz)) lv parts.toList z r) : (execOp a.eval o).run P w = .ok (.value (.slice (some ⟨w.heap.size, 0, none⟩) len len)) (w.alloc (.cells (ca r) e)) := by
 rw [Option.map_eq_some_iff] at hz
 obtain ⟨c, hz1, hz2⟩ := hz
 obtain ⟨i, zv, h1, h2, h3⟩ := zc8 hz1
 have hsz : i.size = sz := by
  unfold zcJ at hs
  rw [h1] at hs
  simpa using hs
 unfold execOp
 simp only [ho, Sem.run_bind]
 rw [run_buildSlice w t e len (parts.map fun (i, x) => (i, a.eval x)) (ca r) i zv hu h1 h2 (by rw [hsz]; omega) (by rw [hsz]; omega) (by
  rw [hsz, h3, hz2, Array.toList_map]
  exact zds E _ _ _ hp)]
 rfl
theorem zrJ {h h1 : Hn} {k : Nat} {S : Nat → Bool} (ha : AgS (fun i => decide (i ≠ k)) h h1) (hS : S k = false) : AgS S h h1 := fun i hi => ha i (decide_eq_true fun e => by rw [e, hS] at hi; cases hi)
end
def zbO (n : Nat) (K : Nat → Prop) : Prop := match (n + 1) * 1 with | 0 => False | j + 1 => K j
theorem zbc {n : Nat} {K : Nat → Prop} (h : zbO n K) : K n := by
 unfold zbO at h
 rw [Nat.mul_one] at h
 exact h
def zuH (b : Bool) (K : SV → List RB → Prop) : Prop := cond b (K (zbu true) []) (K (zbu false) [])
theorem zdE {b : Bool} {K : SV → List RB → Prop} (h : zuH b K) : K (zbu b) [] := by cases b <;> exact h
def zrK : List SF → Nat → Option Nat
 | [], _ => none
 | .sl j n _ :: R, i => bif Nat.beq j i then some n else zrK R i
 | _ :: R, i => zrK R i
def zrL : List SF → Nat → Option (List SC)
 | [], _ => none
 | .blk j cs :: R, i => bif Nat.beq j i then some cs else zrL R i
 | _ :: R, i => zrL R i
def ziI (R : List SF) (m : MB) (i : Nat) : Option (List SC) := match zaB m i with
 | some (.blk cs _) => some cs
 | _ => zrL R i
def zCL (R : List SF) (m : MB) (i : Nat) : Option Nat := match zrK R i with
 | some n => some n
 | none => match zaB m i with | some (.row _ _ n _) => some n | _ => none
def tqA (T : Tab) (k : Nat) (l : List (Nat × SV)) (m : MB) (R : List SF) (o : Oper) (K : SV → List RB → Prop) (C : Prop) : Prop :=
 match o.op with
 | .move x => match evS l x with | some v => K v [] | none => C
 | .assign x => match evS l x with | some v => K v [] | none => C
 | .pick c x y => match asBool (evS l c), evS l x, evS l y with
  | some b, some u, some v => cond b (K u []) (K v [])
  | _, _, _ => C
 | .extract x i => match zx1 (evS l x) with
  | some xs => match zAU xs i with | some s => K (.a s) [] | none => C
  | none => C
 | .makeFunc f fs cs => match zAt l fs.toList, zAt l cs.toList with
  | some a, some b => K (.a (.s (.fn f a b))) []
  | _, _ => C
 | .binOp op t x y u => match ziH (evS l x), ziH (evS l y) with
  | some (k1, a), some (k2, b) => bif ikB k1 k2 then (match op with
   | .eql => zuH (a == b) K
   | .neq => zuH (a != b) K
   | .lss => zuH (decide (a < b)) K
   | .leq => zuH (decide (a ≤ b)) K
   | .gtr => zuH (decide (a > b)) K
   | .geq => zuH (decide (a ≥ b)) K
   | .add => ∃ z, k1.wrap (a + b) = z ∧ K (zaH k1 z) []
   | .sub => ∃ z, k1.wrap (a - b) = z ∧ K (zaH k1 z) []
   | .mul => ∃ z, k1.wrap (a * b) = z ∧ K (zaH k1 z) []
   | _ => C) else C
  | _, _ => match kT T t, zu6 (evS l x), zu6 (evS l y) with
   | .key, some x, some j => match op with
    | .eql => zuH (decide (zc4 x = zc4 j)) K
    | .neq => zuH (!decide (zc4 x = zc4 j)) K
    | _ => C
   | _, _, _ => C
 | .unOp .not t x => match asBool (evS l x) with | some b => zuH (!b) K | none => C
 | .convert s t x => match ziH (evS l x), szT T s, kT T t with
  | some (_, a), some _, .int kk => ∃ z, kk.wrap a = z ∧ K (zaH kk z) []
  | _, _, _ => C
 | .nilCheck x => match znj (evS l x) with | some (.own i off) => K (atS i off) [] | some (.ptr ad) => K (zuF ad) [] | some (.hp i j sz off) => K (hpS i j sz off) [] | none => C
 | .load ty x => match znj (evS l x), szT T ty with
  | some (.own i off), some (n, ag) => match ziI R m i with
   | some cs => match zqm cs off n with
    | some r => match ag, r with
     | true, r => K (.a (.agg r)) []
     | false, [.one v] => bif Nat.beq n 1 then K (.a (.s v)) [] else C
     | _, _ => C
    | none => C
   | none => C
  | _, _ => C
 | .fieldAddr s x f => match kT T s, znj (evS l x) with
  | .st fs, some p => match fs[f]? with
   | some (q1, q2) => bif Nat.beq q2 0 then C else match p with | .own i off => zbO (off + q1) fun n => K (atS i n) [] | .ptr ad => K (zuF (ad.add q1)) [] | .hp i j sz off => zbO (off + q1) fun n => K (hpS i j sz n) []
   | none => C
  | _, _ => C
 | .indexAddr t x y => match ziH (evS l y), kT T t with
  | some (.i64, z), .sl _ sz => match zCo (evS l x) with
   | some (.own i off n _) => ∃ j : Nat, (z = (j : Int) ∧ j < n) ∧ ((zbO (off + j * sz) fun n => K (atS i n) []) ∨ K (apS i off j sz) [])
   | some (.sl A n _) => ∃ (j : Nat) (ad : Addr), (A = some ad ∧ z = (j : Int) ∧ j < n) ∧ K (zuF (ad.add (j * sz))) []
   | some (.hd i n) => match zCL R m i with
    | some n' => ∃ j : Nat, (z = (j : Int) ∧ j < n ∧ j < n') ∧ K (hpS i j sz 0) []
    | none => C
   | _ => C
  | some (_, z), .arr n sz => match znj (evS l x) with
   | some (.own i off) => ∃ j : Nat, (z = (j : Int) ∧ j < n) ∧ ((zbO (off + j * sz) fun n => K (atS i n) []) ∨ K (apS i off j sz) [])
   | some (.ptr ad) => ∃ j : Nat, (z = (j : Int) ∧ j < n) ∧ K (zuF (ad.add (j * sz))) []
   | _ => C
  | some (_, z), .key => match znj (evS l x) with
   | some (.own i off) => ∃ j : Nat, (z = (j : Int) ∧ j < 32) ∧ ((zbO (off + j * 1) fun n => K (atS i n) []) ∨ K (apS i off j 1) [])
   | some (.ptr ad) => ∃ j : Nat, (z = (j : Int) ∧ j < 32) ∧ K (zuF (ad.add (j * 1))) []
   | _ => C
  | _, _ => C
 | .slice t x none none none => match kT T t, znj (evS l x) with
  | .arr n _, some (.own i off) => K (slS i off n n) []
  | .key, some (.own i off) => K (slS i off 32 32) []
  | .arr n _, some (.ptr ad) => K (.a (.s (.p (.v (.slice (some ad) n n))))) []
  | .key, some (.ptr ad) => K (.a (.s (.p (.v (.slice (some ad) 32 32))))) []
  | _, _ => C
 | .build ty parts => match zT T ty, kT T ty with
  | some z, .st fs => match zkF l (fun i => fs[i]?) parts.toList z with | some r => K (.a (.agg r)) [] | none => C
  | some z, .arr n sz => match zkF l (fun i => some (i * sz, sz)) parts.toList z with | some r => K (.a (.agg r)) [] | none => C
  | some z, .key => match parts.toList with | [] => K (.a (.agg z)) [] | _ => C
  | _, _ => C
 | .alloc ty => match zT T ty with | some z => K (atS k 0) [.blk z ty] | none => C
 | .box ty x => match zfw (evS l x) with | some cs => bif wfC (fun i => Nat.ble (i + 1) k) cs then K (atS k 0) [.blk cs ty] else C | none => C
 | .buildSlice t len parts => match kT T t with
  | .sl e sz => bif Nat.ble 1 (len * sz) && Nat.ble (len * sz) 16777216 then (match zT T e with
   | some z => bif zeM z sz then (match zkF l (fun i => some (i * sz, sz)) parts.toList (zuG len z) with
    | some r => bif wfC (fun i => Nat.ble (i + 1) k) r then K (slS k 0 len len) [.blk r e] else C
    | none => C) else C
   | none => C) else C
  | _ => C
 | .call c => match c.callee, c.args.toList, c.argTypes.toList with
  | .builtin .len, [x], [t] => match kT T t, zCo (evS l x) with
   | .sl _ _, some s => K (zaH .i64 (s.len : Int)) []
   | _, _ => C
  | _, _, _ => C
 | _ => C
def znn : List SC → Nat → Option Value
 | [], _ => none
 | .one x :: cs, n => match n with | 0 => (match x with | .p (.v u) => some u | _ => none) | j + 1 => znn cs j
 | .key k :: cs, n => bif Nat.ble 32 n then znn cs (n - 32) else some (bv (k.getD n 0))
 | .row m f :: cs, n => bif Nat.ble m n then znn cs (n - m) else some (f n)
def zCp (cs : List SC) (off : Nat) : Option (Nat × (Nat → Value)) := match zf4 cs off with
 | some (.row n f :: _) => some (n, f)
 | some (.key k :: _) => some (32, fun i => bv (k.getD i 0))
 | _ => none
def zix (v : Value) : SV := .a (.s (.p (.v v)))
def zrM : Nat → Nat → (Nat → Value) → List SC
 | 0, _, _ => []
 | n + 1, j, f => .one (.p (.v (f j))) :: zrM n (j + 1) f
def zx3 (f : Nat → Value) : Nat → Nat → List SC → Prop
 | 0, _, [] => True
 | n + 1, j, .one (.p (.v x)) :: cs => f j = x ∧ zx3 f n (j + 1) cs
 | _, _, _ => False
def tqB (T : Tab) (l : List (Nat × SV)) (m : MB) (R : List SF) (o : Oper) (K : SV → List RB → Prop) (C : Prop) : Prop :=
 match o.op with
 | .binOp op t x y u => match ziH (evS l x), ziH (evS l y) with
  | some (k1, a), some (k2, b) => match op with
   | .shl => 0 ≤ b ∧ ∃ z, k1.wrap (a * 2 ^ (min b.toNat k1.bits)) = z ∧ K (zaH k1 z) []
   | .shr => 0 ≤ b ∧ ∃ z, a.fdiv (2 ^ (min b.toNat k1.bits)) = z ∧ K (zaH k1 z) []
   | .and => bif ikB k1 k2 then ∃ z, k1.wrap (BitVec.ofInt k1.bits a &&& BitVec.ofInt k1.bits b).toNat = z ∧ K (zaH k1 z) [] else C
   | .or => bif ikB k1 k2 then ∃ z, k1.wrap (BitVec.ofInt k1.bits a ||| BitVec.ofInt k1.bits b).toNat = z ∧ K (zaH k1 z) [] else C
   | .xor => bif ikB k1 k2 then ∃ z, k1.wrap (BitVec.ofInt k1.bits a ^^^ BitVec.ofInt k1.bits b).toNat = z ∧ K (zaH k1 z) [] else C
   | .quo => bif ikB k1 k2 then b ≠ 0 ∧ ∃ z, k1.wrap (a.tdiv b) = z ∧ K (zaH k1 z) [] else C
   | .rem => bif ikB k1 k2 then b ≠ 0 ∧ ∃ z, a.tmod b = z ∧ K (zaH k1 z) [] else C
   | _ => C
  | _, _ => C
 | .unOp .neg t x => match ziH (evS l x) with
  | some (k1, a) => ∃ z, k1.wrap (0 - a) = z ∧ K (zaH k1 z) []
  | none => C
 | .load ty x => match szT T ty with
  | some (1, false) => match evS l x with
   | some (.a (.s (.p (.at_ i off)))) => match ziI R m i with
    | some cs => match znn cs off with | some v => K (zix v) [] | none => C
    | none => C
   | some (.a (.s (.p (.ap i off j s)))) => match ziI R m i with
    | some cs => match zCp cs off with | some (n, f) => bif Nat.beq s 1 then (j < n ∧ K (zix (f j)) []) else C | none => C
    | none => C
   | _ => C
  | _ => C
 | .index t x y => match kT T t, evS l x, ziH (evS l y) with
  | .arr n 1, some (.a (.agg [.row n' f])), some (_, z) => bif Nat.beq n n' then ∃ j : Nat, (z = (j : Int) ∧ j < n) ∧ K (zix (f j)) [] else C
  | .key, some (.a (.agg [.key b])), some (_, z) => ∃ j : Nat, (z = (j : Int) ∧ j < 32) ∧ K (zix (bv (b.getD j 0))) []
  | _, _, _ => C
 | .build ty parts => match kT T ty, zT T ty with
  | .arr n 1, some [.row n' f0] => bif Nat.beq n n' then (match zkF l (fun i => some (i * 1, 1)) parts.toList (zrM n' 0 f0) with
   | some r => ∃ f : Nat → Value, zx3 f n 0 r ∧ K (.a (.agg [.row n f])) []
   | none => C) else C
  | _, _ => C
 | _ => C
def tq (T : Tab) (k : Nat) (l : List (Nat × SV)) (m : MB) (R : List SF) (o : Oper) (K : SV → List RB → Prop) (C : Prop) : Prop := tqA T k l m R o K (tqB T l m R o K C)
end
section
open Go.RowKit
section
variable {P : Program} {T : Tab} {N k : Nat} {l : List (Nat × SV)} {m : MB} {R : List SF} {o : Oper} {K : SV → List RB → Prop} {C : Prop}
def zqp (P : Program) (N k : Nat) (l : List (Nat × SV)) (m : MB) (R : List SF) (o : Oper) (K : SV → List RB → Prop) (C : Prop) : Prop := (∃ sv rs, ze3 P N k l m R o sv rs [] ∧ K sv rs) ∨ C
theorem zaE {sv : SV} (hp : ∀ (h : Hn) (w : World), PK P ze0 w (zcu h l) o (sv.den h)) (hk : K sv []) : zqp P N k l m R o K C := .inl ⟨sv, [], zdu (zrI hp), hk⟩
theorem zd5 {sv : SV} (hp : zfy P N l m R o sv) (hk : K sv []) : zqp P N k l m R o K C := .inl ⟨sv, [], zdu hp, hk⟩
theorem zb5 {X : List Nat} {w : World} {Rr : List (World → Prop)} {h : Hn} (H : Sp X w (zad h [] m) Rr) {i : Nat} {cs : List SC} {t : Nat} (e : zaB m i = some (.blk cs t)) : w.heap[h.b i]? = some (.cells (ca (zay h cs)) t (0, 0)) :=
 H.holds _ ((zaG h m [] i _ e (by simp)).mem_iff.2 (List.mem_cons_self ..))
theorem zAW {t e : Nat} (h : P.underlying t = some (.slice e)) : zuC P t = true := by unfold zuC; rw [h]
theorem zCM {t e sz : Nat} (h : P.underlying t = some (.slice e)) (hs : zcJ P e = some sz) : elK P t = some sz := by unfold elK; rw [h]; exact hs
theorem zhF (b off k : Nat) : (⟨b, off, none⟩ : Addr).add k = ⟨b, off + k, none⟩ := by rw [zbS]
theorem Sl.ev {h : Hn} (s : Sl) : ∃ A c, s.sv.den h = .slice A s.len c := by cases s <;> exact ⟨_, _, rfl⟩
theorem zda {i n : Nat} : ∀ {R : List SF}, zrK R i = some n → ∃ f, SF.sl i n f ∈ R
 | [], e => by cases e
 | .sl j n' f :: R, e => by
  unfold zrK at e
  cases hb : Nat.beq j i with
  | true =>
   rw [hb] at e
   obtain rfl := Nat.eq_of_beq_eq_true hb
   obtain rfl : n' = n := Option.some.inj e
   exact ⟨f, List.mem_cons_self ..⟩
  | false =>
   rw [hb] at e
   obtain ⟨f', h⟩ := zda (R := R) e
   exact ⟨f', List.mem_cons_of_mem _ h⟩
 | .c _ :: R, e => by
  obtain ⟨f', h⟩ := zda (R := R) e
  exact ⟨f', List.mem_cons_of_mem _ h⟩
 | .b _ _ :: R, e => by
  obtain ⟨f', h⟩ := zda (R := R) e
  exact ⟨f', List.mem_cons_of_mem _ h⟩
 | .h _ _ :: R, e => by
  obtain ⟨f', h⟩ := zda (R := R) e
  exact ⟨f', List.mem_cons_of_mem _ h⟩
 | .q _ _ :: R, e => by
  obtain ⟨f', h⟩ := zda (R := R) e
  exact ⟨f', List.mem_cons_of_mem _ h⟩
 | .nm _ _ :: R, e => by
  obtain ⟨f', h⟩ := zda (R := R) e
  exact ⟨f', List.mem_cons_of_mem _ h⟩
 | .blk _ _ :: R, e => by
  obtain ⟨f', h⟩ := zda (R := R) e
  exact ⟨f', List.mem_cons_of_mem _ h⟩
theorem zaO {h : Hn} {r : World → Prop} : ∀ {R : List SF}, r ∈ zaN h R ↔ ∃ q ∈ R, r = q.den h
 | [] => by simp [zaN]
 | q :: R => by simp [zaN, zaO (R := R)]
theorem zdb {i : Nat} {cs : List SC} : ∀ {R : List SF}, zrL R i = some cs → SF.blk i cs ∈ R
 | [], e => by cases e
 | .blk j cs' :: R, e => by
  unfold zrL at e
  cases hb : Nat.beq j i with
  | true =>
   rw [hb] at e
   obtain rfl := Nat.eq_of_beq_eq_true hb
   obtain rfl : cs' = cs := Option.some.inj e
   exact List.mem_cons_self ..
  | false =>
   rw [hb] at e
   exact List.mem_cons_of_mem _ (zdb (R := R) e)
 | .c _ :: R, e => List.mem_cons_of_mem _ (zdb (R := R) e)
 | .b _ _ :: R, e => List.mem_cons_of_mem _ (zdb (R := R) e)
 | .h _ _ :: R, e => List.mem_cons_of_mem _ (zdb (R := R) e)
 | .q _ _ :: R, e => List.mem_cons_of_mem _ (zdb (R := R) e)
 | .nm _ _ :: R, e => List.mem_cons_of_mem _ (zdb (R := R) e)
 | .sl _ _ _ :: R, e => List.mem_cons_of_mem _ (zdb (R := R) e)
theorem zoF {X : List Nat} {w : World} {h : Hn} {i : Nat} {cs : List SC} (H : Sp X w (zad h [] m) (zaN h R)) (e : ziI R m i = some cs) : AtC ⟨h.b i, 0, none⟩ (zay h cs) w := by
 unfold ziI at e
 split at e
 ·rename_i cs' t hm
  rw [← Option.some.inj e]
  exact zdS (zb5 H hm)
 ·exact (H.facts _ (zaO.2 ⟨_, zdb e, rfl⟩)).now
theorem zkH {ty i off n : Nat} {ag : Bool} {cs r : List SC} {x : Operand} {sv : SV} (ho : o.op = .load ty x) (hx : evS l x = some (atS i off)) (ht : tyK P ty = some (n, ag)) (hm : ziI R m i = some cs) (hp : zqm cs off n = some r) (hv : (ag = true ∧ sv = .a (.agg r)) ∨ (∃ v, ag = false ∧ n = 1 ∧ r = [.one v] ∧ sv = .a (.s v))) : zfy P N l m R o sv := fun h X a w E H => by
 have h1 := ze1 (zoF H hm) (zft h hp)
 have h2 : AtC ⟨h.b i, off, none⟩ (zay h r) w := by rw [zgX]; exact h1
 rcases hv with ⟨rfl, rfl⟩ | ⟨v, rfl, rfl, rfl, rfl⟩
 ·exact zbp E ho (zaf hx) ht (zdD (zft h hp)).2.1 h2
 ·exact zaR E ho (zaf hx) ht h2
theorem zx4 {X : List Nat} {w : World} {h : Hn} {i n : Nat} (H : Sp X w (zad h [] m) (zaN h R)) (e : zCL R m i = some n) : (h.r i).1 = none → n = 0 := by
 unfold zCL at e
 split at e
 ·rename_i n' hn'
  obtain rfl := Option.some.inj e
  obtain ⟨f, hf⟩ := zda hn'
  exact (show ((h.r i).1 = none → n' = 0) ∧ f (h.r i) w from (H.facts _ (zaO.2 ⟨_, hf, rfl⟩)).now).1
 ·split at e
  ·rename_i e' sz n' xs hm
   obtain rfl := Option.some.inj e
   intro hA
   have hh : w.ownsRow 0 e' sz (.slice (h.r i).1 n' (h.r i).2) n' (xs (h.q i)) := H.holds _ ((zaG h m [] i _ hm (by simp)).mem_iff.2 (List.mem_cons_self ..))
   rcases hh.2 with ⟨_, e2⟩ | ⟨g, cap, cur, e1, _⟩
   ·exact e2
   ·rw [hA] at e1; injection e1 with e1; cases e1
  ·cases e
theorem zx5 {x : Operand} (ho : o.op = .move x) (h : match evS l x with | some v => K v [] | none => C) : zqp P N k l m R o K C := by
 cases hx : evS l x with
 | none => simp only [hx] at h; exact .inr h
 | some v => simp only [hx] at h; exact zaE (fun hn w => zjj ho (zaf hx)) h
theorem zrN {x : Operand} (ho : o.op = .assign x) (h : match evS l x with | some v => K v [] | none => C) : zqp P N k l m R o K C := by
 cases hx : evS l x with
 | none => simp only [hx] at h; exact .inr h
 | some v => simp only [hx] at h; exact zaE (fun hn w => zkv ho (zaf hx)) h
theorem zdT {op : BinOp} {t u : TypeId} {x y : Operand} {ik : IntKind} {p q : Int} {sv : SV} {v : Value} (ho : o.op = .binOp op t x y u) (hx : evS l x = some (zaH ik p)) (hy : evS l y = some (zaH ik q)) (hr : zdY op ik p q = some v) (hv : ∀ h, sv.den h = v) (hk : K sv []) : zqp P N k l m R o K C :=
 zaE (fun h w => by rw [hv]; exact zoj ho (zaf hx) (zaf hy) hr) hk
theorem zx6 {ty : TypeId} {x : Operand} (hT : zbt P T) (ho : o.op = .load ty x) (h : match znj (evS l x), szT T ty with
  | some (.own i off), some (n, ag) => match ziI R m i with
   | some cs => match zqm cs off n with
    | some r => match ag, r with
     | true, r => K (.a (.agg r)) []
     | false, [.one v] => bif Nat.beq n 1 then K (.a (.s v)) [] else C
     | _, _ => C
    | none => C
   | none => C
  | _, _ => C) : zqp P N k l m R o K C := by
 split at h
 ·rename_i i off n1 n2 hx hn
  have hx' := zbq hx
  have hn' := zeR hT hn
  split at h
  ·rename_i cs hm
   split at h
   ·rename_i r hp
    split at h
    ·exact zd5 (zkH ho hx' hn' hm hp (.inl ⟨rfl, rfl⟩)) h
    ·rename_i v
     cases hb : Nat.beq n1 1 with
     | false => simp only [hb, cond_false] at h; exact .inr h
     | true =>
      simp only [hb, cond_true] at h
      have hb := Nat.eq_of_beq_eq_true hb
      exact zd5 (zkH ho hx' hn' hm hp (.inr ⟨v, rfl, hb, rfl, rfl⟩)) h
    ·exact .inr h
   ·exact .inr h
  ·exact .inr h
 ·exact .inr h
theorem zva {s : TypeId} {x : Operand} {f : Nat} (hT : zbt P T) (ho : o.op = .fieldAddr s x f) (h : match kT T s, znj (evS l x) with
  | .st fs, some p => match fs[f]? with
   | some (q1, q2) => bif Nat.beq q2 0 then C else match p with | .own i off => zbO (off + q1) fun n => K (atS i n) [] | .ptr ad => K (zuF (ad.add q1)) [] | .hp i j sz off => zbO (off + q1) fun n => K (hpS i j sz n) []
   | none => C
  | _, _ => C) : zqp P N k l m R o K C := by
 split at h
 ·rename_i fs p hk hx
  have hx' := zbq hx
  have hok := ziG hT s
  rw [hk] at hok
  split at h
  ·rename_i q1 q2 hq
   cases hb : Nat.beq q2 0 with
   | true => simp only [hb, cond_true] at h; exact .inr h
   | false =>
    simp only [hb, cond_false] at h
    have h0 : q2 ≠ 0 := fun e => by rw [e] at hb; cases hb
    have hz : zgv P s (0 + f) = some (q1, q2) := FZ.get hok.2 hq
    rw [Nat.zero_add] at hz
    have hf := zrE (f := f) (off := q1) (sz := q2) hz h0
    cases p with
    | own i off =>
     exact zaE (sv := atS i (off + q1)) (fun hn w => by
      have := zba (S := ze0) (ws := w) ho (zaf (h := hn) hx') hf
      rw [zhF] at this
      exact this) (zbc h)
    | ptr ad => exact zaE (sv := zuF (ad.add q1)) (fun hn w => zba ho (zaf hx') hf) h
    | hp i j sz off =>
     have h := zbc h
     exact zaE (sv := hpS i j sz (off + q1)) (fun hn w => by
      have := zba (S := ze0) (ws := w) ho (zaf (h := hn) hx') hf
      rw [Addr.add_add] at this
      exact this) h
  ·exact .inr h
 ·exact .inr h
theorem zg0 {t n sz : Nat} {x y : Operand} {z : Int} {ik : IntKind} {p : Pl} (ho : o.op = .indexAddr t x y) (ht : arK P t = some (n, sz)) (hx : evS l x = some p.sv) (hy : evS l y = some (zaH ik z))
  (h : match p with | .own i off => ∃ j : Nat, (z = (j : Int) ∧ j < n) ∧ (zbO (off + j * sz) (fun n => K (atS i n) []) ∨ K (apS i off j sz) []) | .ptr ad => ∃ j : Nat, (z = (j : Int) ∧ j < n) ∧ K (zuF (ad.add (j * sz))) [] | .hp _ _ _ _ => C) : zqp P N k l m R o K C := by
 cases p with
 | own i off =>
  obtain ⟨j, ⟨h1, h2⟩, h3⟩ := h
  have key : ∀ (hn : Hn) (w : World), PK P ze0 w (zcu hn l) o (.pointer (some ⟨hn.b i, off + j * sz, none⟩)) := fun hn w => by
   have := zw1 (S := ze0) (ws := w) ho ht (zaf (h := hn) hx) (zaf hy) h1 h2
   rw [zhF] at this
   exact this
  rcases h3 with h3 | h3
  ·exact zaE (sv := atS i (off + j * sz)) key (zbc h3)
  ·exact zaE (sv := apS i off j sz) key h3
 | ptr ad =>
  obtain ⟨j, ⟨h1, h2⟩, h3⟩ := h
  exact zaE (fun hn w => zw1 ho ht (zaf (h := hn) hx) (zaf hy) h1 h2) h3
 | hp i j sz off => exact .inr h
theorem zg1 {t n sz : Nat} {x : Operand} {p : Pl} (ho : o.op = .slice t x none none none) (ht : arK P t = some (n, sz)) (hx : evS l x = some p.sv) (h : match p with | .own i off => K (slS i off n n) [] | .ptr ad => K (.a (.s (.p (.v (.slice (some ad) n n))))) [] | .hp _ _ _ _ => C) : zqp P N k l m R o K C := by
 cases p with
 | own i off => exact zaE (fun hn w => zng ho ht (zaf (h := hn) hx)) h
 | ptr ad => exact zaE (fun hn w => zng ho ht (zaf (h := hn) hx)) h
 | hp i j sz off => exact .inr h
theorem zjv {cs : List SC} {t : Nat} {sv : SV} (hk : K sv [.blk cs t]) (hr : ∀ (h : Hn) (a : Act) (w : World), Env a N (zcu h l) → ∀ h1 : Hn, h1.b k = w.heap.size → AgS (fun i => decide (i ≠ k)) h h1 → (execOp a.eval o).run P w = .ok (.value (sv.den h1)) (w.alloc (.cells (ca (zay h1 cs)) t))) : zqp P N k l m R o K C :=
 .inl ⟨sv, _, zu9 sv hr, hk⟩
theorem zoG (k : Nat) : Nat.blt k k = false := by
 cases h : Nat.blt k k with
 | false => rfl
 | true => have := Nat.le_of_ble_eq_true h; omega
theorem zrO (hT : zbt P T) (h : tqA T k l m R o K C) : zqp P N k l m R o K C := by
 unfold tqA at h
 split at h
 ·rename_i x ho; exact zx5 ho h
 ·rename_i x ho; exact zrN ho h
 ·rename_i c x y ho
  split at h
  ·rename_i b u v hc hx hy
   have hc' := zd3 hc
   cases b with
   | true => exact zaE (fun hn w => zrj ho (zaf hc') (zaf hx)) h
   | false => exact zaE (fun hn w => zrj ho (zaf hc') (zaf hy)) h
  ·exact .inr h
 ·rename_i x i ho
  split at h
  ·rename_i xs hx
   split at h
   ·rename_i s hs
    exact zaE (sv := .a s) (fun hn w => ziR ho (zaf (zu7 hx)) (zrF hn xs i s hs)) h
   ·exact .inr h
  ·exact .inr h
 ·rename_i f fs cs ho
  split at h
  ·rename_i a b ha hb
   exact zaE (fun hn w => zm7 ho (znk ha) (znk hb)) h
  ·exact .inr h
 ·rename_i op t x y u ho
  split at h
  ·rename_i k1 a k2 b hx hy
   have hx' := zb4 hx
   have hy' := zb4 hy
   cases hb : ikB k1 k2 with
   | false => simp only [hb, cond_false] at h; exact .inr h
   | true =>
    simp only [hb, cond_true] at h
    rw [← of_decide_eq_true hb] at hy'
    split at h
    ·exact zdT ho hx' hy' rfl (fun _ => rfl) (zdE h)
    ·exact zdT ho hx' hy' rfl (fun _ => rfl) (zdE h)
    ·exact zdT ho hx' hy' rfl (fun _ => rfl) (zdE h)
    ·exact zdT ho hx' hy' rfl (fun _ => rfl) (zdE h)
    ·exact zdT ho hx' hy' rfl (fun _ => rfl) (zdE h)
    ·exact zdT ho hx' hy' rfl (fun _ => rfl) (zdE h)
    ·obtain ⟨z, hz, h⟩ := h; exact zdT ho hx' hy' (by rw [zdY, hz]) (fun _ => rfl) h
    ·obtain ⟨z, hz, h⟩ := h; exact zdT ho hx' hy' (by rw [zdY, hz]) (fun _ => rfl) h
    ·obtain ⟨z, hz, h⟩ := h; exact zdT ho hx' hy' (by rw [zdY, hz]) (fun _ => rfl) h
    ·exact .inr h
  ·split at h
   ·rename_i x' j hk hx hy
    have hok := ziG hT t
    rw [hk] at hok
    have hx' := zoD hx
    have hy' := zoD hy
    split at h
    ·exact zaE (fun hn w => zAR ho hok.1 (zaf hx') (zaf hy')) (zdE h)
    ·exact zaE (fun hn w => zAS ho hok.1 (zaf hx') (zaf hy')) (zdE h)
    ·exact .inr h
   ·exact .inr h
 ·rename_i t x ho
  split at h
  ·rename_i b hx
   exact zaE (fun hn w => zrk ho (zaf (zd3 hx))) (zdE h)
  ·exact .inr h
 ·rename_i s t x ho
  split at h
  ·rename_i k1 a n kk hx hs hk
   have hx' := zb4 hx
   have hs' := zeR hT hs
   have hok := ziG hT t
   rw [hk] at hok
   obtain ⟨z, hz, h⟩ := h
   exact zaE (fun hn w => by
    have := zrm (S := ze0) (ws := w) ho (zaf (h := hn) hx') (by obtain ⟨d, hd, _⟩ := zkw hs'; rw [hd]; rfl) hok
    rw [hz] at this
    exact this) h
  ·exact .inr h
 ·rename_i x ho
  split at h
  ·rename_i i off hx
   exact zaE (fun hn w => by
    have hv := zaf (h := hn) (zbq hx)
    intro w' _ a N E
    unfold execOp
    simp only [ho, Sem.run_bind, E.ev hv]
    rfl) h
  ·rename_i ad hx
   exact zaE (fun hn w => by
    have hv := zaf (h := hn) (zbq hx)
    intro w' _ a N E
    unfold execOp
    simp only [ho, Sem.run_bind, E.ev hv]
    rfl) h
  ·rename_i i j sz off hx
   exact zaE (fun hn w => by
    have hv := zaf (h := hn) (zbq hx)
    intro w' _ a N E
    unfold execOp
    simp only [ho, Sem.run_bind, E.ev hv]
    rfl) h
  ·exact .inr h
 ·rename_i ty x ho; exact zx6 hT ho h
 ·rename_i s x f ho; exact zva hT ho h
 ·rename_i t x y ho
  have hok := ziG hT t
  split at h
  ·rename_i z sz e hy hk
   rw [hk] at hok
   have hy' := zb4 hy
   have hel := zCM hok.1 hok.2
   split at h
   ·rename_i i off n c hx
    obtain ⟨j, ⟨h1, h2⟩, h3⟩ := h
    have key : ∀ (hn : Hn) (w : World), PK P ze0 w (zcu hn l) o (.pointer (some ⟨hn.b i, off + j * _, none⟩)) := fun hn w => by
     have := zuT (S := ze0) (ws := w) ho hel (zaf (h := hn) (zju hx)) (zaf hy') h1 h2
     rw [zhF] at this
     exact this
    rcases h3 with h3 | h3
    ·exact zaE (sv := atS i (off + j * _)) key (zbc h3)
    ·exact zaE (sv := apS i off j _) key h3
   ·rename_i A n c hx
    obtain ⟨j, ad, ⟨rfl, h1, h2⟩, h3⟩ := h
    exact zaE (fun hn w => zuT ho hel (zaf (h := hn) (zju hx)) (zaf hy') h1 h2) h3
   ·rename_i i n hx
    split at h
    ·rename_i n' hn'
     obtain ⟨j, ⟨h1, h2, h4⟩, h3⟩ := h
     refine zd5 (sv := hpS i j _ 0) (fun hn X a w E H => ?_) h3
     have hA := zx4 H hn'
     have hs := zaf (h := hn) (zju hx)
     cases hq : (hn.r i).1 with
     | none => have := hA hq; omega
     | some ad =>
      have hs' : ev (zcu hn l) x = some (.slice (some ad) n (hn.r i).2) := by rw [hs, ← hq]; rfl
      have := zuT (P := P) (S := ze0) (ws := w) ho hel hs' (zaf (h := hn) hy') h1 h2 w (CanB.Keep.refl _ _) a N E
      rw [this]
      show _ = Result.ok (Next.value (.pointer (some ((((hn.r i).1.getD ⟨0, 0, none⟩).add (j * _)).add 0)))) w
      rw [hq, zau]
      rfl
    ·exact .inr h
   ·exact .inr h
  ·rename_i kk z n sz hy hk
   rw [hk] at hok
   have hy' := zb4 hy
   split at h
   ·rename_i i off hx; exact zg0 (p := .own i off) ho hok.1 (zbq hx) hy' h
   ·rename_i ad hx; exact zg0 (p := .ptr ad) ho hok.1 (zbq hx) hy' h
   ·exact .inr h
  ·rename_i kk z hy hk
   rw [hk] at hok
   have hy' := zb4 hy
   split at h
   ·rename_i i off hx; exact zg0 (p := .own i off) ho hok.2.1 (zbq hx) hy' h
   ·rename_i ad hx; exact zg0 (p := .ptr ad) ho hok.2.1 (zbq hx) hy' h
   ·exact .inr h
  ·exact .inr h
 ·rename_i t x ho
  have hok := ziG hT t
  split at h
  ·rename_i n sz i off hk hx
   rw [hk] at hok
   exact zg1 (p := .own i off) ho hok.1 (zbq hx) h
  ·rename_i i off hk hx
   rw [hk] at hok
   exact zg1 (p := .own i off) ho hok.2.1 (zbq hx) h
  ·rename_i n sz ad hk hx
   rw [hk] at hok
   exact zg1 (p := .ptr ad) ho hok.1 (zbq hx) h
  ·rename_i ad hk hx
   rw [hk] at hok
   exact zg1 (p := .ptr ad) ho hok.2.1 (zbq hx) h
  ·exact .inr h
 ·rename_i ty parts ho
  have hok := ziG hT ty
  split at h
  ·rename_i z fs hz hk
   rw [hk] at hok
   split at h
   ·rename_i r hr
    exact zaE (fun hn w => zuV ho hok.1 (zqn hT hz hn) (zfx (fun i x hi => by have := FZ.get hok.2 hi; rwa [Nat.zero_add] at this) hr)) h
   ·exact .inr h
  ·rename_i z n sz hz hk
   rw [hk] at hok
   split at h
   ·rename_i r hr
    exact zaE (fun hn w => zfu (zay hn r) ho hok.1 (zqn hT hz hn) (zfx (fun i x hi => hi) hr) rfl) h
   ·exact .inr h
  ·rename_i z hz hk
   rw [hk] at hok
   split at h
   ·rename_i hp
    exact zaE (fun hn w => zfu (zay hn z) ho hok.2.1 (zqn hT hz hn) (by rw [hp]; rfl) rfl) h
   ·exact .inr h
  ·exact .inr h
 ·rename_i ty ho
  split at h
  ·rename_i z hz
   exact zjv h fun hn a w E h1 hb ha => by
    have := zkG (P := P) (a := a) (w := w) ho (zqn hT hz h1)
    rw [this]
    show Result.ok (Next.value (.pointer (some ⟨w.heap.size, 0, none⟩))) _ = Result.ok (Next.value (.pointer (some ⟨h1.b k, 0, none⟩))) _
    rw [hb]
  ·exact .inr h
 ·rename_i ty x ho
  split at h
  ·rename_i cs hcs
   cases hw : wfC (fun i => Nat.ble (i + 1) k) cs with
   | false => simp only [hw, cond_false] at h; exact .inr h
   | true =>
    simp only [hw, cond_true] at h
    cases hx : evS l x with
    | none => rw [hx] at hcs; cases hcs
    | some v =>
     rw [hx] at hcs
     exact zjv h fun hn a w E h1 hb ha => by
      have e1 : zay h1 cs = zay hn cs := zcU (zrJ (S := fun i => Nat.ble (i + 1) k) ha (zoG _)) hw
      rw [e1, zx2 ho (E.ev (zaf hx)) (zd4 hcs)]
      show Result.ok (Next.value (.pointer (some ⟨w.heap.size, 0, none⟩))) _ = Result.ok (Next.value (.pointer (some ⟨h1.b k, 0, none⟩))) _
      rw [hb]
  ·exact .inr h
 ·rename_i t len parts ho
  have hok := ziG hT t
  split at h
  ·rename_i e sz hk
   rw [hk] at hok
   cases hle : (Nat.ble 1 (len * sz) && Nat.ble (len * sz) 16777216) with
   | false => simp only [hle, cond_false] at h; exact .inr h
   | true =>
    simp only [hle, cond_true] at h
    rw [Bool.and_eq_true] at hle
    have hl1 := Nat.le_of_ble_eq_true hle.1
    have hl2 := Nat.le_of_ble_eq_true hle.2
    split at h
    ·rename_i z hz
     cases hls : zeM z sz with
     | false => simp only [hls, cond_false] at h; exact .inr h
     | true =>
      simp only [hls, cond_true] at h
      split at h
      ·rename_i r hr
       cases hw : wfC (fun i => Nat.ble (i + 1) k) r with
       | false => simp only [hw, cond_false] at h; exact .inr h
       | true =>
        simp only [hw, cond_true] at h
        exact zjv h fun hn a w E h1 hb ha => by
         have e1 : zay h1 r = zay hn r := zcU (zrJ (S := fun i => Nat.ble (i + 1) k) ha (zoG _)) hw
         rw [e1, zqo E ho hok.1 hok.2 (by omega) (zu8 (zqn hT hz hn) (zcq hls)) (zfx (fun i x hi => hi) hr)]
         show Result.ok (Next.value (.slice (some ⟨w.heap.size, 0, none⟩) len len)) _ = Result.ok (Next.value (.slice (some ⟨h1.b k, 0, none⟩) len len)) _
         rw [hb]
      ·exact .inr h
    ·exact .inr h
  ·exact .inr h
 ·rename_i c ho
  split at h
  ·rename_i x t hc hargs htys
   have hok := ziG hT t
   split at h
   ·rename_i e sz s hk hx
    rw [hk] at hok
    have hop : o.op = .call { callee := .builtin .len, args := #[x], argTypes := #[t] } := by
     rw [ho]
     obtain ⟨c1, c2, c3⟩ := c
     simp only at hc hargs htys
     subst hc
     rw [show c2 = #[x] from Array.toList_inj.1 hargs, show c3 = #[t] from Array.toList_inj.1 htys]
    exact zaE (fun hn w => by
     obtain ⟨A, cc, hs⟩ := Sl.ev (h := hn) s
     exact zwY hop ((zaf (zju hx)).trans (by rw [hs])) (zAW hok.1)) h
   ·exact .inr h
  ·exact .inr h
 ·exact .inr h
theorem zg2 (h : Hn) : ∀ {cs : List SC} {n : Nat} {v : Value}, znn cs n = some v → (cl (zay h cs))[n]? = some v
 | [], _, _, e => by cases e
 | .one x :: cs, 0, v, e => by
  cases x with
  | p x => cases x with
   | v u => rw [← Option.some.inj e]; rfl
   | _ => cases e
  | fn _ _ _ => cases e
 | .one x :: cs, n + 1, v, e => by
  have := zg2 h (cs := cs) (n := n) e
  simpa [zay, cl, SC.den, Chunk.cells] using this
 | .key k :: cs, n, v, e => by
  rw [znn] at e
  cases hb : Nat.ble 32 n with
  | true =>
   rw [hb] at e
   have hle := Nat.le_of_ble_eq_true hb
   have := zg2 h (cs := cs) (n := n - 32) e
   simp only [zay, cl, SC.den, Chunk.cells]
   rw [List.getElem?_append_right (by simp [zf2]; omega)]
   simpa [zf2] using this
  | false =>
   rw [hb] at e
   have hlt : n < 32 := Nat.lt_of_not_le fun hle => by rw [Nat.ble_eq_true_of_le hle] at hb; cases hb
   simp only [zay, cl, SC.den, Chunk.cells]
   rw [List.getElem?_append_left (by simp [zf2]; omega), ← Option.some.inj e]
   simp [zf2, hlt]
 | .row m f :: cs, n, v, e => by
  rw [znn] at e
  cases hb : Nat.ble m n with
  | true =>
   rw [hb] at e
   have hle := Nat.le_of_ble_eq_true hb
   have := zg2 h (cs := cs) (n := n - m) e
   simp only [zay, cl, SC.den, Chunk.cells]
   rw [List.getElem?_append_right (by simp; omega)]
   simpa using this
  | false =>
   rw [hb] at e
   have hlt : n < m := Nat.lt_of_not_le fun hle => by rw [Nat.ble_eq_true_of_le hle] at hb; cases hb
   simp only [zay, cl, SC.den, Chunk.cells]
   rw [List.getElem?_append_left (by simp; omega), ← Option.some.inj e]
   simp [hlt]
theorem zrP (h : Hn) {cs : List SC} {off n j : Nat} {f : Nat → Value} (e : zCp cs off = some (n, f)) (hj : j < n) : (cl (zay h cs))[off + j]? = some (f j) := by
 unfold zCp at e
 split at e
 ·rename_i m g r hd
  injection e with e
  injection e with e1 e2
  subst e1 e2
  have h1 := (zfo _ _ _ (zcV h _ _ _ hd)).1
  have h2 := congrArg (fun l => l[j]?) h1
  simp only [List.getElem?_drop] at h2
  rw [← h2]
  simp only [zay, cl, SC.den, Chunk.cells]
  rw [List.getElem?_append_left (by simpa using hj)]
  simp [hj]
 ·rename_i k r hd
  injection e with e
  injection e with e1 e2
  subst e1 e2
  have h1 := (zfo _ _ _ (zcV h _ _ _ hd)).1
  have h2 := congrArg (fun l => l[j]?) h1
  simp only [List.getElem?_drop] at h2
  rw [← h2]
  simp only [zay, cl, SC.den, Chunk.cells]
  rw [List.getElem?_append_left (by simpa [zf2] using hj)]
  simp [zf2, hj]
 ·cases e
theorem zx7 {X : List Nat} {w : World} {h : Hn} {i : Nat} {cs : List SC} {v : Value} {c : Nat} (H : Sp X w (zad h [] m) (zaN h R)) (hm : ziI R m i = some cs) (hc : (cl (zay h cs))[c]? = some v) : AtC ⟨h.b i, c, none⟩ [.one v] w := fun t u hu => by
 have h1 := zoF H hm c v hc
 rw [zhF] at h1 ⊢
 cases t with
 | zero =>
  have : u = v := by simpa [cl, Chunk.cells] using hu.symm
  rw [this]
  simpa using h1
 | succ t => simp [cl, Chunk.cells] at hu
theorem zoH (h : Hn) (f : Nat → Value) : ∀ (n j : Nat), cl (zay h (zrM n j f)) = (List.range n).map fun i => f (j + i)
 | 0, j => rfl
 | n + 1, j => by
  rw [zrM, zay, cl, zoH h f n (j + 1), List.range_succ_eq_map, List.map_cons, List.map_map]
  simp only [SC.den, SS.den, SP.den, Chunk.cells, List.singleton_append, Nat.add_zero, List.cons.injEq, true_and]
  exact List.map_congr_left fun i _ => by simp only [Function.comp]; congr 1; omega
theorem zoI (h : Hn) {f : Nat → Value} : ∀ {n j : Nat} {cs : List SC}, zx3 f n j cs → cl (zay h cs) = (List.range n).map fun i => f (j + i)
 | 0, _, [], _ => rfl
 | 0, _, _ :: _, e => e.elim
 | n + 1, j, [], e => e.elim
 | n + 1, j, .one x :: cs, e => by
  cases x with
  | p x => cases x with
   | v u =>
    rw [zay, cl, zoI h e.2, List.range_succ_eq_map, List.map_cons, List.map_map]
    simp only [SC.den, SS.den, SP.den, Chunk.cells, List.singleton_append, Nat.add_zero, List.cons.injEq]
    exact ⟨e.1.symm, List.map_congr_left fun i _ => by simp only [Function.comp]; congr 1; omega⟩
   | _ => exact e.elim
  | fn _ _ _ => exact e.elim
 | n + 1, j, .key _ :: cs, e => e.elim
 | n + 1, j, .row _ _ :: cs, e => e.elim
theorem zoJ {n : Nat} {f : Nat → Value} {cs : List Chunk} (h : cl cs = (List.range n).map fun i => f (0 + i)) : ca cs = ca [.row n f] := by
 unfold ca
 rw [h]
 simp [cl, Chunk.cells]
theorem zrQ (hT : zbt P T) (h : tqB T l m R o K C) : zqp P N k l m R o K C := by
 unfold tqB at h
 split at h
 ·rename_i op t x y u ho
  split at h
  ·rename_i k1 a k2 b hx hy
   have hx' := zb4 hx
   have hy' := zb4 hy
   have hk : ∀ {A : Prop}, (bif ikB k1 k2 then A else C) → (k1 = k2 ∧ A) ∨ C := fun {A} h => by
    cases hb : ikB k1 k2 with
    | false => rw [hb] at h; exact .inr h
    | true => rw [hb] at h; exact .inl ⟨of_decide_eq_true hb, h⟩
   split at h
   ·obtain ⟨h0, z, hz, h⟩ := h; exact zaE (sv := zaH k1 z) (fun hn w => by
     have := zAJ (P := P) (S := ze0) (ws := w) ho (zaf (h := hn) hx') (zaf hy') h0
     rw [hz] at this
     exact this) h
   ·obtain ⟨h0, z, hz, h⟩ := h; exact zaE (sv := zaH k1 z) (fun hn w => by
     have := zAK (P := P) (S := ze0) (ws := w) ho (zaf (h := hn) hx') (zaf hy') h0
     rw [hz] at this
     exact this) h
   ·rcases hk h with ⟨rfl, z, hz, h⟩ | h
    ·exact zdT ho hx' hy' (by rw [zdY, hz]) (fun _ => rfl) h
    ·exact .inr h
   ·rcases hk h with ⟨rfl, z, hz, h⟩ | h
    ·exact zdT ho hx' hy' (by rw [zdY, hz]) (fun _ => rfl) h
    ·exact .inr h
   ·rcases hk h with ⟨rfl, z, hz, h⟩ | h
    ·exact zdT ho hx' hy' (by rw [zdY, hz]) (fun _ => rfl) h
    ·exact .inr h
   ·rcases hk h with ⟨rfl, h0, z, hz, h⟩ | h
    ·exact zaE (sv := zaH k1 z) (fun hn w => by
      have := zAI (P := P) (S := ze0) (ws := w) ho (zaf (h := hn) hx') (zaf hy') h0
      rw [hz] at this
      exact this) h
    ·exact .inr h
   ·rcases hk h with ⟨rfl, h0, z, hz, h⟩ | h
    ·exact zaE (sv := zaH k1 z) (fun hn w => by
      have := zAH (P := P) (S := ze0) (ws := w) ho (zaf (h := hn) hx') (zaf hy') h0
      rw [hz] at this
      exact this) h
    ·exact .inr h
   ·exact .inr h
  ·exact .inr h
 ·rename_i t x ho
  split at h
  ·rename_i k1 a hx
   obtain ⟨z, hz, h⟩ := h
   exact zaE (sv := zaH k1 z) (fun hn w => by
     have := zAL (P := P) (S := ze0) (ws := w) ho (zaf (h := hn) (zb4 hx))
     rw [hz] at this
     exact this) h
  ·exact .inr h
 ·rename_i ty x ho
  split at h
  ·rename_i hs
   have hty := zeR hT hs
   split at h
   ·rename_i i off hx
    split at h
    ·rename_i cs hm
     split at h
     ·rename_i v hc
      exact zd5 (sv := zix v) (fun hn X a w E H => zaR E ho (zaf (h := hn) hx) hty (zx7 H hm (zg2 hn hc))) h
     ·exact .inr h
    ·exact .inr h
   ·rename_i i off j s hx
    split at h
    ·rename_i cs hm
     split at h
     ·rename_i n f hr
      cases hb : Nat.beq s 1 with
      | false => simp only [hb, cond_false] at h; exact .inr h
      | true =>
       simp only [hb, cond_true] at h
       obtain rfl := Nat.eq_of_beq_eq_true hb
       exact zd5 (sv := zix (f j)) (fun hn X a w E H => zaR E ho (zaf (h := hn) hx) hty (zx7 H hm (by rw [Nat.mul_one]; exact zrP hn hr h.1))) h.2
     ·exact .inr h
    ·exact .inr h
   ·exact .inr h
  ·exact .inr h
 ·rename_i t x y ho
  have hok := ziG hT t
  split at h
  ·rename_i n n' f kk z hk hx hy
   rw [hk] at hok
   have hy' := zb4 hy
   cases hb : Nat.beq n n' with
   | false => simp only [hb, cond_false] at h; exact .inr h
   | true =>
    simp only [hb, cond_true] at h
    obtain rfl := Nat.eq_of_beq_eq_true hb
    obtain ⟨j, ⟨h1, h2⟩, h⟩ := h
    exact zaE (sv := zix (f j)) (fun hn w => zoy ho (hok.2 rfl) ((zaf (h := hn) hx).trans rfl) (zaf hy') h1 h2) h
  ·rename_i b kk z hk hx hy
   rw [hk] at hok
   have hy' := zb4 hy
   obtain ⟨j, ⟨h1, h2⟩, h⟩ := h
   refine zaE (sv := zix (bv (b.getD j 0))) (fun hn w => zoy (f := fun i => bv (b.getD i 0)) ho hok.2.2 ((zaf (h := hn) hx).trans ?_) (zaf hy') h1 h2) h
   show some (Value.agg (ca [.key b])) = _
   rw [zoJ (n := 32) (f := fun i => bv (b.getD i 0)) (cs := [.key b]) (by simp [cl, Chunk.cells, zf2])]
  ·exact .inr h
 ·rename_i ty parts ho
  have hok := ziG hT ty
  split at h
  ·rename_i n n' f0 hk hz
   rw [hk] at hok
   cases hb : Nat.beq n n' with
   | false => simp only [hb, cond_false] at h; exact .inr h
   | true =>
    simp only [hb, cond_true] at h
    obtain rfl := Nat.eq_of_beq_eq_true hb
    split at h
    ·rename_i r hr
     obtain ⟨f, h1, h⟩ := h
     refine zaE (sv := .a (.agg [.row n f])) (fun hn w => zfu (z := zay hn (zrM n 0 f0)) [.row n f] ho hok.1 ?_ (zfx (fun i x hi => hi) hr) (zoJ (zoI hn h1))) h
     rw [zqn hT hz hn, zoJ (zoH hn f0 n 0)]
     rfl
    ·exact .inr h
  ·exact .inr h
 ·exact .inr h
theorem zoK (hT : zbt P T) (h : tq T k l m R o K C) : zqp P N k l m R o K C := by
 rcases zrO (N := N) hT h with h | h
 ·exact .inl h
 ·exact zrQ hT h
end
end
section
open Go.RowKit
section
variable {P : Program} {Q : Exit → Act → World → Prop} {l : List Oper} {n : Nat} {a : Act}
def zjw (n len : Nat) : Array Bool := (List.replicate n true ++ List.replicate (len - n) false).toArray
theorem zeS {id : Nat} {w : World} (Tl : Act → World → Prop) (n : Nat) (ps : List (List Nat)) (Inv : Array Bool → Act → World → Prop) (hm : P.follows .mixedOrders = true) (hn : n < l.length) (hp : ps.length = n) (hps : zhp l 0 ps = true) (hwt : ∀ listed : Array Bool, HeadInv .any l.toArray n listed → ∀ i, i < n → listed.getD i true = false → ∀ t, n ≤ t → t ∉ Region.ready .any l.toArray listed)
  (htl : ∀ a w, Tl a w → wpAny P .any l.toArray Q (l.toArray.size - n) (zjw n l.length) a w)
  (h0 : Inv (Array.replicate l.length false) a w.drew)
  (hstep : ∀ (listed : Array Bool) (a' : Act) (w' : World) (j : Nat) (oj : Oper) (js : List Nat), j < n → l[j]? = some oj → ps[j]? = some js → listed.size = l.length → listed.getD j true = false → (∀ k ∈ js, k < j ∧ listed.getD k true = true) → Inv listed a' w' →
   (if Region.wanted oj (yielded l.toArray a'.tmps) then oj.wp P a' w' (fun a2 w2 => Inv (listed.setIfInBounds j true) a2 w2) Q else Inv (listed.setIfInBounds j true) (a'.put oj.dst undef) w'))
  (hend : ∀ (listed : Array Bool) (a' : Act) (w' : World), (∀ i, i < n → listed.getD i true = true) → Inv listed a' w' → Tl a' w') : (Code.region id l.toArray true).wp P Q a w := by
 have hn' : n < l.toArray.size := by simpa using hn
 have inv0 : HeadInv .any l.toArray n (Array.replicate l.toArray.size false) :=
  ⟨by simp, fun j oj _ hl => (by rw [getD_replicate_false] at hl; cases hl), fun t _ ht => getD_in (by simpa using ht) (getD_replicate_false _ _)⟩
 have main : ∀ (f : Nat) (listed : Array Bool) (a' : Act) (w' : World), HeadInv .any l.toArray n listed → zf1 n listed = f → Inv listed a' w' →
   wpAnyC P .any l.toArray Q (fun _ => True) n (fun listed' a' w' => listed' = zjw n l.length ∧ Tl a' w') f listed a' w' := by
  intro f
  induction f with
  | zero =>
   intro listed a' w' inv hr hI
   refine ⟨?_, hend listed a' w' (zcS n listed hr) hI⟩
   have e : listed = (List.replicate n true ++ List.replicate (l.length - n) false).toArray := by
    apply Array.ext_getElem?
    intro i
    have hsz := inv.size
    simp only [List.size_toArray] at hsz
    by_cases hi : i < n
    ·have h1 := zcS n listed hr i hi
     have h2 : i < listed.size := by omega
     simp [h2] at h1
     simp [List.getElem?_append, hi, h2, h1]
    ·by_cases hi2 : i < l.length
     ·have h1 := inv.tail i (by omega) (by simpa using hi2)
      have h2 : i < listed.size := by omega
      simp [h2] at h1
      simp only [jL, List.getElem?_append, List.length_replicate, hi, if_false, List.getElem?_replicate]
      rw [if_pos (by omega), Array.getElem?_eq_getElem h2, h1]
     ·rw [Array.getElem?_eq_none (by omega)]
      simp only [jL, List.getElem?_append, List.length_replicate, hi, if_false, List.getElem?_replicate]
      rw [if_neg (by omega)]
   exact e
  | succ f ih =>
   intro listed a' w' inv hr hI
   obtain ⟨i, hi, hil, hmin⟩ := zjg n listed hr
   refine ⟨?_, fun j hj => ?_⟩
   ·intro h0
    obtain ⟨o, ho, he, _⟩ := zci l ps 0 hps i ps[i] (by simp)
    have : i ∈ Region.ready .any l.toArray listed := mem_ready.2 ⟨hil, o, by simpa using ho, fun e hee hbe => by
     have h1 := he e hee hbe
     have h2 := hmin e.on (by omega)
     have h3 : e.on < listed.size := by rw [inv.size]; simp; omega
     simp [h3] at h2 ⊢
     exact h2⟩
    rw [h0] at this
    cases this
   ·have hjn : j < n := by
     rcases Nat.lt_or_ge j n with h | h
     ·exact h
     ·exact absurd hj (hwt listed inv i hi hil j h)
    refine ⟨hjn, ?_⟩
    obtain ⟨hjl, oj, hoj, hall⟩ := mem_ready.1 hj
    have hoj' : l[j]? = some oj := by simpa using hoj
    have hjp : j < ps.length := by omega
    obtain ⟨oj', hoj2, hlt, hpj⟩ := zci l ps 0 hps j ps[j] (by simp [hjp])
    obtain rfl : oj' = oj := by
     rw [Nat.zero_add, hoj'] at hoj2
     exact (Option.some.inj hoj2).symm
    have hsz : listed.size = l.length := by have := inv.size; simpa using this
    have hst := hstep listed a' w' j oj' ps[j] hjn hoj' (by simp [hjp]) hsz hjl (fun k hk => by
     obtain ⟨e, hee, hbe, hek⟩ := hpj k hk
     have h1 := hall e hee hbe
     have h2 := hlt e hee hbe
     rw [hek] at h1 h2
     refine ⟨by omega, ?_⟩
     have h3 : k < listed.size := by omega
     simp [h3] at h1 ⊢
     exact h1) hI
    have go : ∀ (a2 : Act) (w2 : World), Inv (listed.setIfInBounds j true) a2 w2 →
      wpAnyC P .any l.toArray Q (fun _ => True) n (fun listed' a' w' => listed' = zjw n l.length ∧ Tl a' w') f (listed.setIfInBounds j true) a2 w2 := fun a2 w2 h2 => by
     refine ih _ _ _ (inv.set hj hjn) ?_ h2
     have := zjf n listed j hjn hjl
     omega
    unfold wpOp
    simp only [hoj]
    split
    ·rename_i hw
     rw [if_pos hw] at hst
     exact .inl (Oper.wp_mono (fun a2 w2 h => ⟨trivial, go a2 w2 h⟩) hst)
    ·rename_i hw
     rw [if_neg hw] at hst
     exact ⟨trivial, go _ _ hst⟩
 have H := main n (Array.replicate l.toArray.size false) a w.drew inv0 (by
  unfold zf1
  rw [List.filter_eq_self.2 (fun i hi => ?_)]
  ·simp
  ·have := List.mem_range.1 hi
   have : i < l.length := by omega
   simp [this]) (by simpa using h0)
 refine wp_region_any hm ?_
 have := wpAny_of_anyC (g := l.toArray.size - n) (fun listed a' w' hL => by
  obtain ⟨rfl, hL⟩ := hL
  exact htl a' w' hL) _ _ _ _ H
 rw [show n + (l.toArray.size - n) = l.toArray.size by omega] at this
 exact this
theorem zjx {id : Nat} {w : World} (n : Nat) (ps : List (List Nat)) (Inv : Array Bool → Act → World → Prop) (hm : P.follows .mixedOrders = true) (hB : zhq l n ps = true)
  (h0 : Inv (Array.replicate l.length false) a w.drew)
  (hstep : ∀ (listed : Array Bool) (a' : Act) (w' : World) (j : Nat) (oj : Oper) (js : List Nat), j < n → l[j]? = some oj → ps[j]? = some js → listed.size = l.length → listed.getD j true = false → (∀ k ∈ js, k < j ∧ listed.getD k true = true) → Inv listed a' w' →
   (if Region.wanted oj (yielded l.toArray a'.tmps) then oj.wp P a' w' (fun a2 w2 => Inv (listed.setIfInBounds j true) a2 w2) Q else Inv (listed.setIfInBounds j true) (a'.put oj.dst undef) w'))
  (hend : ∀ (listed : Array Bool) (a' : Act) (w' : World), (∀ i, i < n → listed.getD i true = true) → Inv listed a' w' → wpList P l.toArray Q (l.drop n) a' w') : (Code.region id l.toArray true).wp P Q a w := by
 simp only [zhq, Bool.and_eq_true, jS] at hB
 obtain ⟨⟨⟨⟨⟨⟨⟨hsel, hn⟩, hp⟩, hs⟩, hc⟩, hd⟩, hps⟩, hseq⟩ := hB
 refine zeS (fun a' w' => wpList P l.toArray Q (l.drop n) a' w') n ps Inv hm hn hp hps (fun listed inv i hi hil t ht => tail_waits hs hc (by simpa using hn) inv _ i rfl hi hil t ht) (fun a' w' hL => ?_) h0 hstep hend
 have hdl : (l.drop n).length = l.toArray.size - n := by simp
 have := wpAny_of_seq (md := .any) (Q' := Q) (l.drop n) n (zjw n l.length) a' w' (fun j => by simp [List.getElem?_drop]) (by rw [hdl]; simpa [zjw] using hseq) hL
 rwa [hdl] at this
def zx9 (ops : Array Oper) (n t : Nat) : Bool := (List.range n).all fun i => ((List.range n).any fun j => decide (i < j) && Region.waitsFor .any ops j i) || Region.waitsFor .any ops t i
def zoL (l : List Oper) (n : Nat) (ps : List (List Nat)) : Bool :=
 Region.noSelect l.toArray && decide (n + 2 = l.length) && decide (ps.length = n) && zx9 l.toArray n n && zx9 l.toArray n (n + 1) && zgL (l.take n) && zhp l 0 ps &&
  decide (Region.ready .any l.toArray (zjw n l.length) = [n, n + 1]) && decide (Region.ready .any l.toArray ((zjw n l.length).setIfInBounds n true) = [n + 1]) && decide (Region.ready .any l.toArray ((zjw n l.length).setIfInBounds (n + 1) true) = [n]) && decide (Region.ready .any l.toArray (((zjw n l.length).setIfInBounds n true).setIfInBounds (n + 1) true) = [])
theorem zhG {t0 : Nat} {listed : Array Bool} (hs : zx9 l.toArray n t0 = true) (hn : n ≤ l.length) (inv : HeadInv .any l.toArray n listed) : ∀ (d i : Nat), n - i = d → i < n → listed.getD i true = false → t0 ∉ Region.ready .any l.toArray listed := by
 intro d
 induction d using Nat.strongRecOn with
 | _ d ih =>
  intro i hd hi hun hr
  obtain ⟨_, ot, hot, hall⟩ := mem_ready.1 hr
  have h1 := List.all_eq_true.1 hs i (List.mem_range.2 hi)
  rw [Bool.or_eq_true] at h1
  rcases h1 with h1 | h1
  ·obtain ⟨j, hj, hj2⟩ := List.any_eq_true.1 h1
   simp only [Bool.and_eq_true, jS] at hj2
   obtain ⟨oj, hoj, e, he, hb, hon⟩ := Region.waitsFor_spec hj2.2
   have hjn := List.mem_range.1 hj
   cases hl : listed.getD j false with
   | true =>
    have h2 := inv.closed j oj hoj hl e he hb
    rw [hon, getD_both hun] at h2
    cases h2
   | false =>
    have hjs : j < listed.size := by rw [inv.size]; simp; omega
    exact ih (n - j) (by omega) j rfl hjn (getD_in hjs hl) hr
  ·obtain ⟨oj, hoj, e, he, hb, hon⟩ := Region.waitsFor_spec h1
   have : oj = ot := Option.some.inj (hoj.symm.trans hot)
   subst this
   have h2 := hall e he hb
   rw [hon, getD_both hun] at h2
   cases h2
theorem ziJ {id : Nat} {w : World} (n : Nat) (ps : List (List Nat)) (Inv : Array Bool → Act → World → Prop) (hm : P.follows .mixedOrders = true) (hB : zoL l n ps = true)
  (h0 : Inv (Array.replicate l.length false) a w.drew)
  (hstep : ∀ (listed : Array Bool) (a' : Act) (w' : World) (j : Nat) (oj : Oper) (js : List Nat), j < n → l[j]? = some oj → ps[j]? = some js → listed.size = l.length → listed.getD j true = false → (∀ k ∈ js, k < j ∧ listed.getD k true = true) → Inv listed a' w' →
   (if Region.wanted oj (yielded l.toArray a'.tmps) then oj.wp P a' w' (fun a2 w2 => Inv (listed.setIfInBounds j true) a2 w2) Q else Inv (listed.setIfInBounds j true) (a'.put oj.dst undef) w'))
  (hend : ∀ (listed : Array Bool) (a' : Act) (w' : World), (∀ i, i < n → listed.getD i true = true) → Inv listed a' w' → ∃ x y, l.drop n = [x, y] ∧ wpList P l.toArray Q [x, y] a' w' ∧ wpList P l.toArray Q [y, x] a' w') : (Code.region id l.toArray true).wp P Q a w := by
 simp only [zoL, Bool.and_eq_true, jS] at hB
 obtain ⟨⟨⟨⟨⟨⟨⟨⟨⟨⟨hsel, hn⟩, hp⟩, hs1⟩, hs2⟩, hd⟩, hps⟩, r0⟩, r1⟩, r2⟩, r3⟩ := hB
 refine zeS (fun a' w' => ∃ x y, l.drop n = [x, y] ∧ wpList P l.toArray Q [x, y] a' w' ∧ wpList P l.toArray Q [y, x] a' w') n ps Inv hm (by omega) hp hps (fun listed inv i hi hil t ht hr => ?_) (fun a' w' hL => ?_) h0 hstep hend
 ·obtain ⟨_, ot, hot, _⟩ := mem_ready.1 hr
  have htl : t < l.length := by have := (Array.getElem?_eq_some_iff.1 hot).1; simpa using this
  by_cases h : t = n
  ·subst h; exact zhG hs1 (by omega) inv _ i rfl hi hil hr
  ·obtain rfl : t = n + 1 := by omega
   exact zhG hs2 (by omega) inv _ i rfl hi hil hr
 ·obtain ⟨x, y, hxy, hL1, hL2⟩ := hL
  have hx : l.toArray[n]? = some x := by
    have : (l.drop n)[0]? = some x := by rw [hxy]; rfl
    rw [List.getElem?_drop] at this
    simpa using this
  have hy : l.toArray[n + 1]? = some y := by
    have : (l.drop n)[1]? = some y := by rw [hxy]; rfl
    rw [List.getElem?_drop] at this
    simpa using this
  have sz : l.toArray.size - n = 2 := by simp; omega
  rw [sz]
  have one : ∀ (listed : Array Bool) (i : Nat) (o : Oper) (a' : Act) (w' : World), l.toArray[i]? = some o → Region.ready .any l.toArray listed = [i] → Region.ready .any l.toArray (listed.setIfInBounds i true) = [] → wpList P l.toArray Q [o] a' w' → wpAny P .any l.toArray Q 1 listed a' w' := fun listed i o a' w' ho hr hr2 hw => by
   refine ⟨fun h1 => (by rw [hr] at h1; cases h1), fun i' hi' => ?_⟩
   rw [hr] at hi'
   obtain rfl : i' = i := by simpa using hi'
   have hw' : wpOp P l.toArray Q i' (wpList P l.toArray Q []) a' w' := by unfold wpOp; simp only [ho]; exact hw
   exact wpOp_mono (fun a2 w2 h' => ⟨hr2, h'⟩) hw'
  refine ⟨fun h1 => (by rw [r0] at h1; cases h1), fun i hi => ?_⟩
  rw [r0] at hi
  rcases List.mem_cons.1 hi with rfl | hi
  ·have hw' : wpOp P l.toArray Q i (wpList P l.toArray Q [y]) a' w' := by unfold wpOp; simp only [hx]; exact hL1
   exact wpOp_mono (fun a2 w2 h' => one _ _ y a2 w2 hy r1 r3 h') hw'
  ·obtain rfl : i = n + 1 := by simpa using hi
   have hw' : wpOp P l.toArray Q (n + 1) (wpList P l.toArray Q [x]) a' w' := by unfold wpOp; simp only [hy]; exact hL2
   exact wpOp_mono (fun a2 w2 h' => one _ _ x a2 w2 hx r2 (by rw [Array.setIfInBounds_comm _ _ (by omega)]; exact r3) h') hw'
def frB (two : Bool) (l : List Oper) (n : Nat) (ps : List (List Nat)) : Bool := bif two then zoL l n ps else zhq l n ps
def zrR (two : Bool) (os : List Oper) (f : List Oper → Prop) : Prop := match two, os with
 | false, os => f os
 | true, [x, y] => f [x, y] ∧ f [y, x]
 | true, _ => False
theorem zqq {two : Bool} {os : List Oper} {f g : List Oper → Prop} (h : ∀ os, f os → g os) (hf : zrR two os f) : zrR two os g := by
 unfold zrR at *
 split at hf
 ·exact h _ hf
 ·exact ⟨h _ hf.1, h _ hf.2⟩
 ·exact hf.elim
theorem zAX {two : Bool} {ps : List (List Nat)} (h : frB two l n ps = true) : n < l.length ∧ ps.length = n ∧ zgL (l.take n) = true := by
 cases two with
 | false =>
  simp only [frB, cond_false, zhq, Bool.and_eq_true, jS] at h
  obtain ⟨⟨⟨⟨⟨⟨⟨_, h1⟩, h2⟩, _⟩, _⟩, h3⟩, _⟩, _⟩ := h
  exact ⟨h1, h2, h3⟩
 | true =>
  simp only [frB, cond_true, zoL, Bool.and_eq_true, jS] at h
  obtain ⟨⟨⟨⟨⟨⟨⟨⟨⟨⟨_, h1⟩, h2⟩, _⟩, _⟩, h3⟩, _⟩, _⟩, _⟩, _⟩, _⟩ := h
  exact ⟨by omega, h2, h3⟩
theorem ziK {id : Nat} {w : World} (two : Bool) (n : Nat) (ps : List (List Nat)) (Inv : Array Bool → Act → World → Prop) (hm : P.follows .mixedOrders = true) (hB : frB two l n ps = true)
  (h0 : Inv (Array.replicate l.length false) a w.drew)
  (hstep : ∀ (listed : Array Bool) (a' : Act) (w' : World) (j : Nat) (oj : Oper) (js : List Nat), j < n → l[j]? = some oj → ps[j]? = some js → listed.size = l.length → listed.getD j true = false → (∀ k ∈ js, k < j ∧ listed.getD k true = true) → Inv listed a' w' →
   (if Region.wanted oj (yielded l.toArray a'.tmps) then oj.wp P a' w' (fun a2 w2 => Inv (listed.setIfInBounds j true) a2 w2) Q else Inv (listed.setIfInBounds j true) (a'.put oj.dst undef) w'))
  (hend : ∀ (listed : Array Bool) (a' : Act) (w' : World), (∀ i, i < n → listed.getD i true = true) → Inv listed a' w' → zrR two (l.drop n) fun os => wpList P l.toArray Q os a' w') : (Code.region id l.toArray true).wp P Q a w := by
 cases two with
 | false => exact zjx n ps Inv hm hB h0 hstep hend
 | true =>
  refine ziJ n ps Inv hm hB h0 hstep fun listed a' w' hl hI => ?_
  have := hend listed a' w' hl hI
  generalize l.drop n = os at this
  match os, this with
  | [x, y], h => exact ⟨x, y, rfl, h.1, h.2⟩
  | [], h => exact h.elim
  | [_], h => exact h.elim
  | _ :: _ :: _ :: _, h => exact h.elim
end
end
section
open Go.RowKit
abbrev LE := List (Nat × SV)
abbrev KS := Nat → LE → MB → List SF → Prop
def gdS (ops : Array Oper) (l : LE) (o : Oper) : Option Bool :=
 match o.guard with
 | none => some true
 | some (j, want) => match (ops[j]?).bind (·.dst) with
  | some d => match asBool (zbD l d) with
   | some b => some (match want with | true => b | false => !b)
   | none => none
  | none => none
def lt_ (k : Nat) (i : Nat) : Bool := Nat.ble (i + 1) k
def zcK (P : Program) (N k : Nat) (l : LE) (m : MB) (R : List SF) (o : Oper) (sv : SV) (m' : MB) (R' : List SF) : Prop :=
 ∀ (Q : Exit → Act → World → Prop) (h : Hn) (X : List Nat) (a : Act) (w : World), Env a N (zcu h l) → Sp X w (zad h [] m) (zaN h R) → ∀ Kk : Act → World → Prop,
  (∀ h1 w', AgS (lt_ k) h h1 → Frm (zab (zad h [] m)) w w' → Sp X w' (zad h1 [] m') (zaN h1 R') → (∀ j ∈ zab (zad h1 [] m'), j ∈ zab (zad h [] m) ∨ w.heap.size ≤ j) → Kk (a.put o.dst (sv.den h1)) w') → o.wp P a w Kk Q
def zya : List SC → Prop → Prop
 | [], A => A
 | .one x :: cs, A => bif okS x then zya cs A else False
 | .key _ :: cs, A => zya cs A
 | .row n f :: cs, A => (∀ i, i < n → (f i).oneCell' = true) ∧ zya cs A
def ziU (N : Nat) (dst : Option Nat) (sv : SV) (l : LE) (K : LE → Prop) : Prop := match dst with | some d => bif Nat.ble (d + 1) N then K ((d, sv) :: l) else False | none => K l
def okN (k k' : Nat) (sv : SV) (m' : MB) (R' : List SF) : Bool := bif Nat.ble k k' then (bif sv.wf (lt_ k') then (bif wfM (lt_ k') m' then wfR (lt_ k') R' else false) else false) else false
def zdV (P : Program) (N : Nat) (o : Oper) (k : Nat) (l : LE) (m : MB) (R : List SF) (K : KS) : Prop :=
 ∃ (sv : SV) (k' : Nat) (m' : MB) (R' : List SF), zcK P N k l m R o sv m' R' ∧ (bif okN k k' sv m' R' then ziU N o.dst sv l (fun l' => K k' l' m' R') else False)
def vOp (P : Program) (T : Tab) (N : Nat) (o : Oper) (k : Nat) (l : LE) (m : MB) (R : List SF) (K : KS) : Prop :=
 match o.op with
 | .store ty x y => match znj (evS l x), zfw (evS l y), szT T ty with
  | some (.own i off), some new, some (n, _) => match zaB m i with
   | some (.blk cs t) => bif zeM new n then (match zq5 cs off n new with
    | some cs' => bif lt_ k i then (bif wfC (lt_ k) cs' then zya new (ziU N o.dst (zdZ undef) l fun l' => K k l' ((i, .blk cs' t) :: m) R) else zdV P N o k l m R K) else zdV P N o k l m R K
    | none => zdV P N o k l m R K) else zdV P N o k l m R K
   | _ => zdV P N o k l m R K
  | _, _, _ => zdV P N o k l m R K
 | _ => tq T k l m R o (fun sv rs => match rs with
   | [] => bif sv.wf (lt_ k) then ziU N o.dst sv l (fun l' => K k l' m R) else False
   | [q] => zbO (k + 1) fun k' => bif sv.wf (lt_ k') then (bif q.wf (lt_ k') then ziU N o.dst sv l (fun l' => K k' l' ((k, q) :: m) R) else False) else False
   | _ => False) (zdV P N o k l m R K)
def zq7 (P : Program) (T : Tab) (N : Nat) (ops : Array Oper) : List Oper → Nat → LE → MB → List SF → KS → Prop
 | [], k, l, m, R, K => K k l m R
 | o :: os, k, l, m, R, K => match gdS ops l o with
  | some b => cond b (vOp P T N o k l m R fun k l m R => zq7 P T N ops os k l m R K) (ziU N o.dst (zdZ undef) l fun l => zq7 P T N ops os k l m R K)
  | none => False
structure VSt (N : Nat) (X G : List Nat) (w0 : World) (k : Nat) (l : LE) (m : MB) (R : List SF) (h : Hn) (a : Act) (w : World) : Prop where
 env : Env a N (zcu h l)
 sp : Sp X w (zad h [] m) (zaN h R)
 frm : Frm G w0 w
 mine : ∀ j ∈ zab (zad h [] m), j ∈ G ∨ w0.heap.size ≤ j
 wl : wfE (lt_ k) l = true
 wm : wfM (lt_ k) m = true
 wr : wfR (lt_ k) R = true
section
variable {S S' : Nat → Bool}
theorem zat {b c : Bool} (h1 : b = true) (h2 : c = true) : (bif b then c else false) = true := by rw [h1, h2]; rfl
theorem SP.wmono (hS : ∀ i, S i = true → S' i = true) {x : SP} (h : x.wf S = true) : x.wf S' = true := by cases x <;> first | rfl | exact hS _ h
theorem zjy (hS : ∀ i, S i = true → S' i = true) : ∀ {xs : List SP}, wfP S xs = true → wfP S' xs = true
 | [], _ => rfl
 | x :: xs, h => zat (SP.wmono hS (zaa h).1) (zjy hS (zaa h).2)
theorem SS.wmono (hS : ∀ i, S i = true → S' i = true) {x : SS} (h : x.wf S = true) : x.wf S' = true := by
 cases x with
 | p x => exact SP.wmono hS h
 | fn f fs cs => exact zat (zjy hS (zaa h).1) (zjy hS (zaa h).2)
theorem zdF (hS : ∀ i, S i = true → S' i = true) : ∀ {xs : List SC}, wfC S xs = true → wfC S' xs = true
 | [], _ => rfl
 | .one x :: xs, h => zat (SS.wmono hS (zaa h).1) (zdF hS (zaa h).2)
 | .key _ :: xs, h => zat rfl (zdF hS (zaa h).2)
 | .row _ _ :: xs, h => zat rfl (zdF hS (zaa h).2)
theorem SA.wmono (hS : ∀ i, S i = true → S' i = true) {x : SA} (h : x.wf S = true) : x.wf S' = true := by
 cases x with
 | s x => exact SS.wmono hS h
 | agg cs => exact zdF hS h
theorem zoM (hS : ∀ i, S i = true → S' i = true) : ∀ {xs : List SA}, wfT S xs = true → wfT S' xs = true
 | [], _ => rfl
 | x :: xs, h => zat (SA.wmono hS (zaa h).1) (zoM hS (zaa h).2)
theorem SV.wmono (hS : ∀ i, S i = true → S' i = true) {x : SV} (h : x.wf S = true) : x.wf S' = true := by
 cases x with
 | a x => exact SA.wmono hS h
 | tup xs => exact zoM hS h
theorem zoN (hS : ∀ i, S i = true → S' i = true) : ∀ {l : LE}, wfE S l = true → wfE S' l = true
 | [], _ => rfl
 | p :: l, h => zat (SV.wmono hS (zaa h).1) (zoN hS (zaa h).2)
theorem RB.wmono (hS : ∀ i, S i = true → S' i = true) {x : RB} (h : x.wf S = true) : x.wf S' = true := by
 cases x with
 | gone => rfl
 | blk cs t => exact zdF hS h
 | row e sz n xs => rfl
theorem zdG (hS : ∀ i, S i = true → S' i = true) : ∀ {m : MB}, wfM S m = true → wfM S' m = true
 | [], _ => rfl
 | p :: m, h => zat (hS _ (zaa h).1) (zat (RB.wmono hS (zaa (zaa h).2).1) (zdG hS (zaa (zaa h).2).2))
theorem zcr (hS : ∀ i, S i = true → S' i = true) : ∀ {R : List SF}, wfR S R = true → wfR S' R = true
 | [], _ => rfl
 | .c _ :: R, h => zat rfl (zcr hS (zaa h).2)
 | .h i _ :: R, h => zat (hS i (zaa h).1) (zcr hS (zaa h).2)
 | .sl i _ _ :: R, h => zat (hS i (zaa h).1) (zcr hS (zaa h).2)
 | .b i _ :: R, h => zat (hS i (zaa h).1) (zcr hS (zaa h).2)
 | .q i _ :: R, h => zat (hS i (zaa h).1) (zcr hS (zaa h).2)
 | .nm i _ :: R, h => zat (hS i (zaa h).1) (zcr hS (zaa h).2)
 | .blk i cs :: R, h => zat (zat (hS i (zaa (zaa h).1).1) (zdF hS (zaa (zaa h).1).2)) (zcr hS (zaa h).2)
theorem zcX {k k' : Nat} (h : k ≤ k') : ∀ i, lt_ k i = true → lt_ k' i = true := fun i hi => by
 have : i + 1 ≤ k := Nat.le_of_ble_eq_true hi
 exact Nat.ble_eq_true_of_le (by omega)
end
theorem zf7 {h : Hn} : ∀ {cs : List SC} {A : Prop}, zya cs A → zoq (zay h cs) ∧ A
 | [], A, hA => ⟨trivial, hA⟩
 | .one x :: cs, A, hA => by
  unfold zya at hA
  cases hb : okS x with
  | false => rw [hb] at hA; exact hA.elim
  | true =>
   rw [hb] at hA
   have := zf7 (h := h) hA
   exact ⟨⟨znm hb, this.1⟩, this.2⟩
 | .key k :: cs, A, hA => zf7 (cs := cs) hA
 | .row n f :: cs, A, hA => ⟨⟨hA.1, (zf7 hA.2).1⟩, (zf7 (h := h) hA.2).2⟩
section
variable {P : Program} {T : Tab} {N k : Nat} {X G : List Nat} {w0 w : World} {l : LE} {m : MB} {R : List SF} {h : Hn} {a : Act} {o : Oper} {Q : Exit → Act → World → Prop} {K : KS}
theorem zkI {ops : Array Oper} {b : Bool} (e : gdS ops l o = some b) : gd ops (zcu h l) o = some b := by
 unfold gdS at e
 unfold gd
 split at e
 ·rename_i hg; rw [hg]; exact e
 ·rename_i j want hg
  rw [hg]
  dsimp only
  split at e
  ·rename_i d hd
   rw [hd]
   dsimp only
   split at e
   ·rename_i c hc
    have := zaP h l d _ (zd3 hc)
    rw [this]
    rw [← e]
    show some (c == want) = _
    cases want <;> cases c <;> rfl
   ·cases e
  ·cases e
theorem VSt.put {sv : SV} {dst : Option Nat} {J : LE → Prop} (H : VSt N X G w0 k l m R h a w) (hw : sv.wf (lt_ k) = true) (hp : ziU N dst sv l J) : ∃ l', J l' ∧ VSt N X G w0 k l' m R h (a.put dst (sv.den h)) w := by
 unfold ziU at hp
 split at hp
 ·rename_i d
  cases hb : Nat.ble (d + 1) N with
  | false => rw [hb] at hp; exact hp.elim
  | true =>
   rw [hb] at hp
   exact ⟨_, hp, ⟨H.env.put hb, H.sp, H.frm, H.mine, zat hw H.wl, H.wm, H.wr⟩⟩
 ·exact ⟨l, hp, H⟩
theorem zvb {w' : World} (H : VSt N X G w0 k l m R h a w) (F : Frm (zab (zad h [] m)) w w') : Frm G w0 w' := H.frm.trans F fun k hk => by
 rcases H.mine k hk with h1 | h1
 ·exact .inl h1
 ·exact .inr h1
theorem zb6 {k i : Nat} (h : lt_ k i = true) : i < k := Nat.le_of_ble_eq_true h
theorem zaI {sv : SV} {rs : List RB} {Rs : List SF} (ht : ze3 P N k l m R o sv rs Rs) (wm : wfM (lt_ k) m = true) (wr : wfR (lt_ k) R = true) : zcK P N k l m R o sv (zgO k rs m) (Rs ++ R) := fun Q h X a w E H Kk hK =>
 ht Q h X a w E H Kk fun h1 w' ha F S => by
  have hag : AgS (lt_ k) h h1 := fun i hi => ha i (.inl (zb6 hi))
  have e1 : zad h1 [] m = zad h [] m := zaK hag wm
  have e2 : zaN h1 R = zaN h R := zaX hag wr
  have hp := zhz h1 rs k m fun p hp => zb6 (zgw wm p hp)
  rw [e1] at hp
  refine hK h1 w' hag ⟨F.os, F.tape, F.output, F.size, fun k hk _ => F.block k hk (by simp)⟩ ?_ fun j hk => ?_
  ·rw [zjn, e2]
   exact (H.call S).perm hp.symm
  ·have hk := (zar hp).mem_iff.1 hk
   rw [zag] at hk
   rcases List.mem_append.1 hk with h2 | h2
   ·exact .inl h2
   ·rcases S.mine j h2 with h3 | h3
    ·cases h3
    ·exact .inr h3
theorem zex {sv : SV} {k' : Nat} {m' : MB} {R' : List SF} (hs : zcK P N k l m R o sv m' R') (H : VSt N X G w0 k l m R h a w) (hok : okN k k' sv m' R' = true) {J : LE → Prop} (hp : ziU N o.dst sv l J) {Kk : Act → World → Prop} (hK : ∀ l' h' a' w', J l' → VSt N X G w0 k' l' m' R' h' a' w' → Kk a' w') : o.wp P a w Kk Q := by
 have h1 := zaa hok
 have h2 := zaa h1.2
 have h3 := zaa h2.2
 have hle : k ≤ k' := Nat.le_of_ble_eq_true h1.1
 refine hs Q h X a w H.env H.sp Kk fun hn w' ha F S hm => ?_
 have H' : VSt N X G w0 k' l m' R' hn a w' := ⟨by rw [zhy ha H.wl]; exact H.env, S, zvb H F, fun k hk => by
  rcases hm k hk with h4 | h4
  ·exact H.mine k h4
  ·exact .inr (jU H.frm.size h4), zoN (zcX hle) H.wl, h3.1, h3.2⟩
 obtain ⟨l', h5, h6⟩ := H'.put h2.1 hp
 exact hK l' hn _ w' h5 h6
theorem zcj (hc : zdV P N o k l m R K) (H : VSt N X G w0 k l m R h a w) {Kk : Act → World → Prop} (hK : ∀ k' l' m' R' h' a' w', K k' l' m' R' → VSt N X G w0 k' l' m' R' h' a' w' → Kk a' w') : o.wp P a w Kk Q := by
 obtain ⟨sv, k', m', R', hs, hb⟩ := hc
 cases hok : okN k k' sv m' R' with
 | false => rw [hok] at hb; exact hb.elim
 | true =>
  rw [hok] at hb
  simp only [cond_true] at hb
  exact zex hs H hok hb fun l' h' a' w' hk HV => hK k' l' m' R' h' a' w' hk HV
theorem Sp.numAt {Rr : List (World → Prop)} (H : Sp X w (zad h [] m) Rr) {i : Nat} {q : RB} (e : zaB m i = some q) : Sp X w (q.den h i ++ zad h [i] m) Rr := H.perm (zaG h m [] i q e (by simp))
theorem zqr {ty t i off : Nat} {x y : Operand} {cs cs' new : List SC} {n : Nat × Bool} (hT : zbt P T) (ho : o.op = .store ty x y) (hx : znj (evS l x) = some (.own i off)) (hy : zfw (evS l y) = some new) (hn : szT T ty = some n) (hm : zaB m i = some (.blk cs t)) (hl : zeL new = n.1) (hp : zq5 cs off n.1 new = some cs') (h1 : ∀ h, zoq (zay h new)) : zcK P N k l m R o (zdZ undef) ((i, .blk cs' t) :: m) R := fun Q h X a w E H Kk hK => by
 have hb := zb5 H hm
 have H1 : Sp X w (.blk (h.b i) (ca (zay h cs)) t :: zad h [i] m) (zaN h R) := H.numAt hm
 cases hv : evS l y with
 | none => rw [hv] at hy; cases hy
 | some v =>
  rw [hv] at hy
  have hr := zbz ho (E.ev (zaf (zbq hx))) (E.ev (zaf hv)) (zcy (P := P) (ty := ty) hb (zd4 hy) (h1 h) (zev h cs off n.1 new cs' hl hp) (by rw [za6, hl]; exact zjt (zeR hT hn)))
  unfold Oper.wp
  rw [hr]
  have hf := zbZ (h.b i) (ca (zay h cs')) w
  have ht := H1.turnAt (q' := .blk (h.b i) (ca (zay h cs')) t) 0 rfl hf (zaz hb) (by simp [Res.keys]) (by simp [Res.keys]) rfl
  have hkm : ∀ j, j ∈ zab (.blk (h.b i) (ca (zay h cs)) t :: zad h [i] m) ↔ j ∈ zab (zad h [] m) := fun j => (zar (zaG h m [] i _ hm (by simp))).mem_iff.symm
  refine hK h _ (fun _ _ => ⟨rfl, rfl, rfl⟩) ⟨hf.os, hf.tape, hf.output, hf.size, fun k hk hn => hf.block k hk fun hm' => hn ?_⟩ ht.1 fun j hj => ?_
  ·exact (hkm k).1 (List.mem_append_left _ hm')
  ·rcases ht.2 j hj with h2 | h2
   ·exact .inl ((hkm j).1 h2)
   ·exact .inr h2
theorem zkJ (hT : zbt P T) (hv : vOp P T N o k l m R K) (H : VSt N X G w0 k l m R h a w) {Kk : Act → World → Prop} (hK : ∀ k' l' m' R' h' a' w', K k' l' m' R' → VSt N X G w0 k' l' m' R' h' a' w' → Kk a' w') : o.wp P a w Kk Q := by
 have tqc : tq T k l m R o (fun sv rs => match rs with
   | [] => bif sv.wf (lt_ k) then ziU N o.dst sv l (fun l' => K k l' m R) else False
   | [q] => zbO (k + 1) fun k' => bif sv.wf (lt_ k') then (bif q.wf (lt_ k') then ziU N o.dst sv l (fun l' => K k' l' ((k, q) :: m) R) else False) else False
   | _ => False) (zdV P N o k l m R K) → o.wp P a w Kk Q := fun hq => by
  rcases zoK (P := P) (N := N) (R := R) hT hq with ⟨sv, rs, ht, hk⟩ | hc
  ·split at hk
   ·cases h1 : sv.wf (lt_ k) with
    | false => rw [h1] at hk; exact hk.elim
    | true =>
     rw [h1] at hk
     simp only [cond_true] at hk
     exact zex (zaI ht H.wm H.wr) H (zat (Nat.ble_eq_true_of_le (jV _)) (zat h1 (zat H.wm H.wr))) hk fun l' h' a' w' hk' HV => hK k l' _ _ h' a' w' hk' HV
   ·rename_i q
    have hk := zbc hk
    cases h1 : sv.wf (lt_ (k + 1)) with
    | false => rw [h1] at hk; exact hk.elim
    | true =>
     cases h2 : q.wf (lt_ (k + 1)) with
     | false => rw [h1, h2] at hk; exact hk.elim
     | true =>
      rw [h1, h2] at hk
      simp only [cond_true] at hk
      have hmo := zcX (show k ≤ k + 1 by omega)
      exact zex (k' := k + 1) (zaI ht H.wm H.wr) H (zat (Nat.ble_eq_true_of_le (by omega)) (zat h1 (zat (zat (Nat.ble_eq_true_of_le (jV _)) (zat h2 (zdG hmo H.wm))) (zcr hmo H.wr)))) hk fun l' h' a' w' hk' HV => hK _ l' _ _ h' a' w' hk' HV
   ·exact hk.elim
  ·exact zcj hc H hK
 unfold vOp at hv
 split at hv
 ·rename_i ty x y ho
  split at hv
  ·rename_i i off new n ag hx hy hn
   split at hv
   ·rename_i cs t hm
    cases hl : zeM new n with
    | false => rw [hl] at hv; exact zcj hv H hK
    | true =>
     rw [hl] at hv
     simp only [cond_true] at hv
     split at hv
     ·rename_i cs' hp
      cases hi : lt_ k i with
      | false => rw [hi] at hv; exact zcj hv H hK
      | true =>
       cases hw : wfC (lt_ k) cs' with
       | false => rw [hi, hw] at hv; exact zcj hv H hK
       | true =>
        rw [hi, hw] at hv
        have hone := fun h => zf7 (h := h) hv
        exact zex (zqr hT ho hx hy hn hm (zcq hl) hp (fun h => (hone h).1)) H (zat (Nat.ble_eq_true_of_le (jV _)) (zat rfl (zat (zat hi (zat hw H.wm)) H.wr))) (hone h).2 fun l' h' a' w' hk' HV => hK k l' _ _ h' a' w' hk' HV
     ·exact zcj hv H hK
   ·exact zcj hv H hK
  ·exact zcj hv H hK
 ·exact tqc hv
theorem zey (hT : zbt P T) {ops : Array Oper} : ∀ {os : List Oper} {k : Nat} {l : LE} {m : MB} {R : List SF} {h : Hn} {a : Act} {w : World}, zq7 P T N ops os k l m R K → VSt N X G w0 k l m R h a w → (∀ k' l' m' R' h' a' w', K k' l' m' R' → VSt N X G w0 k' l' m' R' h' a' w' → Q .normal a' w') → wpList P ops Q os a w
 | [], k, l, m, R, h, a, w, hv, H, hK => hK k l m R h a w hv H
 | o :: os, k, l, m, R, h, a, w, hv, H, hK => by
  unfold zq7 at hv
  split at hv
  ·rename_i b hg
   have hw := zcT H.env (zkI (h := h) hg)
   cases b with
   | true =>
    simp only [cond_true] at hv
    refine wpList_step fun Kk hKk => ?_
    rw [if_pos hw]
    exact zkJ hT hv H fun k' l' m' R' h' a' w' hk HV => hKk _ _ (zey hT hk HV hK)
   | false =>
    simp only [cond_false] at hv
    unfold wpList
    rw [if_neg (by rw [hw]; decide)]
    obtain ⟨l', h1, h2⟩ := H.put (sv := zdZ undef) rfl hv
    exact zey hT h1 h2 hK
  ·exact hv.elim
end
end
end Go.Proofs.YtcmmpiaogfnmoaaGreatDoor
